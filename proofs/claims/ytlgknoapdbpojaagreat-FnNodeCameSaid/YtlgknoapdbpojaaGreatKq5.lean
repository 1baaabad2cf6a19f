/- Part 5 of the texts that the proof of LawFnNodeCame leans on, merged by program. -/
import Derived.Test.YtlgknoapdbpojaaGreatKq4
set_option linter.unusedVariables false
set_option linter.unusedSimpArgs false
set_option maxHeartbeats 4000000
set_option autoImplicit true
set_option relaxedAutoImplicit true
namespace Go.Proofs.YtlgknoapdbpojaaGreat.Am
open Go Go.RowKit
section
theorem b0k (c : Bool) (n : Nd) (r g : Int) : a1r Tryz.prog 67 [.agg (w5w c n), .pv (.int .i64 r), .pv (.int .i64 g)] (.tup [.agg (w5w true (s8s n r g).1), .pv (.bool (s8s n r g).2)]) := by
 refine pX Tryz.f67 [.agg (w5w true (s8s n r g).1), .pv (.bool (s8s n r g).2)] 19 ?_
 refine exR (u2u (id := 0) rfl rfl rfl (y6y (id := 1) y5y s9s rfl (x0x rfl (x2x fun K1 hK1 => ?_))))
 refine exR (x5x rfl y5y rfl rfl rfl (x9x rfl rfl rfl (q9q c n) (a1s rfl (x7x rfl ?_ ?_))))<;>intro hc2<;>try simp at hc2
 ·have fX : ¬ z7z n := a0k (by simpa using hc2)
  refine exR (rlB y5y s9s ?_)
  refine x3x rfl rfl y5y rfl rfl rfl rfl (x0x rfl (x6x ⟨.inr rfl, ?_⟩))
  (rw [e3o fX]; exact ⟨_, _, rfl, b5i (.cl rfl .nil)⟩)
 have fK : z7z n := a1o.1 (by simpa using hc2)
 have fS := fK.1
 have fB := q5q fS
 have fV := fS.2.2.2.2.2.1
 have fb := b8c fS
 have fM0 := c1i fK
 have fL := c6j fS
 have fG := fS.1.2.2.1
 refine x8x (hK1 _ _ (exR (x5x rfl y5y rfl rfl rfl ?_)))
 refine rlM [13, 14, 15] [_, _, _] (u0u c n fb) rfl rfl rfl ?_
 refine y6y (id := 2) y5y s9s rfl (x3x rfl rfl y5y rfl rfl rfl rfl (x2x fun K3 hK3 => ?_))
 refine exD (x1x 4 rfl rfl (z9z rfl rfl ?_ ?_))<;>intro hg4<;>try simp at hg4
 ·have fU : ¬ b2l n r g := by (rintro ⟨m1, m2, m3, m4, m5, m6, m7, m8⟩; (simp_all; done))
  refine x1x 34 rfl rfl ⟨by kernel_rfl, x7x rfl (fun hc27 => ?_) (fun hc27 => ?_)⟩
  rotate_left
  ·simp at hc27
  try simp at hc27
  refine exR (x5x rfl y5y rfl rfl rfl (x3x rfl rfl y5y rfl rfl rfl rfl (x0x rfl (x6x ⟨.inr rfl, ?_⟩))))
  (rw [b0v fK fU]; exact ⟨_, _, rfl, s6s (n := n) rfl rfl rfl (.cl rfl .nil)⟩)
 have fUp : n.up = true := hg4
 refine x1x 4 rfl rfl (z9z rfl rfl ?_ ?_)<;>intro h<;>try simp at h
 ·have fU : ¬ b2l n r g := by (rintro ⟨m1, m2, m3, m4, m5, m6, m7, m8⟩; omega)
  refine x1x 30 rfl rfl ⟨by kernel_rfl, x7x rfl (fun hc26 => ?_) (fun hc26 => ?_)⟩
  rotate_left
  ·simp at hc26
  try simp at hc26
  refine exR (x5x rfl y5y rfl rfl rfl (x3x rfl rfl y5y rfl rfl rfl rfl (x0x rfl (x6x ⟨.inr rfl, ?_⟩))))
  (rw [b0v fK fU]; exact ⟨_, _, rfl, s6s (n := n) rfl rfl rfl (.cl rfl .nil)⟩)
 refine x1x 6 rfl rfl (z9z rfl rfl ?_ ?_)<;>intro h<;>try simp at h
 ·have fU : ¬ b2l n r g := by (rintro ⟨m1, m2, m3, m4, m5, m6, m7, m8⟩; omega)
  refine x1x 24 rfl rfl ⟨by kernel_rfl, x7x rfl (fun hc25 => ?_) (fun hc25 => ?_)⟩
  rotate_left
  ·simp at hc25
  try simp at hc25
  refine exR (x5x rfl y5y rfl rfl rfl (x3x rfl rfl y5y rfl rfl rfl rfl (x0x rfl (x6x ⟨.inr rfl, ?_⟩))))
  (rw [b0v fK fU]; exact ⟨_, _, rfl, s6s (n := n) rfl rfl rfl (.cl rfl .nil)⟩)
 refine x1x 3 rfl rfl (z1z rfl rfl (a0y (.int .i64 (n.g + 1)) rfl rfl rfl (a9c rfl rfl (by omega) (by omega)) ?_))
 refine z1z rfl rfl (x9x rfl rfl rfl (u7u ..) (x1x 3 rfl rfl (z9z rfl rfl ?_ ?_)))<;>intro h<;>try simp at h
 ·have fU : ¬ b2l n r g := by (rintro ⟨m1, m2, m3, m4, m5, m6, m7, m8⟩; omega)
  refine x1x 16 rfl rfl ⟨by kernel_rfl, x7x rfl (fun hc24 => ?_) (fun hc24 => ?_)⟩
  rotate_left
  ·simp at hc24
  try simp at hc24
  refine exR (x5x rfl y5y rfl rfl rfl (x3x rfl rfl y5y rfl rfl rfl rfl (x0x rfl (x6x ⟨.inr rfl, ?_⟩))))
  (rw [b0v fK fU]; exact ⟨_, _, rfl, s6s (n := n) rfl rfl rfl (.cl rfl .nil)⟩)
 refine x1x 6 rfl rfl (z9z rfl rfl ?_ ?_)<;>intro h<;>try simp at h
 ·have fU : ¬ b2l n r g := by (rintro ⟨m1, m2, m3, m4, m5, m6, m7, m8⟩; omega)
  refine x1x 10 rfl rfl ⟨by kernel_rfl, x7x rfl (fun hc23 => ?_) (fun hc23 => ?_)⟩
  rotate_left
  ·simp at hc23
  try simp at hc23
  refine exR (x5x rfl y5y rfl rfl rfl (x3x rfl rfl y5y rfl rfl rfl rfl (x0x rfl (x6x ⟨.inr rfl, ?_⟩))))
  (rw [b0v fK fU]; exact ⟨_, _, rfl, s6s (n := n) rfl rfl rfl (.cl rfl .nil)⟩)
 refine x5x rfl y5y rfl rfl rfl (z1z rfl rfl (x9x rfl rfl rfl (b4n c n) (x1x 4 rfl rfl (z9z rfl rfl ?_ ?_))))<;>intro h<;>try simp at h
 ·have fU : ¬ b2l n r g := by (rintro ⟨m1, m2, m3, m4, m5, m6, m7, m8⟩; omega)
  refine x1x 4 rfl rfl ⟨by kernel_rfl, x7x rfl (fun hc22 => ?_) (fun hc22 => ?_)⟩
  rotate_left
  ·simp at hc22
  try simp at hc22
  refine exR (x5x rfl y5y rfl rfl rfl (x3x rfl rfl y5y rfl rfl rfl rfl (x0x rfl (x6x ⟨.inr rfl, ?_⟩))))
  (rw [b0v fK fU]; exact ⟨_, _, rfl, s6s (n := n) rfl rfl rfl (.cl rfl .nil)⟩)
 refine x1x 2 rfl rfl (z1z rfl rfl (x9x rfl rfl rfl (w0w ..) (x1x 2 rfl rfl ⟨by kernel_rfl, x7x rfl ?_ ?_⟩)))<;>intro h<;>try simp at h
 ·have fU : ¬ b2l n r g := by (rintro ⟨m1, m2, m3, m4, m5, m6, m7, m8⟩; omega)
  refine exR (x5x rfl y5y rfl rfl rfl (x3x rfl rfl y5y rfl rfl rfl rfl (x0x rfl (x6x ⟨.inr rfl, ?_⟩))))
  (rw [b0v fK fU]; exact ⟨_, _, rfl, s6s (n := n) rfl rfl rfl (.cl rfl .nil)⟩)
 have fM : b2l n r g := ⟨fUp, by omega, by omega, by omega, by omega, by omega, by omega, by omega⟩
 obtain ⟨k, hk, hk3, hkn⟩ := f1b fS
 have hkl := fS.2.2.2.2.2.2.1
 obtain ⟨kn, hkv⟩ := gE n.known k
 have hKk : n.known.set n.id.toNat g = n.known.set k g := by rw [hkn]
 refine x8x (hK3 _ _ (exA 3 rfl rfl (exA 3 rfl rfl (x2x fun K11 hK11 => ?_))))
 refine exR (x0x rfl (y0y ?_))
 refine z2z (ι := Nat) (fun i γ1 => [(9, a2e c (a4k n g i)), (10, a0t c (b1h n g i)), (11, pI (i : Int))]) (fun i γ1 => [(13, ((0 + 1), .row 44 5 ((b8e g n.lanes i).map (a0j true)))), (3, ((γ1 3), .dead)), (4, ((γ1 4), .dead)), (5, ((γ1 5), .dead)), (6, ((γ1 6), .dead)), (7, ((γ1 7), .dead)), (8, ((γ1 8), .dead)), (9, ((γ1 9), .dead))]) (fun i => i ≤ n.lanes.length) (fun i => n.lanes.length - i) (cK [2, 3, 6, 8] rfl) (hK [0, 1, 2, 10, 11, 12, 14, 15, 16, 17, 18] rfl) 0 (by omega) [0, 0, 0, _, _, _, _, _, _, _] (Cov.cons' (t := 9) rfl (by rw [d1h]) (Cov.cons' (t := 10) rfl (by rw [d1i]) (y3y 11 rfl Cov.nil))) (HE.row rfl (by rw [d5k]) (HE.kill rfl (HE.kill rfl (HE.kill rfl (HE.kill rfl (HE.kill rfl (HE.kill rfl (HE.kill rfl HE.nil)))))))) rfl fun i γ1 hi => ?_
 refine x2x fun K12 hK12 => ?_
 refine exA 3 rfl rfl (z3z rfl r5r rfl (v6v rfl rfl rfl (x7x rfl ?_ ?_)))<;>intro h<;>try simp at h
 ·obtain ⟨l, hp⟩ := gE n.lanes i
  have hkt := c9d fS g (i + 1)
  rw [c1n hp, List.length_append] at hkt
  have hot := c9e fS g (i + 1)
  rw [c1o hp, List.length_append] at hot
  have hlt2 : i < (b8e g n.lanes i).length := by rw [d9f _ _ (by omega)]; omega
  have hll := fL l (List.mem_of_getElem? hp)
  refine x8x (hK12 _ _ (x2x fun K14 hK14 => ?_))
  refine y0y (exA 3 rfl rfl (y7y rfl rfl r5r rfl v7v rfl hp (x1x 2 rfl rfl (x9x rfl rfl rfl (b8m c l g hll) (x1x 4 rfl rfl (y6y (id := 3) v7v a9t rfl (x3x rfl rfl v7v rfl rfl rfl rfl (x1x 2 rfl rfl (exA 4 rfl rfl ?_)))))))))
  refine v0v (j := i) rfl rfl r5r rfl v7v rfl rfl hlt2 ?_
  refine p9p (el' := c1l g l) rfl rfl v7v rfl rfl rfl (e3m hp) rfl (a0b rfl) rfl rfl ?_
  refine exR (z8z (id := 4) u8u rfl z6z rfl (x4x rfl ?_))
  refine s4s (zs := (a4k n g i).map v5v) rfl rfl u8u rfl z6z rfl rfl rfl (w3w (fun _ => rfl) _) rfl (by (simp only [a1c, a0m, a0u, a0v, a1z, T56]; omega)) ?_
  refine x4x rfl ?_
  refine a2j r6r (zs := (a4k n g i ++ c1m g l).map v5v) rfl rfl u8u rfl z6z rfl rfl rfl (w3w (fun _ => rfl) _) (a9b _ _ _) (by (simp only [a1c, a0m, a0u, a0v, a1z, T56]; omega)) (Le.ow_map _ (fun _ => rfl) (fun _ => rfl)) ?_
  refine x0x rfl (exG (z8z (id := 7) r3r rfl w7w rfl (x4x rfl ?_)))
  refine s4s (zs := (b1h n g i).map a0w) rfl rfl r3r rfl w7w rfl rfl rfl (w3w (fun _ => rfl) _) rfl (by (simp only [a1c, a0m, a0u, a0v, a1z, T141]; omega)) ?_
  refine x4x rfl ?_
  refine a2j r6r (zs := (b1h n g i ++ c6i g l).map a0w) rfl rfl r3r rfl w7w rfl rfl rfl (w3w (fun _ => rfl) _) (a9b _ _ _) (by (simp only [a1c, a0m, a0u, a0v, a1z, T141]; omega)) (Le.ow_map _ (fun _ => rfl) (fun _ => rfl)) ?_
  refine x0x rfl (hK14 _ _ ?_)
  refine d7k 9 rfl (.le rfl (Le.low_map (c := c) (l := a4k n g i ++ c1m g l) (f := v5v) fun _ => rfl) .nil) ?_
  refine d7k 10 rfl (.le rfl (Le.low_map (c := c) (l := b1h n g i ++ c6i g l) (f := a0w) fun _ => rfl) .nil) ?_
  refine exG (x4x rfl (p5p rfl rfl rfl (x0x rfl ?_)))
  exact ⟨i + 1, ⟨by omega, by omega⟩, [0, 0, 0, _, _, _, _, _, _, _], (Cov.cons' (t := 9) rfl (by rw [c1n hp]; rfl) (Cov.cons' (t := 10) rfl (by rw [c1o hp]; rfl) (Cov.cons' (t := 11) rfl (by rw [u4u (by omega) (by omega)]; rfl) Cov.nil))), cv, (HE.row rfl (by rw [d9g hp]) (HE.kill rfl (HE.kill rfl (HE.kill rfl (HE.kill rfl (HE.kill rfl (HE.kill rfl (HE.kill rfl HE.nil)))))))), hv, rfl⟩
 obtain rfl : i = n.lanes.length := by omega
 have hkt := c9d fS g n.lanes.length
 have hot := c9e fS g n.lanes.length
 have hkq : ∀ e ∈ p0p (a4k n g n.lanes.length), okE e = true := fun e he => d9h fS ((b3k _ _).1 he)
 have hqs := b0c (a4k n g n.lanes.length)
 refine z4z (hK11 _ _ (exA 2 rfl rfl (z0z rfl rfl q1q rfl rfl rfl rfl rfl (by simp only [a1h]; rfl) ?_)))
 refine exA 5 rfl rfl ?_
 refine v0v (j := k) rfl (by rw [← hk]; rfl) q2q rfl q1q rfl rfl (v1v hkv) ?_
 refine b3j (el' := g) rfl rfl q1q rfl rfl rfl hkv rfl (by omega) (.val rfl rfl .nil) rfl rfl ?_
 refine exR (z8z (id := 10) u8u rfl z6z rfl (y1y rfl y5y rfl rfl u8u rfl rfl (z0z rfl rfl u8u rfl rfl rfl rfl rfl (by simp only [a1h]; rfl) ?_)))
 refine exR (x4x rfl (x9x rfl rfl rfl (a2g c _ (by omega)) ?_))
 refine x0x rfl (x2x fun K15 hK15 => ?_)
 refine exR (x0x rfl (y0y ?_))
 refine z2z (ι := Nat) (fun j γ2 => [(15, pI (j : Int))]) (fun j γ2 => [(10, ((γ2 10), .row 56 7 ((((p0p (a4k n g n.lanes.length)).take j).filter (c9f (n.known.set k g))).map v5v))), (2, ((0 + 1), .box 65 [pI n.id, .pv (.bool n.up), pI n.inc, pI g, .ref 13 (0 + 1), .ref 10 (γ2 10), a0t true n.outs, pI n.led, pI n.version, .ref 14 (0 + 1), .ref 15 (0 + 1), pI n.round, pI n.low])), (11, ((γ2 11), .dead)), (12, ((γ2 12), .dead))]) (fun j => j ≤ (p0p (a4k n g n.lanes.length)).length) (fun j => (p0p (a4k n g n.lanes.length)).length - j) (cK [3, 6, 8, 9, 10] rfl) (hK [0, 1, 3, 4, 5, 6, 7, 8, 9, 13, 14, 15, 16, 17, 18] rfl) 0 (by omega) [0, 0, 0, 0, 0, 0, 0, 0, 0, 0, _, _, _] cv (HE.row rfl (by rw [List.take_zero]; rfl) (HE.box rfl rfl (HE.kill rfl (HE.kill rfl HE.nil)))) rfl fun j γ2 hi => ?_
 refine x2x fun K16 hK16 => ?_
 refine exA 2 rfl rfl (z3z rfl u8u rfl (v6v rfl rfl rfl (y4y rfl ?_ ?_)))<;>intro h<;>try simp at h
 ·obtain rfl : j = (p0p (a4k n g n.lanes.length)).length := by omega
  refine z4z (hK15 _ _ (exR (x4x rfl (x9x rfl rfl rfl (a4v c _ (by omega)) ?_))))
  refine y1y rfl y5y rfl rfl r3r rfl rfl (z0z rfl rfl r3r rfl rfl rfl rfl rfl (by simp only [a1h]; rfl) ?_)
  refine x2x fun K20 hK20 => ?_
  refine b2c 10 (xs' := (a4n n g).kept.map v5v) rfl (by simp only [a4n, hKk, c6k, List.take_length]) ?_
  refine b2c 13 (xs' := (a4n n g).lanes.map (a0j true)) rfl (by rw [d9e]; rfl) ?_
  refine b2c 15 (xs' := (a4n n g).known.map a8u) rfl (by simp only [a4n, hKk]) ?_
  refine p8p (b := b8y true (a4n n g).lanes) 2 4 rfl rfl rfl (.ref rfl (Le.ow_map _ (fun _ => rfl) (fun _ => rfl)) .nil) rfl rfl rfl rfl ?_
  refine p8p (b := a2e true (a4n n g).kept) 2 5 rfl rfl rfl (.ref rfl (Le.ow_map _ (fun _ => rfl) (fun _ => rfl)) .nil) rfl rfl rfl rfl ?_
  refine p8p (b := c2w true n.views) 2 9 rfl rfl rfl (.ref rfl (Le.ow_map _ (fun _ => rfl) (fun _ => rfl)) .nil) rfl rfl rfl rfl ?_
  refine p8p (b := a6f true (a4n n g).known) 2 10 rfl rfl rfl (.ref rfl (Le.ow_map _ (fun _ => rfl) (fun _ => rfl)) .nil) rfl rfl rfl rfl ?_
  refine exR (x5x rfl y5y rfl rfl rfl (x9x rfl rfl rfl (q9q true (a4n n g)) ?_))
  refine a1s rfl (x7x rfl ?_ ?_)<;>intro hc21<;>try simp at hc21
  ·have fX2 : ¬ z7z (a4n n g) := a0k (by simpa using hc21)
   refine exR (x5x rfl y5y rfl rfl rfl ?_)
   refine rlM [16, 17, 18] [_, _, _] (u0u c n fb) rfl rfl rfl ?_
   refine x3x rfl rfl y5y rfl rfl rfl rfl (x0x rfl (x6x ⟨.inr rfl, ?_⟩))
   (rw [d3m fK fM, c1q fX2]; exact ⟨_, _, rfl, s6s (n := n) rfl rfl rfl (.cl rfl .nil)⟩)
  have fK2 : z7z (a4n n g) := a1o.1 (by simpa using hc21)
  have fb2 := b8c fK2.1
  refine x8x (hK20 _ _ (exR (x5x rfl y5y rfl rfl rfl ?_)))
  refine rlM [16, 17, 18] [_, _, _] (u0u true (a4n n g) fb2) rfl rfl rfl ?_
  refine x3x rfl rfl y5y rfl rfl rfl rfl (x0x rfl (x6x ⟨.inr rfl, ?_⟩))
  (rw [d3m fK fM, c1p fK2]; exact ⟨_, _, rfl, s6s (n := a4n n g) rfl rfl rfl (.cl rfl .nil)⟩)
 obtain ⟨e, he⟩ := gE (p0p (a4k n g n.lanes.length)) j
 obtain ⟨k2, v, hk2, hv, hw⟩ := e3n (kn := n.known.set k g) (hkq e (List.mem_of_getElem? he)) (by rw [List.length_set]; exact hkl)
 have hfl : (((p0p (a4k n g n.lanes.length)).take j).filter (c9f (n.known.set k g))).length ≤ 1000000 := Nat.le_trans (List.length_filter_le _ _) (by rw [List.length_take]; omega)
 refine x8x (hK16 _ _ (x2x fun K18 hK18 => ?_))
 refine y0y (exD (x1x 2 rfl rfl (y7y rfl rfl u8u rfl z6z rfl he (x1x 6 rfl rfl (y7y rfl rfl u8u rfl z6z rfl he (x1x 2 rfl rfl (x9x rfl rfl rfl (a1k ..) ?_)))))))
 refine v0v (j := k2) rfl (by rw [← hk2]; rfl) q2q rfl q1q rfl rfl (v1v hv) ?_
 refine a0x rfl q1q rfl hv rfl (v6v rfl rfl rfl ⟨by kernel_rfl, y4y rfl ?_ ?_⟩)<;>intro h<;>try simp at h
 ·have hwf : ¬ c9f (n.known.set k g) e = true := by rw [hw]; simp; omega
  refine x8x (hK18 _ _ (exG (x4x rfl (p5p rfl rfl rfl (x0x rfl ?_)))))
  exact ⟨j + 1, ⟨by omega, by omega⟩, [0, 0, 0, 0, 0, 0, 0, 0, 0, 0, _, _, _], (Cov.cons' (t := 15) rfl (by rw [u4u (by omega) (by omega)]; rfl) Cov.nil), (y3y 3 rfl (y3y 6 rfl (y3y 8 rfl (y3y 9 rfl (y3y 10 rfl Cov.nil))))), (HE.row rfl (by rw [a0z he]; rw [if_neg hwf, List.append_nil]) (HE.box rfl rfl (HE.kill rfl (HE.kill rfl HE.nil)))), (y8y 0 rfl (y8y 1 rfl (y8y 3 rfl (y8y 4 rfl (y8y 5 rfl (y8y 6 rfl (y8y 7 rfl (y8y 8 rfl (y8y 9 rfl (y8y 13 rfl (y8y 14 rfl (y8y 15 rfl (y8y 16 rfl (y8y 17 rfl (y8y 18 rfl HE.nil))))))))))))))), rfl⟩
 have hwt : c9f (n.known.set k g) e = true := by rw [hw]; exact decide_eq_true (by omega)
 refine exH (x1x 4 rfl rfl (y7y rfl rfl u8u rfl z6z rfl he (u5u rfl z6z rfl rfl (u3u (id := 11) u8u rfl z6z rfl rfl rfl rfl rfl rfl ?_))))
 refine u6u (zs := (((p0p (a4k n g n.lanes.length)).take j).filter (c9f (n.known.set k g)) ++ [e]).map v5v) rfl rfl u8u rfl z6z rfl rfl rfl rfl (by rfl) (w2w _ _ _) (by (simp only [a1c, a0m, a0u, a0v, a1z, T56]; omega)) ?_
 refine y1y rfl y5y rfl rfl u8u rfl rfl (z0z rfl rfl u8u rfl rfl rfl rfl rfl (by simp only [a1h]; rfl) ?_)
 refine ⟨by kernel_rfl, hK18 _ _ (exG (x4x rfl (p5p rfl rfl rfl (x0x rfl ?_))))⟩
 exact ⟨j + 1, ⟨by omega, by omega⟩, [0, 0, 0, 0, 0, 0, 0, 0, 0, 0, _, _, _], (Cov.cons' (t := 15) rfl (by rw [u4u (by omega) (by omega)]; rfl) Cov.nil), (y3y 3 rfl (y3y 6 rfl (y3y 8 rfl (y3y 9 rfl (y3y 10 rfl Cov.nil))))), (HE.row rfl (by rw [a0z he]; rw [if_pos hwt]) (HE.box rfl rfl (HE.kill rfl (HE.kill rfl HE.nil)))), (y8y 0 rfl (y8y 1 rfl (y8y 3 rfl (y8y 4 rfl (y8y 5 rfl (y8y 6 rfl (y8y 7 rfl (y8y 8 rfl (y8y 9 rfl (y8y 13 rfl (y8y 14 rfl (y8y 15 rfl (y8y 16 rfl (y8y 17 rfl (y8y 18 rfl HE.nil))))))))))))))), rfl⟩
end
section
theorem e4r {α : Type} {l : List α} {i : Nat} {a : α} (h : l[i]? = some a) : l.set i a = l := by
 obtain ⟨h1, rfl⟩ := List.getElem?_eq_some_iff.1 h
 exact List.set_getElem_self h1
end
section
theorem c2k (c : Bool) (n : Nd) (f inc ver g : Int) (es : List Ev) : a1r Tryz.prog 70 [.agg (w5w c n), .pv (.int .i64 f), .pv (.int .i64 inc), .pv (.int .i64 ver), .pv (.int .i64 g), a2e c es] (.agg (w5w true (a4f n f inc ver g es))) := by
 refine a9s r6r (fn := Tryz.f70) (by kernel_rfl) (by kernel_rfl) rfl (outs := [.agg (w5w true (a4f n f inc ver g es))]) (by rfl) (a0q rfl) 12 ?_
 refine exR (u2u (id := 0) rfl rfl rfl (y6y (id := 1) y5y s9s rfl (x2x fun K1 hK1 => ?_)))
 refine exR (x5x rfl y5y rfl rfl rfl (x9x rfl rfl rfl (q9q c n) (a1s rfl (x7x rfl ?_ ?_))))<;>intro hc2<;>try simp at hc2
 ·have fX : ¬ z7z n := a0k (by simpa using hc2)
  refine exR (rlB y5y s9s ?_)
  refine x3x rfl rfl y5y rfl rfl rfl rfl (x6x ⟨.inr rfl, ?_⟩)
  (rw [f1d fX]; exact ⟨_, _, rfl, d9x⟩)
 have fK : z7z n := a1o.1 (by simpa using hc2)
 have fS := fK.1
 have fB := q5q fS
 have fV := fS.2.2.2.2.2.1
 have fQ := fS.2.2.2.2.2.2.1
 have fb := b8c fS
 refine x8x (hK1 _ _ (exR (x5x rfl y5y rfl rfl rfl ?_)))
 refine rlM [6, 7, 8] [_, _, _] (u0u c n fb) rfl rfl rfl ?_
 refine y6y (id := 2) y5y s9s rfl (x3x rfl rfl y5y rfl rfl rfl rfl (x2x fun K3 hK3 => ?_))
 refine exD (x1x 4 rfl rfl (z9z rfl rfl ?_ ?_))<;>intro hg4<;>try simp at hg4
 ·have fU : ¬ b0e n f inc ver g es := by (rintro ⟨m1, m2, m3, m4, m5, m6, m7, m8, m9⟩; (simp_all; done))
  refine x1x 32 rfl rfl ⟨by kernel_rfl, x7x rfl (fun hc37 => ?_) (fun hc37 => ?_)⟩
  rotate_left
  ·simp at hc37
  try simp at hc37
  refine exR (x5x rfl y5y rfl rfl rfl (x3x rfl rfl y5y rfl rfl rfl rfl (x6x ⟨.inr rfl, ?_⟩)))
  (rw [b6w fK fU]; exact ⟨_, _, rfl, b5h (n := n) rfl rfl rfl⟩)
 have fUp : n.up = true := hg4
 refine x4x rfl (z1z rfl rfl (x9x rfl rfl rfl (u7u ..) (x1x 3 rfl rfl (z9z rfl rfl ?_ ?_))))<;>intro h<;>try simp at h
 ·have fU : ¬ b0e n f inc ver g es := by (rintro ⟨m1, m2, m3, m4, m5, m6, m7, m8, m9⟩; omega)
  refine x1x 27 rfl rfl ⟨by kernel_rfl, x7x rfl (fun hc36 => ?_) (fun hc36 => ?_)⟩
  rotate_left
  ·simp at hc36
  try simp at hc36
  refine exR (x5x rfl y5y rfl rfl rfl (x3x rfl rfl y5y rfl rfl rfl rfl (x6x ⟨.inr rfl, ?_⟩)))
  (rw [b6w fK fU]; exact ⟨_, _, rfl, b5h (n := n) rfl rfl rfl⟩)
 refine x1x 6 rfl rfl (z9z rfl rfl ?_ ?_)<;>intro hg6<;>try simp at hg6
 ·have fU : ¬ b0e n f inc ver g es := by (rintro ⟨m1, m2, m3, m4, m5, m6, m7, m8, m9⟩; omega)
  refine x1x 21 rfl rfl ⟨by kernel_rfl, x7x rfl (fun hc35 => ?_) (fun hc35 => ?_)⟩
  rotate_left
  ·simp at hc35
  try simp at hc35
  refine exR (x5x rfl y5y rfl rfl rfl (x3x rfl rfl y5y rfl rfl rfl rfl (x6x ⟨.inr rfl, ?_⟩)))
  (rw [b6w fK fU]; exact ⟨_, _, rfl, b5h (n := n) rfl rfl rfl⟩)
 have f4 : ¬ f = n.id := hg6
 refine x1x 3 rfl rfl (z1z rfl rfl (rlB q8q a9v ?_))
 refine z1z rfl rfl (x9x rfl rfl rfl (b1k c ⟨inc, ver, es⟩) ?_)
 refine x1x 3 rfl rfl (z9z rfl rfl ?_ ?_)<;>intro hg7<;>try simp at hg7
 ·have fvi : ¬ d3f ⟨inc, ver, es⟩ := a0k (by simpa using hg7)
  have fU : ¬ b0e n f inc ver g es := by (rintro ⟨m1, m2, m3, m4, m5, m6, m7, m8, m9⟩; exact fvi ⟨⟨by show 0 ≤ inc; omega, m5.2⟩, m6, m8⟩)
  refine x1x 13 rfl rfl ⟨by kernel_rfl, x7x rfl (fun hc34 => ?_) (fun hc34 => ?_)⟩
  rotate_left
  ·simp at hc34
  try simp at hc34
  refine exR (x5x rfl y5y rfl rfl rfl (x3x rfl rfl y5y rfl rfl rfl rfl (x6x ⟨.inr rfl, ?_⟩)))
  (rw [b6w fK fU]; exact ⟨_, _, rfl, b5h (n := n) rfl rfl rfl⟩)
 have fvi : d3f ⟨inc, ver, es⟩ := a1o.1 (by simpa using hg7)
 have fv1 := fvi.1
 have fv2 := fvi.2.1
 have fv3 : a7k okE a2z es 100 = true := fvi.2.2
 dsimp only at fv1 fv2
 refine x1x 4 rfl rfl (z9z rfl rfl ?_ ?_)<;>intro h<;>try simp at h
 ·have fU : ¬ b0e n f inc ver g es := by (rintro ⟨m1, m2, m3, m4, m5, m6, m7, m8, m9⟩; omega)
  refine x1x 9 rfl rfl ⟨by kernel_rfl, x7x rfl (fun hc33 => ?_) (fun hc33 => ?_)⟩
  rotate_left
  ·simp at hc33
  try simp at hc33
  refine exR (x5x rfl y5y rfl rfl rfl (x3x rfl rfl y5y rfl rfl rfl rfl (x6x ⟨.inr rfl, ?_⟩)))
  (rw [b6w fK fU]; exact ⟨_, _, rfl, b5h (n := n) rfl rfl rfl⟩)
 refine x4x rfl (z1z rfl rfl (x9x rfl rfl rfl (u7u ..) (x1x 3 rfl rfl (z9z rfl rfl ?_ ?_))))<;>intro h<;>try simp at h
 ·have fU : ¬ b0e n f inc ver g es := by (rintro ⟨m1, m2, m3, m4, m5, m6, m7, m8, m9⟩; omega)
  refine x1x 4 rfl rfl ⟨by kernel_rfl, x7x rfl (fun hc32 => ?_) (fun hc32 => ?_)⟩
  rotate_left
  ·simp at hc32
  try simp at hc32
  refine exR (x5x rfl y5y rfl rfl rfl (x3x rfl rfl y5y rfl rfl rfl rfl (x6x ⟨.inr rfl, ?_⟩)))
  (rw [b6w fK fU]; exact ⟨_, _, rfl, b5h (n := n) rfl rfl rfl⟩)
 refine x1x 2 rfl rfl (z1z rfl rfl (x9x rfl rfl rfl (w0w ..) (x1x 2 rfl rfl ⟨by kernel_rfl, x7x rfl ?_ ?_⟩)))<;>intro h<;>try simp at h
 ·have fU : ¬ b0e n f inc ver g es := by (rintro ⟨m1, m2, m3, m4, m5, m6, m7, m8, m9⟩; omega)
  refine exR (x5x rfl y5y rfl rfl rfl (x3x rfl rfl y5y rfl rfl rfl rfl (x6x ⟨.inr rfl, ?_⟩)))
  (rw [b6w fK fU]; exact ⟨_, _, rfl, b5h (n := n) rfl rfl rfl⟩)
 refine x8x (hK3 _ _ (x2x fun K11 hK11 => ?_))
 refine exR (x0x rfl (y0y (r1r 5 rfl fun hlen => ?_)))
 refine z2z (ι := Nat) (fun i γ1 => [(14, pI (i : Int))]) (fun i γ1 => []) (fun i => i ≤ es.length ∧ c7i es (fun _ e => s1s e.to = n.id ∧ (e.from' = -1 ∨ s1s e.from' = f)) i) (fun i => es.length - i) (cK [1, 2, 3, 4, 5, 6, 12, 13] rfl) (hK [0, 1, 2, 3, 4, 5, 6, 7, 8, 9, 10, 11] rfl) 0 ⟨by omega, a2i⟩ [] cv hv rfl fun i γ1 hi => ?_
 obtain ⟨k1, k2⟩ := hi
 refine x2x fun K12 hK12 => ?_
 refine exA 2 rfl rfl (z3z rfl u8u rfl (v6v rfl rfl rfl (x7x rfl ?_ ?_)))<;>intro h<;>try simp at h
 ·obtain ⟨e, he⟩ := gE es i
  have heo : b9d e := of_decide_eq_true ((s7s fv3).2 e (List.mem_of_getElem? he))
  have heb := heo.2.2.1
  refine x8x (hK12 _ _ (x2x fun K14 hK14 => ?_))
  refine y0y (exD (x1x 2 rfl rfl (y7y rfl rfl u8u rfl z6z rfl he (x1x 2 rfl rfl (x9x rfl rfl rfl (a1k ..) (x1x 4 rfl rfl (z9z rfl rfl ?_ ?_)))))))<;>intro hg15<;>try simp at hg15
  ·have fE : ¬ (s1s e.to = n.id ∧ (e.from' = -1 ∨ s1s e.from' = f)) := fun q => (by have := q.1; omega)
   refine x1x 16 rfl rfl ⟨by kernel_rfl, x7x rfl (fun hc19 => ?_) (fun hc19 => ?_)⟩
   rotate_left
   ·simp at hc19
   try simp at hc19
   have fU : ¬ b0e n f inc ver g es := fun q => fE (q.2.2.2.2.2.2.2.2 e (List.mem_of_getElem? he))
   refine exR (x5x rfl y5y rfl rfl rfl (x3x rfl rfl y5y rfl rfl rfl rfl (x6x ⟨.inr rfl, ?_⟩)))
   (rw [b6w fK fU]; exact ⟨_, _, rfl, b5h (n := n) rfl rfl rfl⟩)
  have e1 : s1s e.to = n.id := hg15
  refine x1x 2 rfl rfl (z1z rfl rfl (y7y rfl rfl u8u rfl z6z rfl he (x1x 4 rfl rfl (z9z rfl rfl ?_ ?_))))<;>intro h<;>try simp at h
  ·have hE : s1s e.to = n.id ∧ (e.from' = -1 ∨ s1s e.from' = f) := ⟨e1, .inl (by omega)⟩
   refine x1x 9 rfl rfl ⟨by kernel_rfl, x7x rfl (fun hc18 => ?_) (fun hc18 => ?_)⟩
   ·simp at hc18
   try simp at hc18
   refine x8x (hK14 _ _ (exG (x4x rfl (p5p rfl rfl rfl (x0x rfl ?_)))))
   exact ⟨i + 1, ⟨⟨by omega, a0i k2 he hE⟩, by omega⟩, [], (Cov.cons' (t := 14) rfl (by rw [u4u (by omega) (by omega)]; rfl) Cov.nil), cv, hv, hv, rfl⟩
  refine x1x 2 rfl rfl (z1z rfl rfl (y7y rfl rfl u8u rfl z6z rfl he (x1x 2 rfl rfl (z1z rfl rfl (x9x rfl rfl rfl (a1k ..) (x1x 4 rfl rfl ⟨by kernel_rfl, y4y rfl ?_ ?_⟩))))))<;>intro hc17<;>try simp at hc17
  ·have hE : s1s e.to = n.id ∧ (e.from' = -1 ∨ s1s e.from' = f) := ⟨e1, .inr hc17⟩
   refine x8x (hK14 _ _ (exG (x4x rfl (p5p rfl rfl rfl (x0x rfl ?_)))))
   exact ⟨i + 1, ⟨⟨by omega, a0i k2 he hE⟩, by omega⟩, [], (Cov.cons' (t := 14) rfl (by rw [u4u (by omega) (by omega)]; rfl) Cov.nil), cv, hv, hv, rfl⟩
  have fE : ¬ (s1s e.to = n.id ∧ (e.from' = -1 ∨ s1s e.from' = f)) := by (rintro ⟨q1, q2 | q2⟩ <;> omega)
  have fU : ¬ b0e n f inc ver g es := fun q => fE (q.2.2.2.2.2.2.2.2 e (List.mem_of_getElem? he))
  refine exR (x5x rfl y5y rfl rfl rfl (x3x rfl rfl y5y rfl rfl rfl rfl (x6x ⟨.inr rfl, ?_⟩)))
  (rw [b6w fK fU]; exact ⟨_, _, rfl, b5h (n := n) rfl rfl rfl⟩)
 have hall := a3q k2 (by omega)
 have fH : b0e n f inc ver g es := ⟨fUp, by omega, by omega, f4, by omega, by omega, by omega, fv3, fun e he => by obtain ⟨i, hi⟩ := List.getElem?_of_mem he; exact hall i e hi⟩
 obtain ⟨k, rfl⟩ : ∃ k : Nat, f = (k : Int) := ⟨f.toNat, by have := fH.2.2.1; omega⟩
 have hk3 : k < 3 := by have := fH.2.2.1; omega
 obtain ⟨kn, hkn⟩ := gE n.known k
 obtain ⟨v, hv⟩ := gE n.views k
 have hes : es.length ≤ 100 := by have := (s7s fH.2.2.2.2.2.2.2.1).1; omega
 obtain ⟨M, hM⟩ : ∃ M, M = b5g n k inc ver g es := ⟨_, rfl⟩
 have hv9 : n.version ≤ 9998 := by have := fH.2.1; omega
 have hv0 := fS.1.2.2.2.2.1.1
 refine z4z (hK11 _ _ ?_)
 refine a0c (ι := Unit) (fun _i γ2 => []) (fun _i γ2 => [(8, ((0 + 1), .row 3 1 ((n.known.set k (max kn g)).map a8u)))]) (fun _i => True) (cK [1, 2, 3, 5, 6, 12, 13] rfl) (hK [0, 1, 2, 3, 4, 5, 6, 7, 9, 10, 11] rfl) ?_ fun _i γ2 hi => ?_
 ·refine exA 4 rfl rfl ?_
  refine v0v (j := k) rfl rfl q2q rfl q1q rfl rfl (v1v hkn) ?_
  refine a0x rfl q1q rfl hkn rfl (v6v rfl rfl rfl (y4y rfl ?_ ?_))<;>intro h<;>try simp at h
  ·have hmx : max kn g = kn := by omega
   refine x8x ?_
   exact ⟨(), trivial, [], Cov.nil, (y3y 1 rfl (y3y 2 rfl (y3y 3 rfl (y3y 5 rfl (y3y 6 rfl (y3y 12 rfl (y3y 13 rfl Cov.nil))))))), (HE.row rfl (by rw [hmx, e4r hkn]) HE.nil), (y8y 0 rfl (y8y 1 rfl (y8y 2 rfl (y8y 3 rfl (y8y 4 rfl (y8y 5 rfl (y8y 6 rfl (y8y 7 rfl (y8y 9 rfl (y8y 10 rfl (y8y 11 rfl HE.nil))))))))))), rfl⟩
  have hmx : max kn g = g := by omega
  refine exG (x1x 4 rfl rfl ?_)
  refine v0v (j := k) rfl rfl q2q rfl q1q rfl rfl (v1v hkn) ?_
  refine b3j (el' := g) rfl rfl q1q rfl rfl rfl hkn rfl (by omega) (.val rfl rfl .nil) rfl rfl ?_
  exact ⟨(), trivial, [], Cov.nil, (y3y 1 rfl (y3y 2 rfl (y3y 3 rfl (y3y 5 rfl (y3y 6 rfl (y3y 12 rfl (y3y 13 rfl Cov.nil))))))), (HE.row rfl (by (rw [hmx]; done)) HE.nil), (y8y 0 rfl (y8y 1 rfl (y8y 2 rfl (y8y 3 rfl (y8y 4 rfl (y8y 5 rfl (y8y 6 rfl (y8y 7 rfl (y8y 9 rfl (y8y 10 rfl (y8y 11 rfl HE.nil))))))))))), rfl⟩
 ·try dsimp only [b2o, b2p]
  refine exA 3 rfl rfl (y7y rfl rfl a0o rfl q8q rfl hv (u5u rfl q8q rfl rfl (y6y (id := 3) q8q a9v rfl (x3x rfl rfl q8q rfl rfl rfl rfl ?_))))
  refine a0c (ι := Unit) (fun _i γ3 => []) (fun _i γ3 => [(2, ((0 + 1), .box 65 [pI M.id, .pv (.bool M.up), pI M.inc, pI M.g, .ref 6 (0 + 1), a2e true M.kept, a0t true M.outs, pI M.led, pI M.version, .ref 7 (0 + 1), .ref 8 (0 + 1), pI M.round, pI M.low])), (6, ((0 + 1), .row 44 5 ((M.lanes).map (a0j true)))), (7, ((0 + 1), .row 190 3 ((M.views).map (a5k true)))), (8, ((0 + 1), .row 3 1 (M.known.map a8u))), (4, ((γ3 4), .dead)), (5, ((γ3 5), .dead))]) (fun _i => True) (cK [6, 12, 13] rfl) (hK [0, 1, 3, 9, 10, 11] rfl) ?_ fun _i γ3 hi => ?_
  ·refine exA 5 rfl rfl (z9z rfl rfl ?_ ?_)<;>intro h<;>try simp at h
   ·refine x1x 10 rfl rfl (x7x rfl (fun hc27 => ?_) (fun hc27 => ?_))
    rotate_left
    ·simp at hc27
    try simp at hc27
    have hL : c6p v inc ver := .inl (by omega)
    refine exA 5 rfl rfl (x9x rfl rfl rfl (b1m c v.events es n.g) (x0x rfl (x2x fun K28 hK28 => ?_)))
    refine exA 4 rfl rfl (y4y rfl ?_ ?_)<;>intro h<;>try simp at h
    ·have hlow : n.low = M.low := by rw [hM, a2r hv hkn hL]; show _ = chg n.g v.events (chg n.g es n.low v.events) es; rw [b9v n.g v.events es (m := n.low) (by have := fS.1.2.2.2.2.2.2; omega)]; omega
     refine x8x (hK28 _ _ (exH (x1x 5 rfl rfl (z8z (id := 4) u8u rfl z6z rfl (x4x rfl ?_)))))
     refine a2j r6r (zs := es.map v5v) rfl rfl u8u rfl z6z rfl rfl rfl (w3w (fun _ => rfl) _) rfl (by simp only [a1c, T56]; omega) (Le.ow_map _ (fun _ => rfl) (fun _ => rfl)) ?_
     refine rlB q8q a9v ?_
     refine v0v (j := k) rfl rfl a0o rfl q8q rfl rfl (v1v hv) ?_
     refine p9p (el' := ⟨inc, ver, es⟩) rfl rfl q8q rfl rfl rfl hv rfl (a0b rfl) rfl rfl ?_
     refine ⟨by kernel_rfl, ?_⟩
     exact ⟨(), trivial, [0, 0, 0, 0, _, _], Cov.nil, (y3y 6 rfl (y3y 12 rfl (y3y 13 rfl Cov.nil))), (HE.box rfl (by rw [← hlow]; (rw [hM, a2r hv hkn hL] <;> rfl)) (HE.row rfl (by (rw [hM, a2r hv hkn hL] <;> rfl)) (HE.row rfl (by (rw [hM, a2r hv hkn hL] <;> rfl)) (HE.row rfl (by (rw [hM, a2r hv hkn hL] <;> rfl)) (HE.kill rfl (HE.kill rfl HE.nil)))))), (y8y 0 rfl (y8y 1 rfl (y8y 3 rfl (y8y 9 rfl (y8y 10 rfl (y8y 11 rfl HE.nil)))))), rfl⟩
    have hlow : chg n.g v.events (chg n.g es 41 v.events) es = M.low := by rw [hM, a2r hv hkn hL]; show _ = chg n.g v.events (chg n.g es n.low v.events) es; rw [b9v n.g v.events es (m := n.low) (by have := fS.1.2.2.2.2.2.2; omega)]; omega
    refine exG (x1x 2 rfl rfl (z0z rfl rfl q1q rfl rfl rfl rfl rfl (by simp only [a1h]; rfl) ?_))
    refine hK28 _ _ (exH (x1x 5 rfl rfl (z8z (id := 4) u8u rfl z6z rfl (x4x rfl ?_))))
    refine a2j r6r (zs := es.map v5v) rfl rfl u8u rfl z6z rfl rfl rfl (w3w (fun _ => rfl) _) rfl (by simp only [a1c, T56]; omega) (Le.ow_map _ (fun _ => rfl) (fun _ => rfl)) ?_
    refine rlB q8q a9v ?_
    refine v0v (j := k) rfl rfl a0o rfl q8q rfl rfl (v1v hv) ?_
    refine p9p (el' := ⟨inc, ver, es⟩) rfl rfl q8q rfl rfl rfl hv rfl (a0b rfl) rfl rfl ?_
    refine ⟨by kernel_rfl, ?_⟩
    exact ⟨(), trivial, [0, 0, 0, 0, _, _], Cov.nil, (y3y 6 rfl (y3y 12 rfl (y3y 13 rfl Cov.nil))), (HE.box rfl (by rw [← hlow]; (rw [hM, a2r hv hkn hL] <;> rfl)) (HE.row rfl (by (rw [hM, a2r hv hkn hL] <;> rfl)) (HE.row rfl (by (rw [hM, a2r hv hkn hL] <;> rfl)) (HE.row rfl (by (rw [hM, a2r hv hkn hL] <;> rfl)) (HE.kill rfl (HE.kill rfl HE.nil)))))), (y8y 0 rfl (y8y 1 rfl (y8y 3 rfl (y8y 9 rfl (y8y 10 rfl (y8y 11 rfl HE.nil)))))), rfl⟩
   refine x1x 5 rfl rfl (z9z rfl rfl ?_ ?_)<;>intro h<;>try simp at h
   ·refine x1x 5 rfl rfl (x7x rfl (fun hc26 => ?_) (fun hc26 => ?_))
    ·simp at hc26
    try simp at hc26
    have hL : ¬ c6p v inc ver := by rintro (q | ⟨q1, q2⟩) <;> omega
    have hlow : n.low = M.low := by rw [hM, a9g hv hkn hL]
    refine x8x ?_
    exact ⟨(), trivial, [0, 0, 0, 0, _, _], Cov.nil, (y3y 6 rfl (y3y 12 rfl (y3y 13 rfl Cov.nil))), (HE.box rfl (by rw [← hlow]; (rw [hM, a9g hv hkn hL] <;> rfl)) (HE.row rfl (by (rw [hM, a9g hv hkn hL] <;> rfl)) (HE.row rfl (by (rw [hM, a9g hv hkn hL] <;> rfl)) (HE.row rfl (by (rw [hM, a9g hv hkn hL] <;> rfl)) (HE.kill rfl (HE.kill rfl HE.nil)))))), (y8y 0 rfl (y8y 1 rfl (y8y 3 rfl (y8y 9 rfl (y8y 10 rfl (y8y 11 rfl HE.nil)))))), rfl⟩
   refine x1x 6 rfl rfl (y4y rfl ?_ ?_)<;>intro h<;>try simp at h
   ·have hL : ¬ c6p v inc ver := by rintro (q | ⟨q1, q2⟩) <;> omega
    have hlow : n.low = M.low := by rw [hM, a9g hv hkn hL]
    refine x8x ?_
    exact ⟨(), trivial, [0, 0, 0, 0, _, _], Cov.nil, (y3y 6 rfl (y3y 12 rfl (y3y 13 rfl Cov.nil))), (HE.box rfl (by rw [← hlow]; (rw [hM, a9g hv hkn hL] <;> rfl)) (HE.row rfl (by (rw [hM, a9g hv hkn hL] <;> rfl)) (HE.row rfl (by (rw [hM, a9g hv hkn hL] <;> rfl)) (HE.row rfl (by (rw [hM, a9g hv hkn hL] <;> rfl)) (HE.kill rfl (HE.kill rfl HE.nil)))))), (y8y 0 rfl (y8y 1 rfl (y8y 3 rfl (y8y 9 rfl (y8y 10 rfl (y8y 11 rfl HE.nil)))))), rfl⟩
   have hL : c6p v inc ver := .inr ⟨by omega, by omega⟩
   refine exA 5 rfl rfl (x9x rfl rfl rfl (b1m c v.events es n.g) (x0x rfl (x2x fun K24 hK24 => ?_)))
   refine exA 4 rfl rfl (y4y rfl ?_ ?_)<;>intro h<;>try simp at h
   ·have hlow : n.low = M.low := by rw [hM, a2r hv hkn hL]; show _ = chg n.g v.events (chg n.g es n.low v.events) es; rw [b9v n.g v.events es (m := n.low) (by have := fS.1.2.2.2.2.2.2; omega)]; omega
    refine x8x (hK24 _ _ (exH (y1y rfl y5y rfl rfl a0o rfl rfl (v2v rfl a0o rfl rfl (x4x rfl (x4x rfl (x4x rfl (z8z (id := 4) u8u rfl z6z rfl (x4x rfl ?_)))))))))
    refine a2j r6r (zs := es.map v5v) rfl rfl u8u rfl z6z rfl rfl rfl (w3w (fun _ => rfl) _) rfl (by simp only [a1c, T56]; omega) (Le.ow_map _ (fun _ => rfl) (fun _ => rfl)) ?_
    refine rlB q8q a9v ?_
    refine v0v (j := k) rfl rfl a0o rfl q8q rfl rfl (v1v hv) ?_
    refine p9p (el' := ⟨inc, ver, es⟩) rfl rfl q8q rfl rfl rfl hv rfl (a0b rfl) rfl rfl ?_
    refine ⟨by kernel_rfl, ?_⟩
    exact ⟨(), trivial, [0, 0, 0, 0, _, _], Cov.nil, (y3y 6 rfl (y3y 12 rfl (y3y 13 rfl Cov.nil))), (HE.box rfl (by rw [← hlow]; (rw [hM, a2r hv hkn hL] <;> rfl)) (HE.row rfl (by (rw [hM, a2r hv hkn hL] <;> rfl)) (HE.row rfl (by (rw [hM, a2r hv hkn hL] <;> rfl)) (HE.row rfl (by (rw [hM, a2r hv hkn hL] <;> rfl)) (HE.kill rfl (HE.kill rfl HE.nil)))))), (y8y 0 rfl (y8y 1 rfl (y8y 3 rfl (y8y 9 rfl (y8y 10 rfl (y8y 11 rfl HE.nil)))))), rfl⟩
   have hlow : chg n.g v.events (chg n.g es 41 v.events) es = M.low := by rw [hM, a2r hv hkn hL]; show _ = chg n.g v.events (chg n.g es n.low v.events) es; rw [b9v n.g v.events es (m := n.low) (by have := fS.1.2.2.2.2.2.2; omega)]; omega
   refine exG (x1x 2 rfl rfl (z0z rfl rfl q1q rfl rfl rfl rfl rfl (by simp only [a1h]; rfl) ?_))
   refine hK24 _ _ (exH (y1y rfl y5y rfl rfl a0o rfl rfl (v2v rfl a0o rfl rfl (x4x rfl (x4x rfl (x4x rfl (z8z (id := 4) u8u rfl z6z rfl (x4x rfl ?_))))))))
   refine a2j r6r (zs := es.map v5v) rfl rfl u8u rfl z6z rfl rfl rfl (w3w (fun _ => rfl) _) rfl (by simp only [a1c, T56]; omega) (Le.ow_map _ (fun _ => rfl) (fun _ => rfl)) ?_
   refine rlB q8q a9v ?_
   refine v0v (j := k) rfl rfl a0o rfl q8q rfl rfl (v1v hv) ?_
   refine p9p (el' := ⟨inc, ver, es⟩) rfl rfl q8q rfl rfl rfl hv rfl (a0b rfl) rfl rfl ?_
   refine ⟨by kernel_rfl, ?_⟩
   exact ⟨(), trivial, [0, 0, 0, 0, _, _], Cov.nil, (y3y 6 rfl (y3y 12 rfl (y3y 13 rfl Cov.nil))), (HE.box rfl (by rw [← hlow]; (rw [hM, a2r hv hkn hL] <;> rfl)) (HE.row rfl (by (rw [hM, a2r hv hkn hL] <;> rfl)) (HE.row rfl (by (rw [hM, a2r hv hkn hL] <;> rfl)) (HE.row rfl (by (rw [hM, a2r hv hkn hL] <;> rfl)) (HE.kill rfl (HE.kill rfl HE.nil)))))), (y8y 0 rfl (y8y 1 rfl (y8y 3 rfl (y8y 9 rfl (y8y 10 rfl (y8y 11 rfl HE.nil)))))), rfl⟩
  ·try dsimp only [b2o, b2p]
   obtain ⟨w1, w2, w3⟩ := d3q n k inc ver g es
   rw [← hM] at w1 w2 w3
   have hwM : wk M := by rw [hM]; exact e3s (e3p fS) hes
   have hpcM : M.lanes.length = (s2s M.id 4).length := by rw [w1, w3]; exact fS.2.2.2.2.1
   have hwA : wk (nl M (a0f M M.lanes)) := c6o _ (Nat.le_refl _) hwM
   have hLA : (a0f M M.lanes).length ≤ 4 := hwA.1
   refine exD (x1x 2 rfl rfl ?_)
   refine rlM [6, 7, 8] [_, _, _] (b3c M hwM) rfl rfl rfl ?_
   refine rlM [6, 7, 8] [_, _, _] (b1n c n (nl M (a0f M M.lanes)) (e3p fS) hwA w1.symm ⟨by omega, by omega⟩) rfl rfl rfl ?_
   refine x3x rfl rfl y5y rfl rfl rfl rfl ⟨by kernel_rfl, x2x fun K30 hK30 => ?_⟩
   refine p8p (b := b8y true (a9f n M).lanes) 2 4 rfl rfl rfl (.ref rfl (Le.ow_map _ (fun _ => rfl) (fun _ => rfl)) .nil) rfl rfl rfl rfl ?_
   refine p8p (b := c2w true (a9f n M).views) 2 9 rfl rfl rfl (.ref rfl (Le.ow_map _ (fun _ => rfl) (fun _ => rfl)) .nil) rfl rfl rfl rfl ?_
   refine p8p (b := a6f true (a9f n M).known) 2 10 rfl rfl rfl (.ref rfl (Le.ow_map _ (fun _ => rfl) (fun _ => rfl)) .nil) rfl rfl rfl rfl ?_
   refine exR (x5x rfl y5y rfl rfl rfl (x9x rfl rfl rfl (q9q true (a9f n M)) ?_))
   refine a1s rfl (x7x rfl ?_ ?_)<;>intro hc31<;>try simp at hc31
   ·have fX2 : ¬ z7z (a9f n M) := a0k (by simpa using hc31)
    refine exR (x5x rfl y5y rfl rfl rfl ?_)
    refine rlM [9, 10, 11] [_, _, _] (u0u c n fb) rfl rfl rfl ?_
    refine x3x rfl rfl y5y rfl rfl rfl rfl (x6x ⟨.inr rfl, ?_⟩)
    (rw [e5x fK fH, ← hM, c1q fX2]; exact ⟨_, _, rfl, b5h (n := n) rfl rfl rfl⟩)
   have fK2 : z7z (a9f n M) := a1o.1 (by simpa using hc31)
   have fb2 := b8c fK2.1
   refine x8x (hK30 _ _ (exR (x5x rfl y5y rfl rfl rfl ?_)))
   refine rlM [9, 10, 11] [_, _, _] (u0u true (a9f n M) fb2) rfl rfl rfl ?_
   refine x3x rfl rfl y5y rfl rfl rfl rfl (x6x ⟨.inr rfl, ?_⟩)
   (rw [e5x fK fH, ← hM, c1p fK2]; exact ⟨_, _, rfl, b5h (n := a9f n M) rfl rfl rfl⟩)
end
section
theorem a8i (c : Bool) (n : Nd) (w : Wo) : a1r Tryz.prog 74 [.agg (w5w c n), .agg (p4p c w)] (.tup [.agg (w5w true (r2r n w).1), q3q true (r2r n w).2]) := by
 refine pX Tryz.f74 [.agg (w5w true (r2r n w).1), q3q true (r2r n w).2] 12 ?_
 refine exR (u2u (id := 0) rfl rfl rfl (u2u (id := 1) rfl rfl rfl (y6y (id := 2) y5y s9s rfl (x0x rfl (exR (z8z (id := 3) v4v rfl v3v rfl (x0x rfl (x2x fun K1 hK1 => ?_))))))))
 refine exR (x5x rfl y5y rfl rfl rfl (x9x rfl rfl rfl (q9q ..) (a1s rfl (x7x rfl ?_ ?_))))<;>intro hc2<;>try simp at hc2
 ·have fX : ¬ z7z n := a0k (by simpa using hc2)
  refine exR (rlB y5y s9s ?_)
  refine x4x rfl (x3x rfl rfl y5y rfl rfl rfl rfl (x0x rfl (x6x ⟨.inr rfl, ?_⟩)))
  (rw [f1h fX]; exact ⟨_, _, rfl, b5i (a2v (l := ([] : List Wo)) rfl .nil)⟩)
 have fK : z7z n := a1o.1 (by simpa using hc2)
 have fS := fK.1
 have fb := b8c fS
 refine x8x (hK1 _ _ (x2x fun K3 hK3 => ?_))
 refine exA 4 rfl rfl (z9z rfl rfl ?_ ?_)<;>intro hg4<;>try simp at hg4
 ·have fU : ¬ b0g n w := fun h => by have := h.1; simp_all
  refine x1x 17 rfl rfl (x7x rfl (fun hc20 => ?_) (fun hc20 => ?_))
  rotate_left
  ·simp at hc20
  try simp at hc20
  try have fU : ¬ b0g n w := fun h => by have := h.2.2.1; have := h.2.2.2; omega
  refine exR (x5x rfl y5y rfl rfl rfl ?_)
  refine rlM [9, 10, 11] [_, _, _] (u0u c n fb) rfl rfl rfl ?_
  refine x4x rfl (x3x rfl rfl y5y rfl rfl rfl rfl (x0x rfl (x6x ⟨.inr rfl, ?_⟩)))
  (rw [d3v fK fU]; exact ⟨_, _, rfl, s6s rfl rfl rfl (a2v (l := ([] : List Wo)) rfl .nil)⟩)
 have fUp : n.up = true := hg4
 refine x5x rfl v3v rfl rfl rfl (z1z rfl rfl (x9x rfl rfl rfl (b1d ..) (x1x 3 rfl rfl (z9z rfl rfl ?_ ?_))))<;>intro hg5<;>try simp at hg5
 ·try have fU : ¬ b0g n w := fun h => absurd h.2.1 hg5
  refine x1x 12 rfl rfl (x7x rfl (fun hc19 => ?_) (fun hc19 => ?_))
  rotate_left
  ·simp at hc19
  try simp at hc19
  try have fU : ¬ b0g n w := fun h => by have := h.2.2.1; have := h.2.2.2; omega
  refine exR (x5x rfl y5y rfl rfl rfl ?_)
  refine rlM [9, 10, 11] [_, _, _] (u0u c n fb) rfl rfl rfl ?_
  refine x4x rfl (x3x rfl rfl y5y rfl rfl rfl rfl (x0x rfl (x6x ⟨.inr rfl, ?_⟩)))
  (rw [d3v fK fU]; exact ⟨_, _, rfl, s6s rfl rfl rfl (a2v (l := ([] : List Wo)) rfl .nil)⟩)
 have fW : a4l w := hg5
 refine x1x 7 rfl rfl (z9z rfl rfl ?_ ?_)<;>intro j<;>try simp at j
 ·try have fU : ¬ b0g n w := fun h => by have := h.2.2.1; omega
  refine x1x 5 rfl rfl (x7x rfl (fun hc18 => ?_) (fun hc18 => ?_))
  rotate_left
  ·simp at hc18
  try simp at hc18
  try have fU : ¬ b0g n w := fun h => by have := h.2.2.1; have := h.2.2.2; omega
  refine exR (x5x rfl y5y rfl rfl rfl ?_)
  refine rlM [9, 10, 11] [_, _, _] (u0u c n fb) rfl rfl rfl ?_
  refine x4x rfl (x3x rfl rfl y5y rfl rfl rfl rfl (x0x rfl (x6x ⟨.inr rfl, ?_⟩)))
  (rw [d3v fK fU]; exact ⟨_, _, rfl, s6s rfl rfl rfl (a2v (l := ([] : List Wo)) rfl .nil)⟩)
 refine x1x 6 rfl rfl (x7x rfl ?_ ?_)<;>intro j<;>try simp at j
 ·try have fU : ¬ b0g n w := fun h => by have := h.2.2.1; have := h.2.2.2; omega
  refine exR (x5x rfl y5y rfl rfl rfl ?_)
  refine rlM [9, 10, 11] [_, _, _] (u0u c n fb) rfl rfl rfl ?_
  refine x4x rfl (x3x rfl rfl y5y rfl rfl rfl rfl (x0x rfl (x6x ⟨.inr rfl, ?_⟩)))
  (rw [d3v fK fU]; exact ⟨_, _, rfl, s6s rfl rfl rfl (a2v (l := ([] : List Wo)) rfl .nil)⟩)
 have fM : b0g n w := ⟨fUp, fW, by omega, by omega⟩
 refine x8x (hK3 _ _ (x2x fun K8 hK8 => ?_))
 refine exA 2 rfl rfl (y0y (exA 2 rfl rfl (x7x rfl ?_ ?_)))<;>intro hc9<;>try simp at hc9
 ·have k1 : w.kind = 1 := hc9
  refine exA 11 rfl rfl (x9x rfl rfl rfl (c2k c n w.from' w.inc w.version w.g w.events) ?_)
  refine x4x rfl (x3x rfl rfl y5y rfl rfl rfl rfl (x0x rfl (x6x ⟨.inr rfl, ?_⟩)))
  (rw [b7e fK fM, e8r k1]; exact ⟨_, _, rfl, c9y (a2v (l := ([] : List Wo)) rfl .nil)⟩)
 have n1 : ¬ w.kind = 1 := hc9
 refine exA 2 rfl rfl (x7x rfl ?_ ?_)<;>intro hc10<;>try simp at hc10
 ·have k2 : w.kind = 2 := hc10
  refine exA 3 rfl rfl (x9x rfl rfl rfl (b0j ..) (x1x 4 rfl rfl (y6y (id := 4) y5y s9s rfl (y6y (id := 5) v3v a9u rfl (x3x rfl rfl y5y rfl rfl rfl rfl (x3x rfl rfl v3v rfl rfl rfl rfl (x0x rfl (exR (x4x rfl (x7x rfl ?_ ?_))))))))))<;>intro hc11<;>try simp at hc11
  ·have hr : (w6w n w.round).2.2 = true := hc11
   refine exD (x1x 2 rfl rfl (u3u (id := 6) v4v rfl v3v rfl rfl rfl rfl rfl rfl (x3x rfl rfl y5y rfl rfl rfl rfl (x0x rfl ⟨by kernel_rfl, x6x ⟨.inr rfl, ?_⟩⟩))))
   (rw [b7e fK fM, e4b k2 hr]; exact ⟨_, _, rfl, c9y (a2v (l := [(w6w n w.round).2.1]) rfl .nil)⟩)
  have hr : ¬ (w6w n w.round).2.2 = true := by simpa using hc11
  have hE : r2r n w = (n, []) := by rw [b7e fK fM, e4c k2 hr]
  refine x8x (hK8 _ _ (exR (x5x rfl y5y rfl rfl rfl ?_)))
  refine rlM [9, 10, 11] [_, _, _] (u0u c n fb) rfl rfl rfl ?_
  refine x4x rfl (x3x rfl rfl y5y rfl rfl rfl rfl (x0x rfl (x6x ⟨.inr rfl, ?_⟩)))
  (rw [hE]; exact ⟨_, _, rfl, s6s rfl rfl rfl (a2v (l := ([] : List Wo)) rfl .nil)⟩)
 have n2 : ¬ w.kind = 2 := hc10
 refine exA 2 rfl rfl (y4y rfl ?_ ?_)<;>intro hc12<;>try simp at hc12
 ·have n4 : ¬ w.kind = 4 := hc12
  refine exA 2 rfl rfl (y4y rfl ?_ ?_)<;>intro hc16<;>try simp at hc16
  ·have n6 : ¬ w.kind = 6 := hc16
   have hE : r2r n w = (n, []) := by rw [b7e fK fM, e8s n1 n2 n4 n6]
   refine x8x (hK8 _ _ (exR (x5x rfl y5y rfl rfl rfl ?_)))
   refine rlM [9, 10, 11] [_, _, _] (u0u c n fb) rfl rfl rfl ?_
   refine x4x rfl (x3x rfl rfl y5y rfl rfl rfl rfl (x0x rfl (x6x ⟨.inr rfl, ?_⟩)))
   (rw [hE]; exact ⟨_, _, rfl, s6s rfl rfl rfl (a2v (l := ([] : List Wo)) rfl .nil)⟩)
  have k6 : w.kind = 6 := hc16
  refine exA 5 rfl rfl (y4y rfl ?_ ?_)<;>intro hc17<;>try simp at hc17
  ·have h6 : ¬ w.inc = n.inc := hc17
   have hE : r2r n w = (n, []) := by rw [b7e fK fM, e4g k6 h6]
   refine x8x (hK8 _ _ (exR (x5x rfl y5y rfl rfl rfl ?_)))
   refine rlM [9, 10, 11] [_, _, _] (u0u c n fb) rfl rfl rfl ?_
   refine x4x rfl (x3x rfl rfl y5y rfl rfl rfl rfl (x0x rfl (x6x ⟨.inr rfl, ?_⟩)))
   (rw [hE]; exact ⟨_, _, rfl, s6s rfl rfl rfl (a2v (l := ([] : List Wo)) rfl .nil)⟩)
  have h6 : w.inc = n.inc := hc17
  refine exA 5 rfl rfl (x9x rfl rfl rfl (b0k ..) (x1x 3 rfl rfl (y6y (id := 8) y5y s9s rfl (x3x rfl rfl y5y rfl rfl rfl rfl (x0x rfl (exA 2 rfl rfl (x3x rfl rfl y5y rfl rfl rfl rfl (x0x rfl (x6x ⟨.inr rfl, ?_⟩)))))))))
  (rw [b7e fK fM, e4f k6 h6]; exact ⟨_, _, rfl, c9y (a2v (l := ([] : List Wo)) rfl .nil)⟩)
 have k4 : w.kind = 4 := hc12
 refine exA 6 rfl rfl (z9z rfl rfl ?_ ?_)<;>intro j<;>try simp at j
 ·refine x1x 3 rfl rfl (x7x rfl (fun hc15 => ?_) (fun hc15 => ?_))
  ·simp at hc15
  try simp at hc15
  have h4 : ¬ (w.round = n.round ∧ 0 < w.round) := by omega
  have hE : r2r n w = (n, []) := by rw [b7e fK fM, d3w k4 h4]
  refine x8x (hK8 _ _ (exR (x5x rfl y5y rfl rfl rfl ?_)))
  refine rlM [9, 10, 11] [_, _, _] (u0u c n fb) rfl rfl rfl ?_
  refine x4x rfl (x3x rfl rfl y5y rfl rfl rfl rfl (x0x rfl (x6x ⟨.inr rfl, ?_⟩)))
  (rw [hE]; exact ⟨_, _, rfl, s6s rfl rfl rfl (a2v (l := ([] : List Wo)) rfl .nil)⟩)
 refine x1x 4 rfl rfl (y4y rfl ?_ ?_)<;>intro j<;>try simp at j
 ·have h4 : ¬ (w.round = n.round ∧ 0 < w.round) := by omega
  have hE : r2r n w = (n, []) := by rw [b7e fK fM, d3w k4 h4]
  refine x8x (hK8 _ _ (exR (x5x rfl y5y rfl rfl rfl ?_)))
  refine rlM [9, 10, 11] [_, _, _] (u0u c n fb) rfl rfl rfl ?_
  refine x4x rfl (x3x rfl rfl y5y rfl rfl rfl rfl (x0x rfl (x6x ⟨.inr rfl, ?_⟩)))
  (rw [hE]; exact ⟨_, _, rfl, s6s rfl rfl rfl (a2v (l := ([] : List Wo)) rfl .nil)⟩)
 have h4 : w.round = n.round ∧ 0 < w.round := by omega
 refine exD (x5x rfl y5y rfl rfl rfl ?_)
 refine rlM [9, 10, 11] [_, _, _] (u0u c n fb) rfl rfl rfl ?_
 refine x1x 8 rfl rfl (rlB v3v a9u ?_)
 refine u3u (id := 7) v4v rfl v3v rfl rfl rfl rfl rfl rfl (x3x rfl rfl y5y rfl rfl rfl rfl (x0x rfl ⟨by kernel_rfl, x6x ⟨.inr rfl, ?_⟩⟩))
 (rw [b7e fK fM, e4d k4 h4]; exact ⟨_, _, rfl, s6s rfl rfl rfl (f3q (k := 5) (f := n.id) (t := 0) (i := n.inc) (v := n.version) (r := n.round) (g := 0) rfl .nil)⟩)
theorem c2l (c : Bool) (h : Hb) (n : Nd) : a1r Tryz.prog 311 [.agg (a8n true h), .agg (w5w c n)] (.tup [.agg (a8n true (r8r h n).1), .agg (w5w true (r8r h n).2.1), q3q true (r8r h n).2.2]) := by
 refine pX Tryz.f311 [.agg (a8n true (r8r h n).1), .agg (w5w true (r8r h n).2.1), q3q true (r8r h n).2.2] 17 ?_
 refine exR (u2u (id := 0) rfl rfl rfl (u2u (id := 1) rfl rfl rfl (y6y (id := 2) q7q b4v rfl (y6y (id := 3) y5y s9s rfl (x0x rfl (exR (z8z (id := 4) v4v rfl v3v rfl (x0x rfl (x2x fun K1 hK1 => ?_)))))))))
 refine exR (x5x rfl q7q rfl rfl rfl (x9x rfl rfl rfl (a8x ..) (x1x 2 rfl rfl (z9z rfl rfl ?_ ?_))))<;>intro hg2<;>try simp at hg2
 ·have fX : ¬ (a0r h ∧ z7z n) := fun q => a0k (by simpa using hg2) q.1
  refine x1x 3 rfl rfl (x7x rfl (fun hc12 => ?_) (fun hc12 => ?_))
  rotate_left
  ·simp at hc12
  try simp at hc12
  try have fX : ¬ (a0r h ∧ z7z n) := fun q => a0k (by simpa using hc12) q.2
  refine exR (rlB q7q b4v ?_)
  refine rlB y5y s9s ?_
  refine x4x rfl (x3x rfl rfl q7q rfl rfl rfl rfl (x3x rfl rfl y5y rfl rfl rfl rfl (x0x rfl (x6x ⟨.inr rfl, ?_⟩))))
  (rw [e0k fX]; exact ⟨_, _, rfl, d4j (b5i (a2v (l := ([] : List Wo)) rfl .nil))⟩)
 have fH : a0r h := a1o.1 (by simpa using hg2)
 refine x5x rfl y5y rfl rfl rfl (z1z rfl rfl (x9x rfl rfl rfl (q9q ..) (x1x 2 rfl rfl (x7x rfl ?_ ?_))))<;>intro hc3<;>try simp at hc3
 ·try have fX : ¬ (a0r h ∧ z7z n) := fun q => a0k (by simpa using hc3) q.2
  refine exR (rlB q7q b4v ?_)
  refine rlB y5y s9s ?_
  refine x4x rfl (x3x rfl rfl q7q rfl rfl rfl rfl (x3x rfl rfl y5y rfl rfl rfl rfl (x0x rfl (x6x ⟨.inr rfl, ?_⟩))))
  (rw [e0k fX]; exact ⟨_, _, rfl, d4j (b5i (a2v (l := ([] : List Wo)) rfl .nil))⟩)
 have fK : z7z n := a1o.1 (by simpa using hc3)
 have fS := fK.1
 have fb := b8c fS
 refine x8x (hK1 _ _ (exR (x5x rfl y5y rfl rfl rfl ?_)))
 refine rlM [11, 12, 13] [_, _, _] (u0u c n fb) rfl rfl rfl ?_
 refine y6y (id := 5) y5y s9s rfl (x3x rfl rfl y5y rfl rfl rfl rfl (exA 2 rfl rfl ?_))
 refine a0y (.int .i64 (n.led + 1)) rfl rfl rfl (a9c rfl rfl (by have := fS.1.2.2.2.1; omega) (by have := fS.1.2.2.2.1; omega)) ?_
 refine y1y rfl y5y rfl rfl q1q rfl rfl (z0z rfl rfl q1q rfl rfl rfl rfl rfl (by simp only [a1h]; rfl) ?_)
 refine x2x fun K4 hK4 => ?_
 refine exD (x1x 4 rfl rfl (z9z rfl rfl ?_ ?_))<;>intro hg5<;>try simp at hg5
 ·have fU : ¬ a5b n := fun q => by have := q.1; omega
  refine x1x 9 rfl rfl ⟨by kernel_rfl, x7x rfl (fun hc11 => ?_) (fun hc11 => ?_)⟩
  rotate_left
  ·simp at hc11
  try simp at hc11
  try have fU : ¬ a5b n := fun q => by have := q.2.2.1; omega
  refine exD (x5x rfl q7q rfl rfl rfl (x9x rfl rfl rfl (a3m true h fH) (x5x rfl y5y rfl rfl rfl ?_)))
  refine rlM [14, 15, 16] [_, _, _] (u0u c n fb) rfl rfl rfl ?_
  refine x4x rfl (x3x rfl rfl q7q rfl rfl rfl rfl (x3x rfl rfl y5y rfl rfl rfl rfl (x0x rfl ⟨by kernel_rfl, x6x ⟨.inr rfl, ?_⟩⟩)))
  (rw [c1z ⟨fH, fK⟩ fU]; exact ⟨_, _, rfl, a8f (s6s rfl rfl rfl (a2v (l := ([] : List Wo)) rfl .nil))⟩)
 have hid : n.id = 0 := hg5
 refine x1x 5 rfl rfl (z9z rfl rfl ?_ ?_)<;>intro hg6<;>try simp at hg6
 ·try have fU : ¬ a5b n := fun h => by have := h.2.1; simp_all
  refine x1x 4 rfl rfl ⟨by kernel_rfl, x7x rfl (fun hc10 => ?_) (fun hc10 => ?_)⟩
  rotate_left
  ·simp at hc10
  try simp at hc10
  try have fU : ¬ a5b n := fun q => by have := q.2.2.1; omega
  refine exD (x5x rfl q7q rfl rfl rfl (x9x rfl rfl rfl (a3m true h fH) (x5x rfl y5y rfl rfl rfl ?_)))
  refine rlM [14, 15, 16] [_, _, _] (u0u c n fb) rfl rfl rfl ?_
  refine x4x rfl (x3x rfl rfl q7q rfl rfl rfl rfl (x3x rfl rfl y5y rfl rfl rfl rfl (x0x rfl ⟨by kernel_rfl, x6x ⟨.inr rfl, ?_⟩⟩)))
  (rw [c1z ⟨fH, fK⟩ fU]; exact ⟨_, _, rfl, a8f (s6s rfl rfl rfl (a2v (l := ([] : List Wo)) rfl .nil))⟩)
 have fUp : n.up = true := hg6
 refine x1x 2 rfl rfl (z1z rfl rfl (x9x rfl rfl rfl (w0w ..) (x1x 2 rfl rfl ⟨by kernel_rfl, x7x rfl ?_ ?_⟩)))<;>intro j<;>try simp at j
 ·try have fU : ¬ a5b n := fun q => by have := q.2.2.1; omega
  refine exD (x5x rfl q7q rfl rfl rfl (x9x rfl rfl rfl (a3m true h fH) (x5x rfl y5y rfl rfl rfl ?_)))
  refine rlM [14, 15, 16] [_, _, _] (u0u c n fb) rfl rfl rfl ?_
  refine x4x rfl (x3x rfl rfl q7q rfl rfl rfl rfl (x3x rfl rfl y5y rfl rfl rfl rfl (x0x rfl ⟨by kernel_rfl, x6x ⟨.inr rfl, ?_⟩⟩)))
  (rw [c1z ⟨fH, fK⟩ fU]; exact ⟨_, _, rfl, a8f (s6s rfl rfl rfl (a2v (l := ([] : List Wo)) rfl .nil))⟩)
 have hld : n.led < 9999 := by omega
 refine x8x (hK4 _ _ (exA 3 rfl rfl ?_))
 refine b7s rfl rfl rfl (d1l (n := c9o n) rfl rfl rfl (.cl rfl .nil)) (b0j false (c9o n) (n.led + 1)) (.tup (a3z (e3t _) (a3z (e3u _) (a3z (.pv _) e8j)))) ?_
 refine x1x 4 rfl rfl (y6y (id := 6) y5y s9s rfl (y6y (id := 7) v3v a9u rfl (x3x rfl rfl y5y rfl rfl rfl rfl (x3x rfl rfl v3v rfl rfl rfl rfl (x0x rfl (x2x fun K8 hK8 => ?_))))))
 refine exA 2 rfl rfl (x7x rfl ?_ ?_)<;>intro hc9<;>try simp at hc9
 ·have fU : ¬ a5b n := fun q => by have hb := (c9v fK hld).2 ⟨q.2.1, q.2.2.2⟩; have hx := hc9; simp only [c9o] at hb hx; simp_all
  refine exD (x5x rfl q7q rfl rfl rfl (x9x rfl rfl rfl (a3m true h fH) (x5x rfl y5y rfl rfl rfl ?_)))
  refine rlM [14, 15, 16] [_, _, _] (u0u c n fb) rfl rfl rfl ?_
  refine x4x rfl (x3x rfl rfl q7q rfl rfl rfl rfl (x3x rfl rfl y5y rfl rfl rfl rfl (x0x rfl ⟨by kernel_rfl, x6x ⟨.inr rfl, ?_⟩⟩)))
  (rw [c1z ⟨fH, fK⟩ fU]; exact ⟨_, _, rfl, a8f (s6s rfl rfl rfl (a2v (l := ([] : List Wo)) rfl .nil))⟩)
 have hrb := (c9v fK hld).1 (by have hx := hc9; simp only [c9o] at hx ⊢; exact hx)
 have fM : a5b n := ⟨hid, fUp, hld, hrb.2⟩
 have hEq := e4o (h := h) ⟨fH, fK⟩ fM
 refine x8x (hK8 _ _ (exR (x5x rfl q7q rfl rfl rfl (x9x rfl rfl rfl (a3m true h fH) (y6y (id := 8) q7q b4v rfl (x3x rfl rfl q7q rfl rfl rfl rfl (exA 3 rfl rfl (z0z rfl rfl q1q rfl rfl rfl rfl rfl (by simp only [a1h]; rfl) ?_))))))))
 refine exR (x5x rfl v3v rfl rfl rfl (u3u (id := 9) v4v rfl v3v rfl rfl rfl rfl rfl rfl (y1y rfl q7q rfl rfl v4v rfl rfl (z0z rfl rfl v4v rfl rfl rfl rfl rfl (by simp only [a1h]; rfl) ?_))))
 refine exR (z8z (id := 10) v4v rfl v3v rfl (y1y rfl q7q rfl rfl v4v rfl rfl (z0z rfl rfl v4v rfl rfl rfl rfl rfl (by simp only [a1h]; rfl) ?_)))
 refine exD (x1x 4 rfl rfl (rlB v3v a9u ?_))
 refine x9x rfl rfl rfl (b7f 2 0 0 0 0 (n.led + 1) 0) ?_
 refine x3x rfl rfl q7q rfl rfl rfl rfl (x3x rfl rfl y5y rfl rfl rfl rfl (x0x rfl ⟨by kernel_rfl, x6x ⟨.inr rfl, ?_⟩⟩))
 (rw [show w6w (c9o n) (n.led + 1) = _ from hEq]; rw [d1s ⟨fH, fK⟩ fM]; exact ⟨_, _, rfl, f1x (a := [d9b (c9o n) (n.led + 1)]) (c := ([] : List Wo)) rfl rfl (c9y (.cl rfl .nil))⟩)
end
section
theorem a9l (c : Bool) (h : Hb) (n : Nd) (w : Wo) : a1r Tryz.prog 322 [.agg (a8n true h), .agg (w5w c n), .agg (p4p c w)] (.tup [.agg (a8n true (p6p h n w).1), .agg (w5w true (p6p h n w).2.1), q3q true (p6p h n w).2.2]) := by
 refine pX Tryz.f322 [.agg (a8n true (p6p h n w).1), .agg (w5w true (p6p h n w).2.1), q3q true (p6p h n w).2.2] 14 ?_
 refine exR (u2u (id := 0) rfl rfl rfl (u2u (id := 1) rfl rfl rfl (u2u (id := 2) rfl rfl rfl (y6y (id := 3) q7q b4v rfl (y6y (id := 4) y5y s9s rfl (x0x rfl (exR (z8z (id := 5) v4v rfl v3v rfl (x0x rfl (x2x fun K1 hK1 => ?_))))))))))
 refine exR (x5x rfl q7q rfl rfl rfl (x9x rfl rfl rfl (a8x ..) (x1x 2 rfl rfl (z9z rfl rfl ?_ ?_))))<;>intro hg2<;>try simp at hg2
 ·have fX : ¬ (a0r h ∧ z7z n) := fun q => a0k (by simpa using hg2) q.1
  refine x1x 3 rfl rfl (x7x rfl (fun hc41 => ?_) (fun hc41 => ?_))
  rotate_left
  ·simp at hc41
  try simp at hc41
  try have fX : ¬ (a0r h ∧ z7z n) := fun q => a0k (by simpa using hc41) q.2
  refine exR (rlB q7q b4v ?_)
  refine rlB y5y s9s ?_
  refine x4x rfl (x3x rfl rfl q7q rfl rfl rfl rfl (x3x rfl rfl y5y rfl rfl rfl rfl (x0x rfl (x6x ⟨.inr rfl, ?_⟩))))
  (rw [f1l fX]; exact ⟨_, _, rfl, d4j (b5i (a2v (l := ([] : List Wo)) rfl .nil))⟩)
 have fH : a0r h := a1o.1 (by simpa using hg2)
 refine x5x rfl y5y rfl rfl rfl (z1z rfl rfl (x9x rfl rfl rfl (q9q ..) (x1x 2 rfl rfl (x7x rfl ?_ ?_))))<;>intro hc3<;>try simp at hc3
 ·try have fX : ¬ (a0r h ∧ z7z n) := fun q => a0k (by simpa using hc3) q.2
  refine exR (rlB q7q b4v ?_)
  refine rlB y5y s9s ?_
  refine x4x rfl (x3x rfl rfl q7q rfl rfl rfl rfl (x3x rfl rfl y5y rfl rfl rfl rfl (x0x rfl (x6x ⟨.inr rfl, ?_⟩))))
  (rw [f1l fX]; exact ⟨_, _, rfl, d4j (b5i (a2v (l := ([] : List Wo)) rfl .nil))⟩)
 have fK : z7z n := a1o.1 (by simpa using hc3)
 have fS := fK.1
 have fb := b8c fS
 refine x8x (hK1 _ _ (exR (x5x rfl q7q rfl rfl rfl (x9x rfl rfl rfl (a3m true h fH) (y6y (id := 6) q7q b4v rfl (x3x rfl rfl q7q rfl rfl rfl rfl (exR (x5x rfl y5y rfl rfl rfl ?_))))))))
 refine rlM [10, 11, 12] [_, _, _] (u0u c n fb) rfl rfl rfl ?_
 refine y6y (id := 7) y5y s9s rfl (x3x rfl rfl y5y rfl rfl rfl rfl (x2x fun K4 hK4 => ?_))
 refine exA 4 rfl rfl (z9z rfl rfl ?_ ?_)<;>intro hg5<;>try simp at hg5
 ·have fU : ¬ a1v n w := fun q => by have := q.1; omega
  refine x1x 18 rfl rfl (x7x rfl (fun hc40 => ?_) (fun hc40 => ?_))
  rotate_left
  ·simp at hc40
  try simp at hc40
  try have fU : ¬ a1v n w := fun q => by have := q.2.2.2.2; omega
  refine exD (x1x 3 rfl rfl (x3x rfl rfl q7q rfl rfl rfl rfl (x3x rfl rfl y5y rfl rfl rfl rfl (x0x rfl ⟨by kernel_rfl, x6x ⟨.inr rfl, ?_⟩⟩))))
  (rw [e1a ⟨fH, fK⟩ fU]; exact ⟨_, _, rfl, a8f (s6s rfl rfl rfl (a2v (l := ([] : List Wo)) rfl .nil))⟩)
 try have hid : n.id = 0 := hg5
 refine x1x 5 rfl rfl (z9z rfl rfl ?_ ?_)<;>intro hg6<;>try simp at hg6
 ·try have fU : ¬ a1v n w := fun q => by have := q.2.1; simp_all
  refine x1x 13 rfl rfl (x7x rfl (fun hc39 => ?_) (fun hc39 => ?_))
  rotate_left
  ·simp at hc39
  try simp at hc39
  try have fU : ¬ a1v n w := fun q => by have := q.2.2.2.2; omega
  refine exD (x1x 3 rfl rfl (x3x rfl rfl q7q rfl rfl rfl rfl (x3x rfl rfl y5y rfl rfl rfl rfl (x0x rfl ⟨by kernel_rfl, x6x ⟨.inr rfl, ?_⟩⟩))))
  (rw [e1a ⟨fH, fK⟩ fU]; exact ⟨_, _, rfl, a8f (s6s rfl rfl rfl (a2v (l := ([] : List Wo)) rfl .nil))⟩)
 have fUp : n.up = true := hg6
 refine x5x rfl v3v rfl rfl rfl (z1z rfl rfl (x9x rfl rfl rfl (b1d ..) (x1x 3 rfl rfl (z9z rfl rfl ?_ ?_))))<;>intro hg7<;>try simp at hg7
 ·try have fU : ¬ a1v n w := fun q => absurd q.2.2.1 hg7
  refine x1x 8 rfl rfl (x7x rfl (fun hc38 => ?_) (fun hc38 => ?_))
  rotate_left
  ·simp at hc38
  try simp at hc38
  try have fU : ¬ a1v n w := fun q => by have := q.2.2.2.2; omega
  refine exD (x1x 3 rfl rfl (x3x rfl rfl q7q rfl rfl rfl rfl (x3x rfl rfl y5y rfl rfl rfl rfl (x0x rfl ⟨by kernel_rfl, x6x ⟨.inr rfl, ?_⟩⟩))))
  (rw [e1a ⟨fH, fK⟩ fU]; exact ⟨_, _, rfl, a8f (s6s rfl rfl rfl (a2v (l := ([] : List Wo)) rfl .nil))⟩)
 have fW : a4l w := hg7
 refine x1x 5 rfl rfl (z9z rfl rfl ?_ ?_)<;>intro hg8<;>try simp at hg8
 ·try have fU : ¬ a1v n w := fun q => by have := q.2.2.2.1; omega
  refine x1x 3 rfl rfl (x7x rfl (fun hc37 => ?_) (fun hc37 => ?_))
  rotate_left
  ·simp at hc37
  try simp at hc37
  try have fU : ¬ a1v n w := fun q => by have := q.2.2.2.2; omega
  refine exD (x1x 3 rfl rfl (x3x rfl rfl q7q rfl rfl rfl rfl (x3x rfl rfl y5y rfl rfl rfl rfl (x0x rfl ⟨by kernel_rfl, x6x ⟨.inr rfl, ?_⟩⟩))))
  (rw [e1a ⟨fH, fK⟩ fU]; exact ⟨_, _, rfl, a8f (s6s rfl rfl rfl (a2v (l := ([] : List Wo)) rfl .nil))⟩)
 try have hto : w.to = 0 := hg8
 refine x1x 4 rfl rfl (x7x rfl ?_ ?_)<;>intro o<;>try simp at o
 ·try have fU : ¬ a1v n w := fun q => by have := q.2.2.2.2; omega
  refine exD (x1x 3 rfl rfl (x3x rfl rfl q7q rfl rfl rfl rfl (x3x rfl rfl y5y rfl rfl rfl rfl (x0x rfl ⟨by kernel_rfl, x6x ⟨.inr rfl, ?_⟩⟩))))
  (rw [e1a ⟨fH, fK⟩ fU]; exact ⟨_, _, rfl, a8f (s6s rfl rfl rfl (a2v (l := ([] : List Wo)) rfl .nil))⟩)
 have fM : a1v n w := ⟨hid, fUp, fW, hto, by omega⟩
 refine x8x (hK4 _ _ (x2x fun K10 hK10 => ?_))
 refine exA 2 rfl rfl (y0y (exA 2 rfl rfl (x7x rfl ?_ ?_)))<;>intro hc11<;>try simp at hc11
 ·try have k7 : w.kind = 7 := hc11
  refine exA 4 rfl rfl (x9x rfl rfl rfl (c7f h.outs w.from') ?_)
  refine x1x 3 rfl rfl (y6y (id := 8) v3v a9u rfl (x3x rfl rfl v3v rfl rfl rfl rfl (x0x rfl (exA 3 rfl rfl (z9z rfl rfl ?_ ?_)))))<;>intro hg12<;>try simp at hg12
  ·have hnone : (b5n w.from' h.outs).isSome = false := by simpa using hg12
   refine x1x 5 rfl rfl (x7x rfl (fun hc14 => ?_) (fun hc14 => ?_))
   rotate_left
   ·simp at hc14
   try simp at hc14
   have hl : a4d h w = true := e4p hnone
   have hE : p6p h n w = ({ h with outs := a6x w true h.outs false }, n, []) := by rw [b5p ⟨fH, fK⟩ fM, e5z k7 hl]
   refine exH (x1x 3 rfl rfl (x9x rfl rfl rfl (a4w c w (c9n fW)) ?_))
   refine x9x rfl rfl rfl (a7p h.outs w true (by have := b5m fH.2.2.2.1; omega)) ?_
   refine y1y rfl q7q rfl rfl v4v rfl rfl (z0z rfl rfl v4v rfl rfl rfl rfl rfl (by simp only [a1h]; rfl) ?_)
   refine ⟨by kernel_rfl, hK10 _ _ (exD (x1x 3 rfl rfl (x3x rfl rfl q7q rfl rfl rfl rfl (x3x rfl rfl y5y rfl rfl rfl rfl (x0x rfl ⟨by kernel_rfl, x6x ⟨.inr rfl, ?_⟩⟩)))))⟩
   (rw [hE]; exact ⟨_, _, rfl, a8f (u := { h with outs := a6x w true h.outs false }) (s6s rfl rfl rfl (a2v (l := ([] : List Wo)) rfl .nil))⟩)
  have hsome : (b5n w.from' h.outs).isSome = true := hg12
  refine x1x 6 rfl rfl (y4y rfl ?_ ?_)<;>intro o<;>try simp at o
  ·have hl : ¬ a4d h w = true := fun q => by have := (c9w hsome).1 q; omega
   have hE : p6p h n w = (h, n, []) := by rw [b5p ⟨fH, fK⟩ fM, f1m k7 hl]
   refine x8x (hK10 _ _ (exD (x1x 3 rfl rfl (x3x rfl rfl q7q rfl rfl rfl rfl (x3x rfl rfl y5y rfl rfl rfl rfl (x0x rfl ⟨by kernel_rfl, x6x ⟨.inr rfl, ?_⟩⟩))))))
   (rw [hE]; exact ⟨_, _, rfl, a8f (u := h) (s6s rfl rfl rfl (a2v (l := ([] : List Wo)) rfl .nil))⟩)
  have hl : a4d h w = true := (c9w hsome).2 (by omega)
  have hE : p6p h n w = ({ h with outs := a6x w true h.outs false }, n, []) := by rw [b5p ⟨fH, fK⟩ fM, e5z k7 hl]
  refine exH (x1x 3 rfl rfl (x9x rfl rfl rfl (a4w c w (c9n fW)) ?_))
  refine x9x rfl rfl rfl (a7p h.outs w true (by have := b5m fH.2.2.2.1; omega)) ?_
  refine y1y rfl q7q rfl rfl v4v rfl rfl (z0z rfl rfl v4v rfl rfl rfl rfl rfl (by simp only [a1h]; rfl) ?_)
  refine ⟨by kernel_rfl, hK10 _ _ (exD (x1x 3 rfl rfl (x3x rfl rfl q7q rfl rfl rfl rfl (x3x rfl rfl y5y rfl rfl rfl rfl (x0x rfl ⟨by kernel_rfl, x6x ⟨.inr rfl, ?_⟩⟩)))))⟩
  (rw [hE]; exact ⟨_, _, rfl, a8f (u := { h with outs := a6x w true h.outs false }) (s6s rfl rfl rfl (a2v (l := ([] : List Wo)) rfl .nil))⟩)
 try have n7 : ¬ w.kind = 7 := hc11
 refine exA 2 rfl rfl (x7x rfl ?_ ?_)<;>intro hc15<;>try simp at hc15
 ·try have k3 : w.kind = 3 := hc15
  refine x2x fun K16 hK16 => ?_
  refine exA 6 rfl rfl (z9z rfl rfl ?_ ?_)<;>intro hg17<;>try simp at hg17
  ·try have hr : ¬ w.round = h.round := hg17
   refine x1x 16 rfl rfl (x7x rfl (fun hc24 => ?_) (fun hc24 => ?_))
   rotate_left
   ·simp at hc24
   try simp at hc24
   have hm : ¬ d5q h w := fun q => by obtain ⟨q1, q2, q3, q4⟩ := q; omega
   have hE : p6p h n w = (h, n, []) := by rw [b5p ⟨fH, fK⟩ fM, d4h k3 hm]
   refine exD (x1x 3 rfl rfl (x3x rfl rfl q7q rfl rfl rfl rfl (x3x rfl rfl y5y rfl rfl rfl rfl (x0x rfl ⟨by kernel_rfl, x6x ⟨.inr rfl, ?_⟩⟩))))
   (rw [hE]; exact ⟨_, _, rfl, a8f (u := h) (s6s rfl rfl rfl (a2v (l := ([] : List Wo)) rfl .nil))⟩)
  try have hr : w.round = h.round := hg17
  refine x1x 2 rfl rfl (z1z rfl rfl (z3z rfl q2q rfl (x1x 3 rfl rfl (z9z rfl rfl ?_ ?_))))<;>intro hg18<;>try simp at hg18
  ·try have hz : w.incs.length = 0 := by (rw [hg18]; rfl)
   refine x1x 10 rfl rfl (x7x rfl (fun hc23 => ?_) (fun hc23 => ?_))
   rotate_left
   ·simp at hc23
   try simp at hc23
   have hm : ¬ d5q h w := fun q => by obtain ⟨q1, q2, q3, q4⟩ := q; omega
   have hE : p6p h n w = (h, n, []) := by rw [b5p ⟨fH, fK⟩ fM, d4h k3 hm]
   refine exD (x1x 3 rfl rfl (x3x rfl rfl q7q rfl rfl rfl rfl (x3x rfl rfl y5y rfl rfl rfl rfl (x0x rfl ⟨by kernel_rfl, x6x ⟨.inr rfl, ?_⟩⟩))))
   (rw [hE]; exact ⟨_, _, rfl, a8f (u := h) (s6s rfl rfl rfl (a2v (l := ([] : List Wo)) rfl .nil))⟩)
  have hi1 : ¬ w.incs.length = 0 := by (intro q; exact hg18 (List.length_eq_zero_iff.1 q))
  refine x1x 2 rfl rfl (z1z rfl rfl (z3z rfl q2q rfl (x1x 3 rfl rfl (z9z rfl rfl ?_ ?_))))<;>intro hg19<;>try simp at hg19
  ·try have hz2 : w.versions.length = 0 := by (rw [hg19]; rfl)
   refine x1x 4 rfl rfl (x7x rfl (fun hc22 => ?_) (fun hc22 => ?_))
   rotate_left
   ·simp at hc22
   try simp at hc22
   have hm : ¬ d5q h w := fun q => by obtain ⟨q1, q2, q3, q4⟩ := q; omega
   have hE : p6p h n w = (h, n, []) := by rw [b5p ⟨fH, fK⟩ fM, d4h k3 hm]
   refine exD (x1x 3 rfl rfl (x3x rfl rfl q7q rfl rfl rfl rfl (x3x rfl rfl y5y rfl rfl rfl rfl (x0x rfl ⟨by kernel_rfl, x6x ⟨.inr rfl, ?_⟩⟩))))
   (rw [hE]; exact ⟨_, _, rfl, a8f (u := h) (s6s rfl rfl rfl (a2v (l := ([] : List Wo)) rfl .nil))⟩)
  have hv1 : ¬ w.versions.length = 0 := by (intro q; exact hg19 (List.length_eq_zero_iff.1 q))
  refine x1x 2 rfl rfl (z1z rfl rfl (z3z rfl v4v rfl (x1x 2 rfl rfl (x7x rfl ?_ ?_))))<;>intro o<;>try simp at o
  ·have hm : ¬ d5q h w := fun q => by obtain ⟨q1, q2, q3, q4⟩ := q; omega
   have hE : p6p h n w = (h, n, []) := by rw [b5p ⟨fH, fK⟩ fM, d4h k3 hm]
   refine exD (x1x 3 rfl rfl (x3x rfl rfl q7q rfl rfl rfl rfl (x3x rfl rfl y5y rfl rfl rfl rfl (x0x rfl ⟨by kernel_rfl, x6x ⟨.inr rfl, ?_⟩⟩))))
   (rw [hE]; exact ⟨_, _, rfl, a8f (u := h) (s6s rfl rfl rfl (a2v (l := ([] : List Wo)) rfl .nil))⟩)
  have hm : d5q h w := ⟨hr, hi1, hv1, by omega⟩
  refine x8x (hK16 _ _ (exD (x1x 3 rfl rfl (x9x rfl rfl rfl (a4w c w (c9n fW)) ?_))))
  refine x9x rfl rfl rfl (a7p h.ones w false (by have := b5m fH.2.1; omega)) ?_
  refine y1y rfl q7q rfl rfl v4v rfl rfl (z0z rfl rfl v4v rfl rfl rfl rfl rfl (by simp only [a1h]; rfl) ?_)
  refine ⟨by kernel_rfl, exA 2 rfl rfl (z3z rfl v4v rfl (v6v rfl rfl rfl (y4y rfl ?_ ?_)))⟩<;>intro o<;>try simp at o
  ·have h3 : ¬ (d3y h w).ones.length = 3 := by show ¬ (a6x w false h.ones false).length = 3; omega
   have hE : p6p h n w = (d3y h w, n, []) := by rw [b5p ⟨fH, fK⟩ fM, f1o k3 hm h3]
   refine x8x (hK10 _ _ (exD (x1x 3 rfl rfl (x3x rfl rfl q7q rfl rfl rfl rfl (x3x rfl rfl y5y rfl rfl rfl rfl (x0x rfl ⟨by kernel_rfl, x6x ⟨.inr rfl, ?_⟩⟩))))))
   (rw [hE]; exact ⟨_, _, rfl, a8f (u := d3y h w) (s6s rfl rfl rfl (a2v (l := ([] : List Wo)) rfl .nil))⟩)
  have h3 : (d3y h w).ones.length = 3 := by show (a6x w false h.ones false).length = 3; omega
  have hE : p6p h n w = ({ d3y h w with twos := [f2m h n] }, n, e1x (e8t h.round)) := by rw [b5p ⟨fH, fK⟩ fM, f1n k3 hm h3]
  refine exA 6 rfl rfl (rlB v3v a9u ?_)
  refine u3u (id := 9) v4v rfl v3v rfl rfl rfl rfl rfl rfl (y1y rfl q7q rfl rfl v4v rfl rfl (z0z rfl rfl v4v rfl rfl rfl rfl rfl (by simp only [a1h]; rfl) ?_))
  refine exD (x1x 4 rfl rfl (rlB v3v a9u ?_))
  refine x9x rfl rfl rfl (b7f 4 0 0 0 0 h.round 0) (x3x rfl rfl q7q rfl rfl rfl rfl (x3x rfl rfl y5y rfl rfl rfl rfl (x0x rfl ⟨by kernel_rfl, x6x ⟨.inr rfl, ?_⟩⟩)))
  (rw [hE]; exact ⟨_, _, rfl, f1w (R := h.round) (a := (d3y h w).ones) (b := h.outs) (k := 5) (f := 0) (t := 0) (i := n.inc) (v := n.version) (r := h.round) (g := 0) rfl (s6s rfl rfl rfl (.cl rfl .nil))⟩)
 try have n3 : ¬ w.kind = 3 := hc15
 refine exA 2 rfl rfl (y4y rfl ?_ ?_)<;>intro hc25<;>try simp at hc25
 ·try have n5 : ¬ w.kind = 5 := hc25
  have hE : p6p h n w = (h, n, []) := by rw [b5p ⟨fH, fK⟩ fM, f3n n7 n3 n5]
  refine x8x (hK10 _ _ (exD (x1x 3 rfl rfl (x3x rfl rfl q7q rfl rfl rfl rfl (x3x rfl rfl y5y rfl rfl rfl rfl (x0x rfl ⟨by kernel_rfl, x6x ⟨.inr rfl, ?_⟩⟩))))))
  (rw [hE]; exact ⟨_, _, rfl, a8f (u := h) (s6s rfl rfl rfl (a2v (l := ([] : List Wo)) rfl .nil))⟩)
 try have k5 : w.kind = 5 := hc25
 refine x2x fun K26 hK26 => ?_
 refine exA 6 rfl rfl (z9z rfl rfl ?_ ?_)<;>intro hg27<;>try simp at hg27
 ·try have hr : ¬ w.round = h.round := hg27
  refine x1x 10 rfl rfl (x7x rfl (fun hc36 => ?_) (fun hc36 => ?_))
  rotate_left
  ·simp at hc36
  try simp at hc36
  have hm : ¬ e1y h w := fun q => by obtain ⟨q1, q2, q3⟩ := q; omega
  have hE : p6p h n w = (h, n, []) := by rw [b5p ⟨fH, fK⟩ fM, e1b k5 hm]
  refine exD (x1x 3 rfl rfl (x3x rfl rfl q7q rfl rfl rfl rfl (x3x rfl rfl y5y rfl rfl rfl rfl (x0x rfl ⟨by kernel_rfl, x6x ⟨.inr rfl, ?_⟩⟩))))
  (rw [hE]; exact ⟨_, _, rfl, a8f (u := h) (s6s rfl rfl rfl (a2v (l := ([] : List Wo)) rfl .nil))⟩)
 try have hr : w.round = h.round := hg27
 refine x1x 2 rfl rfl (z1z rfl rfl (z3z rfl v4v rfl (x1x 3 rfl rfl (z9z rfl rfl ?_ ?_))))<;>intro o<;>try simp at o
 ·refine x1x 4 rfl rfl (x7x rfl (fun hc35 => ?_) (fun hc35 => ?_))
  rotate_left
  ·simp at hc35
  try simp at hc35
  have hm : ¬ e1y h w := fun q => by obtain ⟨q1, q2, q3⟩ := q; omega
  have hE : p6p h n w = (h, n, []) := by rw [b5p ⟨fH, fK⟩ fM, e1b k5 hm]
  refine exD (x1x 3 rfl rfl (x3x rfl rfl q7q rfl rfl rfl rfl (x3x rfl rfl y5y rfl rfl rfl rfl (x0x rfl ⟨by kernel_rfl, x6x ⟨.inr rfl, ?_⟩⟩))))
  (rw [hE]; exact ⟨_, _, rfl, a8f (u := h) (s6s rfl rfl rfl (a2v (l := ([] : List Wo)) rfl .nil))⟩)
 refine x1x 2 rfl rfl (z1z rfl rfl (z3z rfl v4v rfl (x1x 2 rfl rfl (x7x rfl ?_ ?_))))<;>intro o<;>try simp at o
 ·have hm : ¬ e1y h w := fun q => by obtain ⟨q1, q2, q3⟩ := q; omega
  have hE : p6p h n w = (h, n, []) := by rw [b5p ⟨fH, fK⟩ fM, e1b k5 hm]
  refine exD (x1x 3 rfl rfl (x3x rfl rfl q7q rfl rfl rfl rfl (x3x rfl rfl y5y rfl rfl rfl rfl (x0x rfl ⟨by kernel_rfl, x6x ⟨.inr rfl, ?_⟩⟩))))
  (rw [hE]; exact ⟨_, _, rfl, a8f (u := h) (s6s rfl rfl rfl (a2v (l := ([] : List Wo)) rfl .nil))⟩)
 have hm : e1y h w := ⟨hr, by omega, by omega⟩
 refine x8x (hK26 _ _ (exD (x1x 3 rfl rfl (x9x rfl rfl rfl (a4w c w (c9n fW)) ?_))))
 refine x9x rfl rfl rfl (a7p h.twos w false (by have := b5m fH.2.2.1; omega)) ?_
 refine y1y rfl q7q rfl rfl v4v rfl rfl (z0z rfl rfl v4v rfl rfl rfl rfl rfl (by simp only [a1h]; rfl) ?_)
 refine ⟨by kernel_rfl, exR (x5x rfl q7q rfl rfl rfl (x9x rfl rfl rfl (c2j true (b0i h w)) ?_))⟩
 refine x1x 5 rfl rfl (exR (x4x rfl (y4y rfl ?_ ?_)))<;>intro hc30<;>try simp at hc30
 ·have hj : ¬ (s3s (b0i h w)).2 = true := by simpa using hc30
  have hE : p6p h n w = ((b0i h w), n, []) := by rw [b5p ⟨fH, fK⟩ fM, f1q k5 hm hj]
  refine x8x (hK10 _ _ (exD (x1x 3 rfl rfl (x3x rfl rfl q7q rfl rfl rfl rfl (x3x rfl rfl y5y rfl rfl rfl rfl (x0x rfl ⟨by kernel_rfl, x6x ⟨.inr rfl, ?_⟩⟩))))))
  (rw [hE]; exact ⟨_, _, rfl, a8f (u := b0i h w) (s6s rfl rfl rfl (a2v (l := ([] : List Wo)) rfl .nil))⟩)
 have hj : (s3s (b0i h w)).2 = true := hc30
 have hjo := e0z hj
 have hE : p6p h n w = ((b0i h w), (s8s n h.round (s3s (b0i h w)).1).1, b4l (b0i h w) (s3s (b0i h w)).1 2) := by rw [b5p ⟨fH, fK⟩ fM, f1p k5 hm hj]
 refine exA 4 rfl rfl (x9x rfl rfl rfl (b0k c n h.round (s3s (b0i h w)).1) ?_)
 refine x1x 3 rfl rfl (x3x rfl rfl y5y rfl rfl rfl rfl (exA 3 rfl rfl (rlB v3v a9u ?_)))
 refine rlM [13] [_] (c2i 6 0 0 0 0 h.round (s3s (b0i h w)).1) rfl rfl rfl ?_
 refine x0x rfl (x2x fun K31 hK31 => ?_)
 refine exR (x0x rfl (y0y ?_))
 refine z2z (ι := Nat) (fun i γ1 => [(17, pI (i : Int))]) (fun i γ1 => [(13, ((0 + 1), .row 79 11 ((b4l (b0i h w) (s3s (b0i h w)).1 i).map (p4p true))))]) (fun i => i ≤ 2) (fun i => 2 - i) (cK [6, 7, 10, 11, 16] rfl) (hK [0, 1, 2, 3, 4, 5, 6, 7, 8, 9, 10, 11, 12] rfl) 0 (by omega) [] cv (HE.row rfl (by rfl) HE.nil) rfl fun i γ1 hi => ?_
 refine x2x fun K32 hK32 => ?_
 refine exA 2 rfl rfl ?_
 refine a1j (n := 2) rfl v4v rfl rfl (by simp [b4l]) ?_
 refine v6v rfl rfl rfl (y4y rfl ?_ ?_)<;>intro o<;>try simp at o
 ·obtain rfl : i = 2 := by omega
  refine z4z (hK31 _ _ (exD (x1x 3 rfl rfl (x3x rfl rfl q7q rfl rfl rfl rfl (x3x rfl rfl y5y rfl rfl rfl rfl (x0x rfl ⟨by kernel_rfl, x6x ⟨.inr rfl, ?_⟩⟩))))))
  (rw [hE]; exact ⟨_, _, rfl, a8f (u := b0i h w) (c9y (a2v (l := b4l (b0i h w) (s3s (b0i h w)).1 2) rfl .nil))⟩)
 have hi2 : i < 2 := by omega
 have hat := e0x (b0i h w) (s3s (b0i h w)).1 hi2
 have hlen : (b4l (b0i h w) (s3s (b0i h w)).1 i).length = 2 := by simp [b4l]
 obtain ⟨b, hb⟩ : ∃ b, (b0i h w).twos[i + 1]? = some b := ⟨_, List.getElem?_eq_getElem (by have := hjo.2.2.1; omega)⟩
 refine x8x (hK32 _ _ (x2x fun K34 hK34 => ?_))
 refine y0y (exH (x1x 6 rfl rfl ?_))
 refine v0v (j := i) rfl rfl v4v rfl v3v rfl rfl (by omega) ?_
 refine y1y rfl v3v rfl rfl q1q rfl rfl (a0x rfl q1q rfl hat rfl ?_)
 refine y7y (j := i + 1) rfl rfl v4v rfl v3v rfl hb ?_
 refine x1x 2 rfl rfl ?_
 refine v0v (j := i) rfl rfl v4v rfl v3v rfl rfl (by omega) ?_
 refine y1y rfl v3v rfl rfl q1q rfl rfl (b3j (c6y (b0i h w) (s3s (b0i h w)).1 (i + 1)) rfl rfl q1q rfl rfl rfl hat rfl (by decide) (.val rfl rfl .nil) (by rw [show b.inc = (c6y (b0i h w) (s3s (b0i h w)).1 (i + 1)).inc from (e0y hb _).symm]; rfl) rfl ?_)
 refine ⟨by kernel_rfl, hK34 _ _ (exG (x4x rfl (z5z (b := 1) rfl rfl (by omega) (x0x rfl ?_))))⟩
 exact ⟨i + 1, ⟨by omega, by omega⟩, [], cv, cv, (HE.row rfl (by rw [d5t _ _ hi2]) HE.nil), hv, rfl⟩
theorem c3t (c : Bool) (h : Hb) (n : Nd) : a1r Tryz.prog 326 [.agg (a8n true h), .agg (w5w c n)] (a0t true (a8e h n)) := by
 refine pX Tryz.f326 [a0t true (a8e h n)] 8 ?_
 refine exR (u2u (id := 0) rfl rfl rfl (u2u (id := 1) rfl rfl rfl (x0x rfl (exR (z8z (id := 2) r3r rfl w7w rfl (x0x rfl (x2x fun K1 hK1 => ?_)))))))
 refine exR (x5x rfl q7q rfl rfl rfl (x9x rfl rfl rfl (a8x ..) (x1x 2 rfl rfl (z9z rfl rfl ?_ ?_))))<;>intro hg2<;>try simp at hg2
 ·have fX : ¬ (a0r h ∧ z7z n ∧ n.id = 0 ∧ h.outs.length = 2) := fun q => a0k (by simpa using hg2) q.1
  refine x1x 14 rfl rfl (x7x rfl (fun hc18 => ?_) (fun hc18 => ?_))
  rotate_left
  ·simp at hc18
  try simp at hc18
  try have fX : ¬ (a0r h ∧ z7z n ∧ n.id = 0 ∧ h.outs.length = 2) := fun q => by have := q.2.2.2; omega
  refine exA 2 rfl rfl (x6x ⟨.inr rfl, ?_⟩)
  (rw [c9x fX]; exact a3y (l := ([] : List Ou)) rfl rfl (fun _ => rfl) rfl)
 have fH : a0r h := a1o.1 (by simpa using hg2)
 refine x5x rfl y5y rfl rfl rfl (z1z rfl rfl (x9x rfl rfl rfl (q9q ..) (x1x 3 rfl rfl (z9z rfl rfl ?_ ?_))))<;>intro hg3<;>try simp at hg3
 ·try have fX : ¬ (a0r h ∧ z7z n ∧ n.id = 0 ∧ h.outs.length = 2) := fun q => a0k (by simpa using hg3) q.2.1
  refine x1x 9 rfl rfl (x7x rfl (fun hc17 => ?_) (fun hc17 => ?_))
  rotate_left
  ·simp at hc17
  try simp at hc17
  try have fX : ¬ (a0r h ∧ z7z n ∧ n.id = 0 ∧ h.outs.length = 2) := fun q => by have := q.2.2.2; omega
  refine exA 2 rfl rfl (x6x ⟨.inr rfl, ?_⟩)
  (rw [c9x fX]; exact a3y (l := ([] : List Ou)) rfl rfl (fun _ => rfl) rfl)
 have fK : z7z n := a1o.1 (by simpa using hg3)
 refine x1x 5 rfl rfl (z9z rfl rfl ?_ ?_)<;>intro hg4<;>try simp at hg4
 ·try have fX : ¬ (a0r h ∧ z7z n ∧ n.id = 0 ∧ h.outs.length = 2) := fun q => by have := q.2.2.1; omega
  refine x1x 4 rfl rfl (x7x rfl (fun hc16 => ?_) (fun hc16 => ?_))
  rotate_left
  ·simp at hc16
  try simp at hc16
  try have fX : ¬ (a0r h ∧ z7z n ∧ n.id = 0 ∧ h.outs.length = 2) := fun q => by have := q.2.2.2; omega
  refine exA 2 rfl rfl (x6x ⟨.inr rfl, ?_⟩)
  (rw [c9x fX]; exact a3y (l := ([] : List Ou)) rfl rfl (fun _ => rfl) rfl)
 try have hid : n.id = 0 := hg4
 refine x1x 2 rfl rfl (z1z rfl rfl (z3z rfl v4v rfl (x1x 2 rfl rfl (x7x rfl ?_ ?_))))<;>intro o<;>try simp at o
 ·try have fX : ¬ (a0r h ∧ z7z n ∧ n.id = 0 ∧ h.outs.length = 2) := fun q => by have := q.2.2.2; omega
  refine exA 2 rfl rfl (x6x ⟨.inr rfl, ?_⟩)
  (rw [c9x fX]; exact a3y (l := ([] : List Ou)) rfl rfl (fun _ => rfl) rfl)
 have h2 : h.outs.length = 2 := by omega
 have fT : a0r h ∧ z7z n ∧ n.id = 0 ∧ h.outs.length = 2 := ⟨fH, fK, hid, h2⟩
 have hno := (q5q fK.1).2.2.1
 have hwo := d4i fH.2.2.2.1
 refine x8x (hK1 _ _ (exA 3 rfl rfl (exA 3 rfl rfl ?_)))
 refine s4s (zs := n.outs.map a0w) rfl rfl r3r rfl w7w rfl rfl rfl (w3w (fun _ => rfl) _) rfl (by (simp only [a1c, a0m, a0u, a0v, a1z, a4b, T141]; omega)) ?_
 refine x0x rfl (x2x fun K6 hK6 => ?_)
 refine exR (x0x rfl (y0y ?_))
 refine z2z (ι := Nat) (fun i γ1 => [(5, .ref 2 (γ1 2)), (6, pI (a2b n.g (h.outs.take i))), (7, pI (i : Int))]) (fun i γ1 => [(2, ((γ1 2), .row 141 5 ((n.outs ++ (h.outs.take i).flatMap Wo.outs).map a0w))), (4, ((γ1 4), .dead))]) (fun i => i ≤ h.outs.length) (fun i => h.outs.length - i) (y3y 2 rfl Cov.nil) (hK [0, 1, 3, 5, 6, 7] rfl) 0 (by omega) [0, 0, _, 0, _] (y3y 5 rfl (Cov.cons' (t := 6) rfl (rfl) (y3y 7 rfl Cov.nil))) (HE.row rfl (by simp) (HE.kill rfl HE.nil)) rfl fun i γ1 hi => ?_
 refine x2x fun K7 hK7 => ?_
 refine exA 3 rfl rfl (z3z rfl v4v rfl (v6v rfl rfl rfl (x7x rfl ?_ ?_)))<;>intro o<;>try simp at o
 ·obtain ⟨w, hw⟩ := gE h.outs i
  have hw96 := hwo w (List.mem_of_getElem? hw)
  have hfl := a1q (f := Wo.outs) (k := 96) (l := h.outs.take i) fun a ha => hwo a (List.mem_of_mem_take ha)
  have htl : (h.outs.take i).length ≤ 2 := by rw [List.length_take]; omega
  refine x8x (hK7 _ _ (x2x fun K9 hK9 => ?_))
  refine y0y ?_
  refine a0c (ι := Unit) (fun _i γ2 => [(6, pI (a2b n.g (h.outs.take (i + 1))))]) (fun _i γ2 => []) (fun _i => True) (cK [2, 5, 7] rfl) (hK [0, 1, 2, 3, 4, 5, 6, 7] rfl) ?_ fun _i γ2 hi => ?_
  ·refine exA 3 rfl rfl (y7y rfl rfl v4v rfl v3v rfl hw (x1x 4 rfl rfl (y4y rfl ?_ ?_)))<;>intro o<;>try simp at o
   ·have hlt : ¬ w.g < a2b n.g (h.outs.take i) := by omega
    refine x8x ?_
    exact ⟨(), trivial, [], (Cov.cons' (t := 6) rfl (congrArg (fun v : Int => AV.pv (.int .i64 v)) (d4g hw hlt)) Cov.nil), cv, hv, hv, rfl⟩
   have hlt : w.g < a2b n.g (h.outs.take i) := by omega
   refine exG (x1x 3 rfl rfl (y7y rfl rfl v4v rfl v3v rfl hw (x1x 3 rfl rfl ?_)))
   exact ⟨(), trivial, [], (Cov.cons' (t := 6) rfl (congrArg (fun v : Int => AV.pv (.int .i64 v)) (d4f hw hlt)) Cov.nil), cv, hv, hv, rfl⟩
  ·try dsimp only [b2o, b2p]
   refine exG (x1x 4 rfl rfl (y7y rfl rfl v4v rfl v3v rfl hw (x1x 2 rfl rfl ?_)))
   refine s4s (zs := (n.outs ++ (h.outs.take i).flatMap Wo.outs ++ w.outs).map a0w) rfl rfl r3r rfl w7w rfl rfl rfl (w3w (fun _ => rfl) _) (a9b _ _ _) (by (simp only [a1c, a0m, a0u, a0v, a1z, a4b, T141]; omega)) ?_
   refine x0x rfl (hK9 _ _ (exG (x4x rfl (z5z (b := 1) rfl rfl (by omega) (x0x rfl ?_)))))
   exact ⟨i + 1, ⟨by omega, by omega⟩, [0, 0, _, 0, _], cv, cv, (HE.row rfl (by rw [a5t hw, List.append_assoc]) (HE.kill rfl HE.nil)), hv, rfl⟩
 obtain rfl : i = h.outs.length := by omega
 rw [List.take_length]
 refine z4z (hK6 _ _ ?_)
 have hall : (n.outs ++ h.outs.flatMap Wo.outs).length ≤ 10000 := by have hfl := a1q (f := Wo.outs) (k := 96) (l := h.outs) hwo; rw [List.length_append]; omega
 obtain ⟨A, hA⟩ : ∃ A, A = (n.outs ++ h.outs.flatMap Wo.outs) := ⟨_, rfl⟩
 rw [← hA] at hall ⊢
 refine a0l 5 rfl rfl (fun _ => rfl) ?_
 refine exR (z8z (id := 5) r3r rfl w7w rfl (x0x rfl (x2x fun K11 hK11 => ?_)))
 refine exR (x0x rfl (y0y ?_))
 refine z2z (ι := Nat) (fun j γ3 => [(8, .ref 5 (γ3 5)), (9, pI (j : Int))]) (fun j γ3 => [(5, ((γ3 5), .row 141 5 (((A.take j).filter (d1w (a2b n.g h.outs))).map a0w))), (6, ((γ3 6), .dead)), (7, ((γ3 7), .dead))]) (fun j => j ≤ A.length) (fun j => A.length - j) (cK [5, 6] rfl) (hK [0, 1, 2, 3, 4] rfl) 0 (by omega) [0, 0, 0, 0, 0, _, _, _] cv (HE.row rfl (by rw [List.take_zero]; rfl) (HE.kill rfl (HE.kill rfl HE.nil))) rfl fun j γ3 hi => ?_
 refine x2x fun K12 hK12 => ?_
 refine exA 2 rfl rfl (z3z rfl r3r rfl (v6v rfl rfl rfl (y4y rfl ?_ ?_)))<;>intro o<;>try simp at o
 ·obtain rfl : j = A.length := by omega
  have hfl3 : (A.filter (d1w (a2b n.g h.outs))).length ≤ 10000 := Nat.le_trans (List.length_filter_le _ _) (by omega)
  refine z4z (hK11 _ _ ?_)
  rw [List.take_length]
  refine a0l 8 rfl rfl (fun _ => rfl) ?_
  refine exR (x4x rfl (x9x rfl rfl rfl (a4v true (A.filter (d1w (a2b n.g h.outs))) (by omega)) ?_))
  refine x0x rfl (x6x ⟨.inr rfl, ?_⟩)
  (rw [e6a fT, ← hA]; exact y9y rfl rfl rfl)
 obtain ⟨p, hp⟩ := gE A j
 have hfl2 : ((A.take j).filter (d1w (a2b n.g h.outs))).length ≤ 10000 := Nat.le_trans (List.length_filter_le _ _) (by rw [List.length_take]; omega)
 refine x8x (hK12 _ _ (x2x fun K14 hK14 => ?_))
 refine y0y (exA 2 rfl rfl (y7y rfl rfl r3r rfl w7w rfl hp (x1x 4 rfl rfl (y4y rfl ?_ ?_))))<;>intro o<;>try simp at o
 ·have hq : ¬ d1w (a2b n.g h.outs) p = true := fun q => by have := of_decide_eq_true q; omega
  refine x8x (hK14 _ _ (exG (x4x rfl (z5z (b := 1) rfl rfl (by omega) (x0x rfl ?_)))))
  exact ⟨j + 1, ⟨by omega, by omega⟩, [0, 0, 0, 0, 0, _, _, _], cv, cv, (HE.row rfl (by rw [a0z hp]; rw [if_neg hq, List.append_nil]) (HE.kill rfl (HE.kill rfl HE.nil))), hv, rfl⟩
 have hq : d1w (a2b n.g h.outs) p = true := decide_eq_true (by omega)
 refine exG (x1x 3 rfl rfl (y7y rfl rfl r3r rfl w7w rfl hp ?_))
 refine w4w (out := .agg (a0w p)) rfl w7w rfl ?_
 refine u3u (id := 6) r3r rfl w7w rfl rfl rfl rfl rfl rfl ?_
 refine u6u (zs := ((A.take j).filter (d1w (a2b n.g h.outs)) ++ [p]).map a0w) rfl rfl r3r rfl w7w rfl rfl rfl rfl (by rfl) (w2w _ _ _) (by (simp only [a1c, a0m, a0u, a0v, a1z, a4b, T141]; omega)) ?_
 refine x0x rfl (hK14 _ _ (exG (x4x rfl (z5z (b := 1) rfl rfl (by omega) (x0x rfl ?_)))))
 exact ⟨j + 1, ⟨by omega, by omega⟩, [0, 0, 0, 0, 0, _, _, _], cv, cv, (HE.row rfl (by rw [a0z hp]; rw [if_pos hq]) (HE.kill rfl (HE.kill rfl HE.nil))), hv, rfl⟩
end
section
variable {W : Tw} {i : Nat}
theorem a5w (h : b8l W) {m : Nd} (hm : ndI m) : b8l { W with nodes := W.nodes.set i m } := ⟨h.1, by show (W.nodes.set i m).length = 3; rw [List.length_set]; exact h.2.1, f3o h.2.2.1 hm, h.2.2.2⟩
variable {r : List Wo}
theorem a6m (h : b8l W) (h1 : r.length ≤ 40) (h2 : ∀ x ∈ r, c6z x) : b8l { W with radio := r } := ⟨h.1, h.2.1, h.2.2.1, h1, h2, h.2.2.2.2.2⟩
theorem c9z (h : b8l W) {u : Hb} (hu : a0r u) : b8l { W with hub := u } := ⟨h.1, h.2.1, h.2.2.1, h.2.2.2.1, h.2.2.2.2.1, hu, h.2.2.2.2.2.2⟩
theorem e9n (h : b8l W) {s : List Ou} (hs : s.length ≤ 1000000) : b8l { W with sink := s } := ⟨h.1, h.2.1, h.2.2.1, h.2.2.2.1, h.2.2.2.2.1, h.2.2.2.2.2.1, hs⟩
theorem b3d (h : b8l W) (hi : i ≤ 2) : ∃ n, W.nodes[i]? = some n ∧ ndI n := by
 obtain ⟨n, hn⟩ := e9f h.2.1 i (by omega)
 exact ⟨n, hn, h.2.2.1 n (List.mem_of_getElem? hn)⟩
variable {m : List Wo}
theorem b3e (h : b8l W) (k : ∀ x ∈ m, c6z x) : b8l { W with radio := b1a W.radio m } := a6m h (e4l h.2.2.2.1) (e4m h.2.2.2.2.1 k)
theorem e1j {w : Wo} (h : m[i]? = some w) (hl : (r ++ m.take i).length < 40) : r ++ m.take i ++ [w] = r ++ m.take (i + 1) := by rw [w1w h, List.append_assoc]
theorem d4k (hr : r.length ≤ 40) (hi : i ≤ m.length) (h40 : r.length + i ≤ 40) (h : ¬ (i < m.length ∧ r.length + i < 40)) : r ++ m.take i = b1a r m := by
 unfold b1a
 rcases Nat.lt_or_ge i m.length with h1 | h1
 ·rw [show 40 - r.length = i from by omega]
 ·rw [List.take_of_length_le h1, List.take_of_length_le (by omega)]
variable {h : Hb} {n : Nd}
theorem e4s : (a8e h n).length ≤ 10000 := by
 by_cases k : a0r h ∧ z7z n ∧ n.id = 0 ∧ h.outs.length = 2
 ·rw [e6a k, b3o]
  have hno := (q5q k.2.1.1).2.2.1
  have hwo := d4i k.1.2.2.2.1
  have hfl := a1q (f := Wo.outs) (k := 96) (l := h.outs) hwo
  refine Nat.le_trans (List.length_filter_le _ _) ?_
  rw [List.length_append]; omega
 ·rw [c9x k]; exact Nat.zero_le _

def kpB : Bool → List Nat
 | true => [0]
 | false => [0, 1]
def kpS : List Wo → List Nat
 | [] => [0]
 | _ :: _ => []
theorem d1y (γ : Nat → Nat) (b : Bool) (f : List Nat → Nat → Nat) (h0 : f [γ 0, γ 1] 0 = γ 0) (h1 : f [γ 0, γ 1] 1 = γ 1) : (kpB b).map (f [γ 0, γ 1]) = (kpB b).map γ := by
 cases b <;> simp [kpB, h0, h1]
theorem c2m (k : a0r h ∧ z7z n) : ((r8r h n).2.2 = [] ∧ ¬ n.led < (r8r h n).2.1.led) ∨ n.led < (r8r h n).2.1.led := by
 by_cases m : a5b n
 ·rw [d1s k m]; exact .inr (by show n.led < n.led + 1; omega)
 ·rw [c1z k m]; exact .inl ⟨rfl, by show ¬ n.led < n.led; omega⟩
variable {j : Nat}
theorem e1k (h : b8l W) : (W.radio.take j ++ W.radio.drop (j + 1)).length ≤ 40 := by
 have := h.2.2.2.1
 simp only [List.length_append, List.length_take, List.length_drop]; omega
theorem e1l (h : b8l W) : ∀ q ∈ W.radio.take j ++ W.radio.drop (j + 1), c6z q := fun q hq =>
 h.2.2.2.2.1 q ((List.mem_append.1 hq).elim List.mem_of_mem_take List.mem_of_mem_drop)
theorem e9o {W T : Tw} (h : b8l W) (k : b8l T) : b8l { W with nodes := T.nodes } := ⟨h.1, k.2.1, k.2.2.1, h.2.2.2⟩
theorem b1e (bs : List Nat) (p n : Nat) : pk bs p n ≤ n := by
 rcases Nat.eq_zero_or_pos n with h | h
 ·subst h; unfold pk; rw [if_pos (.inl (by omega))]; exact Nat.le_refl _
 ·exact Nat.le_of_lt (a3u bs p n h)

def pSm (S : Sm) (p : Nat) : Sm := ⟨S.w, S.list, p⟩
theorem a3t {S : Sm} {c d p : Nat} (h : smOk S c) (hd : c ≤ d) (hp : p ≤ d) : smOk (pSm S p) d := ⟨h.1, Nat.le_trans h.2.1 hd, hp⟩

def f2n (l : List Ru) : Prop := ∀ (i : Nat) r, l[i]? = some r → r.kind = (i : Int) ∧ c7j r
theorem ru0 {k : Int} : c7j ⟨k, []⟩ := ⟨fun o h => (by cases h), Nat.zero_le _, Nat.zero_le _, Nat.zero_le _⟩
theorem f1z {l : List Ru} (hl : l.length ≤ 3) (h : f2n l) : e0j ⟨l⟩ := ⟨by show l.length ≤ 4; omega, fun i r hr => by
 have hi : i < l.length := (List.getElem?_eq_some_iff.1 hr).1
 have h1 := h i r hr
 refine ⟨by omega, h1.2, fun p h0 hp => ?_⟩
 have h2 := h _ p hp
 omega⟩
theorem f2a {l : List Ru} {ops : List Op_} {q q1 q2 : Nat} (h : f2n l) (ho : c7j ⟨(l.length : Int), ops⟩) (hl : l.length < 3) (h3 : q1 ≤ q + 40 * l.length) (h4 : q2 ≤ q1 + 40) : (l ++ [(⟨(l.length : Int), ops⟩ : Ru)]).length ≤ 3 ∧ f2n (l ++ [(⟨(l.length : Int), ops⟩ : Ru)]) ∧ q2 ≤ q + 40 * (l ++ [(⟨(l.length : Int), ops⟩ : Ru)]).length := by
 rw [List.length_append]
 refine ⟨by show l.length + 1 ≤ 3; omega, fun i r hr => ?_, by show q2 ≤ q + 40 * (l.length + 1); omega⟩
 rcases Nat.lt_or_ge i l.length with hi | hi
 ·rw [List.getElem?_append_left hi] at hr; exact h i r hr
 ·rw [List.getElem?_append_right hi] at hr
  cases e : i - l.length with
  | zero => rw [e] at hr; cases hr; exact ⟨by show (l.length : Int) = (i : Int); omega, ho⟩
  | succ n => rw [e] at hr; simp at hr
variable {l : List Ap}
theorem f2b {rs : List Ru} {p0 q q1 : Nat} (h : ∀ a ∈ l, e0j a) (ha : e0j ⟨rs⟩) (hl : l.length < 4) (h3 : q ≤ p0 + 120 * l.length) (h4 : q1 ≤ q + 40 * rs.length) (hr : rs.length ≤ 3) : (l ++ [(⟨rs⟩ : Ap)]).length ≤ 4 ∧ (∀ a ∈ l ++ [(⟨rs⟩ : Ap)], e0j a) ∧ q1 ≤ p0 + 120 * (l ++ [(⟨rs⟩ : Ap)]).length := by
 rw [List.length_append]
 refine ⟨by show l.length + 1 ≤ 4; omega, fun a hm => ?_, by show q1 ≤ p0 + 120 * (l.length + 1); omega⟩
 rcases List.mem_append.1 hm with hm | hm
 ·exact h a hm
 ·rw [List.mem_singleton.1 hm]; exact ha
theorem e4t (h : a6w l) : b8l ⟨0, l, a9j 3, [], hb0, []⟩ := ⟨h, rfl, fun n hn => by
 obtain ⟨i, hi, rfl⟩ := List.mem_map.1 hn
 have := List.mem_range.1 hi
 exact e9h _ (by omega), Nat.zero_le _, fun x h => (by cases h), e0s, Nat.zero_le _⟩
variable {p c : Nat}
theorem e4u (h : a6w l) (hp : p ≤ c) : smOk ⟨⟨0, l, a9j 3, [], hb0, []⟩, [], p⟩ c := ⟨e4t h, Nat.zero_le _, hp⟩
end
section
theorem b9l (r : List Wo) (hr : r.length ≤ 40) : Meth Tryz.prog 312 1 [0] [.ref 0 0, q3q true ([] : List Wo)] [(0, (0, .row 79 11 ((r).map (p4p true))))] (.ref 0 0) [(0, (0, .row 79 11 ((r).map (p4p true))))] := by
 refine mX Tryz.f312 [.ref 0 0] 1 2 fun γ => ?_
 refine exR (x0x rfl (x2x fun K1 hK1 => ?_))
 refine exR (x0x rfl (y0y ?_))
 refine z2z (ι := Nat) (fun i γ1 => [(0, .ref 0 (γ 0)), (5, pI (i : Int))]) (fun i γ1 => [(0, ((γ 0), .row 79 11 ((r).map (p4p true)))), (1, ((γ1 1), .dead)), (2, ((γ1 2), .dead))]) (fun i => i = 0) (fun i => i) (y3y 1 rfl Cov.nil) HE.nil 0 rfl [0, _, _] cv hv rfl fun i γ1 hi => ?_
 subst hi
 refine x2x fun K2 hK2 => ?_
 refine exA 2 rfl rfl (z3z rfl v4v rfl (x1x 2 rfl rfl (f3b rfl rfl (fun hg3 => ?_) (fun hg3 => ?_))))
 ·(simp at hg3; done)
 try simp at hg3
 refine x1x 3 rfl rfl (x7x rfl (fun hc5 => ?_) (fun hc5 => ?_))
 ·(simp at hc5; done)
 try simp at hc5
 refine z4z (hK1 _ _ (exA 2 rfl rfl (x6x ?_)))
 exact ⟨.inr rfl, [γ 0], rfl, rfl, hv⟩
theorem b9m (r m : List Wo) (hr : r.length ≤ 40) : Meth Tryz.prog 312 1 [] [.ref 0 0, q3q true m] [(0, (0, .row 79 11 ((r).map (p4p true))))] (.ref 0 0) [(0, (0, .row 79 11 ((b1a r m).map (p4p true))))] := by
 refine mX Tryz.f312 [.ref 0 0] 1 2 fun γ => ?_
 refine exR (x0x rfl (x2x fun K1 hK1 => ?_))
 refine exR (x0x rfl (y0y ?_))
 refine z2z (ι := Nat) (fun i γ1 => [(0, .ref 0 (γ1 0)), (5, pI (i : Int))]) (fun i γ1 => [(0, ((γ1 0), .row 79 11 ((r ++ m.take i).map (p4p true)))), (1, ((γ1 1), .dead)), (2, ((γ1 2), .dead))]) (fun i => i ≤ m.length ∧ r.length + i ≤ 40) (fun i => m.length - i) (y3y 1 rfl Cov.nil) HE.nil 0 ⟨Nat.zero_le _, hr⟩ [_, _, _] cv (HE.row rfl (by simp) (HE.kill rfl (HE.kill rfl HE.nil))) rfl fun i γ1 hi => ?_
 obtain ⟨h1, h2⟩ := hi
 have hl : (r ++ m.take i).length = r.length + i := by simp; omega
 refine x2x fun K2 hK2 => ?_
 refine exA 2 rfl rfl (z3z rfl v4v rfl (x1x 2 rfl rfl (z9z rfl rfl ?_ ?_)))<;>intro h<;>try simp at h
 ·refine x1x 3 rfl rfl (x7x rfl (fun hc6 => ?_) (fun hc6 => ?_))
  ·simp at hc6
  try simp at hc6
  refine z4z (hK1 _ _ (exA 2 rfl rfl (x6x ?_)))
  exact ⟨.inr rfl, [_], rfl, rfl, HE.row rfl (by rw [d4k hr h1 h2 (by omega)]) HE.nil⟩
 refine x4x rfl (z1z rfl rfl ?_)
 refine a1j (n := r.length + i) rfl v4v rfl rfl (by rw [List.length_map]; exact hl) ?_
 refine x1x 2 rfl rfl (y4y rfl ?_ ?_)<;>intro h<;>try simp at h
 ·refine z4z (hK1 _ _ (exA 2 rfl rfl (x6x ?_)))
  exact ⟨.inr rfl, [_], rfl, rfl, HE.row rfl (by rw [d4k hr h1 h2 (by omega)]) HE.nil⟩
 obtain ⟨w, hw⟩ := gE m i
 refine x8x (hK2 _ _ (x2x fun K5 hK5 => ?_))
 refine y0y (exG (x1x 3 rfl rfl (y7y rfl rfl v4v rfl v3v rfl hw (u5u rfl v3v rfl rfl (u3u (id := 1) v4v rfl v3v rfl rfl rfl rfl rfl rfl ?_)))))
 refine u6u (zs := (r ++ m.take i ++ [w]).map (p4p true)) rfl rfl v4v rfl v3v rfl rfl rfl rfl (by rfl) (w2w (p4p true) _ w) (by (simp only [a1c, a0m, a0u, a0v, a1z, a4b, T79]; omega)) ?_
 refine x0x rfl (hK5 _ _ (exG (x4x rfl (z5z (b := 1) rfl rfl (by omega) (x0x rfl ?_)))))
 exact ⟨i + 1, ⟨⟨by omega, by omega⟩, by omega⟩, [_, _, _], cv, cv, (HE.row rfl (by rw [← e1j hw (by rw [hl]; omega)]) (HE.kill rfl (HE.kill rfl HE.nil))), hv, rfl⟩
theorem a1p (r m : List Wo) (hr : r.length ≤ 40) : Meth Tryz.prog 312 1 (kpS m) [.ref 0 0, q3q true m] [(0, (0, .row 79 11 ((r).map (p4p true))))] (.ref 0 0) [(0, (0, .row 79 11 ((b1a r m).map (p4p true))))] := by
 cases m with
 | nil =>
  have e : b1a r [] = r := by simp [b1a]
  rw [e]; exact b9l r hr
 | cons x l => exact b9m r (x :: l) hr
end
section
theorem c2n (c : Bool) (n : Nd) : a1r Tryz.prog 54 [.agg (w5w c n)] (.agg (w5w true (a7l n))) := by
 refine pX Tryz.f54 [.agg (w5w true (a7l n))] 6 ?_
 refine exR (u2u (id := 0) rfl rfl rfl (y6y (id := 1) y5y s9s rfl (x2x fun K1 hK1 => ?_)))
 refine exR (x5x rfl y5y rfl rfl rfl (x9x rfl rfl rfl (q9q ..) (a1s rfl (x7x rfl ?_ ?_))))<;>intro hc2<;>try simp at hc2
 ·have fX : ¬ z7z n := a0k (by simpa using hc2)
  refine exR (rlB y5y s9s ?_)
  refine x3x rfl rfl y5y rfl rfl rfl rfl (x6x ⟨.inr rfl, ?_⟩)
  (rw [d5h fX]; exact ⟨_, _, rfl, d9x⟩)
 have fK : z7z n := a1o.1 (by simpa using hc2)
 have fS := fK.1
 have fB := q5q fS
 have fb := b8c fS
 refine x8x (hK1 _ _ (exR (x5x rfl y5y rfl rfl rfl ?_)))
 refine rlM [3, 4, 5] [_, _, _] (a6h c n fb.1 fb.2.1 fb.2.2.1 fb.2.2.2.1) rfl rfl rfl ?_
 refine y6y (id := 2) y5y s9s rfl (x3x rfl rfl y5y rfl rfl rfl rfl (exR (y1y rfl y5y rfl rfl d6u rfl rfl (z0z rfl rfl d6u rfl rfl rfl rfl rfl (by simp only [a1h]; rfl) ?_))))
 refine exR (x5x rfl y5y rfl rfl rfl (x3x rfl rfl y5y rfl rfl rfl rfl (x6x ⟨.inr rfl, ?_⟩)))
 (rw [b7z fK]; exact ⟨_, _, rfl, b5h (n := ({ a2o n with up := false } : Nd)) rfl rfl rfl⟩)
theorem c2o (c : Bool) (n : Nd) : a1r Tryz.prog 58 [.agg (w5w c n)] (.agg (w5w true (a4x n))) := by
 refine pX Tryz.f58 [.agg (w5w true (a4x n))] 6 ?_
 refine exR (u2u (id := 0) rfl rfl rfl (y6y (id := 1) y5y s9s rfl (x2x fun K1 hK1 => ?_)))
 refine exR (x5x rfl y5y rfl rfl rfl (x9x rfl rfl rfl (q9q ..) (a1s rfl (x7x rfl ?_ ?_))))<;>intro hc2<;>try simp at hc2
 ·have fX : ¬ z7z n := a0k (by simpa using hc2)
  refine exR (rlB y5y s9s ?_)
  refine x3x rfl rfl y5y rfl rfl rfl rfl (x6x ⟨.inr rfl, ?_⟩)
  (rw [d5i fX]; exact ⟨_, _, rfl, d9x⟩)
 have fK : z7z n := a1o.1 (by simpa using hc2)
 have fS := fK.1
 have fB := q5q fS
 have fb := b8c fS
 refine x8x (hK1 _ _ (x2x fun K3 hK3 => ?_))
 refine exD (x1x 3 rfl rfl (z9z rfl rfl ?_ ?_))<;>intro j<;>try simp at j
 ·refine x1x 4 rfl rfl ⟨by kernel_rfl, x7x rfl (fun hc6 => ?_) (fun hc6 => ?_)⟩
  rotate_left
  ·simp at hc6
  try simp at hc6
  have fU : n.up = true ∨ 9999 ≤ n.inc := by (simp_all; done)
  refine exR (x5x rfl y5y rfl rfl rfl ?_)
  refine rlM [3, 4, 5] [_, _, _] (u0u c n fb) rfl rfl rfl ?_
  refine x3x rfl rfl y5y rfl rfl rfl rfl (x6x ⟨.inr rfl, ?_⟩)
  (rw [b3n fK fU]; exact ⟨_, _, rfl, b5h rfl rfl rfl⟩)
 refine x1x 2 rfl rfl (z1z rfl rfl (x9x rfl rfl rfl (w0w ..) (x1x 2 rfl rfl ⟨by kernel_rfl, x7x rfl ?_ ?_⟩)))<;>intro hc5<;>try simp at hc5
 ·have fU : n.up = true ∨ 9999 ≤ n.inc := .inr hc5
  refine exR (x5x rfl y5y rfl rfl rfl ?_)
  refine rlM [3, 4, 5] [_, _, _] (u0u c n fb) rfl rfl rfl ?_
  refine x3x rfl rfl y5y rfl rfl rfl rfl (x6x ⟨.inr rfl, ?_⟩)
  (rw [b3n fK fU]; exact ⟨_, _, rfl, b5h rfl rfl rfl⟩)
 have fU : ¬ (n.up = true ∨ 9999 ≤ n.inc) := by rintro (h | h) <;> first | omega | (simp_all; done)
 refine x8x (hK3 _ _ (exR (x5x rfl y5y rfl rfl rfl ?_)))
 refine rlM [3, 4, 5] [_, _, _] (a6h c n fb.1 fb.2.1 fb.2.2.1 fb.2.2.2.1) rfl rfl rfl ?_
 refine y6y (id := 2) y5y s9s rfl (x3x rfl rfl y5y rfl rfl rfl rfl (exR (y1y rfl y5y rfl rfl d6u rfl rfl (z0z rfl rfl d6u rfl rfl rfl rfl rfl (by simp only [a1h]; rfl) ?_))))
 refine exA 2 rfl rfl ?_
 refine a0y (.int .i64 (n.inc + 1)) rfl rfl rfl (a9c rfl rfl (by have := fS.1.2.1; omega) (by have := fS.1.2.1; omega)) ?_
 refine y1y rfl y5y rfl rfl q1q rfl rfl (z0z rfl rfl q1q rfl rfl rfl rfl rfl (by simp only [a1h]; rfl) ?_)
 refine exR (y1y rfl y5y rfl rfl q1q rfl rfl (z0z rfl rfl q1q rfl rfl rfl rfl rfl (by simp only [a1h]; rfl) ?_))
 refine exR (x5x rfl y5y rfl rfl rfl (x3x rfl rfl y5y rfl rfl rfl rfl (x6x ⟨.inr rfl, ?_⟩)))
 (rw [b8a fK fU]; exact ⟨_, _, rfl, b5h (n := ({ a2o n with up := true, inc := n.inc + 1, version := 1 } : Nd)) rfl rfl rfl⟩)
end
section
theorem c2p (c : Bool) (n : Nd) : a1r Tryz.prog 49 [.agg (w5w c n)] (q3q true (c1g n)) := by
 refine pX Tryz.f49 [q3q true (c1g n)] 8 ?_
 refine exR (u2u (id := 0) rfl rfl rfl (x0x rfl (exR (z8z (id := 1) v4v rfl v3v rfl (x0x rfl (x2x fun K1 hK1 => ?_))))))
 refine exR (x5x rfl y5y rfl rfl rfl (x9x rfl rfl rfl (q9q ..) (x1x 2 rfl rfl (z9z rfl rfl ?_ ?_))))<;>intro hg2<;>try simp at hg2
 ·have fX : ¬ (z7z n ∧ n.up = true) := fun h => a0k (by simpa using hg2) h.1
  refine x1x 3 rfl rfl (x7x rfl (fun hc11 => ?_) (fun hc11 => ?_))
  rotate_left
  ·simp at hc11
  try simp at hc11
  refine exA 2 rfl rfl (x6x ⟨.inr rfl, ?_⟩)
  (rw [d8w fX]; exact a3y (l := ([] : List Wo)) rfl rfl (fun _ => rfl) rfl)
 have fK : z7z n := a1o.1 (by simpa using hg2)
 have fS := fK.1
 have fB := q5q fS
 have fV := fS.2.2.2.2.2.1
 refine x1x 4 rfl rfl (x7x rfl ?_ ?_)<;>intro hc3<;>try simp at hc3
 ·have fX : ¬ (z7z n ∧ n.up = true) := by (intro h; simp_all; done)
  refine exA 2 rfl rfl (x6x ⟨.inr rfl, ?_⟩)
  (rw [d8w fX]; exact a3y (l := ([] : List Wo)) rfl rfl (fun _ => rfl) rfl)
 have fU : n.up = true := hc3
 refine x8x (hK1 _ _ (x2x fun K4 hK4 => ?_))
 refine exR (x0x rfl (y0y ?_))
 refine z2z (ι := Nat) (fun i γ1 => [(3, .ref 1 (γ1 1)), (4, pI (i : Int))]) (fun i γ1 => [(1, ((γ1 1), .row 79 11 ((a6u n i).map (p4p true)))), (2, ((γ1 2), .dead)), (3, ((γ1 3), .dead))]) (fun i => i ≤ 3) (fun i => 3 - i) (y3y 1 rfl Cov.nil) (hK [0, 4, 5, 6, 7] rfl) 0 (by omega) [0, _, _, _] cv (HE.row rfl (by rfl) (HE.kill rfl (HE.kill rfl HE.nil))) rfl fun i γ1 hi => ?_
 refine x2x fun K5 hK5 => ?_
 refine exA 2 rfl rfl (x7x rfl ?_ ?_)<;>intro j<;>try simp at j
 ·refine x8x (hK5 _ _ (x2x fun K7 hK7 => ?_))
  refine y0y (exA 4 rfl rfl (y4y rfl ?_ ?_))<;>intro hc8<;>try simp at hc8
  ·have hto : (i : Int) = n.id := hc8
   refine x8x (hK7 _ _ ?_)
   skip
   refine exG (x4x rfl (p5p rfl rfl rfl (x0x rfl ?_)))
   exact ⟨i + 1, ⟨by omega, by omega⟩, [0, _, _, _], (y3y 3 rfl (Cov.cons' (t := 4) rfl (by rw [u4u (by omega) (by omega)]; rfl) Cov.nil)), cv, (HE.row rfl (by rw [d3j hto]) (HE.kill rfl (HE.kill rfl HE.nil))), hv, rfl⟩
  have hto : ¬ (i : Int) = n.id := hc8
  have htl := c9a fS (i : Int)
  have htn := c1f n i
  refine exH (x1x 12 rfl rfl ?_)
  refine x9x rfl rfl rfl (a8g c n i (by omega) fS.2.2.2.2.2.2.1 (by have := a7v fS; omega) (by omega)) ?_
  refine rlB v3v a9u ?_
  refine u3u (id := 2) v4v rfl v3v rfl rfl rfl rfl rfl rfl ?_
  refine u6u (zs := (a6u n i).map (p4p true) ++ [[pI (b2i n (i : Int)).kind, pI (b2i n (i : Int)).from', pI (b2i n (i : Int)).to, pI (b2i n (i : Int)).inc, pI (b2i n (i : Int)).version, pI (b2i n (i : Int)).round, pI (b2i n (i : Int)).g, .pv (.slice none 0 0), .pv (.slice none 0 0), a2e true (a3r n (i : Int)), .pv (.slice none 0 0)]]) rfl rfl v4v rfl v3v rfl rfl rfl rfl rfl rfl (by (simp only [a1c, a0m, a0u, a0v, a1z, a4b, T79] at *; omega)) ?_
  refine x0x rfl ⟨by kernel_rfl, hK7 _ _ ?_⟩
  refine e5p 1 rfl (LeLs.snoc (x' := p4p true (b2i n (i : Int))) (.same (.same (.same (.same (.same (.same (.same (.le rfl .nil rfl (.le rfl .nil rfl (.same (.le rfl .nil rfl .nil))))))))))) _) ?_
  refine exG (x4x rfl (p5p rfl rfl rfl (x0x rfl ?_)))
  exact ⟨i + 1, ⟨by omega, by omega⟩, [0, _, _, _], (y3y 3 rfl (Cov.cons' (t := 4) rfl (by rw [u4u (by omega) (by omega)]; rfl) Cov.nil)), cv, (HE.row rfl (by (rw [d3i hto, List.map_append]; rfl)) (HE.kill rfl (HE.kill rfl HE.nil))), hv, rfl⟩
 obtain rfl : i = 3 := by omega
 have htn := c1f n 3
 refine z4z (hK4 _ _ (x2x fun K9 hK9 => ?_))
 refine exA 3 rfl rfl (y4y rfl ?_ ?_)<;>intro hc10<;>try simp at hc10
 ·have h0 : n.id = 0 := hc10
  refine x8x (hK9 _ _ ?_)
  skip
  refine exA 2 rfl rfl (x6x ⟨.inr rfl, ?_⟩)
  (rw [e7r ⟨fK, fU⟩ h0]; exact a3y rfl rfl (fun _ => rfl) rfl)
 have h0 : ¬ n.id = 0 := hc10
 refine exH (x1x 5 rfl rfl (z8z (id := 4) r3r rfl w7w rfl (x1x 2 rfl rfl ?_)))
 refine a2j r6r (zs := (n.outs).map a0w) rfl rfl r3r rfl w7w rfl rfl rfl (w3w (fun _ => rfl) _) rfl (by (simp only [a1c, a0m, a0u, a0v, a1z, a4b, T141] at *; omega)) (Le.ow_map _ (fun _ => rfl) (fun _ => rfl)) ?_
 refine rlB v3v a9u ?_
 refine u3u (id := 6) v4v rfl v3v rfl rfl rfl rfl rfl rfl ?_
 refine u6u (zs := (a6u n 3).map (p4p true) ++ [[pI (c1e n).kind, pI (c1e n).from', pI (c1e n).to, pI (c1e n).inc, pI (c1e n).version, pI (c1e n).round, pI (c1e n).g, .pv (.slice none 0 0), .pv (.slice none 0 0), .pv (.slice none 0 0), a0t true n.outs]]) rfl rfl v4v rfl v3v rfl rfl rfl rfl rfl rfl (by (simp only [a1c, a0m, a0u, a0v, a1z, a4b, T79] at *; omega)) ?_
 refine x0x rfl ⟨by kernel_rfl, hK9 _ _ ?_⟩
 (refine e5p 1 rfl (LeLs.snoc (x' := p4p true (c1e n)) (.same (.same (.same (.same (.same (.same (.same (.le rfl .nil rfl (.le rfl .nil rfl (.le rfl .nil rfl (.same .nil))))))))))) _) ?_; refine b2c 1 (xs' := (a6u n 3 ++ [c1e n]).map (p4p true)) rfl (by rw [List.map_append]; rfl) ?_)
 refine exA 2 rfl rfl (x6x ⟨.inr rfl, ?_⟩)
 (rw [e7s ⟨fK, fU⟩ h0]; exact a3y rfl rfl (fun _ => rfl) rfl)
end
section
theorem c3u (W : Tw) (ek en ep ew : Int) (eb : Bool) (hW : b8l W) : MethE Tryz.prog 309 2 [.agg [pI W.time, a6b true W.apps, .ref 0 0, .ref 1 0, pI W.hub.round, q3q true W.hub.ones, q3q true W.hub.twos, q3q true W.hub.outs, a0t true W.sink], .agg [pI ek, pI en, pI ep, pI ew, .pv (.bool eb)]] [(0, (0, .row 65 13 ((W.nodes).map (w5w true)))), (1, (0, .row 79 11 ((W.radio).map (p4p true))))] (ι := Tw × Bool) (fun S' => b8l S'.1 ∧ (S'.2 = false → S'.1.radio = W.radio)) (fun S' => kpB S'.2) (fun S' => .tup [.agg [pI S'.1.time, a6b true S'.1.apps, .ref 0 0, .ref 1 0, pI S'.1.hub.round, q3q true S'.1.hub.ones, q3q true S'.1.hub.twos, q3q true S'.1.hub.outs, a0t true S'.1.sink], .pv (.bool (S'.2))]) (fun S' => [(0, (0, .row 65 13 ((S'.1.nodes).map (w5w true)))), (1, (0, .row 79 11 ((S'.1.radio).map (p4p true))))]) := by
 refine mE (ι := Tw × Bool) Tryz.f309 (fun S' => [.agg [pI S'.1.time, a6b true S'.1.apps, .ref 0 0, .ref 1 0, pI S'.1.hub.round, q3q true S'.1.hub.ones, q3q true S'.1.hub.twos, q3q true S'.1.hub.outs, a0t true S'.1.sink], .pv (.bool (S'.2))]) 2 6 fun γ => ?_
 refine exR (u2u (id := 2) rfl rfl rfl (u2u (id := 3) rfl rfl rfl (y6y (id := 4) q4q b7p rfl (x0x rfl (x2x fun K1 hK1 => ?_)))))
 refine exA 2 rfl rfl (x9x rfl rfl rfl (u7u ..) (a1s rfl (x7x rfl ?_ ?_)))<;>intro hc2<;>try simp at hc2
 ·refine exR (x5x rfl q4q rfl rfl rfl (x3x rfl rfl q4q rfl rfl rfl rfl (x0x rfl (x6x ?_))))
  exact ⟨.inr rfl, (W, false), ⟨hW, (fun _ => rfl)⟩, [γ 0, γ 1], rfl, rfl, hv⟩
 have hen : 0 ≤ en ∧ en ≤ 2 := hc2
 obtain ⟨k, rfl⟩ : ∃ k : Nat, en = (k : Int) := ⟨en.toNat, by omega⟩
 obtain ⟨n, hnd, hnI⟩ := b3d hW (i := k) (by omega)
 have hA := hW.1
 have hr40 := hW.2.2.2.1
 refine x8x (hK1 _ _ (exA 4 rfl rfl ?_))
 refine v0v (j := k) rfl rfl a6c rfl y5y rfl rfl (v1v hnd) ?_
 refine q0q rfl y5y rfl (by assumption) rfl rfl ?_
 refine y6y (id := 5) y5y s9s rfl (x3x rfl rfl y5y rfl rfl rfl rfl (x2x fun K3 hK3 => ?_))
 refine y0y (exA 4 rfl rfl (x7x rfl ?_ ?_))<;>intro o<;>try simp at o
 ·refine exR (x5x rfl y5y rfl rfl rfl (x9x rfl rfl rfl (c2o true n) (y6y (id := 6) y5y s9s rfl (x3x rfl rfl y5y rfl rfl rfl rfl (exA 5 rfl rfl ?_)))))
  refine v0v (j := k) rfl rfl a6c rfl y5y rfl rfl (v1v hnd) ?_
  refine p9p (el' := a4x n) rfl rfl y5y rfl rfl rfl hnd rfl (a0b rfl) rfl rfl ?_
  refine exD (x1x 6 rfl rfl (x3x rfl rfl q4q rfl rfl rfl rfl (x0x rfl ⟨by kernel_rfl, x6x ?_⟩)))
  exact ⟨.inr rfl, ({ W with nodes := W.nodes.set k (a4x n) }, decide ((a4x n).inc > n.inc)), ⟨a5w hW (f1u hnI), (fun _ => rfl)⟩, [γ 0, γ 1], (d1y γ _ gl rfl rfl), rfl, hv⟩
 refine exA 4 rfl rfl (x7x rfl ?_ ?_)<;>intro o<;>try simp at o
 ·refine exR (x5x rfl q4q rfl rfl rfl (x3x rfl rfl q4q rfl rfl rfl rfl (x0x rfl (x6x ?_))))
  exact ⟨.inr rfl, (W, false), ⟨hW, (fun _ => rfl)⟩, [γ 0, γ 1], rfl, rfl, hv⟩
 refine exA 4 rfl rfl (x7x rfl ?_ ?_)<;>intro o<;>try simp at o
 ·refine a0p fun B X0 w0 => ?_
  refine txR 5 rfl rfl (x1x 5 rfl rfl ?_)
  refine txM [] [] (c2h W.apps n ep hnI hA) rfl rfl rfl rfl fun j hj => ?_
  refine txR 6 rfl rfl (x1x 3 rfl rfl (y6y (id := 7) y5y s9s rfl (x3x rfl rfl y5y rfl rfl rfl rfl (x0x rfl (v9v rfl (exA 5 rfl rfl ?_))))))
  refine v0v (j := k) rfl rfl a6c rfl y5y rfl rfl (v1v hnd) ?_
  refine p9p (el' := j.1) rfl rfl y5y rfl rfl rfl hnd rfl (a0b rfl) rfl rfl ?_
  refine exA 2 rfl rfl (x3x rfl rfl q4q rfl rfl rfl rfl (x0x rfl (x6x ?_)))
  exact ⟨.inr rfl, ({ W with nodes := W.nodes.set k j.1 }, j.2), ⟨a5w hW hj, (fun _ => rfl)⟩, [γ 0, γ 1], (d1y γ _ gl rfl rfl), rfl, hv⟩
 refine exA 4 rfl rfl (x7x rfl ?_ ?_)<;>intro o<;>try simp at o
 ·refine exD (x1x 3 rfl rfl (x9x rfl rfl rfl (c2p true n) ?_))
  refine rlM [1] [_] (a1p W.radio (c1g n) hr40) rfl rfl rfl ?_
  refine y1y rfl q4q rfl rfl v4v rfl rfl (z0z rfl rfl v4v rfl rfl rfl rfl rfl (by simp only [a1h]; rfl) ?_)
  refine ⟨by kernel_rfl, exR (x5x rfl q4q rfl rfl rfl (x3x rfl rfl q4q rfl rfl rfl rfl (x0x rfl (x6x ?_))))⟩
  exact ⟨.inr rfl, ({ W with radio := b1a W.radio (c1g n) }, true), ⟨b3e hW (e4i hnI.1), (fun h => by cases h)⟩, [γ 0, _], rfl, rfl, hv⟩
 refine x8x (hK3 _ _ (exD (x1x 5 rfl rfl (x9x rfl rfl rfl (c2n true n) ?_))))
 refine v0v (j := k) rfl rfl a6c rfl y5y rfl rfl (v1v hnd) ?_
 refine p9p (el' := a7l n) rfl rfl y5y rfl rfl rfl hnd rfl (a0b rfl) rfl rfl ?_
 refine ⟨by kernel_rfl, x2x fun K8 hK8 => ?_⟩
 refine exA 3 rfl rfl (y4y rfl ?_ ?_)<;>intro o<;>try simp at o
 ·refine x8x (hK8 _ _ ?_)
  skip
  refine exR (x5x rfl q4q rfl rfl rfl (x3x rfl rfl q4q rfl rfl rfl rfl (x0x rfl (x6x ?_))))
  exact ⟨.inr rfl, ({ W with nodes := W.nodes.set k (a7l n) }, true), ⟨a5w hW (e6c hnI), (fun h => by cases h)⟩, [γ 0, γ 1], rfl, rfl, hv⟩
 obtain rfl : k = 0 := by omega
 refine exG (rlB q7q b4v ?_)
 refine y1y rfl q4q rfl rfl q7q rfl rfl (a1m rfl rfl q7q rfl rfl rfl rfl (a0q rfl) rfl ?_)
 refine hK8 _ _ ?_
 refine e5o 2 rfl (.same (.same (.same (.same (.same (.le (b := q3q true ([] : List Wo)) rfl .nil rfl (.le (b := q3q true ([] : List Wo)) rfl .nil rfl (.le (b := q3q true ([] : List Wo)) rfl .nil rfl (LeCs.refl _))))))))) ?_
 refine exR (x5x rfl q4q rfl rfl rfl (x3x rfl rfl q4q rfl rfl rfl rfl (x0x rfl (x6x ?_))))
 exact ⟨.inr rfl, ({ W with nodes := W.nodes.set 0 (a7l n), hub := hb0 }, true), ⟨c9z (a5w hW (e6c hnI)) e0s, (fun h => by cases h)⟩, [γ 0, γ 1], rfl, rfl, hv⟩
end
section
theorem c2q (W : Tw) (ek en ep ew : Int) (eb : Bool) (hW : b8l W) : MethE Tryz.prog 310 2 [.agg [pI W.time, a6b true W.apps, .ref 0 0, .ref 1 0, pI W.hub.round, q3q true W.hub.ones, q3q true W.hub.twos, q3q true W.hub.outs, a0t true W.sink], .agg [pI ek, pI en, pI ep, pI ew, .pv (.bool eb)]] [(0, (0, .row 65 13 ((W.nodes).map (w5w true)))), (1, (0, .row 79 11 ((W.radio).map (p4p true))))] (ι := Tw × Bool) (fun S' => b8l S'.1 ∧ (S'.2 = false → S'.1.radio = W.radio)) (fun S' => kpB S'.2) (fun S' => .tup [.agg [pI S'.1.time, a6b true S'.1.apps, .ref 0 0, .ref 1 0, pI S'.1.hub.round, q3q true S'.1.hub.ones, q3q true S'.1.hub.twos, q3q true S'.1.hub.outs, a0t true S'.1.sink], .pv (.bool (S'.2))]) (fun S' => [(0, (0, .row 65 13 ((S'.1.nodes).map (w5w true)))), (1, (0, .row 79 11 ((S'.1.radio).map (p4p true))))]) := by
 refine mE (ι := Tw × Bool) Tryz.f310 (fun S' => [.agg [pI S'.1.time, a6b true S'.1.apps, .ref 0 0, .ref 1 0, pI S'.1.hub.round, q3q true S'.1.hub.ones, q3q true S'.1.hub.twos, q3q true S'.1.hub.outs, a0t true S'.1.sink], .pv (.bool (S'.2))]) 2 11 fun γ => ?_
 have hr40 := hW.2.2.2.1
 refine exR (u2u (id := 2) rfl rfl rfl (u2u (id := 3) rfl rfl rfl (y6y (id := 4) q4q b7p rfl (x0x rfl (x2x fun K1 hK1 => ?_)))))
 refine exA 4 rfl rfl ?_
 refine a1j (n := W.radio.length) rfl v4v rfl rfl (List.length_map _) ?_
 refine a0y (.int .i64 ((W.radio.length : Int) - 1)) rfl rfl rfl (a9c rfl (by omega) (by omega) (by omega)) ?_
 refine x9x rfl rfl rfl (u7u ..) (a1s rfl (x7x rfl ?_ ?_))<;>intro hc2<;>try simp at hc2
 ·refine exR (x5x rfl q4q rfl rfl rfl (x3x rfl rfl q4q rfl rfl rfl rfl (x0x rfl (x6x ?_))))
  exact ⟨.inr rfl, (W, false), ⟨hW, (fun _ => rfl)⟩, [γ 0, γ 1], rfl, rfl, hv⟩
 have hr40 := hW.2.2.2.1
 have hew : 0 ≤ ew ∧ ew ≤ (W.radio.length : Int) - 1 := hc2
 obtain ⟨j, rfl⟩ : ∃ j : Nat, ew = (j : Int) := ⟨ew.toNat, by omega⟩
 have hjl : j < W.radio.length := by omega
 obtain ⟨x, hx⟩ := gE W.radio j
 have hxr := hW.2.2.2.2.1 x (List.mem_of_getElem? hx)
 obtain ⟨n0, h0, h0I⟩ := b3d hW (i := 0) (by omega)
 have hHb := hW.2.2.2.2.2.1
 refine x8x (hK1 _ _ (exA 4 rfl rfl ?_))
 refine v0v (j := j) rfl rfl v4v rfl v3v rfl rfl hjl ?_
 refine q0q rfl v3v rfl (by assumption) rfl rfl ?_
 refine y6y (id := 5) v3v a9u rfl (x3x rfl rfl v3v rfl rfl rfl rfl (x2x fun K3 hK3 => ?_))
 refine exA 4 rfl rfl (z9z rfl rfl ?_ ?_)<;>intro o<;>try simp at o
 ·refine x1x 3 rfl rfl (x7x rfl (fun hc20 => ?_) (fun hc20 => ?_))
  rotate_left
  ·simp at hc20
  try simp at hc20
  refine exH (z8z (id := 6) v4v rfl v3v rfl (x1x 4 rfl rfl (d2u r6r rfl v4v rfl v3v rfl rfl rfl rfl (by omega) (by omega) (by (simp only [a1c]; omega)) ?_)))
  refine b3p (f := p4p true) (l := ([] : List Wo)) (l2 := W.radio) (l' := W.radio.take j) rfl rfl v4v rfl v3v rfl rfl rfl rfl (w3w (fun _ => rfl) _) (by (simp; done)) (by simp only [a1z, b2n, a0m, T79]; omega) ?_
  refine x1x 4 rfl rfl (a0y (.int .i64 ((j + 1 : Nat) : Int)) rfl rfl rfl (a9c rfl (by omega) (by omega) (by omega)) ?_)
  refine d2u r6r rfl v4v rfl v3v rfl rfl rfl rfl (by omega) (by (simp only [a1c]; omega)) (by omega) ?_
  refine b3p (f := p4p true) (l := W.radio.take j) (l2 := W.radio) (l' := (W.radio.take j ++ W.radio.drop (j + 1))) rfl rfl v4v rfl v3v rfl rfl rfl rfl (w3w (fun _ => rfl) _) (by (simp; done)) (by simp only [a1z, b2n, a0m, T79]; omega) ?_
  refine y1y rfl q4q rfl rfl v4v rfl rfl (z0z rfl rfl v4v rfl rfl rfl rfl rfl (by simp only [a1h]; rfl) ?_)
  refine ⟨by kernel_rfl, hK3 _ _ (x2x fun K21 hK21 => ?_)⟩
  (refine e0d 2 6 1 rfl rfl rfl rfl rfl rfl rfl ?_; obtain ⟨r, er, hr1, hr2⟩ : ∃ r, (W.radio.take j ++ W.radio.drop (j + 1)) = r ∧ r.length ≤ 40 ∧ ∀ q ∈ r, c6z q := ⟨_, rfl, e1k hW, e1l hW⟩; rw [er])
  refine exA 3 rfl rfl (x7x rfl ?_ ?_)<;>intro o<;>try simp at o
  ·refine exR (x5x rfl q4q rfl rfl rfl (x3x rfl rfl q4q rfl rfl rfl rfl (x0x rfl (x6x ?_))))
   exact ⟨.inr rfl, ({ W with radio := r }, true), ⟨a6m hW hr1 hr2, (fun h => by cases h)⟩, [γ 0, _], rfl, rfl, hv⟩
  refine x8x (hK21 _ _ (exR (z8z (id := 9) v4v rfl v3v rfl (x0x rfl (x2x fun K23 hK23 => ?_)))))
  refine a0c (ι := Bool) (fun b γ3 => [(73, .pv (.bool (b)))]) (fun b γ3 => []) (fun b => True) (cK [2, 4, 6] rfl) (hK [0, 1, 2, 3, 4, 5, 6, 7, 8, 9, 10, 11, 12] rfl) ?_ fun b γ3 hi => ?_
  ·refine exG (x1x 4 rfl rfl (z9z rfl rfl ?_ ?_))<;>intro o<;>try simp at o
   ·refine x1x 13 rfl rfl ?_
    exact ⟨_, trivial, [], cv, cv, hv, hv, rfl⟩
   refine x1x 4 rfl rfl (z9z rfl rfl ?_ ?_)<;>intro o<;>try simp at o
   ·refine x1x 9 rfl rfl ?_
    exact ⟨_, trivial, [], cv, cv, hv, hv, rfl⟩
   refine x1x 5 rfl rfl (z9z rfl rfl ?_ ?_)<;>intro o<;>try simp at o
   ·refine x1x 4 rfl rfl ?_
    exact ⟨_, trivial, [], cv, cv, hv, hv, rfl⟩
   refine x1x 5 rfl rfl ?_
   exact ⟨_, trivial, [], cv, cv, hv, hv, rfl⟩
  ·try dsimp only [b2o, b2p]
   refine y4y rfl ?_ ?_<;>intro o<;>try simp at o
   ·obtain ⟨q, hq⟩ : ∃ q : Nat, x.to = (q : Int) := ⟨x.to.toNat, by have := hxr.1; omega⟩
    obtain ⟨n, hnd, hnI⟩ := b3d hW (i := q) (by have := hxr.1; omega)
    refine exD (x1x 3 rfl rfl ?_)
    refine v2v (out := pI x.to) rfl q1q rfl rfl ?_
    rw [hq]
    refine v0v (j := q) rfl rfl a6c rfl y5y rfl rfl (v1v hnd) ?_
    refine q0q rfl y5y rfl (by assumption) rfl rfl ?_
    refine x5x rfl v3v rfl rfl rfl (x9x rfl rfl rfl (a8i true n x) (x1x 3 rfl rfl (y6y (id := 12) y5y s9s rfl (x3x rfl rfl y5y rfl rfl rfl rfl (x0x rfl ⟨by kernel_rfl, exA 3 rfl rfl ?_⟩)))))
    refine v2v (out := pI x.to) rfl q1q rfl rfl ?_
    rw [hq]
    refine x5x rfl y5y rfl rfl rfl ?_
    refine v0v (j := q) rfl rfl a6c rfl y5y rfl rfl (v1v hnd) ?_
    refine p9p (el' := (r2r n x).1) rfl rfl y5y rfl rfl rfl hnd rfl (a0b rfl) rfl rfl ?_
    refine exG (x1x 2 rfl rfl (hK23 _ _ (exA 3 rfl rfl ?_)))
    refine rlM [1] [_] (a1p r (r2r n x).2 hr1) rfl rfl rfl ?_
    refine y1y rfl q4q rfl rfl v4v rfl rfl (z0z rfl rfl v4v rfl rfl rfl rfl rfl (by simp only [a1h]; rfl) ?_)
    refine exR (x5x rfl q4q rfl rfl rfl (x3x rfl rfl q4q rfl rfl rfl rfl (x0x rfl (x6x ?_))))
    exact ⟨.inr rfl, ({ W with nodes := W.nodes.set q (r2r n x).1, radio := b1a r (r2r n x).2 }, true), ⟨b3e (W := { W with nodes := _, radio := r }) (a6m (a5w hW (e1f hnI x)) hr1 hr2) (c7a hnI.1 x), (fun h => by cases h)⟩, [γ 0, _], rfl, rfl, hv⟩
   refine exD (y1y rfl q4q rfl rfl q7q rfl rfl ?_)
   refine v2v (out := .agg (a8n true W.hub)) rfl q7q rfl rfl ?_
   refine x1x 2 rfl rfl (v0v (j := 0) rfl rfl a6c rfl y5y rfl rfl (v1v h0) (q0q rfl y5y rfl (by assumption) rfl rfl ?_))
   refine x5x rfl v3v rfl rfl rfl (x9x rfl rfl rfl (a9l true W.hub n0 x) (x1x 4 rfl rfl (y6y (id := 10) q7q b4v rfl (y6y (id := 11) y5y s9s rfl (x3x rfl rfl q7q rfl rfl rfl rfl (x3x rfl rfl y5y rfl rfl rfl rfl (x0x rfl ⟨by kernel_rfl, exA 2 rfl rfl (a1m rfl rfl q7q rfl rfl rfl rfl (a0q rfl) rfl ?_)⟩)))))))
   refine exA 3 rfl rfl (v0v (j := 0) rfl rfl a6c rfl y5y rfl rfl (v1v h0) ?_)
   refine p9p (el' := (p6p W.hub n0 x).2.1) rfl rfl y5y rfl rfl rfl h0 rfl (a0b rfl) rfl rfl ?_
   refine exG (x1x 2 rfl rfl (hK23 _ _ (exA 3 rfl rfl ?_)))
   refine rlM [1] [_] (a1p r (p6p W.hub n0 x).2.2 hr1) rfl rfl rfl ?_
   refine y1y rfl q4q rfl rfl v4v rfl rfl (z0z rfl rfl v4v rfl rfl rfl rfl rfl (by simp only [a1h]; rfl) ?_)
   refine exR (x5x rfl q4q rfl rfl rfl (x3x rfl rfl q4q rfl rfl rfl rfl (x0x rfl (x6x ?_))))
   exact ⟨.inr rfl, ({ W with nodes := W.nodes.set 0 (p6p W.hub n0 x).2.1, radio := b1a r (p6p W.hub n0 x).2.2, hub := (p6p W.hub n0 x).1 }, true), ⟨b3e (W := { W with nodes := _, radio := r, hub := _ }) (a6m (c9z (a5w hW (c7b h0I hHb x)) (b2v h0I.1 hHb x)) hr1 hr2) (b8k W.hub n0 x), (fun h => by cases h)⟩, [γ 0, _], rfl, rfl, hv⟩
 refine x1x 4 rfl rfl (y4y rfl ?_ ?_)<;>intro o<;>try simp at o
 ·refine x8x (hK3 _ _ (x2x fun K13 hK13 => ?_))
  (obtain ⟨r, er, hr1, hr2⟩ : ∃ r, W.radio = r ∧ r.length ≤ 40 ∧ ∀ q ∈ r, c6z q := ⟨_, rfl, hW.2.2.2.1, hW.2.2.2.2.1⟩; rw [er])
  refine exA 3 rfl rfl (x7x rfl ?_ ?_)<;>intro o<;>try simp at o
  ·refine exR (x5x rfl q4q rfl rfl rfl (x3x rfl rfl q4q rfl rfl rfl rfl (x0x rfl (x6x ?_))))
   exact ⟨.inr rfl, ({ W with radio := r }, true), ⟨a6m hW hr1 hr2, (fun h => by cases h)⟩, [γ 0, _], rfl, rfl, hv⟩
  refine x8x (hK13 _ _ (exR (z8z (id := 9) v4v rfl v3v rfl (x0x rfl (x2x fun K15 hK15 => ?_)))))
  refine a0c (ι := Bool) (fun b γ2 => [(73, .pv (.bool (b)))]) (fun b γ2 => []) (fun b => True) (cK [2, 4, 6] rfl) (hK [0, 1, 2, 3, 4, 5, 6, 7, 8, 9, 10, 11, 12] rfl) ?_ fun b γ2 hi => ?_
  ·refine exG (x1x 4 rfl rfl (z9z rfl rfl ?_ ?_))<;>intro o<;>try simp at o
   ·refine x1x 13 rfl rfl ?_
    exact ⟨_, trivial, [], cv, cv, hv, hv, rfl⟩
   refine x1x 4 rfl rfl (z9z rfl rfl ?_ ?_)<;>intro o<;>try simp at o
   ·refine x1x 9 rfl rfl ?_
    exact ⟨_, trivial, [], cv, cv, hv, hv, rfl⟩
   refine x1x 5 rfl rfl (z9z rfl rfl ?_ ?_)<;>intro o<;>try simp at o
   ·refine x1x 4 rfl rfl ?_
    exact ⟨_, trivial, [], cv, cv, hv, hv, rfl⟩
   refine x1x 5 rfl rfl ?_
   exact ⟨_, trivial, [], cv, cv, hv, hv, rfl⟩
  ·try dsimp only [b2o, b2p]
   refine y4y rfl ?_ ?_<;>intro o<;>try simp at o
   ·obtain ⟨q, hq⟩ : ∃ q : Nat, x.to = (q : Int) := ⟨x.to.toNat, by have := hxr.1; omega⟩
    obtain ⟨n, hnd, hnI⟩ := b3d hW (i := q) (by have := hxr.1; omega)
    refine exD (x1x 3 rfl rfl ?_)
    refine v2v (out := pI x.to) rfl q1q rfl rfl ?_
    rw [hq]
    refine v0v (j := q) rfl rfl a6c rfl y5y rfl rfl (v1v hnd) ?_
    refine q0q rfl y5y rfl (by assumption) rfl rfl ?_
    refine x5x rfl v3v rfl rfl rfl (x9x rfl rfl rfl (a8i true n x) (x1x 3 rfl rfl (y6y (id := 12) y5y s9s rfl (x3x rfl rfl y5y rfl rfl rfl rfl (x0x rfl ⟨by kernel_rfl, exA 3 rfl rfl ?_⟩)))))
    refine v2v (out := pI x.to) rfl q1q rfl rfl ?_
    rw [hq]
    refine x5x rfl y5y rfl rfl rfl ?_
    refine v0v (j := q) rfl rfl a6c rfl y5y rfl rfl (v1v hnd) ?_
    refine p9p (el' := (r2r n x).1) rfl rfl y5y rfl rfl rfl hnd rfl (a0b rfl) rfl rfl ?_
    refine exG (x1x 2 rfl rfl (hK15 _ _ (exA 3 rfl rfl ?_)))
    refine rlM [1] [_] (a1p r (r2r n x).2 hr1) rfl rfl rfl ?_
    refine y1y rfl q4q rfl rfl v4v rfl rfl (z0z rfl rfl v4v rfl rfl rfl rfl rfl (by simp only [a1h]; rfl) ?_)
    refine exR (x5x rfl q4q rfl rfl rfl (x3x rfl rfl q4q rfl rfl rfl rfl (x0x rfl (x6x ?_))))
    exact ⟨.inr rfl, ({ W with nodes := W.nodes.set q (r2r n x).1, radio := b1a r (r2r n x).2 }, true), ⟨b3e (W := { W with nodes := _, radio := r }) (a6m (a5w hW (e1f hnI x)) hr1 hr2) (c7a hnI.1 x), (fun h => by cases h)⟩, [γ 0, _], rfl, rfl, hv⟩
   refine exD (y1y rfl q4q rfl rfl q7q rfl rfl ?_)
   refine v2v (out := .agg (a8n true W.hub)) rfl q7q rfl rfl ?_
   refine x1x 2 rfl rfl (v0v (j := 0) rfl rfl a6c rfl y5y rfl rfl (v1v h0) (q0q rfl y5y rfl (by assumption) rfl rfl ?_))
   refine x5x rfl v3v rfl rfl rfl (x9x rfl rfl rfl (a9l true W.hub n0 x) (x1x 4 rfl rfl (y6y (id := 10) q7q b4v rfl (y6y (id := 11) y5y s9s rfl (x3x rfl rfl q7q rfl rfl rfl rfl (x3x rfl rfl y5y rfl rfl rfl rfl (x0x rfl ⟨by kernel_rfl, exA 2 rfl rfl (a1m rfl rfl q7q rfl rfl rfl rfl (a0q rfl) rfl ?_)⟩)))))))
   refine exA 3 rfl rfl (v0v (j := 0) rfl rfl a6c rfl y5y rfl rfl (v1v h0) ?_)
   refine p9p (el' := (p6p W.hub n0 x).2.1) rfl rfl y5y rfl rfl rfl h0 rfl (a0b rfl) rfl rfl ?_
   refine exG (x1x 2 rfl rfl (hK15 _ _ (exA 3 rfl rfl ?_)))
   refine rlM [1] [_] (a1p r (p6p W.hub n0 x).2.2 hr1) rfl rfl rfl ?_
   refine y1y rfl q4q rfl rfl v4v rfl rfl (z0z rfl rfl v4v rfl rfl rfl rfl rfl (by simp only [a1h]; rfl) ?_)
   refine exR (x5x rfl q4q rfl rfl rfl (x3x rfl rfl q4q rfl rfl rfl rfl (x0x rfl (x6x ?_))))
   exact ⟨.inr rfl, ({ W with nodes := W.nodes.set 0 (p6p W.hub n0 x).2.1, radio := b1a r (p6p W.hub n0 x).2.2, hub := (p6p W.hub n0 x).1 }, true), ⟨b3e (W := { W with nodes := _, radio := r, hub := _ }) (a6m (c9z (a5w hW (c7b h0I hHb x)) (b2v h0I.1 hHb x)) hr1 hr2) (b8k W.hub n0 x), (fun h => by cases h)⟩, [γ 0, _], rfl, rfl, hv⟩
 refine exH (z8z (id := 6) v4v rfl v3v rfl (x1x 4 rfl rfl (d2u r6r rfl v4v rfl v3v rfl rfl rfl rfl (by omega) (by omega) (by (simp only [a1c]; omega)) ?_)))
 refine b3p (f := p4p true) (l := ([] : List Wo)) (l2 := W.radio) (l' := W.radio.take j) rfl rfl v4v rfl v3v rfl rfl rfl rfl (w3w (fun _ => rfl) _) (by (simp; done)) (by simp only [a1z, b2n, a0m, T79]; omega) ?_
 refine x1x 4 rfl rfl (a0y (.int .i64 ((j + 1 : Nat) : Int)) rfl rfl rfl (a9c rfl (by omega) (by omega) (by omega)) ?_)
 refine d2u r6r rfl v4v rfl v3v rfl rfl rfl rfl (by omega) (by (simp only [a1c]; omega)) (by omega) ?_
 refine b3p (f := p4p true) (l := W.radio.take j) (l2 := W.radio) (l' := (W.radio.take j ++ W.radio.drop (j + 1))) rfl rfl v4v rfl v3v rfl rfl rfl rfl (w3w (fun _ => rfl) _) (by (simp; done)) (by simp only [a1z, b2n, a0m, T79]; omega) ?_
 refine y1y rfl q4q rfl rfl v4v rfl rfl (z0z rfl rfl v4v rfl rfl rfl rfl rfl (by simp only [a1h]; rfl) ?_)
 refine ⟨by kernel_rfl, hK3 _ _ (x2x fun K6 hK6 => ?_)⟩
 (refine e0d 2 6 1 rfl rfl rfl rfl rfl rfl rfl ?_; obtain ⟨r, er, hr1, hr2⟩ : ∃ r, (W.radio.take j ++ W.radio.drop (j + 1)) = r ∧ r.length ≤ 40 ∧ ∀ q ∈ r, c6z q := ⟨_, rfl, e1k hW, e1l hW⟩; rw [er])
 refine exA 3 rfl rfl (x7x rfl ?_ ?_)<;>intro o<;>try simp at o
 ·refine exR (x5x rfl q4q rfl rfl rfl (x3x rfl rfl q4q rfl rfl rfl rfl (x0x rfl (x6x ?_))))
  exact ⟨.inr rfl, ({ W with radio := r }, true), ⟨a6m hW hr1 hr2, (fun h => by cases h)⟩, [γ 0, _], rfl, rfl, hv⟩
 refine x8x (hK6 _ _ (exR (z8z (id := 9) v4v rfl v3v rfl (x0x rfl (x2x fun K8 hK8 => ?_)))))
 refine a0c (ι := Bool) (fun b γ1 => [(73, .pv (.bool (b)))]) (fun b γ1 => []) (fun b => True) (cK [2, 4, 6] rfl) (hK [0, 1, 2, 3, 4, 5, 6, 7, 8, 9, 10, 11, 12] rfl) ?_ fun b γ1 hi => ?_
 ·refine exG (x1x 4 rfl rfl (z9z rfl rfl ?_ ?_))<;>intro o<;>try simp at o
  ·refine x1x 13 rfl rfl ?_
   exact ⟨_, trivial, [], cv, cv, hv, hv, rfl⟩
  refine x1x 4 rfl rfl (z9z rfl rfl ?_ ?_)<;>intro o<;>try simp at o
  ·refine x1x 9 rfl rfl ?_
   exact ⟨_, trivial, [], cv, cv, hv, hv, rfl⟩
  refine x1x 5 rfl rfl (z9z rfl rfl ?_ ?_)<;>intro o<;>try simp at o
  ·refine x1x 4 rfl rfl ?_
   exact ⟨_, trivial, [], cv, cv, hv, hv, rfl⟩
  refine x1x 5 rfl rfl ?_
  exact ⟨_, trivial, [], cv, cv, hv, hv, rfl⟩
 ·try dsimp only [b2o, b2p]
  refine y4y rfl ?_ ?_<;>intro o<;>try simp at o
  ·obtain ⟨q, hq⟩ : ∃ q : Nat, x.to = (q : Int) := ⟨x.to.toNat, by have := hxr.1; omega⟩
   obtain ⟨n, hnd, hnI⟩ := b3d hW (i := q) (by have := hxr.1; omega)
   refine exD (x1x 3 rfl rfl ?_)
   refine v2v (out := pI x.to) rfl q1q rfl rfl ?_
   rw [hq]
   refine v0v (j := q) rfl rfl a6c rfl y5y rfl rfl (v1v hnd) ?_
   refine q0q rfl y5y rfl (by assumption) rfl rfl ?_
   refine x5x rfl v3v rfl rfl rfl (x9x rfl rfl rfl (a8i true n x) (x1x 3 rfl rfl (y6y (id := 12) y5y s9s rfl (x3x rfl rfl y5y rfl rfl rfl rfl (x0x rfl ⟨by kernel_rfl, exA 3 rfl rfl ?_⟩)))))
   refine v2v (out := pI x.to) rfl q1q rfl rfl ?_
   rw [hq]
   refine x5x rfl y5y rfl rfl rfl ?_
   refine v0v (j := q) rfl rfl a6c rfl y5y rfl rfl (v1v hnd) ?_
   refine p9p (el' := (r2r n x).1) rfl rfl y5y rfl rfl rfl hnd rfl (a0b rfl) rfl rfl ?_
   refine exG (x1x 2 rfl rfl (hK8 _ _ (exA 3 rfl rfl ?_)))
   refine rlM [1] [_] (a1p r (r2r n x).2 hr1) rfl rfl rfl ?_
   refine y1y rfl q4q rfl rfl v4v rfl rfl (z0z rfl rfl v4v rfl rfl rfl rfl rfl (by simp only [a1h]; rfl) ?_)
   refine exR (x5x rfl q4q rfl rfl rfl (x3x rfl rfl q4q rfl rfl rfl rfl (x0x rfl (x6x ?_))))
   exact ⟨.inr rfl, ({ W with nodes := W.nodes.set q (r2r n x).1, radio := b1a r (r2r n x).2 }, true), ⟨b3e (W := { W with nodes := _, radio := r }) (a6m (a5w hW (e1f hnI x)) hr1 hr2) (c7a hnI.1 x), (fun h => by cases h)⟩, [γ 0, _], rfl, rfl, hv⟩
  refine exD (y1y rfl q4q rfl rfl q7q rfl rfl ?_)
  refine v2v (out := .agg (a8n true W.hub)) rfl q7q rfl rfl ?_
  refine x1x 2 rfl rfl (v0v (j := 0) rfl rfl a6c rfl y5y rfl rfl (v1v h0) (q0q rfl y5y rfl (by assumption) rfl rfl ?_))
  refine x5x rfl v3v rfl rfl rfl (x9x rfl rfl rfl (a9l true W.hub n0 x) (x1x 4 rfl rfl (y6y (id := 10) q7q b4v rfl (y6y (id := 11) y5y s9s rfl (x3x rfl rfl q7q rfl rfl rfl rfl (x3x rfl rfl y5y rfl rfl rfl rfl (x0x rfl ⟨by kernel_rfl, exA 2 rfl rfl (a1m rfl rfl q7q rfl rfl rfl rfl (a0q rfl) rfl ?_)⟩)))))))
  refine exA 3 rfl rfl (v0v (j := 0) rfl rfl a6c rfl y5y rfl rfl (v1v h0) ?_)
  refine p9p (el' := (p6p W.hub n0 x).2.1) rfl rfl y5y rfl rfl rfl h0 rfl (a0b rfl) rfl rfl ?_
  refine exG (x1x 2 rfl rfl (hK8 _ _ (exA 3 rfl rfl ?_)))
  refine rlM [1] [_] (a1p r (p6p W.hub n0 x).2.2 hr1) rfl rfl rfl ?_
  refine y1y rfl q4q rfl rfl v4v rfl rfl (z0z rfl rfl v4v rfl rfl rfl rfl rfl (by simp only [a1h]; rfl) ?_)
  refine exR (x5x rfl q4q rfl rfl rfl (x3x rfl rfl q4q rfl rfl rfl rfl (x0x rfl (x6x ?_))))
  exact ⟨.inr rfl, ({ W with nodes := W.nodes.set 0 (p6p W.hub n0 x).2.1, radio := b1a r (p6p W.hub n0 x).2.2, hub := (p6p W.hub n0 x).1 }, true), ⟨b3e (W := { W with nodes := _, radio := r, hub := _ }) (a6m (c9z (a5w hW (c7b h0I hHb x)) (b2v h0I.1 hHb x)) hr1 hr2) (b8k W.hub n0 x), (fun h => by cases h)⟩, [γ 0, _], rfl, rfl, hv⟩
end
section
theorem c3v (W : Tw) (hW : b8l W) : MethE Tryz.prog 313 2 [.agg [pI W.time, a6b true W.apps, .ref 0 0, .ref 1 0, pI W.hub.round, q3q true W.hub.ones, q3q true W.hub.twos, q3q true W.hub.outs, a0t true W.sink]] [(0, (0, .row 65 13 ((W.nodes).map (w5w true)))), (1, (0, .row 79 11 ((W.radio).map (p4p true))))] (ι := Tw × Bool) (fun S' => b8l S'.1 ∧ S'.1.nodes = W.nodes ∧ S'.1.radio = W.radio) (fun S' => [0, 1]) (fun S' => .tup [.agg [pI S'.1.time, a6b true S'.1.apps, .ref 0 0, .ref 1 0, pI S'.1.hub.round, q3q true S'.1.hub.ones, q3q true S'.1.hub.twos, q3q true S'.1.hub.outs, a0t true S'.1.sink], .pv (.bool (S'.2))]) (fun S' => [(0, (0, .row 65 13 ((W.nodes).map (w5w true)))), (1, (0, .row 79 11 ((W.radio).map (p4p true))))]) := by
 refine mE (ι := Tw × Bool) Tryz.f313 (fun S' => [.agg [pI S'.1.time, a6b true S'.1.apps, .ref 0 0, .ref 1 0, pI S'.1.hub.round, q3q true S'.1.hub.ones, q3q true S'.1.hub.twos, q3q true S'.1.hub.outs, a0t true S'.1.sink], .pv (.bool (S'.2))]) 2 5 fun γ => ?_
 obtain ⟨n0, h0, h0I⟩ := b3d hW (i := 0) (by omega)
 have hol := e4s (h := W.hub) (n := n0)
 have hsl := hW.2.2.2.2.2.2
 refine exR (u2u (id := 2) rfl rfl rfl (y6y (id := 3) q4q b7p rfl (x0x rfl (exD (y1y rfl q4q rfl rfl q7q rfl rfl ?_)))))
 refine v2v (out := .agg (a8n true W.hub)) rfl q7q rfl rfl ?_
 refine x1x 2 rfl rfl (v0v (j := 0) rfl rfl a6c rfl y5y rfl rfl (v1v h0) (q0q rfl y5y rfl (by assumption) rfl rfl ?_))
 refine x9x rfl rfl rfl (c3t true W.hub n0) (x0x rfl ⟨by kernel_rfl, x2x fun K1 hK1 => ?_⟩)
 refine exA 2 rfl rfl (v0v (j := 0) rfl rfl a6c rfl y5y rfl rfl (v1v h0) (y1y rfl y5y rfl rfl d6u rfl rfl (a0x rfl d6u rfl h0 rfl (x1x 2 rfl rfl (z9z rfl rfl ?_ ?_)))))<;>intro o<;>try simp at o
 ·refine x1x 6 rfl rfl (x7x rfl (fun hc4 => ?_) (fun hc4 => ?_))
  rotate_left
  ·simp at hc4
  try simp at hc4
  refine exR (x5x rfl q4q rfl rfl rfl (x3x rfl rfl q4q rfl rfl rfl rfl (x0x rfl (x6x ?_))))
  exact ⟨.inr rfl, (W, false), ⟨hW, rfl, rfl⟩, [γ 0, γ 1], rfl, rfl, hv⟩
 refine x4x rfl (z1z rfl rfl (z3z rfl r3r rfl (x1x 2 rfl rfl (z1z rfl rfl (z3z rfl r3r rfl (x1x 2 rfl rfl (x7x rfl ?_ ?_)))))))<;>intro o<;>try simp at o
 ·refine exR (x5x rfl q4q rfl rfl rfl (x3x rfl rfl q4q rfl rfl rfl rfl (x0x rfl (x6x ?_))))
  exact ⟨.inr rfl, (W, false), ⟨hW, rfl, rfl⟩, [γ 0, γ 1], rfl, rfl, hv⟩
 refine x8x (hK1 _ _ (exD (z8z (id := 4) r3r rfl w7w rfl (x1x 2 rfl rfl ?_))))
 refine s4s (zs := (W.sink).map a0w) rfl rfl r3r rfl w7w rfl rfl rfl (w3w (fun _ => rfl) _) rfl (by simp only [a1c, a0m, a0u, a0v, a1z, a4b, b2n, T141]; omega) ?_
 refine x1x 3 rfl rfl (z3z rfl r3r rfl ?_)
 refine b9q (f := a0w) (l := (a8e W.hub n0)) rfl r3r rfl w7w rfl rfl rfl (by omega) (by rw [List.length_map]; omega) (by rw [List.length_map]; omega) ?_
 rw [List.length_map, Int.toNat_natCast, Int.toNat_natCast, List.take_length]
 refine s4s (zs := ((W.sink ++ (a8e W.hub n0).drop W.sink.length)).map a0w) rfl rfl r3r rfl w7w rfl rfl rfl (w3w (fun _ => rfl) _) (a9b a0w W.sink _) (by simp only [a1c, a0m, a0u, a0v, a1z, a4b, b2n, T141]; omega) ?_
 refine y1y rfl q4q rfl rfl r3r rfl rfl (z0z rfl rfl r3r rfl rfl rfl rfl rfl (by simp only [a1h]; rfl) ?_)
 refine ⟨by kernel_rfl, ?_⟩
 refine p8p (b := a0t true (W.sink ++ (a8e W.hub n0).drop W.sink.length)) 2 8 rfl rfl rfl (.ref rfl (Le.ow_map _ (fun _ => rfl) (fun _ => rfl)) .nil) rfl rfl rfl rfl ?_
 refine exD (x1x 3 rfl rfl (x9x rfl rfl rfl (a7o true (W.sink ++ (a8e W.hub n0).drop W.sink.length) 96) ?_))
 refine x3x rfl rfl q4q rfl rfl rfl rfl (x0x rfl ⟨by kernel_rfl, x6x ?_⟩)
 exact ⟨.inr rfl, ({ W with sink := (W.sink ++ (a8e W.hub n0).drop W.sink.length) }, a7k okO b0r (W.sink ++ (a8e W.hub n0).drop W.sink.length) 96), ⟨e9n hW (by simp only [a0m, b2n]; omega), rfl, rfl⟩, [γ 0, γ 1], rfl, rfl, hv⟩
end
section
theorem d0a (W : Tw) (ek en ep ew : Int) (eb : Bool) (hW : b8l W) : MethE Tryz.prog 290 2 [.agg [pI W.time, a6b true W.apps, .ref 0 0, .ref 1 0, pI W.hub.round, q3q true W.hub.ones, q3q true W.hub.twos, q3q true W.hub.outs, a0t true W.sink], .agg [pI ek, pI en, pI ep, pI ew, .pv (.bool eb)]] [(0, (0, .row 65 13 ((W.nodes).map (w5w true)))), (1, (0, .row 79 11 ((W.radio).map (p4p true))))] (ι := Tw × Bool) (fun S' => b8l S'.1 ∧ (S'.2 = false → S'.1.radio = W.radio)) (fun S' => kpB S'.2) (fun S' => .tup [.agg [pI S'.1.time, a6b true S'.1.apps, .ref 0 0, .ref 1 0, pI S'.1.hub.round, q3q true S'.1.hub.ones, q3q true S'.1.hub.twos, q3q true S'.1.hub.outs, a0t true S'.1.sink], .pv (.bool (S'.2))]) (fun S' => [(0, (0, .row 65 13 ((S'.1.nodes).map (w5w true)))), (1, (0, .row 79 11 ((S'.1.radio).map (p4p true))))]) := by
 refine mE (ι := Tw × Bool) Tryz.f290 (fun S' => [.agg [pI S'.1.time, a6b true S'.1.apps, .ref 0 0, .ref 1 0, pI S'.1.hub.round, q3q true S'.1.hub.ones, q3q true S'.1.hub.twos, q3q true S'.1.hub.outs, a0t true S'.1.sink], .pv (.bool (S'.2))]) 2 5 fun γ => ?_
 obtain ⟨n0, h0, h0I⟩ := b3d hW (i := 0) (by omega)
 have hHb := hW.2.2.2.2.2.1
 have hr40 := hW.2.2.2.1
 refine exR (u2u (id := 2) rfl rfl rfl (u2u (id := 3) rfl rfl rfl (y6y (id := 4) q4q b7p rfl (x0x rfl (exA 2 rfl rfl (a0y (.int .i64 (IntKind.i64.wrap (W.time + 1))) rfl rfl rfl rfl ?_))))))
 refine y1y rfl q4q rfl rfl q1q rfl rfl (z0z rfl rfl q1q rfl rfl rfl rfl rfl (by simp only [a1h]; rfl) ?_)
 refine x2x fun K1 hK1 => ?_
 refine exA 2 rfl rfl (y0y ?_)
 refine a0c (ι := Bool) (fun b γ1 => [(16, .pv (.bool (b)))]) (fun b γ1 => []) (fun b => True) (cK [2, 3, 4, 15] rfl) (hK [0, 1, 2, 3, 4, 5, 6] rfl) ?_ fun b γ1 hi => ?_
 ·refine exA 2 rfl rfl (x7x rfl ?_ ?_)<;>intro h<;>try simp at h
  ·refine x8x ?_
   exact ⟨_, trivial, [], cv, cv, hv, hv, rfl⟩
  refine exA 2 rfl rfl (x7x rfl ?_ ?_)<;>intro h<;>try simp at h
  ·refine x8x ?_
   exact ⟨_, trivial, [], cv, cv, hv, hv, rfl⟩
  refine exA 2 rfl rfl (x7x rfl ?_ ?_)<;>intro h<;>try simp at h
  ·refine x8x ?_
   exact ⟨_, trivial, [], cv, cv, hv, hv, rfl⟩
  refine exG (x1x 2 rfl rfl ?_)
  exact ⟨_, trivial, [], cv, cv, hv, hv, rfl⟩
 ·try dsimp only [b2o, b2p]
  refine x7x rfl ?_ ?_<;>intro h<;>try simp at h
  ·refine a0p fun B X0 w0 => ?_
   refine txR 2 rfl rfl (x1x 2 rfl rfl ?_)
   refine txM [0, 1] [_, _] (c3u { W with time := (IntKind.i64.wrap (W.time + 1)) } ek en ep ew eb hW) rfl rfl rfl rfl fun j hj => ?_
   obtain ⟨hj1, hj2⟩ := hj
   refine txR 4 rfl rfl (x1x 2 rfl rfl (x3x rfl rfl q4q rfl rfl rfl rfl (x0x rfl (v9v rfl (x6x ?_)))))
   exact ⟨.inr rfl, j, ⟨hj1, hj2⟩, [_, _], (by cases hb : j.2 <;> rfl), rfl, hv⟩
  refine a0c (ι := Bool) (fun b γ2 => [(26, .pv (.bool (b)))]) (fun b γ2 => []) (fun b => True) (cK [2, 3, 4, 15] rfl) (hK [0, 1, 2, 3, 4, 5, 6] rfl) ?_ fun b γ2 hi => ?_
  ·refine exA 2 rfl rfl (x7x rfl ?_ ?_)<;>intro h<;>try simp at h
   ·refine x8x ?_
    exact ⟨_, trivial, [], cv, cv, hv, hv, rfl⟩
   refine exG (x1x 2 rfl rfl ?_)
   exact ⟨_, trivial, [], cv, cv, hv, hv, rfl⟩
  ·try dsimp only [b2o, b2p]
   refine x7x rfl ?_ ?_<;>intro h<;>try simp at h
   ·refine a0p fun B X0 w0 => ?_
    refine txR 2 rfl rfl (x1x 2 rfl rfl ?_)
    refine txM [0, 1] [_, _] (c2q { W with time := (IntKind.i64.wrap (W.time + 1)) } ek en ep ew eb hW) rfl rfl rfl rfl fun j hj => ?_
    obtain ⟨hj1, hj2⟩ := hj
    refine txR 4 rfl rfl (x1x 2 rfl rfl (x3x rfl rfl q4q rfl rfl rfl rfl (x0x rfl (v9v rfl (x6x ?_)))))
    exact ⟨.inr rfl, j, ⟨hj1, hj2⟩, [_, _], (by cases hb : j.2 <;> rfl), rfl, hv⟩
   refine exA 2 rfl rfl (y4y rfl ?_ ?_)<;>intro h<;>try simp at h
   ·refine exA 2 rfl rfl (y4y rfl ?_ ?_)<;>intro h<;>try simp at h
    ·refine x8x (hK1 _ _ (exR (x5x rfl q4q rfl rfl rfl (x3x rfl rfl q4q rfl rfl rfl rfl (x0x rfl (x6x ?_))))))
     exact ⟨.inr rfl, ({ W with time := (IntKind.i64.wrap (W.time + 1)) }, false), ⟨hW, fun _ => rfl⟩, [γ 0, γ 1], rfl, rfl, hv⟩
    refine a0p fun B X0 w0 => ?_
    refine txR 1 rfl rfl (x5x rfl q4q rfl rfl rfl ?_)
    refine txM [0, 1] [_, _] (c3v { W with time := (IntKind.i64.wrap (W.time + 1)) } hW) rfl rfl rfl rfl fun j hj => ?_
    obtain ⟨hj1, hj2, hj3⟩ := hj
    refine txR 4 rfl rfl (x1x 2 rfl rfl (x3x rfl rfl q4q rfl rfl rfl rfl (x0x rfl (v9v rfl (x6x ?_)))))
    exact ⟨.inr rfl, j, ⟨hj1, fun _ => hj3⟩, [γ 0, γ 1], (d1y γ _ gl rfl rfl), rfl, HE.row rfl (by rw [hj2]) (HE.row rfl (by rw [hj3]) HE.nil)⟩
   refine exD (y1y rfl q4q rfl rfl q7q rfl rfl ?_)
   refine v2v (out := .agg (a8n true W.hub)) rfl q7q rfl rfl ?_
   refine x1x 2 rfl rfl (v0v (j := 0) rfl rfl a6c rfl y5y rfl rfl (v1v h0) (q0q rfl y5y rfl (by assumption) rfl rfl ?_))
   refine x9x rfl rfl rfl (c2l true W.hub n0) (x1x 4 rfl rfl (y6y (id := 5) q7q b4v rfl (y6y (id := 6) y5y s9s rfl (x3x rfl rfl q7q rfl rfl rfl rfl (x3x rfl rfl y5y rfl rfl rfl rfl (x0x rfl ⟨by kernel_rfl, exD (x1x 4 rfl rfl (v0v (j := 0) rfl rfl a6c rfl y5y rfl rfl (v1v h0) (y1y rfl y5y rfl rfl q1q rfl rfl (a0x rfl q1q rfl h0 rfl (x1x 2 rfl rfl ⟨by kernel_rfl, exA 2 rfl rfl (a1m rfl rfl q7q rfl rfl rfl rfl (a0q rfl) rfl ?_)⟩)))))⟩))))))
   refine exA 3 rfl rfl (v0v (j := 0) rfl rfl a6c rfl y5y rfl rfl (v1v h0) ?_)
   refine p9p (el' := (r8r W.hub n0).2.1) rfl rfl y5y rfl rfl rfl h0 rfl (a0b rfl) rfl rfl ?_
   refine exA 3 rfl rfl ?_
   refine rlM [1] [_] (a1p W.radio (r8r W.hub n0).2.2 hr40) rfl rfl rfl ?_
   refine y1y rfl q4q rfl rfl v4v rfl rfl (z0z rfl rfl v4v rfl rfl rfl rfl rfl (by simp only [a1h]; rfl) ?_)
   refine exA 2 rfl rfl (x3x rfl rfl q4q rfl rfl rfl rfl (x0x rfl (x6x ?_)))
   exact ⟨.inr rfl, ({ W with time := (IntKind.i64.wrap (W.time + 1)), nodes := W.nodes.set 0 (r8r W.hub n0).2.1, radio := b1a W.radio (r8r W.hub n0).2.2, hub := (r8r W.hub n0).1 }, decide ((r8r W.hub n0).2.1.led > n0.led)), ⟨b3e (W := { W with nodes := _, hub := _ }) (c9z (a5w hW (e9i h0I hHb)) (c9u h0I.1 hHb)) (e0w W.hub n0), (by intro hf; rcases c2m ⟨hHb, h0I.1⟩ with ⟨h1, h2⟩ | h2; (rw [h1]; simp [b1a]); exact absurd h2 (of_decide_eq_false hf))⟩, [γ 0, _], (by rcases c2m ⟨hHb, h0I.1⟩ with ⟨h1, h2⟩ | h2; (rw [h1, decide_eq_false h2]; rfl); (rw [decide_eq_true h2]; rfl)), rfl, hv⟩
end
section
theorem c7g (c : Bool) (bs : List Nat) : Meth Tryz.prog 107 1 [] [p7p c bs] [(0, (0, .dead))] (.ptr 0 0 0) [(0, (0, .box 243 [p7p c (bs.take 2000), .pv (.int .i64 0)]))] := by
 refine mX Tryz.f107 [.ptr 0 0 0] 1 0 fun γ => ?_
 refine exR (x0x rfl (x2x fun K1 hK1 => ?_))
 refine exR (x4x rfl (z3z rfl b9a rfl (v6v rfl rfl rfl (y4y rfl ?_ ?_))))<;>intro o<;>try simp at o
 ·refine x8x (hK1 _ _ (exR (x4x rfl (rlB e5h e5j ?_))))
  refine u2u (id := 0) rfl rfl rfl (x0x rfl (x6x ?_))
  exact ⟨.inr rfl, [_], rfl, rfl, HE.box rfl (by show _ = [p7p c (bs.take 2000), _]; rw [List.take_of_length_le (by omega)]; rfl) HE.nil⟩
 refine exG (x4x rfl (b9q rfl b9a rfl e1s rfl rfl rfl (by omega) (by omega) (by omega) (x0x rfl (hK1 _ _ (exR (x4x rfl (rlB e5h e5j ?_)))))))
 refine u2u (id := 0) rfl rfl rfl (x0x rfl (x6x ?_))
 exact ⟨.inr rfl, [_], rfl, rfl, hv⟩
theorem y2y (c : Bool) (bs : List Nat) (p n : Nat) (hp : p < 1000000000) (hbs : ∀ b ∈ bs, b < 256) : Meth Tryz.prog 109 1 [0] [.ptr 0 0 0, .pv (.int .i64 (n : Int))] [(0, (0, .box 243 [p7p c bs, .pv (.int .i64 ((p : Nat) : Int))]))] (.pv (.int .i64 (pk bs p n : Int))) [(0, (0, .box 243 [p7p c bs, .pv (.int .i64 ((p + 1 : Nat) : Int))]))] := by
 refine mX Tryz.f109 [.pv (.int .i64 (pk bs p n : Int))] 1 0 fun γ => ?_
 refine exR (x0x rfl (exA 5 rfl rfl (z5z (b := 1) rfl rfl (by omega) (x1x 2 rfl rfl (z0z rfl rfl q1q rfl rfl rfl rfl rfl (by simp only [a1h]; rfl) ?_)))))
 refine x2x fun K1 hK1 => ?_
 refine exA 3 rfl rfl (z9z rfl rfl ?_ ?_)<;>intro o<;>try simp at o
 ·refine x1x 6 rfl rfl (x7x rfl (fun hc6 => ?_) (fun hc6 => ?_))
  rotate_left
  ·simp at hc6
  try simp at hc6
  refine exR (x0x rfl (x6x ?_))
  refine ⟨.inr rfl, [γ 0], rfl, congrArg (fun v : Nat => some [AV.pv (.int .i64 (v : Int))]) (?_ : _ = pk bs p n), HE.box rfl rfl HE.nil⟩
  (rw [pk, if_pos (.inl (by omega))])
 refine x1x 4 rfl rfl (z1z rfl rfl (z3z rfl b9a rfl (x1x 2 rfl rfl (x7x rfl ?_ ?_))))<;>intro hc3<;>try simp at hc3
 ·refine exR (x0x rfl (x6x ?_))
  refine ⟨.inr rfl, [γ 0], rfl, congrArg (fun v : Nat => some [AV.pv (.int .i64 (v : Int))]) (?_ : _ = pk bs p n), HE.box rfl rfl HE.nil⟩
  (subst hc3; simp [pk]; done)
 refine x8x (hK1 _ _ (exA 4 rfl rfl (a0y (.int .i64 (p : Int)) rfl rfl rfl (a9c rfl (by omega) (by omega) (by omega)) ?_)))
 refine x0x rfl (x2x fun K4 hK4 => ?_)
 refine exA 5 rfl rfl (z3z rfl b9a rfl (v6v rfl rfl rfl (x7x rfl ?_ ?_)))<;>intro o<;>try simp at o
 ·refine exA 5 rfl rfl ?_
  have hj : bs[p]? = some (bs.getD (p) 0) := by rw [List.getD_eq_getElem?_getD, List.getElem?_eq_getElem (by omega)]; rfl
  have h256 := hbs _ (List.mem_of_getElem? hj)
  refine y7y (j := p) rfl rfl b9a rfl e1s rfl hj ?_
  refine w4w rfl e1s rfl (c5l rfl e1s q1q rfl rfl (by omega) (x4x rfl (c5k rfl rfl (by omega) (x0x rfl (x6x ?_)))))
  refine ⟨.inr rfl, [γ 0], rfl, congrArg (fun v : Nat => some [AV.pv (.int .i64 (v : Int))]) (?_ : _ = pk bs p n), HE.box rfl rfl HE.nil⟩
  (rw [pk, if_neg (by omega), if_pos (by omega)])
 refine x8x (hK4 _ _ (exD (x1x 9 rfl rfl (z3z rfl b9a rfl ?_))))
 have hm0 : bs.length ≠ 0 := by intro h0; exact absurd (List.length_eq_zero_iff.1 h0) (by assumption)
 refine c5k rfl rfl hm0 ?_
 have hj1 : bs[p % bs.length]? = some (bs.getD (p % bs.length) 0) := by rw [List.getD_eq_getElem?_getD, List.getElem?_eq_getElem (Nat.mod_lt _ (by omega))]; rfl
 have h1 := hbs _ (List.mem_of_getElem? hj1)
 refine y7y rfl rfl b9a rfl e1s rfl hj1 (w4w rfl e1s rfl (c5l rfl e1s q1q rfl rfl (by omega) (b7r (b := 131) rfl rfl (by omega) (x1x 5 rfl rfl (b7r (b := 7) rfl rfl (by omega) (z5z (b := 3) rfl rfl (by omega) (x1x 4 rfl rfl (z3z rfl b9a rfl (c5k rfl rfl (by omega) ?_)))))))))
 have hj2 : bs[(p * 7 + 3) % bs.length]? = some (bs.getD ((p * 7 + 3) % bs.length) 0) := by rw [List.getD_eq_getElem?_getD, List.getElem?_eq_getElem (Nat.mod_lt _ (by omega))]; rfl
 have h2 := hbs _ (List.mem_of_getElem? hj2)
 have hq := Nat.div_le_self p bs.length
 refine y7y rfl rfl b9a rfl e1s rfl hj2 (w4w rfl e1s rfl (c5l rfl e1s q1q rfl rfl (by omega) (b7r (b := 1117) rfl rfl (by omega) (z5z rfl rfl (by omega) (x4x rfl (b7r (b := 29) rfl rfl (by omega) (z5z rfl rfl (by omega) (x1x 5 rfl rfl (z3z rfl b9a rfl (d0t rfl rfl (by omega) (by omega) (b7r (b := 53) rfl rfl (by omega) (z5z rfl rfl (by omega) (x0x rfl ⟨by kernel_rfl, exA 2 rfl rfl (d0t (b := 64) rfl rfl (by omega) (by omega) (e6v rfl rfl (by omega) (by omega) (x0x rfl (exA 2 rfl rfl (c5k rfl rfl (by omega) (x0x rfl (x6x ?_)))))))⟩)))))))))))))
 refine ⟨.inr rfl, [γ 0], rfl, congrArg (fun v : Nat => some [AV.pv (.int .i64 (v : Int))]) (?_ : _ = pk bs p n), HE.box rfl rfl HE.nil⟩
 (rw [pk, if_neg (by omega), if_neg (by omega)]; rfl)
theorem c2r (c c' : Bool) (l l' : List Ev) : a1r Tryz.prog 28 [a2e c l, a2e c' l'] (.pv (.bool (decide (l = l')))) := by
 refine pX Tryz.f28 [.pv (.bool (decide (l = l')))] 0 ?_
 refine r1r 0 rfl fun hlen => ?_
 refine exR (x0x rfl (x2x fun K1 hK1 => ?_))
 refine exR (x4x rfl (z3z rfl u8u rfl (x4x rfl (z3z rfl u8u rfl (v6v rfl rfl rfl (x7x rfl ?_ ?_))))))<;>intro o<;>try simp at o
 ·refine exR (x0x rfl (x6x ⟨.inr rfl, ?_⟩))
  refine y9y rfl ?_ rfl
  exact f3x (by omega)
 refine x8x (hK1 _ _ (x2x fun K3 hK3 => ?_))
 refine exR (x0x rfl (y0y ?_))
 refine z2z (ι := Nat) (fun i γ1 => [(5, pI (i : Int))]) (fun i γ1 => []) (fun i => i ≤ l.length ∧ l.length = l'.length ∧ l.take i = l'.take i) (fun i => l.length - i) (cK [0, 1] rfl) HE.nil 0 ⟨by omega, by omega, rfl⟩ [] cv hv rfl fun i γ1 hi => ?_
 obtain ⟨h1, h2, h3⟩ := hi
 refine x2x fun K4 hK4 => ?_
 refine exA 2 rfl rfl (z3z rfl u8u rfl (v6v rfl rfl rfl (y4y rfl ?_ ?_)))<;>intro o<;>try simp at o
 ·refine z4z (hK3 _ _ (exR (x0x rfl (x6x ⟨.inr rfl, ?_⟩))))
  refine y9y rfl ?_ rfl
  exact eqT h3 (by omega) (by omega)
 refine x8x (hK4 _ _ (x2x fun K6 hK6 => ?_))
 refine y0y (exD (x1x 2 rfl rfl ?_))
 obtain ⟨x, hx⟩ := gE l i
 refine y7y rfl rfl u8u rfl z6z rfl hx (x1x 3 rfl rfl ?_)
 obtain ⟨y, hy⟩ := gE l' i
 refine y7y rfl rfl u8u rfl z6z rfl hy (u5u rfl z6z rfl rfl (c0n rfl rfl (by intro a c h; cases h) (.inr rfl) (e8f _ _ _ _) ?_))
 refine ⟨by kernel_rfl, y4y rfl ?_ ?_⟩<;>intro o<;>try simp at o
 ·refine x8x (hK6 _ _ (exG (x4x rfl ?_)))
  refine a0y (.int .i64 ((i + 1 : Nat) : Int)) rfl rfl rfl (a9c rfl (by omega) (by omega) (by have := hlen; omega)) ?_
  refine x0x rfl ?_
  exact ⟨i + 1, ⟨⟨by omega, h2, c9i h3 hx hy (by assumption)⟩, by omega⟩, [], cv, cv, hv, hv, rfl⟩
 refine exR (x0x rfl (x6x ⟨.inr rfl, ?_⟩))
 refine y9y rfl ?_ rfl
 exact f3y hx hy (by assumption)
end
section
theorem u9u (bs : List Nat) (hbs : ∀ b ∈ bs, b < 256) (S : Sm) (c : Nat) (hS : smOk S c) (ek en ep ew : Int) (eb : Bool) (hc : c ≤ 1000000) : MethE Tryz.prog 239 5 [.ptr 0 0 0, .agg [pI ek, pI en, pI ep, pI ew, .pv (.bool eb)]] [(0, (0, .box 171 [.ptr 4 0 0, pI S.w.time, a6b true S.w.apps, .ref 1 0, .ref 2 0, pI S.w.hub.round, q3q true S.w.hub.ones, q3q true S.w.hub.twos, q3q true S.w.hub.outs, a0t true S.w.sink, .ref 3 0])), (1, (0, .row 65 13 ((S.w.nodes).map (w5w true)))), (2, (0, .row 79 11 ((S.w.radio).map (p4p true)))), (3, (0, .row 263 5 ((S.list).map a4p))), (4, (0, .box 243 [p7p true bs, .pv (.int .i64 ((S.p : Nat) : Int))]))] (ι := Sm × Bool) (fun S' => smOk S'.1 (c + 1)) (fun S' => [0, 4]) (fun S' => .pv (.bool (S'.2))) (fun S' => [(0, (0, .box 171 [.ptr 4 0 0, pI S'.1.w.time, a6b true S'.1.w.apps, .ref 1 0, .ref 2 0, pI S'.1.w.hub.round, q3q true S'.1.w.hub.ones, q3q true S'.1.w.hub.twos, q3q true S'.1.w.hub.outs, a0t true S'.1.w.sink, .ref 3 0])), (1, (0, .row 65 13 ((S'.1.w.nodes).map (w5w true)))), (2, (0, .row 79 11 ((S'.1.w.radio).map (p4p true)))), (3, (0, .row 263 5 ((S'.1.list).map a4p))), (4, (0, .box 243 [p7p true bs, .pv (.int .i64 ((S'.1.p : Nat) : Int))]))]) := by
 refine mE (ι := Sm × Bool) Tryz.f239 (fun S' => [.pv (.bool (S'.2))]) 5 4 fun γ => ?_
 have hll := hS.2.1
 refine exR (u2u (id := 5) rfl rfl rfl (x0x rfl (d1n 5 (b4d r6r 0 5 rfl rfl ?_))))
 refine x1x 5 rfl rfl (b4d r6r 9 1 rfl rfl ?_)
 refine y6y (id := 6) q4q b7p rfl (b5k c3d (by rfl) [1, 2] [_, _] (d0a S.w ek en ep ew eb hS.1) rfl rfl rfl rfl (by decide) rfl rfl ihv (fun _ => (by (simp only [pI, a3p, a3s, b9s, gl, nx, a7r, Nat.beq]; rfl))) (fun _ => (by (simp only [pI, a3p, a3s, b9s, gl, nx, a7r, Nat.beq]; rfl))) (S.w, false) ⟨hS.1, fun _ => rfl⟩ fun j hj => ?_)
 obtain ⟨hj1, hj2⟩ := hj
 refine b4e r6r 6 3 rfl rfl ?_
 refine x1x 3 rfl rfl (b4e r6r 10 2 rfl rfl ?_)
 refine x3x rfl rfl q4q rfl rfl rfl rfl (x0x rfl (c1w (by kernel_rfl) ?_))
 refine x2x fun K1 hK1 => ?_
 refine exR (x4x rfl (y4y rfl ?_ ?_))<;>intro hc2<;>try simp at hc2
 ·have hb : j.2 = false := hc2
  obtain ⟨T, b⟩ := j
  obtain rfl : b = false := hb
  refine x8x (hK1 _ _ (exA 2 rfl rfl (x6x ?_)))
  exact ⟨.inr rfl, (⟨{ S.w with nodes := T.nodes }, S.list, S.p⟩, false), ⟨e9o hS.1 hj1, Nat.le_succ_of_le hll, Nat.le_succ_of_le hS.2.2⟩, [γ 0, _, γ 2, γ 3, γ 4], rfl, rfl, HE.box rfl rfl (HE.row rfl rfl (HE.row rfl (congrArg (List.map (p4p true)) (hj2 rfl)) (HE.row rfl rfl (HE.box rfl rfl HE.nil))))⟩
 have hb : j.2 = true := hc2
 obtain ⟨T, b⟩ := j
 obtain rfl : b = true := hb
 refine exA 4 rfl rfl (a1m rfl rfl q4q rfl rfl rfl rfl (a0q rfl) rfl ?_)
 refine exH (x1x 6 rfl rfl (u3u (id := 7) d2o rfl a1l rfl rfl rfl rfl rfl rfl ?_))
 refine u6u (zs := (S.list ++ [(⟨ek, en, ep, ew, eb⟩ : Te)]).map a4p) rfl rfl d2o rfl a1l rfl rfl rfl rfl (by rfl) (w2w a4p S.list (⟨ek, en, ep, ew, eb⟩ : Te)) (by (simp only [a1c, a0m, a0u, a0v, a1z, a4b, T263]; omega)) ?_
 refine x1x 2 rfl rfl (z0z rfl rfl d2o rfl rfl rfl rfl rfl (by simp only [a1h]; rfl) ?_)
 refine ⟨by kernel_rfl, hK1 _ _ (exA 2 rfl rfl (x6x ?_))⟩
 exact ⟨.inr rfl, (⟨T, S.list ++ [(⟨ek, en, ep, ew, eb⟩ : Te)], S.p⟩, true), ⟨hj1, by show (S.list ++ [_]).length ≤ _; rw [List.length_append]; exact Nat.succ_le_succ hll, Nat.le_succ_of_le hS.2.2⟩, [γ 0, _, _, _, γ 4], rfl, rfl, hv⟩
end
section
theorem q6q (bs : List Nat) (hbs : ∀ b ∈ bs, b < 256) (S : Sm) (c : Nat) (hS : smOk S c) (m odd : Nat) (hc : c + 4 * m ≤ 1000000) : MethE Tryz.prog 280 5 [.ptr 0 0 0, .pv (.int .i64 (m : Int)), .pv (.int .i64 (odd : Int))] [(0, (0, .box 171 [.ptr 4 0 0, pI S.w.time, a6b true S.w.apps, .ref 1 0, .ref 2 0, pI S.w.hub.round, q3q true S.w.hub.ones, q3q true S.w.hub.twos, q3q true S.w.hub.outs, a0t true S.w.sink, .ref 3 0])), (1, (0, .row 65 13 ((S.w.nodes).map (w5w true)))), (2, (0, .row 79 11 ((S.w.radio).map (p4p true)))), (3, (0, .row 263 5 ((S.list).map a4p))), (4, (0, .box 243 [p7p true bs, .pv (.int .i64 ((S.p : Nat) : Int))]))] (ι := Sm) (fun S' => smOk S' (c + 4 * m)) (fun S' => [0, 4]) (fun S' => .tup []) (fun S' => [(0, (0, .box 171 [.ptr 4 0 0, pI S'.w.time, a6b true S'.w.apps, .ref 1 0, .ref 2 0, pI S'.w.hub.round, q3q true S'.w.hub.ones, q3q true S'.w.hub.twos, q3q true S'.w.hub.outs, a0t true S'.w.sink, .ref 3 0])), (1, (0, .row 65 13 ((S'.w.nodes).map (w5w true)))), (2, (0, .row 79 11 ((S'.w.radio).map (p4p true)))), (3, (0, .row 263 5 ((S'.list).map a4p))), (4, (0, .box 243 [p7p true bs, .pv (.int .i64 ((S'.p : Nat) : Int))]))]) := by
 refine mE (ι := Sm) Tryz.f280 (fun S' => []) 5 1 fun γ => ?_
 refine exR (x0x rfl (y0y ?_))
 refine z2z (ι := Sm × Nat) (fun p γ1 => [(6, pI (p.2 : Int))]) (fun p γ1 => [(1, ((γ1 1), .row 65 13 ((p.1.w.nodes).map (w5w true)))), (2, ((γ1 2), .row 79 11 ((p.1.w.radio).map (p4p true)))), (3, ((γ1 3), .row 263 5 ((p.1.list).map a4p))), (0, ((γ 0), .box 171 [.ptr 4 (γ 4) 0, pI p.1.w.time, a6b true p.1.w.apps, .ref 1 (γ1 1), .ref 2 (γ1 2), pI p.1.w.hub.round, q3q true p.1.w.hub.ones, q3q true p.1.w.hub.twos, q3q true p.1.w.hub.outs, a0t true p.1.w.sink, .ref 3 (γ1 3)])), (4, ((γ 4), .box 243 [p7p true bs, pI ((p.1.p : Nat) : Int)])), (5, ((γ1 5), .dead))]) (fun p => smOk p.1 (c + 4 * p.2) ∧ p.2 ≤ m) (fun p => m - p.2) (cK [0, 1, 2] rfl) HE.nil (S, 0) ⟨hS, Nat.zero_le _⟩ [0, _, _, _, 0, _] cv hv rfl fun p γ1 hi => ?_
 obtain ⟨S1, i⟩ := p
 obtain ⟨h1, h2⟩ := hi
 dsimp only at h1 h2 ⊢
 have hp := h1.2.2
 refine x2x fun K1 hK1 => ?_
 refine exA 4 rfl rfl (z9z rfl rfl ?_ ?_)<;>intro h<;>try simp at h
 ·refine x1x 7 rfl rfl (x7x rfl (fun hc10 => ?_) (fun hc10 => ?_))
  ·simp at hc10
  try simp at hc10
  refine z4z ?_
  exact ⟨.inl rfl, S1, h1.mono (by omega), [γ 0, _, _, _, γ 4], rfl, rfl, hv⟩
 refine x1x 5 rfl rfl (z1z rfl rfl ?_)
 refine a1j (n := S1.w.radio.length) rfl v4v rfl rfl (List.length_map _) ?_
 refine x1x 2 rfl rfl (y4y rfl ?_ ?_)<;>intro h<;>try simp at h
 ·refine z4z ?_
  exact ⟨.inl rfl, S1, h1.mono (by omega), [γ 0, _, _, _, γ 4], rfl, rfl, hv⟩
 refine x8x (hK1 _ _ (x2x fun K4 hK4 => ?_))
 refine y0y (exR (rlB a1l a2y ?_))
 refine y6y (id := 5) a1l a2y rfl (x3x rfl rfl a1l rfl rfl rfl rfl ?_)
 refine a0c (ι := Nat × Int × Int × Bool) (fun q4 γ2 => []) (fun q4 γ2 => [(4, ((γ 4), .box 243 [p7p true bs, pI ((q4.1 : Nat) : Int)])), (5, ((γ1 5 + 1), .box 263 [pI q4.2.1, pI 0, pI 0, pI q4.2.2.1, .pv (.bool q4.2.2.2)]))]) (fun q4 => q4.1 ≤ c + 4 * i + 3) (cK [0, 1, 2, 6, 7] rfl) (hK [0, 1, 2, 3] rfl) ?_ fun q4 γ2 hi => ?_
 ·refine exA 3 rfl rfl (z9z rfl rfl ?_ ?_)<;>intro h<;>try simp at h
  ·refine x1x 7 rfl rfl (x7x rfl (fun hc9 => ?_) (fun hc9 => ?_))
   ·simp at hc9
   try simp at hc9
   refine x8x ?_
   exact ⟨(S1.p, 4, 0, false), (by show S1.p ≤ c + 4 * i + 3; omega), [], cv, cv, hv, hv, rfl⟩
  refine x1x 5 rfl rfl (z1z rfl rfl ?_)
  refine rlM [4] [_] (y2y true bs (S1.p) (odd) (by have := hp; omega) hbs) rfl rfl rfl ?_
  refine x1x 2 rfl rfl (y4y rfl ?_ ?_)<;>intro h<;>try simp at h
  ·refine x8x ?_
   exact ⟨(S1.p + 1, 4, 0, false), (by show S1.p + 1 ≤ c + 4 * i + 3; omega), [], cv, cv, hv, hv, rfl⟩
  refine exA 4 rfl rfl ?_
  refine rlM [4] [_] (y2y true bs (S1.p + 1) (4) (by have := hp; omega) hbs) rfl rfl rfl ?_
  refine y0y (exA 2 rfl rfl (x7x rfl ?_ ?_))<;>intro h<;>try simp at h
  ·refine exG (y1y rfl a1l rfl rfl q1q rfl rfl (z0z rfl rfl q1q rfl rfl rfl rfl rfl (by simp only [a1h]; rfl) ?_))
   exact ⟨(S1.p + 1 + 1, 5, 0, false), (by show S1.p + 1 + 1 ≤ c + 4 * i + 3; omega), [], cv, cv, hv, hv, rfl⟩
  refine exA 2 rfl rfl (x7x rfl ?_ ?_)<;>intro h<;>try simp at h
  ·refine exG (y1y rfl a1l rfl rfl d6u rfl rfl (z0z rfl rfl d6u rfl rfl rfl rfl rfl (by simp only [a1h]; rfl) ?_))
   exact ⟨(S1.p + 1 + 1, 4, 0, true), (by show S1.p + 1 + 1 ≤ c + 4 * i + 3; omega), [], cv, cv, hv, hv, rfl⟩
  refine exH (x1x 9 rfl rfl ?_)
  refine a1j (n := S1.w.radio.length) rfl v4v rfl rfl (List.length_map _) ?_
  refine rlM [4] [_] (y2y true bs (S1.p + 1 + 1) (S1.w.radio.length) (by have := hp; omega) hbs) rfl rfl rfl ?_
  refine y1y rfl a1l rfl rfl q1q rfl rfl (z0z rfl rfl q1q rfl rfl rfl rfl rfl (by simp only [a1h]; rfl) ?_)
  refine ⟨by kernel_rfl, ?_⟩
  exact ⟨(S1.p + 1 + 1 + 1, 4, (pk bs (S1.p + 1 + 1) S1.w.radio.length : Int), false), (by show S1.p + 1 + 1 + 1 ≤ c + 4 * i + 3; omega), [], cv, cv, hv, hv, rfl⟩
 ·try dsimp only [b2o, b2p]
  obtain ⟨q, ek, ew, eb⟩ := q4
  dsimp only at hi ⊢
  refine a7m fun B X0 w0 => ?_
  refine txR 2 rfl rfl (x1x 2 rfl rfl ?_)
  refine txM [0, 1, 2, 3, 4] [_, _, _, _, _] (u9u bs hbs (pSm S1 q) (c + 4 * i + 3) (a3t h1 (by omega) hi) ek 0 0 ew eb (by omega)) rfl rfl rfl rfl fun J hJ => ?_
  obtain ⟨j, jb⟩ := J
  have hj : smOk j (c + 4 * i + 3 + 1) := hJ
  refine v9v rfl (hK4 _ _ (exG (x4x rfl (z5z (b := 1) rfl rfl (by omega) (x0x rfl ?_)))))
  exact ⟨(j, i + 1), ⟨⟨hj.mono (by show _ ≤ c + 4 * (i + 1); omega), by show i + 1 ≤ m; omega⟩, (by show m - (i + 1) < m - i; omega)⟩, [0, _, _, _, 0, _], cv, cv, hv, hv, rfl⟩
end
section
theorem a5x (bs : List Nat) (hbs : ∀ b ∈ bs, b < 256) (S : Sm) (c : Nat) (hS : smOk S c) (m : Nat) (hm : m ≤ 1000) (hc : c + (2 + m) ≤ 1000000) : MethE Tryz.prog 134 5 [.ptr 0 0 0, .pv (.int .i64 (m : Int))] [(0, (0, .box 171 [.ptr 4 0 0, pI S.w.time, a6b true S.w.apps, .ref 1 0, .ref 2 0, pI S.w.hub.round, q3q true S.w.hub.ones, q3q true S.w.hub.twos, q3q true S.w.hub.outs, a0t true S.w.sink, .ref 3 0])), (1, (0, .row 65 13 ((S.w.nodes).map (w5w true)))), (2, (0, .row 79 11 ((S.w.radio).map (p4p true)))), (3, (0, .row 263 5 ((S.list).map a4p))), (4, (0, .box 243 [p7p true bs, .pv (.int .i64 ((S.p : Nat) : Int))]))] (ι := Sm) (fun S' => smOk S' (c + (2 + m))) (fun S' => [0, 4]) (fun S' => .tup []) (fun S' => [(0, (0, .box 171 [.ptr 4 0 0, pI S'.w.time, a6b true S'.w.apps, .ref 1 0, .ref 2 0, pI S'.w.hub.round, q3q true S'.w.hub.ones, q3q true S'.w.hub.twos, q3q true S'.w.hub.outs, a0t true S'.w.sink, .ref 3 0])), (1, (0, .row 65 13 ((S'.w.nodes).map (w5w true)))), (2, (0, .row 79 11 ((S'.w.radio).map (p4p true)))), (3, (0, .row 263 5 ((S'.list).map a4p))), (4, (0, .box 243 [p7p true bs, .pv (.int .i64 ((S'.p : Nat) : Int))]))]) := by
 refine mE (ι := Sm) Tryz.f134 (fun S' => []) 5 0 fun γ => ?_
 have hp := hS.2.2
 refine exA 4 rfl rfl ?_
 refine rlM [4] [_] (y2y true bs (S.p) (4) (by have := hp; omega) hbs) rfl rfl rfl ?_
 refine x0x rfl ?_
 obtain ⟨Pr, ePr, hPr⟩ : ∃ Pr, pk bs S.p 4 = Pr ∧ Pr ≤ 4 := ⟨_, rfl, b1e _ _ _⟩
 rw [ePr]
 refine exA 5 rfl rfl ?_
 refine rlM [4] [_] (y2y true bs (S.p + 1) (m) (by have := hp; omega) hbs) rfl rfl rfl ?_
 refine x0x rfl ?_
 obtain ⟨N, eN, hN⟩ : ∃ N, pk bs (S.p + 1) m = N ∧ N ≤ m := ⟨_, rfl, b1e _ _ _⟩
 rw [eN]
 refine y0y ?_
 refine z2z (ι := Sm × Nat) (fun p γ1 => [(5, pI (p.2 : Int))]) (fun p γ1 => [(1, ((γ1 1), .row 65 13 ((p.1.w.nodes).map (w5w true)))), (2, ((γ1 2), .row 79 11 ((p.1.w.radio).map (p4p true)))), (3, ((γ1 3), .row 263 5 ((p.1.list).map a4p))), (0, ((γ 0), .box 171 [.ptr 4 (γ 4) 0, pI p.1.w.time, a6b true p.1.w.apps, .ref 1 (γ1 1), .ref 2 (γ1 2), pI p.1.w.hub.round, q3q true p.1.w.hub.ones, q3q true p.1.w.hub.twos, q3q true p.1.w.hub.outs, a0t true p.1.w.sink, .ref 3 (γ1 3)])), (4, ((γ 4), .box 243 [p7p true bs, pI ((p.1.p : Nat) : Int)]))]) (fun p => smOk p.1 (c + 2 + (N - p.2)) ∧ p.2 ≤ N) (fun p => p.2) (cK [0, 4] rfl) HE.nil (pSm S (S.p + 1 + 1), N) ⟨a3t hS (by show _ ≤ c + 2 + (N - N); omega) (by show _ ≤ c + 2 + (N - N); omega), Nat.le_refl _⟩ [0, _, _, _] cv hv rfl fun p γ1 hi => ?_
 obtain ⟨S1, i⟩ := p
 obtain ⟨h1, h2⟩ := hi
 dsimp only at h1 h2 ⊢
 refine x2x fun K1 hK1 => ?_
 refine exA 2 rfl rfl (y4y rfl ?_ ?_)<;>intro h<;>try simp at h
 ·refine z4z ?_
  exact ⟨.inl rfl, S1, h1.mono (by omega), [γ 0, _, _, _, γ 4], rfl, rfl, hv⟩
 obtain ⟨i', rfl⟩ : ∃ i', i = i' + 1 := ⟨i - 1, by omega⟩
 refine x8x (hK1 _ _ (x2x fun K3 hK3 => ?_))
 refine y0y (a7m fun B X0 w0 => ?_)
 refine txR 5 rfl rfl (x1x 2 rfl rfl (x9x rfl rfl rfl (a1k ..) (x4x rfl (rlB a1l a2y ?_))))
 refine txM [0, 1, 2, 3, 4] [_, _, _, _, _] (u9u bs hbs S1 (c + 2 + (N - (i' + 1))) (h1.mono (by omega)) 1 (s1s Pr) Pr 0 false (by omega)) rfl rfl rfl rfl fun J hJ => ?_
 obtain ⟨j, jb⟩ := J
 have hj : smOk j (c + 2 + (N - (i' + 1)) + 1) := hJ
 refine v9v rfl (hK3 _ _ (exG (x4x rfl (a0h (b := 1) rfl rfl (by omega) (by omega) (x0x rfl ?_)))))
 exact ⟨(j, i'), ⟨⟨hj.mono (by show _ ≤ c + 2 + (N - i'); omega), by show i' ≤ N; omega⟩, (by show i' < i' + 1; omega)⟩, [0, _, _, _], cv, cv, hv, hv, rfl⟩
end
section
theorem a2u (bs : List Nat) (hbs : ∀ b ∈ bs, b < 256) (S : Sm) (c : Nat) (hS : smOk S c) (m odd : Nat) (hc : c + 195 * m ≤ 1000000) : MethE Tryz.prog 249 5 [.ptr 0 0 0, .pv (.int .i64 (m : Int)), .pv (.int .i64 (odd : Int))] [(0, (0, .box 171 [.ptr 4 0 0, pI S.w.time, a6b true S.w.apps, .ref 1 0, .ref 2 0, pI S.w.hub.round, q3q true S.w.hub.ones, q3q true S.w.hub.twos, q3q true S.w.hub.outs, a0t true S.w.sink, .ref 3 0])), (1, (0, .row 65 13 ((S.w.nodes).map (w5w true)))), (2, (0, .row 79 11 ((S.w.radio).map (p4p true)))), (3, (0, .row 263 5 ((S.list).map a4p))), (4, (0, .box 243 [p7p true bs, .pv (.int .i64 ((S.p : Nat) : Int))]))] (ι := Sm) (fun S' => smOk S' (c + 195 * m)) (fun S' => [0, 4]) (fun S' => .tup []) (fun S' => [(0, (0, .box 171 [.ptr 4 0 0, pI S'.w.time, a6b true S'.w.apps, .ref 1 0, .ref 2 0, pI S'.w.hub.round, q3q true S'.w.hub.ones, q3q true S'.w.hub.twos, q3q true S'.w.hub.outs, a0t true S'.w.sink, .ref 3 0])), (1, (0, .row 65 13 ((S'.w.nodes).map (w5w true)))), (2, (0, .row 79 11 ((S'.w.radio).map (p4p true)))), (3, (0, .row 263 5 ((S'.list).map a4p))), (4, (0, .box 243 [p7p true bs, .pv (.int .i64 ((S'.p : Nat) : Int))]))]) := by
 refine mE (ι := Sm) Tryz.f249 (fun S' => []) 5 0 fun γ => ?_
 refine exR (x0x rfl (y0y ?_))
 refine z2z (ι := Sm × Nat) (fun p γ1 => [(6, pI (p.2 : Int))]) (fun p γ1 => [(1, ((γ1 1), .row 65 13 ((p.1.w.nodes).map (w5w true)))), (2, ((γ1 2), .row 79 11 ((p.1.w.radio).map (p4p true)))), (3, ((γ1 3), .row 263 5 ((p.1.list).map a4p))), (0, ((γ 0), .box 171 [.ptr 4 (γ 4) 0, pI p.1.w.time, a6b true p.1.w.apps, .ref 1 (γ1 1), .ref 2 (γ1 2), pI p.1.w.hub.round, q3q true p.1.w.hub.ones, q3q true p.1.w.hub.twos, q3q true p.1.w.hub.outs, a0t true p.1.w.sink, .ref 3 (γ1 3)])), (4, ((γ 4), .box 243 [p7p true bs, pI ((p.1.p : Nat) : Int)]))]) (fun p => smOk p.1 (c + 195 * p.2) ∧ p.2 ≤ m) (fun p => m - p.2) (cK [0, 1, 2] rfl) HE.nil (S, 0) ⟨hS, Nat.zero_le _⟩ [0, _, _, _] cv hv rfl fun p γ1 hi => ?_
 obtain ⟨S1, k⟩ := p
 obtain ⟨h1, h2⟩ := hi
 dsimp only at h1 h2 ⊢
 refine x2x fun K1 hK1 => ?_
 refine exA 3 rfl rfl (y4y rfl ?_ ?_)<;>intro h<;>try simp at h
 ·refine z4z ?_
  exact ⟨.inl rfl, S1, h1.mono (by omega), [γ 0, _, _, _, γ 4], rfl, rfl, hv⟩
 refine x8x (hK1 _ _ (x2x fun K3 hK3 => ?_))
 refine y0y (x2x fun K4 hK4 => ?_)
 refine exR (x0x rfl (y0y ?_))
 refine z2z (ι := Sm × Nat) (fun p γ2 => [(7, pI (p.2 : Int))]) (fun p γ2 => [(1, ((γ2 1), .row 65 13 ((p.1.w.nodes).map (w5w true)))), (2, ((γ2 2), .row 79 11 ((p.1.w.radio).map (p4p true)))), (3, ((γ2 3), .row 263 5 ((p.1.list).map a4p))), (0, ((γ 0), .box 171 [.ptr 4 (γ 4) 0, pI p.1.w.time, a6b true p.1.w.apps, .ref 1 (γ2 1), .ref 2 (γ2 2), pI p.1.w.hub.round, q3q true p.1.w.hub.ones, q3q true p.1.w.hub.twos, q3q true p.1.w.hub.outs, a0t true p.1.w.sink, .ref 3 (γ2 3)])), (4, ((γ 4), .box 243 [p7p true bs, pI ((p.1.p : Nat) : Int)]))]) (fun p => smOk p.1 (c + 195 * k + (30 * p.2)) ∧ p.2 ≤ 4) (fun p => 4 - p.2) (cK [0, 1, 2, 6] rfl) HE.nil (S1, 0) ⟨h1, Nat.zero_le _⟩ [0, _, _, _] cv hv rfl fun p γ2 hi => ?_
 obtain ⟨S2, i⟩ := p
 obtain ⟨j1, j2⟩ := hi
 dsimp only at j1 j2 ⊢
 refine x2x fun K5 hK5 => ?_
 refine exA 2 rfl rfl (y4y rfl ?_ ?_)<;>intro h<;>try simp at h
 ·refine z4z (hK4 _ _ (exR (x0x rfl (y0y ?_))))
  refine z2z (ι := Sm × Nat) (fun p γ5 => [(9, pI (p.2 : Int))]) (fun p γ5 => [(1, ((γ5 1), .row 65 13 ((p.1.w.nodes).map (w5w true)))), (2, ((γ5 2), .row 79 11 ((p.1.w.radio).map (p4p true)))), (3, ((γ5 3), .row 263 5 ((p.1.list).map a4p))), (0, ((γ 0), .box 171 [.ptr 4 (γ 4) 0, pI p.1.w.time, a6b true p.1.w.apps, .ref 1 (γ5 1), .ref 2 (γ5 2), pI p.1.w.hub.round, q3q true p.1.w.hub.ones, q3q true p.1.w.hub.twos, q3q true p.1.w.hub.outs, a0t true p.1.w.sink, .ref 3 (γ5 3)])), (4, ((γ 4), .box 243 [p7p true bs, pI ((p.1.p : Nat) : Int)]))]) (fun p => smOk p.1 (c + 195 * k + (120 + 25 * p.2)) ∧ p.2 ≤ 3) (fun p => 3 - p.2) (cK [0, 1, 2, 6] rfl) HE.nil (S2, 0) ⟨j1.mono (by omega), Nat.zero_le _⟩ [0, _, _, _] cv hv rfl fun p γ5 hi => ?_
  obtain ⟨S4, q⟩ := p
  obtain ⟨l1, l2⟩ := hi
  dsimp only at l1 l2 ⊢
  refine x2x fun K12 hK12 => ?_
  refine exA 2 rfl rfl (y4y rfl ?_ ?_)<;>intro h<;>try simp at h
  ·refine z4z (hK3 _ _ (exG (x4x rfl (z5z (b := 1) rfl rfl (by omega) (x0x rfl ?_)))))
   exact ⟨(S4, k + 1), ⟨⟨l1.mono (by show _ ≤ c + 195 * (k + 1); omega), by show k + 1 ≤ m; omega⟩, (by show m - (k + 1) < m - k; omega)⟩, [0, _, _, _], cv, cv, hv, hv, rfl⟩
  refine x8x (hK12 _ _ (x2x fun K14 hK14 => ?_))
  refine y0y (a0p fun B X0 w0 => ?_)
  refine txR 3 rfl rfl (x1x 2 rfl rfl (rlB a1l a2y ?_))
  refine txM [0, 1, 2, 3, 4] [_, _, _, _, _] (u9u bs hbs S4 (c + 195 * k + (120 + 25 * q)) l1 2 q 0 0 false (by omega)) rfl rfl rfl rfl fun J hJ => ?_
  obtain ⟨j, jb⟩ := J
  have hj : smOk j (c + 195 * k + (120 + 25 * q) + 1) := hJ
  refine v9v rfl (a7m fun B X0 w0 => ?_)
  refine txR 2 rfl rfl (x1x 2 rfl rfl ?_)
  refine txM [0, 1, 2, 3, 4] [_, _, _, _, _] (q6q bs hbs j (c + 195 * k + (120 + 25 * q) + 1) hj 6 odd (by omega)) rfl rfl rfl rfl fun r hr => ?_
  refine v9v rfl (hK14 _ _ (exG (x4x rfl (z5z (b := 1) rfl rfl (by omega) (x0x rfl ?_)))))
  exact ⟨(r, q + 1), ⟨⟨hr.mono (by show _ ≤ c + 195 * k + (120 + 25 * (q + 1)); omega), by show q + 1 ≤ 3; omega⟩, (by show 3 - (q + 1) < 3 - q; omega)⟩, [0, _, _, _], cv, cv, hv, hv, rfl⟩
 refine x8x (hK5 _ _ ?_)
 refine a0c (ι := Sm) (fun T γ3 => []) (fun T γ3 => [(1, ((γ3 1), .row 65 13 ((T.w.nodes).map (w5w true)))), (2, ((γ3 2), .row 79 11 ((T.w.radio).map (p4p true)))), (3, ((γ3 3), .row 263 5 ((T.list).map a4p))), (0, ((γ 0), .box 171 [.ptr 4 (γ 4) 0, pI T.w.time, a6b true T.w.apps, .ref 1 (γ3 1), .ref 2 (γ3 2), pI T.w.hub.round, q3q true T.w.hub.ones, q3q true T.w.hub.twos, q3q true T.w.hub.outs, a0t true T.w.sink, .ref 3 (γ3 3)])), (4, ((γ 4), .box 243 [p7p true bs, pI ((T.p : Nat) : Int)]))]) (fun T => smOk T (c + 195 * k + (30 * i + 30))) (cK [0, 1, 2, 6, 7] rfl) HE.nil ?_ fun T γ3 hi => ?_
 ·refine y0y (exR (x0x rfl (y0y ?_)))
  refine z2z (ι := Sm × Nat) (fun p γ4 => [(8, pI (p.2 : Int))]) (fun p γ4 => [(1, ((γ4 1), .row 65 13 ((p.1.w.nodes).map (w5w true)))), (2, ((γ4 2), .row 79 11 ((p.1.w.radio).map (p4p true)))), (3, ((γ4 3), .row 263 5 ((p.1.list).map a4p))), (0, ((γ 0), .box 171 [.ptr 4 (γ 4) 0, pI p.1.w.time, a6b true p.1.w.apps, .ref 1 (γ4 1), .ref 2 (γ4 2), pI p.1.w.hub.round, q3q true p.1.w.hub.ones, q3q true p.1.w.hub.twos, q3q true p.1.w.hub.outs, a0t true p.1.w.sink, .ref 3 (γ4 3)])), (4, ((γ 4), .box 243 [p7p true bs, pI ((p.1.p : Nat) : Int)]))]) (fun p => smOk p.1 (c + 195 * k + (30 * i + p.2)) ∧ p.2 ≤ 30) (fun p => 30 - p.2) (cK [0, 1, 2, 6, 7] rfl) HE.nil (S2, 0) ⟨j1, Nat.zero_le _⟩ [0, _, _, _] cv hv rfl fun p γ4 hi => ?_
  obtain ⟨S3, q⟩ := p
  obtain ⟨k1, k2⟩ := hi
  dsimp only at k1 k2 ⊢
  refine x2x fun K7 hK7 => ?_
  refine a0p fun B X0 w0 => ?_
  refine txR 3 rfl rfl (x1x 3 rfl rfl (f3k 21 rfl ?_ ?_))<;>intro h<;>try simp at h
  rotate_left
  ·refine txR 7 rfl rfl (x1x 7 rfl rfl (v9v rfl (x7x rfl (fun hc11 => ?_) (fun hc11 => ?_))))
   ·simp at hc11
   try simp at hc11
   refine z4z ?_
   exact ⟨S3, (k1.mono (by omega)), [0, _, _, _], cv, cv, hv, hv, rfl⟩
  refine txR 5 rfl rfl (x1x 2 rfl rfl (z1z rfl rfl (x9x rfl rfl rfl (a1k ..) (z1z rfl rfl (x4x rfl (z1z rfl rfl (rlB a1l a2y ?_)))))))
  refine e0g [0, 1, 2, 3, 4] [_, _, _, _, _] (u9u bs hbs S3 (c + 195 * k + (30 * i + q)) k1 1 (s1s i) i 0 false (by omega)) rfl rfl rfl rfl rfl rfl rfl (by decide) rfl rfl ihv (fun _ => (by (simp only [pI, a3p, a3s, b9s, gl, nx, a7r, Nat.beq]; rfl))) (fun _ => (by (simp only [pI, a3p, a3s, b9s, gl, nx, a7r, Nat.beq]; rfl))) fun J hJ => ?_
  obtain ⟨j, jb⟩ := J
  have hj : smOk j (c + 195 * k + (30 * i + q) + 1) := hJ
  refine txR 1 rfl rfl (a8r rfl rfl (v9v rfl (y4y rfl ?_ ?_)))<;>intro h<;>try simp at h
  ·refine z4z ?_
   exact ⟨j, (hj.mono (by omega)), [0, _, _, _], cv, cv, hv, hv, rfl⟩
  refine x8x (hK7 _ _ (x2x fun K10 hK10 => ?_))
  refine y0y (x8x (hK10 _ _ (exG (x4x rfl (z5z (b := 1) rfl rfl (by omega) (x0x rfl ?_))))))
  exact ⟨(j, q + 1), ⟨⟨hj.mono (by show _ ≤ c + 195 * k + (30 * i + (q + 1)); omega), by show q + 1 ≤ 30; omega⟩, (by show 30 - (q + 1) < 30 - q; omega)⟩, [0, _, _, _], cv, cv, hv, hv, rfl⟩
 ·try dsimp only [b2o, b2p]
  refine exG (x4x rfl (z5z (b := 1) rfl rfl (by omega) (x0x rfl ?_)))
  exact ⟨(T, i + 1), ⟨⟨hi.mono (by show _ ≤ c + 195 * k + 30 * (i + 1); omega), by show i + 1 ≤ 4; omega⟩, (by show 4 - (i + 1) < 4 - i; omega)⟩, [0, _, _, _], cv, cv, hv, hv, rfl⟩
end
section
theorem b8n (bs : List Nat) (hbs : ∀ b ∈ bs, b < 256) (S : Sm) (c : Nat) (hS : smOk S c)  (hc : c + 960 ≤ 1000000) : MethE Tryz.prog 289 5 [.ptr 0 0 0] [(0, (0, .box 171 [.ptr 4 0 0, pI S.w.time, a6b true S.w.apps, .ref 1 0, .ref 2 0, pI S.w.hub.round, q3q true S.w.hub.ones, q3q true S.w.hub.twos, q3q true S.w.hub.outs, a0t true S.w.sink, .ref 3 0])), (1, (0, .row 65 13 ((S.w.nodes).map (w5w true)))), (2, (0, .row 79 11 ((S.w.radio).map (p4p true)))), (3, (0, .row 263 5 ((S.list).map a4p))), (4, (0, .box 243 [p7p true bs, .pv (.int .i64 ((S.p : Nat) : Int))]))] (ι := Sm) (fun S' => smOk S' (c + 960)) (fun S' => [0, 4]) (fun S' => .tup []) (fun S' => [(0, (0, .box 171 [.ptr 4 0 0, pI S'.w.time, a6b true S'.w.apps, .ref 1 0, .ref 2 0, pI S'.w.hub.round, q3q true S'.w.hub.ones, q3q true S'.w.hub.twos, q3q true S'.w.hub.outs, a0t true S'.w.sink, .ref 3 0])), (1, (0, .row 65 13 ((S'.w.nodes).map (w5w true)))), (2, (0, .row 79 11 ((S'.w.radio).map (p4p true)))), (3, (0, .row 263 5 ((S'.list).map a4p))), (4, (0, .box 243 [p7p true bs, .pv (.int .i64 ((S'.p : Nat) : Int))]))]) := by
 refine mE (ι := Sm) Tryz.f289 (fun S' => []) 5 0 fun γ => ?_
 refine a0p fun B X0 w0 => ?_
 refine txR 7 rfl rfl (x1x 5 rfl rfl ?_)
 refine rlM [4] [_] (y2y true bs (S.p) (3) (by have := hS.2.2; omega) hbs) rfl rfl rfl ?_
 obtain ⟨N, eN, hN⟩ : ∃ N, pk bs S.p 3 = N ∧ N ≤ 3 := ⟨_, rfl, b1e _ _ _⟩
 rw [eN]
 refine z5z (a := 1) rfl rfl (by omega) ?_
 refine txM [0, 1, 2, 3, 4] [_, _, _, _, _] (a2u bs hbs (pSm S (S.p + 1)) (c + 1) (a3t hS (by omega) (by have := hS.2.2; omega)) (1 + N) 0 (by omega)) rfl rfl rfl rfl fun a ha => ?_
 have ha2 : smOk a (c + 781) := ha.mono (by omega)
 refine v9v rfl (a0p fun B X0 w0 => ?_)
 refine txR 2 rfl rfl (x4x rfl (rlB a1l a2y ?_))
 refine txM [0, 1, 2, 3, 4] [_, _, _, _, _] (u9u bs hbs a (c + 781) ha2 3 0 0 0 false (by omega)) rfl rfl rfl rfl fun J hJ => ?_
 obtain ⟨j, jb⟩ := J
 have hj : smOk j (c + 781 + 1) := hJ
 refine v9v rfl (a0p fun B X0 w0 => ?_)
 refine txR 6 rfl rfl (x1x 5 rfl rfl ?_)
 refine rlM [4] [_] (y2y true bs (j.p) (12) (by have := hj.2.2; omega) hbs) rfl rfl rfl ?_
 refine txM [0, 1, 2, 3, 4] [_, _, _, _, _] (q6q bs hbs (pSm j (j.p + 1)) (c + 783) (a3t hj (by omega) (by have := hj.2.2; omega)) (pk bs j.p 12) 0 (by have := b1e bs j.p 12; omega)) rfl rfl rfl rfl fun b hb => ?_
 have hb2 : smOk b (c + 831) := hb.mono (by have := b1e bs j.p 12; omega)
 refine v9v rfl (exA 4 rfl rfl ?_)
 refine rlM [4] [_] (y2y true bs (b.p) (3) (by have := hb2.2.2; omega) hbs) rfl rfl rfl ?_
 refine x0x rfl ?_
 obtain ⟨Pr, ePr, hPr⟩ : ∃ Pr, pk bs b.p 3 = Pr ∧ Pr ≤ 3 := ⟨_, rfl, b1e _ _ _⟩
 rw [ePr]
 refine a0p fun B X0 w0 => ?_
 refine txR 3 rfl rfl (x1x 2 rfl rfl (rlB a1l a2y ?_))
 refine txM [0, 1, 2, 3, 4] [_, _, _, _, _] (u9u bs hbs (pSm b (b.p + 1)) (c + 832) (a3t hb2 (by omega) (by have := hb2.2.2; omega)) 6 Pr 0 0 false (by omega)) rfl rfl rfl rfl fun J hJ => ?_
 obtain ⟨j, jb⟩ := J
 have hj : smOk j (c + 832 + 1) := hJ
 refine v9v rfl ?_
 refine a0c (ι := Sm) (fun T γ1 => []) (fun T γ1 => [(1, ((γ1 1), .row 65 13 ((T.w.nodes).map (w5w true)))), (2, ((γ1 2), .row 79 11 ((T.w.radio).map (p4p true)))), (3, ((γ1 3), .row 263 5 ((T.list).map a4p))), (0, ((γ 0), .box 171 [.ptr 4 (γ 4) 0, pI T.w.time, a6b true T.w.apps, .ref 1 (γ1 1), .ref 2 (γ1 2), pI T.w.hub.round, q3q true T.w.hub.ones, q3q true T.w.hub.twos, q3q true T.w.hub.outs, a0t true T.w.sink, .ref 3 (γ1 3)])), (4, ((γ 4), .box 243 [p7p true bs, pI ((T.p : Nat) : Int)]))]) (fun T => smOk T (c + 839)) (y3y 0 rfl Cov.nil) HE.nil ?_ fun T γ1 hi => ?_
 ·refine exA 4 rfl rfl ?_
  refine rlM [4] [_] (y2y true bs (j.p) (4) (by have := hj.2.2; omega) hbs) rfl rfl rfl ?_
  refine v6v rfl rfl rfl (y4y rfl ?_ ?_)<;>intro h<;>try simp at h
  ·refine x8x ?_
   exact ⟨(pSm j (j.p + 1)), (a3t hj (by omega) (by have := hj.2.2; omega)), [0, _, _, _], cv, cv, hv, hv, rfl⟩
  refine a0p fun B X0 w0 => ?_
  refine txR 3 rfl rfl (x1x 2 rfl rfl (rlB a1l a2y ?_))
  refine txM [0, 1, 2, 3, 4] [_, _, _, _, _] (u9u bs hbs (pSm j (j.p + 1)) (c + 834) (a3t hj (by omega) (by have := hj.2.2; omega)) 7 Pr 0 0 false (by omega)) rfl rfl rfl rfl fun J hJ => ?_
  obtain ⟨j, jb⟩ := J
  have hj : smOk j (c + 834 + 1) := hJ
  refine v9v rfl (a0p fun B X0 w0 => ?_)
  refine txR 3 rfl rfl (x1x 2 rfl rfl (rlB a1l a2y ?_))
  refine txM [0, 1, 2, 3, 4] [_, _, _, _, _] (u9u bs hbs j (c + 834 + 1) hj 2 Pr 0 0 false (by omega)) rfl rfl rfl rfl fun J hJ => ?_
  obtain ⟨j, jb⟩ := J
  have hj : smOk j (c + 834 + 1 + 1) := hJ
  refine v9v rfl (exA 4 rfl rfl ?_)
  refine rlM [4] [_] (y2y true bs (j.p) (2) (by have := hj.2.2; omega) hbs) rfl rfl rfl ?_
  refine v6v rfl rfl rfl (y4y rfl ?_ ?_)<;>intro h<;>try simp at h
  ·refine x8x ?_
   exact ⟨(pSm j (j.p + 1)), (a3t hj (by omega) (by have := hj.2.2; omega)), [0, _, _, _], cv, cv, hv, hv, rfl⟩
  refine a0p fun B X0 w0 => ?_
  refine txR 9 rfl rfl (x1x 6 rfl rfl ?_)
  refine a1j (n := j.w.radio.length) rfl v4v rfl rfl (List.length_map _) ?_
  have hr40 := hj.1.2.2.2.1
  refine a0y (.int .i64 ((j.w.radio.length : Int) - 1)) rfl rfl rfl (a9c rfl (by omega) (by omega) (by omega)) ?_
  refine rlB a1l a2y ?_
  refine txM [0, 1, 2, 3, 4] [_, _, _, _, _] (u9u bs hbs (pSm j (j.p + 1)) (c + 837) (a3t hj (by omega) (by have := hj.2.2; omega)) 4 0 0 ((j.w.radio.length : Int) - 1) false (by omega)) rfl rfl rfl rfl fun J hJ => ?_
  obtain ⟨j, jb⟩ := J
  have hj : smOk j (c + 837 + 1) := hJ
  refine v9v rfl (a7m fun B X0 w0 => ?_)
  refine txR 9 rfl rfl (x1x 6 rfl rfl ?_)
  refine a1j (n := j.w.radio.length) rfl v4v rfl rfl (List.length_map _) ?_
  have hr40 := hj.1.2.2.2.1
  refine a0y (.int .i64 ((j.w.radio.length : Int) - 1)) rfl rfl rfl (a9c rfl (by omega) (by omega) (by omega)) ?_
  refine rlB a1l a2y ?_
  refine txM [0, 1, 2, 3, 4] [_, _, _, _, _] (u9u bs hbs j (c + 837 + 1) hj 4 0 0 ((j.w.radio.length : Int) - 1) false (by omega)) rfl rfl rfl rfl fun J hJ => ?_
  obtain ⟨j, jb⟩ := J
  have hj : smOk j (c + 837 + 1 + 1) := hJ
  refine v9v rfl ?_
  exact ⟨j, (hj.mono (by omega)), [0, _, _, _], cv, cv, hv, hv, rfl⟩
 ·try dsimp only [b2o, b2p]
  refine a7m fun B X0 w0 => ?_
  refine txR 1 rfl rfl (x4x rfl ?_)
  refine txM [0, 1, 2, 3, 4] [_, _, _, _, _] (q6q bs hbs T (c + 839) hi 30 6 (by omega)) rfl rfl rfl rfl fun r hr => ?_
  refine v9v rfl ?_
  exact ⟨.inl rfl, r, hr.mono (by omega), [γ 0, _, _, _, γ 4], rfl, rfl, hv⟩
end
section
theorem a8j (bs : List Nat) (hbs : ∀ b ∈ bs, b < 256) (S : Sm) (c : Nat) (hS : smOk S c) (odd : Nat) (hc : c + 281 ≤ 1000000) : MethE Tryz.prog 215 5 [.ptr 0 0 0, .pv (.int .i64 (odd : Int))] [(0, (0, .box 171 [.ptr 4 0 0, pI S.w.time, a6b true S.w.apps, .ref 1 0, .ref 2 0, pI S.w.hub.round, q3q true S.w.hub.ones, q3q true S.w.hub.twos, q3q true S.w.hub.outs, a0t true S.w.sink, .ref 3 0])), (1, (0, .row 65 13 ((S.w.nodes).map (w5w true)))), (2, (0, .row 79 11 ((S.w.radio).map (p4p true)))), (3, (0, .row 263 5 ((S.list).map a4p))), (4, (0, .box 243 [p7p true bs, .pv (.int .i64 ((S.p : Nat) : Int))]))] (ι := Sm) (fun S' => smOk S' (c + 281)) (fun S' => [0, 4]) (fun S' => .tup []) (fun S' => [(0, (0, .box 171 [.ptr 4 0 0, pI S'.w.time, a6b true S'.w.apps, .ref 1 0, .ref 2 0, pI S'.w.hub.round, q3q true S'.w.hub.ones, q3q true S'.w.hub.twos, q3q true S'.w.hub.outs, a0t true S'.w.sink, .ref 3 0])), (1, (0, .row 65 13 ((S'.w.nodes).map (w5w true)))), (2, (0, .row 79 11 ((S'.w.radio).map (p4p true)))), (3, (0, .row 263 5 ((S'.list).map a4p))), (4, (0, .box 243 [p7p true bs, .pv (.int .i64 ((S'.p : Nat) : Int))]))]) := by
 refine mE (ι := Sm) Tryz.f215 (fun S' => []) 5 0 fun γ => ?_
 refine x2x fun K1 hK1 => ?_
 refine exR (x0x rfl (y0y ?_))
 refine z2z (ι := Sm × Nat) (fun p γ1 => [(4, pI (p.2 : Int))]) (fun p γ1 => [(1, ((γ1 1), .row 65 13 ((p.1.w.nodes).map (w5w true)))), (2, ((γ1 2), .row 79 11 ((p.1.w.radio).map (p4p true)))), (3, ((γ1 3), .row 263 5 ((p.1.list).map a4p))), (0, ((γ 0), .box 171 [.ptr 4 (γ 4) 0, pI p.1.w.time, a6b true p.1.w.apps, .ref 1 (γ1 1), .ref 2 (γ1 2), pI p.1.w.hub.round, q3q true p.1.w.hub.ones, q3q true p.1.w.hub.twos, q3q true p.1.w.hub.outs, a0t true p.1.w.sink, .ref 3 (γ1 3)])), (4, ((γ 4), .box 243 [p7p true bs, pI ((p.1.p : Nat) : Int)]))]) (fun p => smOk p.1 (c + 7 * p.2) ∧ p.2 ≤ 4) (fun p => 4 - p.2) (cK [0, 1] rfl) HE.nil (S, 0) ⟨hS, Nat.zero_le _⟩ [0, _, _, _] cv hv rfl fun p γ1 hi => ?_
 obtain ⟨S1, k⟩ := p
 obtain ⟨h1, h2⟩ := hi
 dsimp only at h1 h2 ⊢
 have hp := h1.2.2
 refine x2x fun K2 hK2 => ?_
 refine exA 2 rfl rfl (x7x rfl ?_ ?_)<;>intro h<;>try simp at h
 ·refine x8x (hK2 _ _ (x2x fun K4 hK4 => ?_))
  refine y0y (exA 4 rfl rfl ?_)
  refine rlM [4] [_] (y2y true bs (S1.p) (6) (by have := hp; omega) hbs) rfl rfl rfl ?_
  refine x0x rfl ?_
  obtain ⟨N, eN, hN⟩ : ∃ N, pk bs S1.p 6 = N ∧ N ≤ 6 := ⟨_, rfl, b1e _ _ _⟩
  rw [eN]
  refine y0y ?_
  refine z2z (ι := Sm × Nat) (fun p γ2 => [(5, pI (p.2 : Int))]) (fun p γ2 => [(1, ((γ2 1), .row 65 13 ((p.1.w.nodes).map (w5w true)))), (2, ((γ2 2), .row 79 11 ((p.1.w.radio).map (p4p true)))), (3, ((γ2 3), .row 263 5 ((p.1.list).map a4p))), (0, ((γ 0), .box 171 [.ptr 4 (γ 4) 0, pI p.1.w.time, a6b true p.1.w.apps, .ref 1 (γ2 1), .ref 2 (γ2 2), pI p.1.w.hub.round, q3q true p.1.w.hub.ones, q3q true p.1.w.hub.twos, q3q true p.1.w.hub.outs, a0t true p.1.w.sink, .ref 3 (γ2 3)])), (4, ((γ 4), .box 243 [p7p true bs, pI ((p.1.p : Nat) : Int)]))]) (fun p => smOk p.1 (c + 7 * k + 1 + (N - p.2)) ∧ p.2 ≤ N) (fun p => p.2) (cK [0, 1, 4] rfl) HE.nil (pSm S1 (S1.p + 1), N) ⟨a3t h1 (by show _ ≤ c + 7 * k + 1 + (N - N); omega) (by show _ ≤ c + 7 * k + 1 + (N - N); omega), Nat.le_refl _⟩ [0, _, _, _] cv hv rfl fun p γ2 hi => ?_
  obtain ⟨S2, i⟩ := p
  obtain ⟨j1, j2⟩ := hi
  dsimp only at j1 j2 ⊢
  refine x2x fun K5 hK5 => ?_
  refine exA 2 rfl rfl (y4y rfl ?_ ?_)<;>intro h<;>try simp at h
  ·refine z4z (hK4 _ _ (exG (x4x rfl (z5z (b := 1) rfl rfl (by omega) (x0x rfl ?_)))))
   exact ⟨(S2, k + 1), ⟨⟨j1.mono (by show _ ≤ c + 7 * (k + 1); omega), by show k + 1 ≤ 4; omega⟩, (by show 4 - (k + 1) < 4 - k; omega)⟩, [0, _, _, _], cv, cv, hv, hv, rfl⟩
  obtain ⟨i', rfl⟩ : ∃ i', i = i' + 1 := ⟨i - 1, by omega⟩
  refine x8x (hK5 _ _ (x2x fun K7 hK7 => ?_))
  refine y0y (a7m fun B X0 w0 => ?_)
  refine txR 5 rfl rfl (x1x 2 rfl rfl (x9x rfl rfl rfl (a1k ..) (x4x rfl (rlB a1l a2y ?_))))
  refine txM [0, 1, 2, 3, 4] [_, _, _, _, _] (u9u bs hbs S2 (c + 7 * k + 1 + (N - (i' + 1))) (j1.mono (by omega)) 1 (s1s k) k 0 false (by omega)) rfl rfl rfl rfl fun J hJ => ?_
  obtain ⟨j, jb⟩ := J
  have hj : smOk j (c + 7 * k + 1 + (N - (i' + 1)) + 1) := hJ
  refine v9v rfl (hK7 _ _ (exG (x4x rfl (a0h (b := 1) rfl rfl (by omega) (by omega) (x0x rfl ?_)))))
  exact ⟨(j, i'), ⟨⟨hj.mono (by show _ ≤ c + 7 * k + 1 + (N - i'); omega), by show i' ≤ N; omega⟩, (by show i' < i' + 1; omega)⟩, [0, _, _, _], cv, cv, hv, hv, rfl⟩
 refine z4z (hK1 _ _ (x2x fun K8 hK8 => ?_))
 refine exR (x0x rfl (y0y ?_))
 refine z2z (ι := Sm × Nat) (fun p γ3 => [(6, pI (p.2 : Int))]) (fun p γ3 => [(1, ((γ3 1), .row 65 13 ((p.1.w.nodes).map (w5w true)))), (2, ((γ3 2), .row 79 11 ((p.1.w.radio).map (p4p true)))), (3, ((γ3 3), .row 263 5 ((p.1.list).map a4p))), (0, ((γ 0), .box 171 [.ptr 4 (γ 4) 0, pI p.1.w.time, a6b true p.1.w.apps, .ref 1 (γ3 1), .ref 2 (γ3 2), pI p.1.w.hub.round, q3q true p.1.w.hub.ones, q3q true p.1.w.hub.twos, q3q true p.1.w.hub.outs, a0t true p.1.w.sink, .ref 3 (γ3 3)])), (4, ((γ 4), .box 243 [p7p true bs, pI ((p.1.p : Nat) : Int)]))]) (fun p => smOk p.1 (c + 28 + p.2) ∧ p.2 ≤ 3) (fun p => 3 - p.2) (cK [0, 1] rfl) HE.nil (S1, 0) ⟨h1.mono (by omega), Nat.zero_le _⟩ [0, _, _, _] cv hv rfl fun p γ3 hi => ?_
 obtain ⟨S3, q⟩ := p
 obtain ⟨k1, k2⟩ := hi
 dsimp only at k1 k2 ⊢
 refine x2x fun K9 hK9 => ?_
 refine exA 2 rfl rfl (x7x rfl ?_ ?_)<;>intro h<;>try simp at h
 ·refine x8x (hK9 _ _ (x2x fun K11 hK11 => ?_))
  refine y0y (a7m fun B X0 w0 => ?_)
  refine txR 3 rfl rfl (x1x 2 rfl rfl (rlB a1l a2y ?_))
  refine txM [0, 1, 2, 3, 4] [_, _, _, _, _] (u9u bs hbs S3 (c + 28 + q) k1 2 q 0 0 false (by omega)) rfl rfl rfl rfl fun J hJ => ?_
  obtain ⟨j, jb⟩ := J
  have hj : smOk j (c + 28 + q + 1) := hJ
  refine v9v rfl (hK11 _ _ (exG (x4x rfl (z5z (b := 1) rfl rfl (by omega) (x0x rfl ?_)))))
  exact ⟨(j, q + 1), ⟨⟨hj.mono (by show _ ≤ c + 28 + (q + 1); omega), by show q + 1 ≤ 3; omega⟩, (by show 3 - (q + 1) < 3 - q; omega)⟩, [0, _, _, _], cv, cv, hv, hv, rfl⟩
 refine z4z (hK8 _ _ (a0p fun B X0 w0 => ?_))
 refine txR 1 rfl rfl (x4x rfl ?_)
 refine txM [0, 1, 2, 3, 4] [_, _, _, _, _] (q6q bs hbs S3 (c + 28 + 3) (k1.mono (by omega)) 30 0 (by omega)) rfl rfl rfl rfl fun b hb => ?_
 refine v9v rfl (a0p fun B X0 w0 => ?_)
 refine txR 2 rfl rfl (x4x rfl (rlB a1l a2y ?_))
 refine txM [0, 1, 2, 3, 4] [_, _, _, _, _] (u9u bs hbs b (c + 28 + 3 + 4 * 30) hb 3 0 0 0 false (by omega)) rfl rfl rfl rfl fun J hJ => ?_
 obtain ⟨j, jb⟩ := J
 have hj : smOk j (c + 28 + 3 + 4 * 30 + 1) := hJ
 refine v9v rfl (a7m fun B X0 w0 => ?_)
 refine txR 8 rfl rfl (x1x 5 rfl rfl ?_)
 refine rlM [4] [_] (y2y true bs (j.p) (30) (by have := hj.2.2; omega) hbs) rfl rfl rfl ?_
 obtain ⟨N, eN, hN⟩ : ∃ N, pk bs j.p 30 = N ∧ N ≤ 30 := ⟨_, rfl, b1e _ _ _⟩
 rw [eN]
 refine z5z (a := 2) rfl rfl (by omega) (x4x rfl ?_)
 refine txM [0, 1, 2, 3, 4] [_, _, _, _, _] (q6q bs hbs (pSm j (j.p + 1)) (c + 28 + 3 + 4 * 30 + 1 + 1) (a3t hj (by omega) (by have := hj.2.2; omega)) (2 + N) odd (by omega)) rfl rfl rfl rfl fun r hr => ?_
 refine v9v rfl ?_
 exact ⟨.inl rfl, r, hr.mono (by omega), [γ 0, _, _, _, γ 4], rfl, rfl, hv⟩
end
section
theorem b7g (bs : List Nat) (hbs : ∀ b ∈ bs, b < 256) (S : Sm) (c : Nat) (hS : smOk S c)  (hc : c + 1030 ≤ 1000000) : MethE Tryz.prog 288 5 [.ptr 0 0 0] [(0, (0, .box 171 [.ptr 4 0 0, pI S.w.time, a6b true S.w.apps, .ref 1 0, .ref 2 0, pI S.w.hub.round, q3q true S.w.hub.ones, q3q true S.w.hub.twos, q3q true S.w.hub.outs, a0t true S.w.sink, .ref 3 0])), (1, (0, .row 65 13 ((S.w.nodes).map (w5w true)))), (2, (0, .row 79 11 ((S.w.radio).map (p4p true)))), (3, (0, .row 263 5 ((S.list).map a4p))), (4, (0, .box 243 [p7p true bs, .pv (.int .i64 ((S.p : Nat) : Int))]))] (ι := Sm) (fun S' => smOk S' (c + 1030)) (fun S' => [0, 4]) (fun S' => .tup []) (fun S' => [(0, (0, .box 171 [.ptr 4 0 0, pI S'.w.time, a6b true S'.w.apps, .ref 1 0, .ref 2 0, pI S'.w.hub.round, q3q true S'.w.hub.ones, q3q true S'.w.hub.twos, q3q true S'.w.hub.outs, a0t true S'.w.sink, .ref 3 0])), (1, (0, .row 65 13 ((S'.w.nodes).map (w5w true)))), (2, (0, .row 79 11 ((S'.w.radio).map (p4p true)))), (3, (0, .row 263 5 ((S'.list).map a4p))), (4, (0, .box 243 [p7p true bs, .pv (.int .i64 ((S'.p : Nat) : Int))]))]) := by
 refine mE (ι := Sm) Tryz.f288 (fun S' => []) 5 0 fun γ => ?_
 refine a0p fun B X0 w0 => ?_
 refine txR 7 rfl rfl (x1x 5 rfl rfl ?_)
 refine rlM [4] [_] (y2y true bs (S.p) (2) (by have := hS.2.2; omega) hbs) rfl rfl rfl ?_
 obtain ⟨N, eN, hN⟩ : ∃ N, pk bs S.p 2 = N ∧ N ≤ 2 := ⟨_, rfl, b1e _ _ _⟩
 rw [eN]
 refine z5z (a := 1) rfl rfl (by omega) ?_
 refine txM [0, 1, 2, 3, 4] [_, _, _, _, _] (a2u bs hbs (pSm S (S.p + 1)) (c + 1) (a3t hS (by omega) (by have := hS.2.2; omega)) (1 + N) 0 (by omega)) rfl rfl rfl rfl fun a ha => ?_
 have ha2 : smOk a (c + 586) := ha.mono (by omega)
 refine v9v rfl (a0p fun B X0 w0 => ?_)
 refine txR 1 rfl rfl (x4x rfl ?_)
 refine txM [0, 1, 2, 3, 4] [_, _, _, _, _] (a8j bs hbs a (c + 586) ha2 0 (by omega)) rfl rfl rfl rfl fun b hb => ?_
 refine v9v rfl (a0p fun B X0 w0 => ?_)
 refine txR 2 rfl rfl (x4x rfl (rlB a1l a2y ?_))
 refine txM [0, 1, 2, 3, 4] [_, _, _, _, _] (u9u bs hbs b (c + 586 + 281) hb 3 0 0 0 false (by omega)) rfl rfl rfl rfl fun J hJ => ?_
 obtain ⟨j, jb⟩ := J
 have hj : smOk j (c + 586 + 281 + 1) := hJ
 refine v9v rfl (exA 5 rfl rfl ?_)
 refine a1j (n := j.w.radio.length) rfl v4v rfl rfl (List.length_map _) ?_
 refine x0x rfl (x2x fun K1 hK1 => ?_)
 refine exA 2 rfl rfl (x7x rfl ?_ ?_)<;>intro h<;>try simp at h
 ·refine x6x ?_
  exact ⟨.inr rfl, j, hj.mono (by omega), [γ 0, _, _, _, γ 4], rfl, rfl, hv⟩
 have hr40 := hj.1.2.2.2.1
 refine x8x (hK1 _ _ (exR (x4x rfl (a0h (b := 2) rfl rfl (by omega) (by omega) (x1x 4 rfl rfl ?_)))))
 refine rlM [4] [_] (y2y true bs (j.p) (2) (by have := hj.2.2; omega) hbs) rfl rfl rfl ?_
 obtain ⟨X, eX, hX⟩ : ∃ X, pk bs j.p 2 = X ∧ X < 2 := ⟨_, rfl, a3u _ _ _ (by omega)⟩
 rw [eX]
 refine z5z rfl rfl (by have := hj.1.2.2.2.1; omega) ?_
 refine x0x rfl ?_
 obtain ⟨z, ez, hz⟩ : ∃ z, j.w.radio.length - 2 + X = z ∧ z < j.w.radio.length := ⟨_, rfl, by omega⟩
 rw [ez]
 obtain ⟨x, hx⟩ := gE j.w.radio z
 refine exA 6 rfl rfl ?_
 refine v0v (j := z) rfl rfl v4v rfl v3v rfl rfl hz ?_
 refine y1y rfl v3v rfl rfl q1q rfl rfl (a0x rfl q1q rfl hx rfl (x0x rfl (a0p fun B X0 w0 => ?_)))
 refine txR 3 rfl rfl (x1x 2 rfl rfl (rlB a1l a2y ?_))
 refine txM [0, 1, 2, 3, 4] [_, _, _, _, _] (u9u bs hbs (pSm j (j.p + 1)) (c + 869) (a3t hj (by omega) (by have := hj.2.2; omega)) 4 0 0 z true (by omega)) rfl rfl rfl rfl fun J hJ => ?_
 obtain ⟨j, jb⟩ := J
 have hj : smOk j (c + 869 + 1) := hJ
 refine v9v rfl ?_
 refine a0c (ι := Sm) (fun T γ1 => []) (fun T γ1 => [(1, ((γ1 1), .row 65 13 ((T.w.nodes).map (w5w true)))), (2, ((γ1 2), .row 79 11 ((T.w.radio).map (p4p true)))), (3, ((γ1 3), .row 263 5 ((T.list).map a4p))), (0, ((γ 0), .box 171 [.ptr 4 (γ 4) 0, pI T.w.time, a6b true T.w.apps, .ref 1 (γ1 1), .ref 2 (γ1 2), pI T.w.hub.round, q3q true T.w.hub.ones, q3q true T.w.hub.twos, q3q true T.w.hub.outs, a0t true T.w.sink, .ref 3 (γ1 3)])), (4, ((γ 4), .box 243 [p7p true bs, pI ((T.p : Nat) : Int)]))]) (fun T => smOk T (c + 892)) (cK [0, 4] rfl) HE.nil ?_ fun T γ1 hi => ?_
 ·refine exR (x0x rfl (y0y ?_))
  refine z2z (ι := Sm × Nat) (fun p γ2 => [(5, pI (p.2 : Int))]) (fun p γ2 => [(1, ((γ2 1), .row 65 13 ((p.1.w.nodes).map (w5w true)))), (2, ((γ2 2), .row 79 11 ((p.1.w.radio).map (p4p true)))), (3, ((γ2 3), .row 263 5 ((p.1.list).map a4p))), (0, ((γ 0), .box 171 [.ptr 4 (γ 4) 0, pI p.1.w.time, a6b true p.1.w.apps, .ref 1 (γ2 1), .ref 2 (γ2 2), pI p.1.w.hub.round, q3q true p.1.w.hub.ones, q3q true p.1.w.hub.twos, q3q true p.1.w.hub.outs, a0t true p.1.w.sink, .ref 3 (γ2 3)])), (4, ((γ 4), .box 243 [p7p true bs, pI ((p.1.p : Nat) : Int)]))]) (fun p => smOk p.1 (c + 870 + 2 * p.2) ∧ p.2 ≤ 10) (fun p => 10 - p.2) (cK [0, 3, 4] rfl) HE.nil (j, 0) ⟨hj.mono (by omega), Nat.zero_le _⟩ [0, _, _, _] cv hv rfl fun p γ2 hi => ?_
  obtain ⟨S1, i⟩ := p
  obtain ⟨h1, h2⟩ := hi
  dsimp only at h1 h2 ⊢
  refine x2x fun K3 hK3 => ?_
  refine exA 5 rfl rfl ?_
  refine rlM [4] [_] (y2y true bs (S1.p) (4) (by have := h1.2.2; omega) hbs) rfl rfl rfl ?_
  obtain ⟨N6, eN6, hN6⟩ : ∃ N6, pk bs S1.p 4 = N6 ∧ N6 ≤ 4 := ⟨_, rfl, b1e _ _ _⟩
  rw [eN6]
  refine z5z (a := 6) rfl rfl (by omega) (x1x 2 rfl rfl (z9z rfl rfl ?_ ?_))<;>intro h<;>try simp at h
  ·refine x1x 9 rfl rfl (x7x rfl (fun hc7 => ?_) (fun hc7 => ?_))
   ·simp at hc7
   try simp at hc7
   refine z4z ?_
   exact ⟨(pSm S1 (S1.p + 1)), (a3t h1 (by omega) (by have := h1.2.2; omega)), [0, _, _, _], cv, cv, hv, hv, rfl⟩
  refine x1x 5 rfl rfl (z1z rfl rfl ?_)
  refine a1j (n := S1.w.radio.length) rfl v4v rfl rfl (List.length_map _) ?_
  refine z1z rfl rfl (x4x rfl (z1z rfl rfl (z5z (b := 1) rfl rfl (by omega) (x1x 2 rfl rfl (y4y rfl ?_ ?_)))))<;>intro h<;>try simp at h
  ·refine z4z ?_
   exact ⟨(pSm S1 (S1.p + 1)), (a3t h1 (by omega) (by have := h1.2.2; omega)), [0, _, _, _], cv, cv, hv, hv, rfl⟩
  refine x8x (hK3 _ _ (x2x fun K6 hK6 => ?_))
  refine y0y (a7m fun B X0 w0 => ?_)
  refine txR 4 rfl rfl (x1x 2 rfl rfl (z5z (b := 1) rfl rfl (by omega) (rlB a1l a2y ?_)))
  refine txM [0, 1, 2, 3, 4] [_, _, _, _, _] (u9u bs hbs (pSm S1 (S1.p + 1)) (c + 870 + 2 * i + 1) (a3t h1 (by omega) (by have := h1.2.2; omega)) 4 0 0 ((z + 1 : Nat) : Int) false (by omega)) rfl rfl rfl rfl fun J hJ => ?_
  obtain ⟨j, jb⟩ := J
  have hj : smOk j (c + 870 + 2 * i + 1 + 1) := hJ
  refine v9v rfl (hK6 _ _ (exG (x4x rfl (z5z (b := 1) rfl rfl (by omega) (x0x rfl ?_)))))
  exact ⟨(j, i + 1), ⟨⟨hj.mono (by show _ ≤ c + 870 + 2 * (i + 1); omega), by show i + 1 ≤ 10; omega⟩, (by show 10 - (i + 1) < 10 - i; omega)⟩, [0, _, _, _], cv, cv, hv, hv, rfl⟩
 ·try dsimp only [b2o, b2p]
  refine a0p fun B X0 w0 => ?_
  refine txR 3 rfl rfl (x1x 2 rfl rfl (rlB a1l a2y ?_))
  refine txM [0, 1, 2, 3, 4] [_, _, _, _, _] (u9u bs hbs T (c + 892) hi 6 x.to 0 0 false (by omega)) rfl rfl rfl rfl fun J hJ => ?_
  obtain ⟨j, jb⟩ := J
  have hj : smOk j (c + 892 + 1) := hJ
  refine v9v rfl (a0p fun B X0 w0 => ?_)
  refine txR 3 rfl rfl (x1x 2 rfl rfl (rlB a1l a2y ?_))
  refine txM [0, 1, 2, 3, 4] [_, _, _, _, _] (u9u bs hbs j (c + 892 + 1) hj 7 x.to 0 0 false (by omega)) rfl rfl rfl rfl fun J hJ => ?_
  obtain ⟨j, jb⟩ := J
  have hj : smOk j (c + 892 + 1 + 1) := hJ
  refine v9v rfl (a0p fun B X0 w0 => ?_)
  refine txR 1 rfl rfl (x4x rfl ?_)
  refine txM [0, 1, 2, 3, 4] [_, _, _, _, _] (a5x bs hbs j (c + 892 + 1 + 1) hj 4 (by omega) (by omega)) rfl rfl rfl rfl fun u hu => ?_
  refine v9v rfl (a0p fun B X0 w0 => ?_)
  refine txR 1 rfl rfl (x4x rfl ?_)
  refine txM [0, 1, 2, 3, 4] [_, _, _, _, _] (a5x bs hbs u (c + 892 + 1 + 1 + (2 + 4)) hu 4 (by omega) (by omega)) rfl rfl rfl rfl fun v hv => ?_
  refine v9v rfl (a7m fun B X0 w0 => ?_)
  refine txR 1 rfl rfl (x4x rfl ?_)
  refine txM [0, 1, 2, 3, 4] [_, _, _, _, _] (q6q bs hbs v (c + 892 + 1 + 1 + (2 + 4) + (2 + 4)) hv 30 0 (by omega)) rfl rfl rfl rfl fun r hr => ?_
  refine v9v rfl ?_
  exact ⟨.inl rfl, r, hr.mono (by omega), [γ 0, _, _, _, γ 4], rfl, rfl, HE.box rfl rfl (HE.row rfl rfl (HE.row rfl rfl (HE.row rfl rfl (HE.box rfl rfl HE.nil))))⟩
end
section
theorem b7h (bs : List Nat) (hbs : ∀ b ∈ bs, b < 256) (S : Sm) (c : Nat) (hS : smOk S c) (odd : Nat) (hc : c + 1040 ≤ 1000000) : MethE Tryz.prog 238 5 [.ptr 0 0 0, .pv (.int .i64 (odd : Int))] [(0, (0, .box 171 [.ptr 4 0 0, pI S.w.time, a6b true S.w.apps, .ref 1 0, .ref 2 0, pI S.w.hub.round, q3q true S.w.hub.ones, q3q true S.w.hub.twos, q3q true S.w.hub.outs, a0t true S.w.sink, .ref 3 0])), (1, (0, .row 65 13 ((S.w.nodes).map (w5w true)))), (2, (0, .row 79 11 ((S.w.radio).map (p4p true)))), (3, (0, .row 263 5 ((S.list).map a4p))), (4, (0, .box 243 [p7p true bs, .pv (.int .i64 ((S.p : Nat) : Int))]))] (ι := Sm) (fun S' => smOk S' (c + 1040)) (fun S' => [0, 4]) (fun S' => .tup []) (fun S' => [(0, (0, .box 171 [.ptr 4 0 0, pI S'.w.time, a6b true S'.w.apps, .ref 1 0, .ref 2 0, pI S'.w.hub.round, q3q true S'.w.hub.ones, q3q true S'.w.hub.twos, q3q true S'.w.hub.outs, a0t true S'.w.sink, .ref 3 0])), (1, (0, .row 65 13 ((S'.w.nodes).map (w5w true)))), (2, (0, .row 79 11 ((S'.w.radio).map (p4p true)))), (3, (0, .row 263 5 ((S'.list).map a4p))), (4, (0, .box 243 [p7p true bs, .pv (.int .i64 ((S'.p : Nat) : Int))]))]) := by
 refine mE (ι := Sm) Tryz.f238 (fun S' => []) 5 0 fun γ => ?_
 refine exA 4 rfl rfl ?_
 refine rlM [4] [_] (y2y true bs (S.p) (3) (by have := hS.2.2; omega) hbs) rfl rfl rfl ?_
 refine x0x rfl ?_
 obtain ⟨Pr, ePr, hPr⟩ : ∃ Pr, pk bs S.p 3 = Pr ∧ Pr ≤ 3 := ⟨_, rfl, b1e _ _ _⟩
 rw [ePr]
 refine exA 4 rfl rfl ?_
 refine rlM [4] [_] (y2y true bs (S.p + 1) (20) (by have := hS.2.2; omega) hbs) rfl rfl rfl ?_
 obtain ⟨X, eX, hX⟩ : ∃ X, pk bs (S.p + 1) 20 = X ∧ X ≤ 20 := ⟨_, rfl, b1e _ _ _⟩
 rw [eX]
 have hp2 : S.p + 1 + 1 ≤ c + 2 := by have := hS.2.2; omega
 have hS2 : smOk (pSm S (S.p + 1 + 1)) (c + 2) := a3t hS (by omega) (by have := hS.2.2; omega)
 refine y0y ?_
 refine a0c (ι := Bool) (fun b γ1 => [(27, .pv (.bool (b)))]) (fun b γ1 => []) (fun b => True) (cK [0, 1, 4, 14] rfl) (hK [0, 1, 2, 3, 4] rfl) ?_ fun b γ1 hi => ?_
 ·refine exA 2 rfl rfl (x7x rfl ?_ ?_)<;>intro h<;>try simp at h
  ·refine x8x ?_
   exact ⟨_, trivial, [], cv, cv, hv, hv, rfl⟩
  refine exA 2 rfl rfl (x7x rfl ?_ ?_)<;>intro h<;>try simp at h
  ·refine x8x ?_
   exact ⟨_, trivial, [], cv, cv, hv, hv, rfl⟩
  refine exA 2 rfl rfl (x7x rfl ?_ ?_)<;>intro h<;>try simp at h
  ·refine x8x ?_
   exact ⟨_, trivial, [], cv, cv, hv, hv, rfl⟩
  refine exA 2 rfl rfl (x7x rfl ?_ ?_)<;>intro h<;>try simp at h
  ·refine x8x ?_
   exact ⟨_, trivial, [], cv, cv, hv, hv, rfl⟩
  refine exG (x1x 2 rfl rfl ?_)
  exact ⟨_, trivial, [], cv, cv, hv, hv, rfl⟩
 ·try dsimp only [b2o, b2p]
  refine x7x rfl ?_ ?_<;>intro h<;>try simp at h
  ·refine a7m fun B X0 w0 => ?_
   refine txR 1 rfl rfl (x4x rfl ?_)
   refine txM [0, 1, 2, 3, 4] [_, _, _, _, _] (a5x bs hbs (pSm S (S.p + 1 + 1)) (c + 2) hS2 8 (by omega) (by omega)) rfl rfl rfl rfl fun r hr => ?_
   refine v9v rfl ?_
   exact ⟨.inl rfl, r, hr.mono (by omega), [γ 0, _, _, _, γ 4], rfl, rfl, hv⟩
  refine a0c (ι := Bool) (fun b γ2 => [(35, .pv (.bool (b)))]) (fun b γ2 => []) (fun b => True) (cK [0, 1, 4, 14] rfl) (hK [0, 1, 2, 3, 4] rfl) ?_ fun b γ2 hi => ?_
  ·refine exA 2 rfl rfl (x7x rfl ?_ ?_)<;>intro h<;>try simp at h
   ·refine x8x ?_
    exact ⟨_, trivial, [], cv, cv, hv, hv, rfl⟩
   refine exA 2 rfl rfl (x7x rfl ?_ ?_)<;>intro h<;>try simp at h
   ·refine x8x ?_
    exact ⟨_, trivial, [], cv, cv, hv, hv, rfl⟩
   refine exG (x1x 2 rfl rfl ?_)
   exact ⟨_, trivial, [], cv, cv, hv, hv, rfl⟩
  ·try dsimp only [b2o, b2p]
   refine x7x rfl ?_ ?_<;>intro h<;>try simp at h
   ·refine a0p fun B X0 w0 => ?_
    refine txR 3 rfl rfl (x1x 2 rfl rfl (rlB a1l a2y ?_))
    refine txM [0, 1, 2, 3, 4] [_, _, _, _, _] (u9u bs hbs (pSm S (S.p + 1 + 1)) (c + 2) hS2 2 Pr 0 0 false (by omega)) rfl rfl rfl rfl fun J hJ => ?_
    obtain ⟨j, jb⟩ := J
    have hj : smOk j (c + 2 + 1) := hJ
    refine v9v rfl (a7m fun B X0 w0 => ?_)
    refine txR 7 rfl rfl (x1x 5 rfl rfl ?_)
    refine rlM [4] [_] (y2y true bs (j.p) (6) (by have := hj.2.2; omega) hbs) rfl rfl rfl ?_
    obtain ⟨N, eN, hN⟩ : ∃ N, pk bs j.p 6 = N ∧ N ≤ 6 := ⟨_, rfl, b1e _ _ _⟩
    rw [eN]
    refine x4x rfl ?_
    refine txM [0, 1, 2, 3, 4] [_, _, _, _, _] (q6q bs hbs (pSm j (j.p + 1)) (c + 4) (a3t hj (by omega) (by have := hj.2.2; omega)) N odd (by omega)) rfl rfl rfl rfl fun r hr => ?_
    refine v9v rfl ?_
    exact ⟨.inl rfl, r, hr.mono (by omega), [γ 0, _, _, _, γ 4], rfl, rfl, hv⟩
   refine a0c (ι := Bool) (fun b γ3 => [(51, .pv (.bool (b)))]) (fun b γ3 => []) (fun b => True) (cK [0, 1, 4, 14] rfl) (hK [0, 1, 2, 3, 4] rfl) ?_ fun b γ3 hi => ?_
   ·refine exA 2 rfl rfl (x7x rfl ?_ ?_)<;>intro h<;>try simp at h
    ·refine x8x ?_
     exact ⟨_, trivial, [], cv, cv, hv, hv, rfl⟩
    refine exG (x1x 2 rfl rfl ?_)
    exact ⟨_, trivial, [], cv, cv, hv, hv, rfl⟩
   ·try dsimp only [b2o, b2p]
    refine x7x rfl ?_ ?_<;>intro h<;>try simp at h
    ·refine a7m fun B X0 w0 => ?_
     refine txR 8 rfl rfl (x1x 5 rfl rfl ?_)
     refine rlM [4] [_] (y2y true bs (S.p + 1 + 1) (20) (by have := hp2; omega) hbs) rfl rfl rfl ?_
     obtain ⟨N, eN, hN⟩ : ∃ N, pk bs (S.p + 1 + 1) 20 = N ∧ N ≤ 20 := ⟨_, rfl, b1e _ _ _⟩
     rw [eN]
     refine z5z (a := 1) rfl rfl (by omega) (x4x rfl ?_)
     refine txM [0, 1, 2, 3, 4] [_, _, _, _, _] (q6q bs hbs (pSm S (S.p + 1 + 1 + 1)) (c + 3) (a3t hS (by omega) (by omega)) (1 + N) odd (by omega)) rfl rfl rfl rfl fun r hr => ?_
     refine v9v rfl ?_
     exact ⟨.inl rfl, r, hr.mono (by omega), [γ 0, _, _, _, γ 4], rfl, rfl, hv⟩
    refine a0c (ι := Bool) (fun b γ4 => [(63, .pv (.bool (b)))]) (fun b γ4 => []) (fun b => True) (cK [0, 1, 4, 14] rfl) (hK [0, 1, 2, 3, 4] rfl) ?_ fun b γ4 hi => ?_
    ·refine exA 2 rfl rfl (x7x rfl ?_ ?_)<;>intro h<;>try simp at h
     ·refine x8x ?_
      exact ⟨_, trivial, [], cv, cv, hv, hv, rfl⟩
     refine exG (x1x 2 rfl rfl ?_)
     exact ⟨_, trivial, [], cv, cv, hv, hv, rfl⟩
    ·try dsimp only [b2o, b2p]
     refine x7x rfl ?_ ?_<;>intro h<;>try simp at h
     ·refine a0p fun B X0 w0 => ?_
      refine txR 2 rfl rfl (x4x rfl (rlB a1l a2y ?_))
      refine txM [0, 1, 2, 3, 4] [_, _, _, _, _] (u9u bs hbs (pSm S (S.p + 1 + 1)) (c + 2) hS2 3 0 0 0 false (by omega)) rfl rfl rfl rfl fun J hJ => ?_
      obtain ⟨j, jb⟩ := J
      have hj : smOk j (c + 2 + 1) := hJ
      refine v9v rfl (a7m fun B X0 w0 => ?_)
      refine txR 7 rfl rfl (x1x 5 rfl rfl ?_)
      refine rlM [4] [_] (y2y true bs (j.p) (20) (by have := hj.2.2; omega) hbs) rfl rfl rfl ?_
      obtain ⟨N, eN, hN⟩ : ∃ N, pk bs j.p 20 = N ∧ N ≤ 20 := ⟨_, rfl, b1e _ _ _⟩
      rw [eN]
      refine x4x rfl ?_
      refine txM [0, 1, 2, 3, 4] [_, _, _, _, _] (q6q bs hbs (pSm j (j.p + 1)) (c + 4) (a3t hj (by omega) (by have := hj.2.2; omega)) N odd (by omega)) rfl rfl rfl rfl fun r hr => ?_
      refine v9v rfl ?_
      exact ⟨.inl rfl, r, hr.mono (by omega), [γ 0, _, _, _, γ 4], rfl, rfl, hv⟩
     refine exA 2 rfl rfl (x7x rfl ?_ ?_)<;>intro h<;>try simp at h
     ·refine a7m fun B X0 w0 => ?_
      refine txR 8 rfl rfl (x1x 5 rfl rfl ?_)
      refine rlM [4] [_] (y2y true bs (S.p + 1 + 1) (2) (by have := hp2; omega) hbs) rfl rfl rfl ?_
      obtain ⟨N, eN, hN⟩ : ∃ N, pk bs (S.p + 1 + 1) 2 = N ∧ N ≤ 2 := ⟨_, rfl, b1e _ _ _⟩
      rw [eN]
      refine z5z (a := 1) rfl rfl (by omega) (x4x rfl ?_)
      refine txM [0, 1, 2, 3, 4] [_, _, _, _, _] (a2u bs hbs (pSm S (S.p + 1 + 1 + 1)) (c + 3) (a3t hS (by omega) (by omega)) (1 + N) odd (by omega)) rfl rfl rfl rfl fun r hr => ?_
      refine v9v rfl ?_
      exact ⟨.inl rfl, r, hr.mono (by omega), [γ 0, _, _, _, γ 4], rfl, rfl, hv⟩
     refine a0c (ι := Bool) (fun b γ5 => [(88, .pv (.bool (b)))]) (fun b γ5 => []) (fun b => True) (cK [0, 1, 4, 14] rfl) (hK [0, 1, 2, 3, 4] rfl) ?_ fun b γ5 hi => ?_
     ·refine exA 2 rfl rfl (x7x rfl ?_ ?_)<;>intro h<;>try simp at h
      ·refine x8x ?_
       exact ⟨_, trivial, [], cv, cv, hv, hv, rfl⟩
      refine exG (x1x 2 rfl rfl ?_)
      exact ⟨_, trivial, [], cv, cv, hv, hv, rfl⟩
     ·try dsimp only [b2o, b2p]
      refine x7x rfl ?_ ?_<;>intro h<;>try simp at h
      ·refine a7m fun B X0 w0 => ?_
       refine txR 2 rfl rfl (x1x 2 rfl rfl ?_)
       refine txM [0, 1, 2, 3, 4] [_, _, _, _, _] (a8j bs hbs (pSm S (S.p + 1 + 1)) (c + 2) hS2 odd (by omega)) rfl rfl rfl rfl fun r hr => ?_
       refine v9v rfl ?_
       exact ⟨.inl rfl, r, hr.mono (by omega), [γ 0, _, _, _, γ 4], rfl, rfl, hv⟩
      refine exA 2 rfl rfl (x7x rfl ?_ ?_)<;>intro h<;>try simp at h
      ·refine a7m fun B X0 w0 => ?_
       refine txR 3 rfl rfl (x1x 2 rfl rfl (rlB a1l a2y ?_))
       refine txM [0, 1, 2, 3, 4] [_, _, _, _, _] (u9u bs hbs (pSm S (S.p + 1 + 1)) (c + 2) hS2 6 Pr 0 0 false (by omega)) rfl rfl rfl rfl fun J hJ => ?_
       obtain ⟨j, jb⟩ := J
       have hj : smOk j (c + 2 + 1) := hJ
       refine v9v rfl ?_
       exact ⟨.inl rfl, j, hj.mono (by omega), [γ 0, _, _, _, γ 4], rfl, rfl, hv⟩
      refine exA 2 rfl rfl (x7x rfl ?_ ?_)<;>intro h<;>try simp at h
      ·refine a7m fun B X0 w0 => ?_
       refine txR 3 rfl rfl (x1x 2 rfl rfl (rlB a1l a2y ?_))
       refine txM [0, 1, 2, 3, 4] [_, _, _, _, _] (u9u bs hbs (pSm S (S.p + 1 + 1)) (c + 2) hS2 7 Pr 0 0 false (by omega)) rfl rfl rfl rfl fun J hJ => ?_
       obtain ⟨j, jb⟩ := J
       have hj : smOk j (c + 2 + 1) := hJ
       refine v9v rfl ?_
       exact ⟨.inl rfl, j, hj.mono (by omega), [γ 0, _, _, _, γ 4], rfl, rfl, hv⟩
      refine exA 2 rfl rfl (x7x rfl ?_ ?_)<;>intro h<;>try simp at h
      ·refine a7m fun B X0 w0 => ?_
       refine txR 2 rfl rfl (x4x rfl (rlB a1l a2y ?_))
       refine txM [0, 1, 2, 3, 4] [_, _, _, _, _] (u9u bs hbs (pSm S (S.p + 1 + 1)) (c + 2) hS2 8 0 0 0 false (by omega)) rfl rfl rfl rfl fun J hJ => ?_
       obtain ⟨j, jb⟩ := J
       have hj : smOk j (c + 2 + 1) := hJ
       refine v9v rfl ?_
       exact ⟨.inl rfl, j, hj.mono (by omega), [γ 0, _, _, _, γ 4], rfl, rfl, hv⟩
      refine exA 2 rfl rfl (x7x rfl ?_ ?_)<;>intro h<;>try simp at h
      ·refine exA 4 rfl rfl ?_
       refine rlM [4] [_] (y2y true bs (S.p + 1 + 1) (2) (by have := hp2; omega) hbs) rfl rfl rfl ?_
       refine v6v rfl rfl rfl (x7x rfl ?_ ?_)<;>intro h<;>try simp at h
       ·refine a7m fun B X0 w0 => ?_
        refine txR 1 rfl rfl (x4x rfl ?_)
        refine txM [0, 1, 2, 3, 4] [_, _, _, _, _] (b7g bs hbs (pSm S (S.p + 1 + 1 + 1)) (c + 3) (a3t hS (by omega) (by omega))  (by omega)) rfl rfl rfl rfl fun r hr => ?_
        refine v9v rfl ?_
        exact ⟨.inl rfl, r, hr.mono (by omega), [γ 0, _, _, _, γ 4], rfl, rfl, hv⟩
       refine a7m fun B X0 w0 => ?_
       refine txR 1 rfl rfl (x4x rfl ?_)
       refine txM [0, 1, 2, 3, 4] [_, _, _, _, _] (b8n bs hbs (pSm S (S.p + 1 + 1 + 1)) (c + 3) (a3t hS (by omega) (by omega))  (by omega)) rfl rfl rfl rfl fun r hr => ?_
       refine v9v rfl ?_
       exact ⟨.inl rfl, r, hr.mono (by omega), [γ 0, _, _, _, γ 4], rfl, rfl, hv⟩
      refine a0p fun B X0 w0 => ?_
      refine txR 1 rfl rfl (x4x rfl ?_)
      refine txM [0, 1, 2, 3, 4] [_, _, _, _, _] (a2u bs hbs (pSm S (S.p + 1 + 1)) (c + 2) hS2 3 0 (by omega)) rfl rfl rfl rfl fun a ha => ?_
      refine v9v rfl (a0p fun B X0 w0 => ?_)
      refine txR 2 rfl rfl (x4x rfl (rlB a1l a2y ?_))
      refine txM [0, 1, 2, 3, 4] [_, _, _, _, _] (u9u bs hbs a (c + 2 + 195 * 3) ha 3 0 0 0 false (by omega)) rfl rfl rfl rfl fun J hJ => ?_
      obtain ⟨j, jb⟩ := J
      have hj : smOk j (c + 2 + 195 * 3 + 1) := hJ
      refine v9v rfl (a0p fun B X0 w0 => ?_)
      refine txR 1 rfl rfl (x4x rfl ?_)
      refine txM [0, 1, 2, 3, 4] [_, _, _, _, _] (q6q bs hbs j (c + 2 + 195 * 3 + 1) hj 30 0 (by omega)) rfl rfl rfl rfl fun b hb => ?_
      refine v9v rfl (a0p fun B X0 w0 => ?_)
      refine txR 1 rfl rfl (x4x rfl ?_)
      refine txM [0, 1, 2, 3, 4] [_, _, _, _, _] (a2u bs hbs b (c + 2 + 195 * 3 + 1 + 4 * 30) hb 1 0 (by omega)) rfl rfl rfl rfl fun d hd => ?_
      refine v9v rfl (a7m fun B X0 w0 => ?_)
      refine txR 2 rfl rfl (x4x rfl (rlB a1l a2y ?_))
      refine txM [0, 1, 2, 3, 4] [_, _, _, _, _] (u9u bs hbs d (c + 2 + 195 * 3 + 1 + 4 * 30 + 195 * 1) hd 8 0 0 0 false (by omega)) rfl rfl rfl rfl fun J hJ => ?_
      obtain ⟨j, jb⟩ := J
      have hj : smOk j (c + 2 + 195 * 3 + 1 + 4 * 30 + 195 * 1 + 1) := hJ
      refine v9v rfl ?_
      exact ⟨.inl rfl, j, hj.mono (by omega), [γ 0, _, _, _, γ 4], rfl, rfl, hv⟩
end
section
theorem d0b (bs : List Nat) (hbs : ∀ b ∈ bs, b < 256) (p0 : Nat) (hp : p0 + 5 ≤ 1000000) : MethE Tryz.prog 287 1 [.ptr 0 0 0] [(0, (0, .box 243 [p7p true bs, .pv (.int .i64 ((p0 : Nat) : Int))]))] (ι := Op_ × Nat) (fun S' => b0x S'.1 ∧ S'.2 ≤ p0 + 5) (fun S' => [0]) (fun S' => .agg (b7d S'.1)) (fun S' => [(0, (0, .box 243 [p7p true bs, .pv (.int .i64 ((S'.2 : Nat) : Int))]))]) := by
 refine mE (ι := Op_ × Nat) Tryz.f287 (fun S' => [.agg (b7d S'.1)]) 1 1 fun γ => ?_
 refine exR (y6y (id := 1) a1e b6f rfl (x2x fun K1 hK1 => ?_))
 refine exR (x4x rfl ?_)
 refine rlM [0] [_] (y2y true bs (p0) (10) (by have := hp; omega) hbs) rfl rfl rfl ?_
 refine y0y (exA 2 rfl rfl (x7x rfl ?_ ?_))<;>intro h<;>try simp at h
 ·refine exR (x4x rfl ?_)
  refine rlM [0] [_] (y2y true bs (p0 + 1) (2) (by have := hp; omega) hbs) rfl rfl rfl ?_
  refine x4x rfl ?_
  refine rlM [0] [_] (y2y true bs (p0 + 1 + 1) (20) (by have := hp; omega) hbs) rfl rfl rfl ?_
  refine rlB a1e b6f ?_
  refine x3x rfl rfl a1e rfl rfl rfl rfl (x6x ?_)
  exact ⟨.inr rfl, (⟨1, (pk bs (p0 + 1) 2 : Int), (pk bs (p0 + 1 + 1) 20 : Int), 0, 0⟩, p0 + 1 + 1 + 1), ⟨(by have h0 := a3u bs (p0 + 1) 2 (by omega); have h1 := a3u bs (p0 + 1 + 1) 20 (by omega); unfold b0x a3w b4k; dsimp only; omega), (by show p0 + 1 + 1 + 1 ≤ p0 + 5; omega)⟩, [γ 0], rfl, rfl, hv⟩
 refine exA 2 rfl rfl (x7x rfl ?_ ?_)<;>intro h<;>try simp at h
 ·refine exR (x4x rfl ?_)
  refine rlM [0] [_] (y2y true bs (p0 + 1) (2) (by have := hp; omega) hbs) rfl rfl rfl ?_
  refine x4x rfl ?_
  refine rlM [0] [_] (y2y true bs (p0 + 1 + 1) (2) (by have := hp; omega) hbs) rfl rfl rfl ?_
  refine rlB a1e b6f ?_
  refine x3x rfl rfl a1e rfl rfl rfl rfl (x6x ?_)
  exact ⟨.inr rfl, (⟨2, (pk bs (p0 + 1) 2 : Int), (pk bs (p0 + 1 + 1) 2 : Int), 0, 0⟩, p0 + 1 + 1 + 1), ⟨(by have h0 := a3u bs (p0 + 1) 2 (by omega); have h1 := a3u bs (p0 + 1 + 1) 2 (by omega); unfold b0x a3w b4k; dsimp only; omega), (by show p0 + 1 + 1 + 1 ≤ p0 + 5; omega)⟩, [γ 0], rfl, rfl, hv⟩
 refine exA 2 rfl rfl (x7x rfl ?_ ?_)<;>intro h<;>try simp at h
 ·refine exR (x4x rfl ?_)
  refine rlM [0] [_] (y2y true bs (p0 + 1) (2) (by have := hp; omega) hbs) rfl rfl rfl ?_
  refine x4x rfl ?_
  refine rlM [0] [_] (y2y true bs (p0 + 1 + 1) (9) (by have := hp; omega) hbs) rfl rfl rfl ?_
  have q9 := a3u bs (p0 + 1 + 1) 9 (by omega)
  refine z5z (a := 1) rfl rfl (by omega) (rlB a1e b6f ?_)
  refine x3x rfl rfl a1e rfl rfl rfl rfl (x6x ?_)
  exact ⟨.inr rfl, (⟨3, (pk bs (p0 + 1) 2 : Int), ((1 + pk bs (p0 + 1 + 1) 9 : Nat) : Int), 0, 0⟩, p0 + 1 + 1 + 1), ⟨(by have h0 := a3u bs (p0 + 1) 2 (by omega); have h1 := a3u bs (p0 + 1 + 1) 9 (by omega); unfold b0x a3w b4k; dsimp only; omega), (by show p0 + 1 + 1 + 1 ≤ p0 + 5; omega)⟩, [γ 0], rfl, rfl, hv⟩
 refine exA 2 rfl rfl (x7x rfl ?_ ?_)<;>intro h<;>try simp at h
 ·refine exR (x4x rfl ?_)
  refine rlM [0] [_] (y2y true bs (p0 + 1) (2) (by have := hp; omega) hbs) rfl rfl rfl ?_
  refine rlB a1e b6f ?_
  refine x3x rfl rfl a1e rfl rfl rfl rfl (x6x ?_)
  exact ⟨.inr rfl, (⟨4, (pk bs (p0 + 1) 2 : Int), 0, 0, 0⟩, p0 + 1 + 1), ⟨(by have h0 := a3u bs (p0 + 1) 2 (by omega); unfold b0x a3w b4k; dsimp only; omega), (by show p0 + 1 + 1 ≤ p0 + 5; omega)⟩, [γ 0], rfl, rfl, hv⟩
 refine exA 2 rfl rfl (x7x rfl ?_ ?_)<;>intro h<;>try simp at h
 ·refine exR (x4x rfl ?_)
  refine rlM [0] [_] (y2y true bs (p0 + 1) (2) (by have := hp; omega) hbs) rfl rfl rfl ?_
  refine x4x rfl ?_
  refine rlM [0] [_] (y2y true bs (p0 + 1 + 1) (60) (by have := hp; omega) hbs) rfl rfl rfl ?_
  refine x4x rfl ?_
  refine rlM [0] [_] (y2y true bs (p0 + 1 + 1 + 1) (2) (by have := hp; omega) hbs) rfl rfl rfl ?_
  have q9 := a3u bs (p0 + 1 + 1 + 1) 2 (by omega)
  refine z5z (a := 1) rfl rfl (by omega) (rlB a1e b6f ?_)
  refine x3x rfl rfl a1e rfl rfl rfl rfl (x6x ?_)
  exact ⟨.inr rfl, (⟨5, (pk bs (p0 + 1) 2 : Int), (pk bs (p0 + 1 + 1) 60 : Int), ((1 + pk bs (p0 + 1 + 1 + 1) 2 : Nat) : Int), 0⟩, p0 + 1 + 1 + 1 + 1), ⟨(by have h0 := a3u bs (p0 + 1) 2 (by omega); have h1 := a3u bs (p0 + 1 + 1) 60 (by omega); have h2 := a3u bs (p0 + 1 + 1 + 1) 2 (by omega); unfold b0x a3w b4k; dsimp only; omega), (by show p0 + 1 + 1 + 1 + 1 ≤ p0 + 5; omega)⟩, [γ 0], rfl, rfl, hv⟩
 refine a0c (ι := Bool) (fun b γ1 => [(42, .pv (.bool (b)))]) (fun b γ1 => []) (fun b => True) (cK [0, 2] rfl) (hK [0, 1] rfl) ?_ fun b γ1 hi => ?_
 ·refine exA 2 rfl rfl (x7x rfl ?_ ?_)<;>intro h<;>try simp at h
  ·refine x8x ?_
   exact ⟨_, trivial, [], cv, cv, hv, hv, rfl⟩
  refine exA 2 rfl rfl (x7x rfl ?_ ?_)<;>intro h<;>try simp at h
  ·refine x8x ?_
   exact ⟨_, trivial, [], cv, cv, hv, hv, rfl⟩
  refine exG (x1x 2 rfl rfl ?_)
  exact ⟨_, trivial, [], cv, cv, hv, hv, rfl⟩
 ·try dsimp only [b2o, b2p]
  refine y4y rfl ?_ ?_<;>intro h<;>try simp at h
  ·refine x8x (hK1 _ _ (exR (x4x rfl ?_)))
   refine rlM [0] [_] (y2y true bs (p0 + 1) (2) (by have := hp; omega) hbs) rfl rfl rfl ?_
   refine rlB a1e b6f ?_
   refine x3x rfl rfl a1e rfl rfl rfl rfl (x6x ?_)
   exact ⟨.inr rfl, (⟨7, (pk bs (p0 + 1) 2 : Int), 0, 0, 0⟩, p0 + 1 + 1), ⟨(by have h0 := a3u bs (p0 + 1) 2 (by omega); unfold b0x a3w b4k; dsimp only; omega), (by show p0 + 1 + 1 ≤ p0 + 5; omega)⟩, [γ 0], rfl, rfl, hv⟩
  refine exR (x4x rfl ?_)
  refine rlM [0] [_] (y2y true bs (p0 + 1) (4) (by have := hp; omega) hbs) rfl rfl rfl ?_
  refine x4x rfl ?_
  refine rlM [0] [_] (y2y true bs (p0 + 1 + 1) (3) (by have := hp; omega) hbs) rfl rfl rfl ?_
  refine x4x rfl ?_
  refine rlM [0] [_] (y2y true bs (p0 + 1 + 1 + 1) (7) (by have := hp; omega) hbs) rfl rfl rfl ?_
  have q9 := a3u bs (p0 + 1 + 1 + 1) 7 (by omega)
  refine z5z (a := 1) rfl rfl (by omega) (x4x rfl ?_)
  refine rlM [0] [_] (y2y true bs (p0 + 1 + 1 + 1 + 1) (2) (by have := hp; omega) hbs) rfl rfl rfl ?_
  refine rlB a1e b6f ?_
  refine x3x rfl rfl a1e rfl rfl rfl rfl (x6x ?_)
  exact ⟨.inr rfl, (⟨6, (pk bs (p0 + 1) 4 : Int), (pk bs (p0 + 1 + 1) 3 : Int), ((1 + pk bs (p0 + 1 + 1 + 1) 7 : Nat) : Int), (pk bs (p0 + 1 + 1 + 1 + 1) 2 : Int)⟩, p0 + 1 + 1 + 1 + 1 + 1), ⟨(by have h0 := a3u bs (p0 + 1) 4 (by omega); have h1 := a3u bs (p0 + 1 + 1) 3 (by omega); have h2 := a3u bs (p0 + 1 + 1 + 1) 7 (by omega); have h3 := a3u bs (p0 + 1 + 1 + 1 + 1) 2 (by omega); unfold b0x a3w b4k; dsimp only; omega), (by show p0 + 1 + 1 + 1 + 1 + 1 ≤ p0 + 5; omega)⟩, [γ 0], rfl, rfl, hv⟩
end
section
theorem c3w (bs : List Nat) (hbs : ∀ b ∈ bs, b < 256) (p0 : Nat) (hp : p0 + 500 ≤ 1000000) : MethE Tryz.prog 237 1 [.ptr 0 0 0] [(0, (0, .box 243 [p7p true bs, .pv (.int .i64 ((p0 : Nat) : Int))]))] (ι := List Ap × Nat) (fun S' => a6w S'.1 ∧ S'.2 ≤ p0 + 500) (fun S' => [0]) (fun S' => a6b true S'.1) (fun S' => [(0, (0, .box 243 [p7p true bs, .pv (.int .i64 ((S'.2 : Nat) : Int))]))]) := by
 refine mE (ι := List Ap × Nat) Tryz.f237 (fun S' => [a6b true S'.1]) 1 16 fun γ => ?_
 refine exR (x0x rfl (exR (z8z (id := 1) b1x rfl a1y rfl (x0x rfl (x2x fun K1 hK1 => ?_)))))
 refine exR (x0x rfl (y0y ?_))
 refine z2z (ι := List Ap × Nat) (fun p γ1 => [(3, .ref 1 (γ1 1)), (4, pI (p.1.length : Int))]) (fun p γ1 => [(1, ((γ1 1), .row 121 1 ((p.1).map (b9j true)))), (15, ((γ1 15), .dead)), (16, ((γ1 16), .dead)), (0, ((γ 0), .box 243 [p7p true bs, pI ((p.2 : Nat) : Int)])), (2, ((γ1 2), .dead)), (3, ((γ1 3), .dead)), (4, ((γ1 4), .dead)), (5, ((γ1 5), .dead)), (6, ((γ1 6), .dead)), (7, ((γ1 7), .dead)), (8, ((γ1 8), .dead)), (9, ((γ1 9), .dead)), (10, ((γ1 10), .dead)), (11, ((γ1 11), .dead)), (12, ((γ1 12), .dead)), (13, ((γ1 13), .dead)), (14, ((γ1 14), .dead))]) (fun p => p.1.length ≤ 4 ∧ (∀ a ∈ p.1, e0j a) ∧ p.2 ≤ p0 + 120 * p.1.length) (fun p => 4 - p.1.length) (y3y 0 rfl Cov.nil) HE.nil ([], p0) ⟨Nat.zero_le _, fun a h => (by cases h), Nat.le_refl _⟩ [0, _, _, _, _, _, _, _, _, _, _, _, _, _, _, _, _] cv (HE.row rfl (by rfl) (HE.kill rfl (HE.kill rfl (HE.box rfl rfl (HE.kill rfl (HE.kill rfl (HE.kill rfl (HE.kill rfl (HE.kill rfl (HE.kill rfl (HE.kill rfl (HE.kill rfl (HE.kill rfl (HE.kill rfl (HE.kill rfl (HE.kill rfl (HE.kill rfl HE.nil))))))))))))))))) rfl fun p γ1 hi => ?_
 obtain ⟨l, q⟩ := p
 obtain ⟨h1, h2, h3⟩ := hi
 dsimp only at h1 h2 h3 ⊢
 refine x2x fun K2 hK2 => ?_
 refine exA 2 rfl rfl (y4y rfl ?_ ?_)<;>intro o<;>try simp at o
 ·have h4 : l.length = 4 := by omega
  have hT : a6w l := ⟨h4, h2⟩
  refine z4z (hK1 _ _ ?_)
  refine a0l (f := b9j true) 3 rfl rfl (fun _ => rfl) ?_
  refine exA 2 rfl rfl (x6x ?_)
  exact ⟨.inr rfl, (l, q), ⟨hT, by show q ≤ p0 + 500; omega⟩, [γ 0], rfl, rfl, hv⟩
 have h1l : l.length < 4 := by omega
 refine x8x (hK2 _ _ (x2x fun K4 hK4 => ?_))
 refine y0y (exR (rlB a1y b3y ?_))
 refine y6y (id := 2) a1y b3y rfl (x3x rfl rfl a1y rfl rfl rfl rfl (x2x fun K5 hK5 => ?_))
 refine exR (x0x rfl (y0y (a2d 2 0 15 232 2 rfl rfl rfl rfl rfl ?_)))
 refine z2z (ι := List Ru × Nat) (fun p γ2 => [(6, pI (p.1.length : Int))]) (fun p γ2 => [(15, ((γ2 15), .row 232 2 ((p.1).map (d1r true)))), (16, ((γ2 16), .dead)), (0, ((γ 0), .box 243 [p7p true bs, pI ((p.2 : Nat) : Int)])), (2, ((γ1 2 + 1), .box 121 [.ref 15 (γ2 15)])), (3, ((γ2 3), .dead)), (4, ((γ2 4), .dead)), (5, ((γ2 5), .dead)), (6, ((γ2 6), .dead)), (7, ((γ2 7), .dead)), (8, ((γ2 8), .dead)), (9, ((γ2 9), .dead)), (10, ((γ2 10), .dead)), (11, ((γ2 11), .dead)), (12, ((γ2 12), .dead))]) (fun p => p.1.length ≤ 3 ∧ f2n p.1 ∧ p.2 ≤ q + 40 * p.1.length) (fun p => 3 - p.1.length) (cK [0, 3, 4, 5] rfl) (hK [1, 13, 14] rfl) ([], q) ⟨Nat.zero_le _, fun i r h => (by simp at h), Nat.le_refl _⟩ [0, 0, 0, _, _, _, _, _, _, _, _, _, _, 0, 0, _, _] cv (HE.row rfl (by rfl) (HE.kill rfl (HE.box rfl rfl (HE.box rfl rfl (HE.kill rfl (HE.kill rfl (HE.kill rfl (HE.kill rfl (HE.kill rfl (HE.kill rfl (HE.kill rfl (HE.kill rfl (HE.kill rfl (HE.kill rfl HE.nil)))))))))))))) rfl fun p γ2 hi => ?_
 obtain ⟨rs, q1⟩ := p
 obtain ⟨k1, k2, k3⟩ := hi
 dsimp only at k1 k2 k3 ⊢
 refine x2x fun K6 hK6 => ?_
 refine exA 2 rfl rfl (y4y rfl ?_ ?_)<;>intro o<;>try simp at o
 ·refine z4z (hK5 _ _ ?_)
  refine p8p (b := e8q true rs) 2 0 rfl rfl rfl (.ref rfl (Le.ow_map _ (fun _ => rfl) (fun _ => rfl)) .nil) rfl rfl rfl rfl ?_
  refine exG (x1x 2 rfl rfl (u3u (id := 13) b1x rfl a1y rfl rfl rfl rfl rfl rfl ?_))
  refine u6u (zs := ((l ++ [(⟨rs⟩ : Ap)]).map (b9j true))) rfl rfl b1x rfl a1y rfl rfl rfl rfl (by rfl) (w2w (b9j true) l ⟨rs⟩) (by (simp only [a1c, a0m, a0u, a0v, a1z, a4b, T121]; omega)) ?_
  refine x0x rfl (hK4 _ _ (exG (x4x rfl (z5z (b := 1) rfl rfl (by omega) (x0x rfl ?_)))))
  exact ⟨(l ++ [⟨rs⟩], q1), ⟨(f2b h2 (f1z k1 k2) h1l h3 k3 k1), (by show 4 - (l ++ [_]).length < 4 - l.length; rw [List.length_append]; show 4 - (l.length + 1) < _; omega)⟩, [0, _, _, _, _, _, _, _, _, _, _, _, _, _, _, _, _], (y3y 3 rfl (Cov.cons' (t := 4) rfl ((by rw [List.length_append]; rfl)) Cov.nil)), cv, (HE.row rfl (by rfl) (HE.kill rfl (HE.kill rfl (HE.box rfl rfl (HE.kill rfl (HE.kill rfl (HE.kill rfl (HE.kill rfl (HE.kill rfl (HE.kill rfl (HE.kill rfl (HE.kill rfl (HE.kill rfl (HE.kill rfl (HE.kill rfl (HE.kill rfl (HE.kill rfl HE.nil))))))))))))))))), hv, rfl⟩
 have k1l : rs.length < 3 := by omega
 refine x8x (hK6 _ _ (x2x fun K8 hK8 => ?_))
 refine y0y (exR (x4x rfl (rlB a5q d2q ?_)))
 refine y6y (id := 3) a5q d2q rfl (x3x rfl rfl a5q rfl rfl rfl rfl (x2x fun K9 hK9 => ?_))
 refine exR (x4x rfl ?_)
 refine rlM [0] [_] (y2y true bs (q1) (5) (by have := k3; omega) hbs) rfl rfl rfl ?_
 obtain ⟨N, eN, hN⟩ : ∃ N, pk bs q1 5 = N ∧ N ≤ 5 := ⟨_, rfl, b1e _ _ _⟩
 rw [eN]
 refine z5z (a := 2) rfl rfl (by omega) (x0x rfl (y0y (a2d 3 1 16 297 5 rfl rfl rfl rfl rfl ?_)))
 refine z2z (ι := List Op_ × Nat × Nat) (fun p γ3 => [(8, pI (p.2.2 : Int))]) (fun p γ3 => [(16, ((γ3 16), .row 297 5 ((p.1).map b7d))), (0, ((γ 0), .box 243 [p7p true bs, pI ((p.2.1 : Nat) : Int)])), (3, ((γ2 3 + 1), .box 232 [pI (rs.length : Int), .ref 16 (γ3 16)])), (4, ((γ3 4), .dead)), (5, ((γ3 5), .dead)), (6, ((γ3 6), .dead)), (7, ((γ3 7), .dead)), (8, ((γ3 8), .dead)), (9, ((γ3 9), .dead)), (10, ((γ3 10), .dead))]) (fun p => c7j ⟨(rs.length : Int), p.1⟩ ∧ p.2.1 + 5 * p.2.2 ≤ q1 + 1 + 5 * (2 + N)) (fun p => p.2.2) (cK [0, 3, 4, 5, 6, 7] rfl) (hK [1, 2, 11, 12, 13, 14, 15] rfl) ([], q1 + 1, 2 + N) ⟨ru0, by show q1 + 1 + 5 * (2 + N) ≤ _; omega⟩ [0, 0, 0, 0, _, _, _, _, _, _, _, 0, 0, 0, 0, 0, _] cv (HE.row rfl (by rfl) (HE.box rfl rfl (HE.box rfl rfl (HE.kill rfl (HE.kill rfl (HE.kill rfl (HE.kill rfl (HE.kill rfl (HE.kill rfl (HE.kill rfl HE.nil)))))))))) rfl fun p γ3 hi => ?_
 obtain ⟨ops, q2, n⟩ := p
 obtain ⟨l1, l2⟩ := hi
 dsimp only at l1 l2 ⊢
 refine x2x fun K10 hK10 => ?_
 refine exA 2 rfl rfl (y4y rfl ?_ ?_)<;>intro o<;>try simp at o
 ·refine z4z (hK9 _ _ ?_)
  refine p8p (b := f2l true ops) 3 1 rfl rfl rfl (.ref rfl (Le.ow_map _ (fun _ => rfl) (fun _ => rfl)) .nil) rfl rfl rfl rfl ?_
  refine exG (x1x 3 rfl rfl (u3u (id := 11) a5d rfl a5q rfl rfl rfl rfl rfl rfl ?_))
  refine u6u (zs := ((rs ++ [(⟨(rs.length : Int), ops⟩ : Ru)]).map (d1r true))) rfl rfl a5d rfl a5q rfl rfl rfl rfl (by rfl) (w2w (d1r true) rs (⟨(rs.length : Int), ops⟩ : Ru)) (by (simp only [a1c, a0m, a0u, a0v, a1z, a4b, T232]; omega)) ?_
  refine y1y rfl a1y rfl rfl a5d rfl rfl (z0z rfl rfl a5d rfl rfl rfl rfl rfl (by simp only [a1h]; rfl) ?_)
  refine hK8 _ _ (exG (x4x rfl (z5z (b := 1) rfl rfl (by omega) (x0x rfl ?_))))
  exact ⟨(rs ++ [(⟨(rs.length : Int), ops⟩ : Ru)], q2), ⟨(f2a k2 l1 k1l k3 (by omega)), (by show 3 - (rs ++ [_]).length < 3 - rs.length; rw [List.length_append]; show 3 - (rs.length + 1) < _; omega)⟩, [0, 0, 0, _, _, _, _, _, _, _, _, _, _, 0, 0, _, _], (Cov.cons' (t := 6) rfl ((by rw [List.length_append]; rfl)) Cov.nil), cv, (HE.row rfl (by rfl) (HE.kill rfl (HE.box rfl rfl (HE.box rfl rfl (HE.kill rfl (HE.kill rfl (HE.kill rfl (HE.kill rfl (HE.kill rfl (HE.kill rfl (HE.kill rfl (HE.kill rfl (HE.kill rfl (HE.kill rfl HE.nil)))))))))))))), hv, rfl⟩
 obtain ⟨n', rfl⟩ : ∃ n', n = n' + 1 := ⟨n - 1, by omega⟩
 refine x8x (hK10 _ _ ?_)
 refine a0c (ι := List Op_ × Nat) (fun os γ4 => []) (fun os γ4 => [(16, ((γ4 16), .row 297 5 ((os.1).map b7d))), (0, ((γ 0), .box 243 [p7p true bs, pI ((os.2 : Nat) : Int)])), (3, ((γ2 3 + 1), .box 232 [pI (rs.length : Int), .ref 16 (γ4 16)])), (4, ((γ4 4), .dead)), (5, ((γ4 5), .dead)), (6, ((γ4 6), .dead)), (7, ((γ4 7), .dead)), (8, ((γ4 8), .dead)), (9, ((γ4 9), .dead)), (10, ((γ4 10), .dead))]) (fun os => c7j ⟨(rs.length : Int), os.1⟩ ∧ os.2 ≤ q2 + 5) (cK [0, 3, 4, 5, 6, 7, 8] rfl) (hK [1, 2, 11, 12, 13, 14, 15] rfl) ?_ fun os γ4 hi => ?_
 ·refine y0y (a0p fun B X0 w0 => ?_)
  refine txR 1 rfl rfl (x4x rfl ?_)
  refine txM [0] [_] (d0b bs hbs q2 (by omega)) rfl rfl rfl rfl fun j hj => ?_
  obtain ⟨hj1, hj2⟩ := hj
  have hol : ops.length ≤ 8 := l1.2.1
  refine txR 2 rfl rfl (y6y (id := 4) a1e b6f rfl (x3x rfl rfl a1e rfl rfl rfl rfl (v9v rfl (exD (x4x rfl (z8z (id := 5) a5p rfl a1e rfl (x1x 2 rfl rfl ?_)))))))
  refine u6u (zs := (ops.map b7d)) rfl rfl a5p rfl a1e rfl rfl rfl rfl (w3w (fun _ => rfl) _) rfl (by (simp only [a1c, a0m, a0u, a0v, a1z, a4b, T297]; omega)) ?_
  refine x5x rfl a1e rfl rfl rfl (u3u (id := 7) a5p rfl a1e rfl rfl rfl rfl rfl rfl ?_)
  refine u6u (zs := ((ops ++ [j.1]).map b7d)) rfl rfl a5p rfl a1e rfl rfl rfl rfl (by rfl) (w2w b7d ops j.1) (by (simp only [a1c, a0m, a0u, a0v, a1z, a4b, T297]; omega)) ?_
  refine rlB a5q d2q ?_
  refine b7s rfl rfl rfl (.agg rfl (.cl rfl (.ref rfl (Le.ow_map _ nf (fun _ => rfl)) .nil)) .nil) (b2y false (⟨(rs.length : Int), ops ++ [j.1]⟩ : Ru) (by show (ops ++ [j.1]).length ≤ _; rw [List.length_append]; show ops.length + 1 ≤ _; have : ops.length ≤ 8 := hol; omega)) (.pv _) ?_
  refine ⟨by kernel_rfl, y4y rfl ?_ ?_⟩<;>intro hc12<;>try simp at hc12
  ·refine x8x ?_
   exact ⟨(ops, j.2), ⟨l1, hj2⟩, [0, 0, 0, 0, _, _, _, _, _, _, _, 0, 0, 0, 0, 0, _], cv, cv, hv, hv, rfl⟩
  have hru : c7j (⟨(rs.length : Int), ops ++ [j.1]⟩ : Ru) := a1o.1 (by simpa using hc12)
  refine exG (x1x 3 rfl rfl (u3u (id := 9) a5p rfl a1e rfl rfl rfl rfl rfl rfl ?_))
  refine u6u (zs := ((ops ++ [j.1]).map b7d)) rfl rfl a5p rfl a1e rfl rfl rfl rfl (by rfl) (w2w b7d ops j.1) (by (simp only [a1c, a0m, a0u, a0v, a1z, a4b, T297]; omega)) ?_
  refine y1y rfl a5q rfl rfl a5p rfl rfl (z0z rfl rfl a5p rfl rfl rfl rfl rfl (by simp only [a1h]; rfl) ?_)
  exact ⟨(ops ++ [j.1], j.2), ⟨hru, hj2⟩, [0, 0, 0, 0, _, _, _, _, _, _, _, 0, 0, 0, 0, 0, _], cv, cv, hv, hv, rfl⟩
 ·try dsimp only [b2o, b2p]
  refine exG (x4x rfl (a0h (b := 1) rfl rfl (by omega) (by omega) (x0x rfl ?_)))
  exact ⟨(os.1, os.2, n'), ⟨⟨hi.1, by have := hi.2; show os.2 + 5 * n' ≤ _; omega⟩, (by show n' < n' + 1; omega)⟩, [0, 0, 0, 0, _, _, _, _, _, _, _, 0, 0, 0, 0, 0, _], cv, cv, hv, hv, rfl⟩
end
section
theorem c3x (c : Bool) (l : List Ap) (hA : a6w l) : a1r Tryz.prog 88 [a6b c l] (a6b true l) := by
 refine pX Tryz.f88 [a6b true l] 9 ?_
 have hl4 := hA.1
 refine exR (x0x rfl (exR (z8z (id := 0) b1x rfl a1y rfl (x0x rfl (x2x fun K1 hK1 => ?_)))))
 refine exR (x0x rfl (y0y ?_))
 refine z2z (ι := Nat) (fun i γ1 => [(3, .ref 0 (γ1 0)), (4, pI (i : Int))]) (fun i γ1 => [(0, ((γ1 0), .row 121 1 ((l.take i).map (b9j true)))), (8, ((γ1 8), .dead)), (1, ((γ1 1), .dead)), (2, ((γ1 2), .dead)), (3, ((γ1 3), .dead)), (4, ((γ1 4), .dead)), (5, ((γ1 5), .dead)), (6, ((γ1 6), .dead)), (7, ((γ1 7), .dead))]) (fun i => i ≤ l.length) (fun i => l.length - i) (y3y 0 rfl Cov.nil) HE.nil 0 (by omega) [_, _, _, _, _, _, _, _, _] cv (HE.row rfl (by rw [List.take_zero]; rfl) (HE.kill rfl (HE.kill rfl (HE.kill rfl (HE.kill rfl (HE.kill rfl (HE.kill rfl (HE.kill rfl (HE.kill rfl HE.nil))))))))) rfl fun i γ1 hi => ?_
 refine x2x fun K2 hK2 => ?_
 refine exA 2 rfl rfl (z3z rfl b1x rfl (v6v rfl rfl rfl (y4y rfl ?_ ?_)))<;>intro h<;>try simp at h
 ·obtain rfl : i = l.length := by omega
  refine z4z (hK1 _ _ (exA 2 rfl rfl (x6x ⟨.inr rfl, ?_⟩)))
  refine a3y rfl rfl (fun _ => rfl) ?_
  rw [List.take_length]
 obtain ⟨a, ha⟩ := gE l i
 have hap := hA.2 a (List.mem_of_getElem? ha)
 have har := hap.1
 refine x8x (hK2 _ _ (x2x fun K4 hK4 => ?_))
 refine y0y (exR (rlB a1y b3y ?_))
 refine y6y (id := 1) a1y b3y rfl (x3x rfl rfl a1y rfl rfl rfl rfl (x2x fun K5 hK5 => ?_))
 refine exR (x0x rfl (y0y (a2d 1 0 8 232 2 rfl rfl rfl rfl rfl ?_)))
 refine z2z (ι := Nat) (fun k γ2 => [(6, pI (k : Int))]) (fun k γ2 => [(8, ((γ2 8), .row 232 2 ((a.rules.take k).map (d1r true)))), (1, ((γ1 1 + 1), .box 121 [.ref 8 (γ2 8)])), (2, ((γ2 2), .dead)), (3, ((γ2 3), .dead)), (4, ((γ2 4), .dead)), (5, ((γ2 5), .dead))]) (fun k => k ≤ a.rules.length) (fun k => a.rules.length - k) (cK [0, 3, 4, 5] rfl) (hK [0, 6, 7] rfl) 0 (by omega) [0, 0, _, _, _, _, 0, 0, _] cv (HE.row rfl (by rw [List.take_zero]; rfl) (HE.box rfl rfl (HE.kill rfl (HE.kill rfl (HE.kill rfl (HE.kill rfl HE.nil)))))) rfl fun k γ2 hi => ?_
 refine x2x fun K6 hK6 => ?_
 refine exA 3 rfl rfl (y7y rfl rfl b1x rfl a1y rfl ha (x1x 2 rfl rfl (z3z rfl a5d rfl (v6v rfl rfl rfl (y4y rfl ?_ ?_)))))<;>intro h<;>try simp at h
 ·obtain rfl : k = a.rules.length := by omega
  rw [List.take_length]
  refine z4z (hK5 _ _ ?_)
  refine p8p (b := e8q true a.rules) 1 0 rfl rfl rfl (.ref rfl (Le.ow_map _ (fun _ => rfl) (fun _ => rfl)) .nil) rfl rfl rfl rfl ?_
  refine exG (x1x 2 rfl rfl (u3u (id := 6) b1x rfl a1y rfl rfl rfl rfl rfl rfl ?_))
  refine u6u (zs := (l.take i ++ [a]).map (b9j true)) rfl rfl b1x rfl a1y rfl rfl rfl rfl (by rfl) (w2w _ _ _) (by (simp only [a1c, a0m, a0u, a0v, a1z, T121]; omega)) ?_
  refine x0x rfl (hK4 _ _ (exG (x4x rfl (p5p rfl rfl rfl (x0x rfl ?_)))))
  exact ⟨i + 1, ⟨by omega, by omega⟩, [_, _, _, _, _, _, _, _, _], (y3y 3 rfl (Cov.cons' (t := 4) rfl (by rw [u4u (by omega) (by omega)]; rfl) Cov.nil)), cv, (HE.row rfl (by rw [w1w ha]) (HE.kill rfl (HE.kill rfl (HE.kill rfl (HE.kill rfl (HE.kill rfl (HE.kill rfl (HE.kill rfl (HE.kill rfl HE.nil))))))))), hv, rfl⟩
 obtain ⟨r, hr⟩ := gE a.rules k
 have hro := (hap.2 k r hr).2.1.2.1
 refine x8x (hK6 _ _ (x2x fun K8 hK8 => ?_))
 refine y0y (exH (x1x 4 rfl rfl (y7y rfl rfl b1x rfl a1y rfl ha (x1x 3 rfl rfl (y7y rfl rfl a5d rfl a5q rfl hr (x1x 2 rfl rfl (z8z (id := 2) a5p rfl a1e rfl (x1x 2 rfl rfl (y7y rfl rfl b1x rfl a1y rfl ha (x1x 3 rfl rfl (y7y rfl rfl a5d rfl a5q rfl hr (x1x 2 rfl rfl ?_))))))))))))
 refine a2j r6r (zs := r.ops.map b7d) rfl rfl a5p rfl a1e rfl rfl rfl (w3w (fun _ => rfl) _) rfl (by (simp only [a1c, a0m, a0u, a0v, a1z, T297]; omega)) (Le.ow_map _ (fun _ => rfl) (fun _ => rfl)) ?_
 refine rlB a5q d2q ?_
 refine u3u (id := 4) a5d rfl a5q rfl rfl rfl rfl rfl rfl ?_
 refine u6u (zs := (a.rules.take k ++ [r]).map (d1r true)) rfl rfl a5d rfl a5q rfl rfl rfl rfl (by rfl) (w2w _ _ _) (by (simp only [a1c, a0m, a0u, a0v, a1z, T232]; omega)) ?_
 refine y1y rfl a1y rfl rfl a5d rfl rfl (z0z rfl rfl a5d rfl rfl rfl rfl rfl (by simp only [a1h]; rfl) ?_)
 refine ⟨by kernel_rfl, hK8 _ _ (exG (x4x rfl (p5p rfl rfl rfl (x0x rfl ?_))))⟩
 exact ⟨k + 1, ⟨by omega, by omega⟩, [0, 0, _, _, _, _, 0, 0, _], (Cov.cons' (t := 6) rfl (by rw [u4u (by omega) (by omega)]; rfl) Cov.nil), cv, (HE.row rfl (by rw [w1w hr]) (HE.box rfl rfl (HE.kill rfl (HE.kill rfl (HE.kill rfl (HE.kill rfl HE.nil)))))), hv, rfl⟩
end
section
theorem b7i (l : List Ap) (fA : a6w l) : Meth Tryz.prog 16 1 [] [a6b true l] [(0, (0, .dead))] (.agg [pI 0, a6b true l, .ref 0 0, .pv (.slice none 0 0), pI 0, .pv (.slice none 0 0), .pv (.slice none 0 0), .pv (.slice none 0 0), .pv (.slice none 0 0)]) [(0, (0, .row 65 13 ((a9j 3).map (w5w true))))] := by
 refine mX Tryz.f16 [.agg [pI 0, a6b true l, .ref 0 0, .pv (.slice none 0 0), pI 0, .pv (.slice none 0 0), .pv (.slice none 0 0), .pv (.slice none 0 0), .pv (.slice none 0 0)]] 1 4 fun γ => ?_
 have hb : ∀ a ∈ l, ∀ r ∈ a.rules, r.ops.length ≤ 1048576 := fun a ha r hr => by obtain ⟨i, hi⟩ := List.getElem?_of_mem hr; have := ((fA.2 a ha).2 i r hi).2.1.2.1; omega
 refine exR (y6y (id := 1) q4q b7p rfl (x2x fun K1 hK1 => ?_))
 refine exR (x4x rfl (x9x rfl rfl rfl (a8w true l hb) (a1s rfl (x7x rfl ?_ ?_))))<;>intro hc2<;>try simp at hc2
 ·exact absurd fA (a0k (by simpa using hc2))
 refine x8x (hK1 _ _ (exR (x4x rfl (x9x rfl rfl rfl (c3x true l fA) (rlB q4q b7p ?_)))))
 refine y6y (id := 2) q4q b7p rfl (x3x rfl rfl q4q rfl rfl rfl rfl (x2x fun K3 hK3 => ?_))
 refine exR (x0x rfl (y0y (a2d 2 2 0 65 13 rfl rfl rfl rfl rfl ?_)))
 refine z2z (ι := Nat) (fun i γ1 => [(4, pI (i : Int))]) (fun i γ1 => [(0, ((γ1 0), .row 65 13 ((a9j i).map (w5w true)))), (2, ((0 + 1), .box 31 [pI 0, a6b true l, .ref 0 (γ1 0), .pv (.slice none 0 0), pI 0, .pv (.slice none 0 0), .pv (.slice none 0 0), .pv (.slice none 0 0), .pv (.slice none 0 0)])), (3, ((γ1 3), .dead)), (4, ((γ1 4), .dead))]) (fun i => i ≤ 3) (fun i => 3 - i) (cK [2, 3] rfl) (y8y 1 rfl HE.nil) 0 (by omega) [_, 0, 0, _, _] cv (HE.row rfl (by rfl) (HE.box rfl rfl (HE.kill rfl (HE.kill rfl HE.nil)))) rfl fun i γ1 hi => ?_
 refine x2x fun K4 hK4 => ?_
 refine exA 2 rfl rfl (y4y rfl ?_ ?_)<;>intro h<;>try simp at h
 ·obtain rfl : i = 3 := by omega
  refine z4z (hK3 _ _ (exR (x5x rfl q4q rfl rfl rfl (x3x rfl rfl q4q rfl rfl rfl rfl (x6x ?_)))))
  exact ⟨.inr rfl, [_], rfl, rfl, hv⟩
 refine x8x (hK4 _ _ (x2x fun K6 hK6 => ?_))
 refine y0y (exH (x1x 3 rfl rfl (x9x rfl rfl rfl (b9k (i : Int)) ?_)))
 refine u3u (id := 3) a6c rfl y5y rfl rfl rfl rfl rfl rfl ?_
 refine u6u (zs := (a9j i ++ [a2n (i : Int)]).map (w5w true)) rfl rfl a6c rfl y5y rfl rfl rfl rfl (by rfl) (w2w _ _ _) (by (simp only [a1c, a0m, a0u, a0v, a1z, a9j, a4b, T65]; omega)) ?_
 refine y1y rfl q4q rfl rfl a6c rfl rfl (z0z rfl rfl a6c rfl rfl rfl rfl rfl (by simp only [a1h]; rfl) ?_)
 refine ⟨by kernel_rfl, hK6 _ _ (exG (x4x rfl (p5p rfl rfl rfl (x0x rfl ?_))))⟩
 exact ⟨i + 1, ⟨by omega, by omega⟩, [_, 0, 0, _, _], (Cov.cons' (t := 4) rfl (by rw [u4u (by omega) (by omega)]; rfl) Cov.nil), cv, (HE.row rfl (by rw [c9m]) (HE.box rfl rfl (HE.kill rfl (HE.kill rfl HE.nil)))), hv, rfl⟩
end
section
theorem c3y (bs : List Nat) (hbs : ∀ b ∈ bs, b < 256) (p0 most : Nat) (hp : p0 + 502 + 1040 * most ≤ 1000000) : MethE Tryz.prog 133 5 [.ptr 4 0 0, .pv (.int .i64 (most : Int))] [(0, (0, .dead)), (1, (0, .dead)), (2, (0, .dead)), (3, (0, .dead)), (4, (0, .box 243 [p7p true bs, .pv (.int .i64 ((p0 : Nat) : Int))]))] (ι := Sm) (fun S' => smOk S' (p0 + 502 + 1040 * most)) (fun S' => [4]) (fun S' => .ptr 0 0 0) (fun S' => [(0, (0, .box 171 [.ptr 4 0 0, pI S'.w.time, a6b true S'.w.apps, .ref 1 0, .ref 2 0, pI S'.w.hub.round, q3q true S'.w.hub.ones, q3q true S'.w.hub.twos, q3q true S'.w.hub.outs, a0t true S'.w.sink, .ref 3 0])), (1, (0, .row 65 13 ((S'.w.nodes).map (w5w true)))), (2, (0, .row 79 11 ((S'.w.radio).map (p4p true)))), (3, (0, .row 263 5 ((S'.list).map a4p))), (4, (0, .box 243 [p7p true bs, .pv (.int .i64 ((S'.p : Nat) : Int))]))]) := by
 refine mE (ι := Sm) Tryz.f133 (fun S' => [.ptr 0 0 0]) 5 1 fun γ => ?_
 refine exR (x0x rfl (a0p fun B X0 w0 => ?_))
 refine txR 2 rfl rfl (x1x 2 rfl rfl ?_)
 refine txM [4] [_] (c3w bs hbs p0 (by omega)) rfl rfl rfl rfl fun A hA => ?_
 obtain ⟨hA1, hA2⟩ := hA
 refine txR 4 rfl rfl ?_
 refine rlM [1] [_] (b7i A.1 hA1) rfl rfl rfl ?_
 refine rlB f0c f0h ?_
 refine u2u (id := 0) rfl rfl rfl (x0x rfl (v9v rfl (a2d 0 4 2 79 11 rfl rfl rfl rfl rfl (a2d 0 10 3 263 5 rfl rfl rfl rfl rfl ?_))))
 refine e5o 0 rfl (.same (.same (.same (.same (.same (.same (.le (b := q3q true ([] : List Wo)) rfl .nil rfl (.le (b := q3q true ([] : List Wo)) rfl .nil rfl (.le (b := q3q true ([] : List Wo)) rfl .nil rfl (.le (b := a0t true ([] : List Ou)) rfl .nil rfl (LeCs.refl _))))))))))) ?_
 refine exR ?_
 refine a0d (id := 5) q2q rfl q1q rfl rfl rfl rfl (.val rfl rfl (.val rfl rfl (.val rfl rfl (.val rfl rfl (.val rfl rfl .nil))))) rfl (a0q rfl) (a0q rfl) (a0q rfl) rfl rfl ?_
 refine x4x rfl ?_
 refine rlM [4] [_] (y2y true bs (A.2) (5) (by have := hA2; omega) hbs) rfl rfl rfl ?_
 obtain ⟨z, ez, hz⟩ : ∃ z, pk bs A.2 5 = z ∧ z < 5 := ⟨_, rfl, a3u _ _ _ (by omega)⟩
 rw [ez]
 obtain ⟨odd, hodd⟩ : ∃ x, [0, 0, 3, 6, 12][z]? = some x := ⟨_, List.getElem?_eq_getElem hz⟩
 refine v0v (f := fun x : Nat => [pI (x : Int)]) (l := [0, 0, 3, 6, 12]) (j := z) rfl rfl q2q rfl q1q rfl rfl hz ?_
 refine a0x (f := fun x : Nat => [pI (x : Int)]) (l := [0, 0, 3, 6, 12]) rfl q1q rfl hodd rfl ?_
 refine x0x rfl (x2x fun K1 hK1 => ?_)
 refine exA 2 rfl rfl ?_
 refine rlM [4] [_] (y2y true bs (A.2 + 1) (most) (by have := hA2; omega) hbs) rfl rfl rfl ?_
 refine x0x rfl ?_
 obtain ⟨N, eN, hN⟩ : ∃ N, pk bs (A.2 + 1) most = N ∧ N ≤ most := ⟨_, rfl, b1e _ _ _⟩
 rw [eN]
 refine y0y ?_
 refine z2z (ι := Sm × Nat) (fun p γ1 => [(7, pI (p.2 : Int))]) (fun p γ1 => [(1, ((γ1 1), .row 65 13 ((p.1.w.nodes).map (w5w true)))), (2, ((γ1 2), .row 79 11 ((p.1.w.radio).map (p4p true)))), (3, ((γ1 3), .row 263 5 ((p.1.list).map a4p))), (0, ((γ 0 + 1), .box 171 [.ptr 4 (γ 4) 0, pI p.1.w.time, a6b true p.1.w.apps, .ref 1 (γ1 1), .ref 2 (γ1 2), pI p.1.w.hub.round, q3q true p.1.w.hub.ones, q3q true p.1.w.hub.twos, q3q true p.1.w.hub.outs, a0t true p.1.w.sink, .ref 3 (γ1 3)])), (4, ((γ 4), .box 243 [p7p true bs, pI ((p.1.p : Nat) : Int)]))]) (fun p => smOk p.1 (p0 + 502 + 1040 * (N - p.2)) ∧ p.2 ≤ N) (fun p => p.2) (cK [5, 6] rfl) (y8y 5 rfl HE.nil) ((⟨⟨0, A.1, a9j 3, [], hb0, []⟩, [], A.2 + 1 + 1⟩ : Sm), N) ⟨e4u hA1 (by show A.2 + 1 + 1 ≤ p0 + 502 + 1040 * (N - N); omega), Nat.le_refl _⟩ [0, _, _, _] cv hv rfl fun p γ1 hi => ?_
 obtain ⟨S1, i⟩ := p
 obtain ⟨h1, h2⟩ := hi
 dsimp only at h1 h2 ⊢
 refine x2x fun K2 hK2 => ?_
 refine exA 2 rfl rfl (y4y rfl ?_ ?_)<;>intro h<;>try simp at h
 ·refine z4z (hK1 _ _ (exA 2 rfl rfl (x6x ?_)))
  exact ⟨.inr rfl, S1, h1.mono (by omega), [_, _, _, _, γ 4], rfl, rfl, hv⟩
 obtain ⟨i', rfl⟩ : ∃ i', i = i' + 1 := ⟨i - 1, by omega⟩
 refine x8x (hK2 _ _ (x2x fun K4 hK4 => ?_))
 refine y0y (a7m fun B X0 w0 => ?_)
 refine txR 2 rfl rfl (x1x 2 rfl rfl ?_)
 refine txM [0, 1, 2, 3, 4] [_, _, _, _, _] (b7h bs hbs S1 (p0 + 502 + 1040 * (N - (i' + 1))) h1 odd (by omega)) rfl rfl rfl rfl fun j hj => ?_
 refine v9v rfl (hK4 _ _ (exG (x4x rfl (a0h (b := 1) rfl rfl (by omega) (by omega) (x0x rfl ?_)))))
 exact ⟨(j, i'), ⟨⟨hj.mono (by show _ ≤ p0 + 502 + 1040 * (N - i'); omega), by show i' ≤ N; omega⟩, (by show i' < i' + 1; omega)⟩, [0, _, _, _], cv, cv, hv, hv, rfl⟩
end
section
theorem c3z (bs : List Nat) (hbs : ∀ b ∈ bs, b < 256) (p0 : Nat) (hp : p0 + 502 + 1040 * 14 ≤ 1000000) : MethE Tryz.prog 225 1 [.ptr 0 0 0] [(0, (0, .box 243 [p7p true bs, .pv (.int .i64 ((p0 : Nat) : Int))]))] (ι := Sm × Nd) (fun S' => smOk S'.1 (p0 + 503 + 1040 * 14) ∧ S'.2 ∈ S'.1.w.nodes) (fun S' => [0]) (fun S' => .tup [.agg (e4a true S'.1.w), .agg (w5w true S'.2)]) (fun S' => [(0, (0, .box 243 [p7p true bs, .pv (.int .i64 ((S'.1.p : Nat) : Int))]))]) := by
 refine mE (ι := Sm × Nd) Tryz.f225 (fun S' => [.agg (e4a true S'.1.w), .agg (w5w true S'.2)]) 1 7 fun γ => ?_
 refine exR (y6y (id := 1) q4q b7p rfl (y6y (id := 2) y5y s9s rfl (a0p fun B X0 w0 => ?_)))
 refine txR 1 rfl rfl (x4x rfl ?_)
 refine txM [4, 5, 6, 7, 0] [_, _, _, _, _] (c3y bs hbs p0 14 hp) rfl rfl rfl rfl fun S hS => ?_
 refine txR 5 rfl rfl (x1x 3 rfl rfl (y6y (id := 3) q4q b7p rfl (x3x rfl rfl q4q rfl rfl rfl rfl (v9v rfl (exD (x1x 4 rfl rfl ?_))))))
 refine rlM [0] [_] (y2y true bs (S.p) (3) (by have := hS.2.2; omega) hbs) rfl rfl rfl ?_
 obtain ⟨z, ez, hz⟩ : ∃ z, pk bs S.p 3 = z ∧ z < 3 := ⟨_, rfl, a3u _ _ _ (by omega)⟩
 rw [ez]
 obtain ⟨n, hnd, hnI⟩ := b3d hS.1 (i := z) (by omega)
 refine v0v (j := z) rfl rfl a6c rfl y5y rfl rfl (v1v hnd) ?_
 refine q0q rfl y5y rfl (by assumption) rfl rfl ?_
 refine x3x rfl rfl q4q rfl rfl rfl rfl (x3x rfl rfl y5y rfl rfl rfl rfl ⟨by kernel_rfl, ?_⟩)
 refine p8p (b := f3z true S.w.nodes) 1 2 rfl rfl rfl (.ref rfl (Le.ow_map _ (fun _ => rfl) (fun _ => rfl)) .nil) rfl rfl rfl rfl ?_
 refine p8p (b := q3q true S.w.radio) 1 3 rfl rfl rfl (.ref rfl (Le.ow_map _ (fun _ => rfl) (fun _ => rfl)) .nil) rfl rfl rfl rfl ?_
 refine x6x ?_
 exact ⟨.inr rfl, (pSm S (S.p + 1), n), ⟨a3t hS (by omega) (by have := hS.2.2; omega), List.mem_of_getElem? hnd⟩, [γ 0], rfl, rfl, hv⟩
end
section
theorem a8k (bs : List Nat) (hbs : ∀ b ∈ bs, b < 256) (p0 : Nat) (hp : p0 + 10 ≤ 100000000) : MethE Tryz.prog 216 1 [.ptr 0 0 0] [(0, (0, .box 243 [p7p true bs, .pv (.int .i64 ((p0 : Nat) : Int))]))] (ι := Ev × Nat) (fun S' => S'.2 ≤ p0 + 10) (fun S' => [0]) (fun S' => .agg (v5v S'.1)) (fun S' => [(0, (0, .box 243 [p7p true bs, .pv (.int .i64 ((S'.2 : Nat) : Int))]))]) := by
 refine mE (ι := Ev × Nat) Tryz.f216 (fun S' => [.agg (v5v S'.1)]) 1 5 fun γ => ?_
 refine exR (y6y (id := 1) z6z a8z rfl (exR (x4x rfl ?_)))
 refine rlM [0] [_] (y2y true bs (p0) (41) (by have := hp; omega) hbs) rfl rfl rfl ?_
 refine x4x rfl ?_
 refine rlM [0] [_] (y2y true bs (p0 + 1) (4) (by have := hp; omega) hbs) rfl rfl rfl ?_
 refine x4x rfl ?_
 refine rlM [0] [_] (y2y true bs (p0 + 1 + 1) (5) (by have := hp; omega) hbs) rfl rfl rfl ?_
 have h5 := a3u bs (p0 + 1 + 1) 5 (by omega)
 refine a0y (.int .i64 ((pk bs (p0 + 1 + 1) 5 : Int) - 1)) rfl rfl rfl (a9c rfl (by omega) (by omega) (by omega)) ?_
 refine x4x rfl ?_
 refine rlM [0] [_] (y2y true bs (p0 + 1 + 1 + 1) (13) (by have := hp; omega) hbs) rfl rfl rfl ?_
 refine x4x rfl ?_
 refine rlM [0] [_] (y2y true bs (p0 + 1 + 1 + 1 + 1) (3) (by have := hp; omega) hbs) rfl rfl rfl ?_
 refine x4x rfl ?_
 refine rlM [0] [_] (y2y true bs (p0 + 1 + 1 + 1 + 1 + 1) (3) (by have := hp; omega) hbs) rfl rfl rfl ?_
 refine x4x rfl ?_
 refine rlM [0] [_] (y2y true bs (p0 + 1 + 1 + 1 + 1 + 1 + 1) (40) (by have := hp; omega) hbs) rfl rfl rfl ?_
 refine rlB z6z a8z ?_
 refine y6y (id := 2) z6z a8z rfl (x3x rfl rfl z6z rfl rfl rfl rfl ?_)
 refine a0c (ι := Ev × Nat) (fun s γ1 => []) (fun s γ1 => [(0, ((γ 0), .box 243 [p7p true bs, pI ((s.2 : Nat) : Int)])), (2, ((0 + 1), .box 56 (v5v s.1))), (3, ((γ1 3), .dead)), (4, ((γ1 4), .dead)), (5, ((γ1 5), .dead))]) (fun s => s.2 ≤ p0 + 10) (cK [2, 3] rfl) (y8y 1 rfl HE.nil) ?_ fun s γ1 hi => ?_
 ·refine exR (x4x rfl ?_)
  refine rlM [0] [_] (y2y true bs (p0 + 1 + 1 + 1 + 1 + 1 + 1 + 1) (20) (by have := hp; omega) hbs) rfl rfl rfl ?_
  refine y0y (exA 2 rfl rfl (x7x rfl ?_ ?_))<;>intro h<;>try simp at h
  ·refine exG ?_
   refine a0d (id := 3) q2q rfl q1q rfl rfl rfl rfl (.val rfl rfl (.val rfl rfl (.val rfl rfl .nil))) rfl (a0q rfl) (a0q rfl) (a0q rfl) rfl rfl ?_
   refine x4x rfl ?_
   refine rlM [0] [_] (y2y true bs (p0 + 1 + 1 + 1 + 1 + 1 + 1 + 1 + 1) (3) (by have := hp; omega) hbs) rfl rfl rfl ?_
   obtain ⟨z, ez, hz⟩ : ∃ z, pk bs (p0 + 1 + 1 + 1 + 1 + 1 + 1 + 1 + 1) 3 = z ∧ z < 3 := ⟨_, rfl, a3u _ _ _ (by omega)⟩
   rw [ez]
   obtain ⟨v, hv⟩ : ∃ x, ([-1, 40, 41] : List Int)[z]? = some x := ⟨_, List.getElem?_eq_getElem hz⟩
   refine v0v (f := fun x : Int => [pI x]) (l := [-1, 40, 41]) (j := z) rfl rfl q2q rfl q1q rfl rfl hz ?_
   refine a0x (f := fun x : Int => [pI x]) (l := [-1, 40, 41]) rfl q1q rfl hv rfl ?_
   refine y1y rfl z6z rfl rfl q1q rfl rfl ?_
   refine z0z rfl rfl q1q rfl rfl rfl rfl rfl (by simp only [a1h]; rfl) ?_
   exact ⟨({ (⟨(pk bs (p0) 41 : Int), (pk bs (p0 + 1) 4 : Int), (pk bs (p0 + 1 + 1) 5 : Int) - 1, (pk bs (p0 + 1 + 1 + 1) 13 : Int), (pk bs (p0 + 1 + 1 + 1 + 1) 3 : Int), (pk bs (p0 + 1 + 1 + 1 + 1 + 1) 3 : Int), (pk bs (p0 + 1 + 1 + 1 + 1 + 1 + 1) 40 : Int)⟩ : Ev) with time := v }, p0 + 1 + 1 + 1 + 1 + 1 + 1 + 1 + 1 + 1), (by show p0 + 1 + 1 + 1 + 1 + 1 + 1 + 1 + 1 + 1 ≤ _; omega), [0, 0, 0, _, _, _], Cov.nil, (y3y 2 rfl (y3y 3 rfl Cov.nil)), (HE.box rfl rfl (HE.box rfl rfl (HE.kill rfl (HE.kill rfl (HE.kill rfl HE.nil))))), (y8y 1 rfl HE.nil), rfl⟩
  refine exA 2 rfl rfl (x7x rfl ?_ ?_)<;>intro h<;>try simp at h
  ·refine exG ?_
   refine a0d (id := 4) q2q rfl q1q rfl rfl rfl rfl (.val rfl rfl (.val rfl rfl .nil)) rfl (a0q rfl) (a0q rfl) (a0q rfl) rfl rfl ?_
   refine x4x rfl ?_
   refine rlM [0] [_] (y2y true bs (p0 + 1 + 1 + 1 + 1 + 1 + 1 + 1 + 1) (2) (by have := hp; omega) hbs) rfl rfl rfl ?_
   obtain ⟨z, ez, hz⟩ : ∃ z, pk bs (p0 + 1 + 1 + 1 + 1 + 1 + 1 + 1 + 1) 2 = z ∧ z < 2 := ⟨_, rfl, a3u _ _ _ (by omega)⟩
   rw [ez]
   obtain ⟨v, hv⟩ : ∃ x, ([-1, 4] : List Int)[z]? = some x := ⟨_, List.getElem?_eq_getElem hz⟩
   refine v0v (f := fun x : Int => [pI x]) (l := [-1, 4]) (j := z) rfl rfl q2q rfl q1q rfl rfl hz ?_
   refine a0x (f := fun x : Int => [pI x]) (l := [-1, 4]) rfl q1q rfl hv rfl ?_
   refine y1y rfl z6z rfl rfl q1q rfl rfl ?_
   refine z0z rfl rfl q1q rfl rfl rfl rfl rfl (by simp only [a1h]; rfl) ?_
   exact ⟨({ (⟨(pk bs (p0) 41 : Int), (pk bs (p0 + 1) 4 : Int), (pk bs (p0 + 1 + 1) 5 : Int) - 1, (pk bs (p0 + 1 + 1 + 1) 13 : Int), (pk bs (p0 + 1 + 1 + 1 + 1) 3 : Int), (pk bs (p0 + 1 + 1 + 1 + 1 + 1) 3 : Int), (pk bs (p0 + 1 + 1 + 1 + 1 + 1 + 1) 40 : Int)⟩ : Ev) with to := v }, p0 + 1 + 1 + 1 + 1 + 1 + 1 + 1 + 1 + 1), (by show p0 + 1 + 1 + 1 + 1 + 1 + 1 + 1 + 1 + 1 ≤ _; omega), [0, 0, 0, _, _, _], Cov.nil, (y3y 2 rfl (y3y 3 rfl Cov.nil)), (HE.box rfl rfl (HE.box rfl rfl (HE.kill rfl (HE.kill rfl (HE.kill rfl HE.nil))))), (y8y 1 rfl HE.nil), rfl⟩
  refine exA 2 rfl rfl (y4y rfl ?_ ?_)<;>intro h<;>try simp at h
  ·refine x8x ?_
   exact ⟨((⟨(pk bs (p0) 41 : Int), (pk bs (p0 + 1) 4 : Int), (pk bs (p0 + 1 + 1) 5 : Int) - 1, (pk bs (p0 + 1 + 1 + 1) 13 : Int), (pk bs (p0 + 1 + 1 + 1 + 1) 3 : Int), (pk bs (p0 + 1 + 1 + 1 + 1 + 1) 3 : Int), (pk bs (p0 + 1 + 1 + 1 + 1 + 1 + 1) 40 : Int)⟩ : Ev), p0 + 1 + 1 + 1 + 1 + 1 + 1 + 1 + 1), (by show p0 + 1 + 1 + 1 + 1 + 1 + 1 + 1 + 1 ≤ _; omega), [0, 0, 0, _, _, _], cv, cv, hv, hv, rfl⟩
  refine exG ?_
  refine a0d (id := 5) q2q rfl q1q rfl rfl rfl rfl (.val rfl rfl (.val rfl rfl (.val rfl rfl .nil))) rfl (a0q rfl) (a0q rfl) (a0q rfl) rfl rfl ?_
  refine x4x rfl ?_
  refine rlM [0] [_] (y2y true bs (p0 + 1 + 1 + 1 + 1 + 1 + 1 + 1 + 1) (3) (by have := hp; omega) hbs) rfl rfl rfl ?_
  obtain ⟨z, ez, hz⟩ : ∃ z, pk bs (p0 + 1 + 1 + 1 + 1 + 1 + 1 + 1 + 1) 3 = z ∧ z < 3 := ⟨_, rfl, a3u _ _ _ (by omega)⟩
  rw [ez]
  obtain ⟨v, hv⟩ : ∃ x, ([-1, 999, 1000] : List Int)[z]? = some x := ⟨_, List.getElem?_eq_getElem hz⟩
  refine v0v (f := fun x : Int => [pI x]) (l := [-1, 999, 1000]) (j := z) rfl rfl q2q rfl q1q rfl rfl hz ?_
  refine a0x (f := fun x : Int => [pI x]) (l := [-1, 999, 1000]) rfl q1q rfl hv rfl ?_
  refine y1y rfl z6z rfl rfl q1q rfl rfl ?_
  refine z0z rfl rfl q1q rfl rfl rfl rfl rfl (by simp only [a1h]; rfl) ?_
  exact ⟨({ (⟨(pk bs (p0) 41 : Int), (pk bs (p0 + 1) 4 : Int), (pk bs (p0 + 1 + 1) 5 : Int) - 1, (pk bs (p0 + 1 + 1 + 1) 13 : Int), (pk bs (p0 + 1 + 1 + 1 + 1) 3 : Int), (pk bs (p0 + 1 + 1 + 1 + 1 + 1) 3 : Int), (pk bs (p0 + 1 + 1 + 1 + 1 + 1 + 1) 40 : Int)⟩ : Ev) with arg := v }, p0 + 1 + 1 + 1 + 1 + 1 + 1 + 1 + 1 + 1), (by show p0 + 1 + 1 + 1 + 1 + 1 + 1 + 1 + 1 + 1 ≤ _; omega), [0, 0, 0, _, _, _], Cov.nil, (y3y 2 rfl (y3y 3 rfl Cov.nil)), (HE.box rfl rfl (HE.box rfl rfl (HE.kill rfl (HE.kill rfl (HE.kill rfl HE.nil))))), (y8y 1 rfl HE.nil), rfl⟩
 ·try dsimp only [b2o, b2p]
  refine exR (x5x rfl z6z rfl rfl rfl (x3x rfl rfl z6z rfl rfl rfl rfl (x6x ?_)))
  exact ⟨.inr rfl, s, hi, [γ 0], rfl, rfl, hv⟩
theorem c7h (bs : List Nat) (hbs : ∀ b ∈ bs, b < 256) (p0 : Nat) (hp : p0 + 10 ≤ 100000000) : MethE Tryz.prog 226 1 [.ptr 0 0 0] [(0, (0, .box 243 [p7p true bs, .pv (.int .i64 ((p0 : Nat) : Int))]))] (ι := Ou × Nat) (fun S' => S'.2 ≤ p0 + 5) (fun S' => [0]) (fun S' => .agg (a0w S'.1)) (fun S' => [(0, (0, .box 243 [p7p true bs, .pv (.int .i64 ((S'.2 : Nat) : Int))]))]) := by
 refine mE (ι := Ou × Nat) Tryz.f226 (fun S' => [.agg (a0w S'.1)]) 1 1 fun γ => ?_
 refine exR (y6y (id := 1) w7w c4j rfl (exR (x4x rfl ?_)))
 refine rlM [0] [_] (y2y true bs (p0) (6) (by have := hp; omega) hbs) rfl rfl rfl ?_
 refine x4x rfl ?_
 refine rlM [0] [_] (y2y true bs (p0 + 1) (4) (by have := hp; omega) hbs) rfl rfl rfl ?_
 refine x4x rfl ?_
 refine rlM [0] [_] (y2y true bs (p0 + 1 + 1) (3) (by have := hp; omega) hbs) rfl rfl rfl ?_
 refine x4x rfl ?_
 refine rlM [0] [_] (y2y true bs (p0 + 1 + 1 + 1) (2) (by have := hp; omega) hbs) rfl rfl rfl ?_
 refine x4x rfl ?_
 refine rlM [0] [_] (y2y true bs (p0 + 1 + 1 + 1 + 1) (4) (by have := hp; omega) hbs) rfl rfl rfl ?_
 refine rlB w7w c4j ?_
 refine x3x rfl rfl w7w rfl rfl rfl rfl (x6x ?_)
 exact ⟨.inr rfl, ((⟨(pk bs (p0) 6 : Int), (pk bs (p0 + 1) 4 : Int), (pk bs (p0 + 1 + 1) 3 : Int), (pk bs (p0 + 1 + 1 + 1) 2 : Int), (pk bs (p0 + 1 + 1 + 1 + 1) 4 : Int)⟩ : Ou), p0 + 1 + 1 + 1 + 1 + 1), (by show p0 + 1 + 1 + 1 + 1 + 1 ≤ _; omega), [γ 0], rfl, rfl, hv⟩
theorem b9n (bs : List Nat) (hbs : ∀ b ∈ bs, b < 256) (p0 m : Nat) (hm : m ≤ 1000) (hp : p0 + 1 + 13 * m ≤ 100000000) : MethE Tryz.prog 227 1 [.ptr 0 0 0, .pv (.int .i64 (m : Int))] [(0, (0, .box 243 [p7p true bs, .pv (.int .i64 ((p0 : Nat) : Int))]))] (ι := List Ev × Nat) (fun S' => S'.1.length ≤ m ∧ S'.2 ≤ p0 + 1 + 13 * m) (fun S' => [0]) (fun S' => a2e true S'.1) (fun S' => [(0, (0, .box 243 [p7p true bs, .pv (.int .i64 ((S'.2 : Nat) : Int))]))]) := by
 refine mE (ι := List Ev × Nat) Tryz.f227 (fun S' => [a2e true S'.1]) 1 4 fun γ => ?_
 refine exR (x0x rfl (exR (z8z (id := 1) u8u rfl z6z rfl (x0x rfl (x2x fun K1 hK1 => ?_)))))
 refine exA 2 rfl rfl ?_
 refine rlM [0] [_] (y2y true bs (p0) (m) (by have := hp; omega) hbs) rfl rfl rfl ?_
 refine x0x rfl ?_
 obtain ⟨N, eN, hN⟩ : ∃ N, pk bs p0 m = N ∧ N ≤ m := ⟨_, rfl, b1e _ _ _⟩
 rw [eN]
 refine y0y ?_
 refine z2z (ι := List Ev × Nat × Nat) (fun p γ1 => [(5, .ref 1 (γ1 1)), (6, pI (p.2.2 : Int))]) (fun p γ1 => [(1, ((γ1 1), .row 56 7 ((p.1).map v5v))), (0, ((γ 0), .box 243 [p7p true bs, pI ((p.2.1 : Nat) : Int)])), (2, ((γ1 2), .dead)), (3, ((γ1 3), .dead)), (4, ((γ1 4), .dead))]) (fun p => p.1.length + p.2.2 ≤ N ∧ p.2.1 + 13 * p.2.2 ≤ p0 + 1 + 13 * N) (fun p => p.2.2) (y3y 0 rfl Cov.nil) HE.nil ([], p0 + 1, N) ⟨Nat.le_of_eq (Nat.zero_add _), Nat.le_refl _⟩ [0, _, _, _, _] cv (HE.row rfl (by rfl) (HE.box rfl rfl (HE.kill rfl (HE.kill rfl (HE.kill rfl HE.nil))))) rfl fun p γ1 hi => ?_
 obtain ⟨l, q, n⟩ := p
 obtain ⟨h1, h2⟩ := hi
 dsimp only at h1 h2 ⊢
 refine x2x fun K2 hK2 => ?_
 refine exA 2 rfl rfl (y4y rfl ?_ ?_)<;>intro h<;>try simp at h
 ·refine z4z (hK1 _ _ ?_)
  refine a0l (f := v5v) 5 rfl rfl (fun _ => rfl) ?_
  refine exA 2 rfl rfl (x6x ?_)
  exact ⟨.inr rfl, (l, q), ⟨by show l.length ≤ m; omega, by show q ≤ p0 + 1 + 13 * m; omega⟩, [γ 0], rfl, rfl, hv⟩
 obtain ⟨n', rfl⟩ : ∃ n', n = n' + 1 := ⟨n - 1, by omega⟩
 refine x8x (hK2 _ _ (x2x fun K4 hK4 => ?_))
 refine y0y (a0p fun B X0 w0 => ?_)
 refine txR 1 rfl rfl (x4x rfl ?_)
 refine txM [0] [_] (a8k bs hbs q (by omega)) rfl rfl rfl rfl fun e he => ?_
 refine txR 2 rfl rfl (y6y (id := 2) z6z a8z rfl (x3x rfl rfl z6z rfl rfl rfl rfl (v9v rfl ?_)))
 refine a0c (ι := Ev × Nat) (fun s γ2 => []) (fun s γ2 => [(0, ((γ 0), .box 243 [p7p true bs, pI ((s.2 : Nat) : Int)])), (2, ((γ1 2 + 1), .box 56 (v5v s.1)))]) (fun s => s.2 ≤ q + 13) (cK [0, 5, 6, 7] rfl) (hK [1, 3, 4] rfl) ?_ fun s γ2 hi => ?_
 ·refine exR (x4x rfl ?_)
  refine a1j (n := l.length) rfl u8u rfl rfl (List.length_map _) ?_
  refine x1x 2 rfl rfl (z9z rfl rfl ?_ ?_)<;>intro h<;>try simp at h
  ·refine x1x 3 rfl rfl (x7x rfl (fun hc7 => ?_) (fun hc7 => ?_))
   ·simp at hc7
   try simp at hc7
   refine x8x ?_
   exact ⟨(e.1, e.2), (by show e.2 ≤ _; omega), [], cv, cv, hv, hv, rfl⟩
  refine x4x rfl (z1z rfl rfl ?_)
  refine rlM [0] [_] (y2y true bs (e.2) (4) (by have := he; omega) hbs) rfl rfl rfl ?_
  refine x1x 2 rfl rfl (y4y rfl ?_ ?_)<;>intro h<;>try simp at h
  ·refine x8x ?_
   exact ⟨(e.1, e.2 + 1), (by show e.2 + 1 ≤ _; omega), [], cv, cv, hv, hv, rfl⟩
  refine exA 3 rfl rfl ?_
  refine a1j (n := l.length) rfl u8u rfl rfl (List.length_map _) ?_
  refine rlM [0] [_] (y2y true bs (e.2 + 1) (l.length) (by have := he; omega) hbs) rfl rfl rfl ?_
  obtain ⟨z, ez, hz⟩ : ∃ z, pk bs (e.2 + 1) l.length = z ∧ z < l.length := ⟨_, rfl, a3u _ _ _ (by omega)⟩
  rw [ez]
  obtain ⟨v, hv⟩ : ∃ v, l[z]? = some v := ⟨_, List.getElem?_eq_getElem hz⟩
  refine v0v (j := z) rfl rfl u8u rfl z6z rfl rfl hz ?_
  refine q0q rfl z6z rfl (by assumption) rfl rfl ?_
  refine x3x rfl rfl z6z rfl rfl rfl rfl (exG (x4x rfl ?_))
  refine rlM [0] [_] (y2y true bs (e.2 + 1 + 1) (3) (by have := he; omega) hbs) rfl rfl rfl ?_
  refine y1y rfl z6z rfl rfl q1q rfl rfl ?_
  refine z0z rfl rfl q1q rfl rfl rfl rfl rfl (by simp only [a1h]; rfl) ?_
  exact ⟨({ v with n := (pk bs (e.2 + 1 + 1) 3 : Int) }, e.2 + 1 + 1 + 1), (by show e.2 + 1 + 1 + 1 ≤ _; omega), [], Cov.nil, (y3y 0 rfl (y3y 5 rfl (y3y 6 rfl (y3y 7 rfl Cov.nil)))), (HE.box rfl rfl (HE.box rfl rfl HE.nil)), (y8y 1 rfl (y8y 3 rfl (y8y 4 rfl HE.nil))), rfl⟩
 ·try dsimp only [b2o, b2p]
  refine exG (x1x 2 rfl rfl (u3u (id := 3) u8u rfl z6z rfl rfl rfl rfl rfl rfl ?_))
  refine u6u (zs := (l ++ [s.1]).map v5v) rfl rfl u8u rfl z6z rfl rfl rfl rfl (by rfl) (w2w v5v l s.1) (by (simp only [a1c, a0m, a0u, a0v, a1z, a4b, T56]; omega)) ?_
  refine x0x rfl (hK4 _ _ (exG (x4x rfl (a0h (b := 1) rfl rfl (by omega) (by omega) (x0x rfl ?_)))))
  exact ⟨(l ++ [s.1], s.2, n'), ⟨⟨by show (l ++ [s.1]).length + n' ≤ N; rw [List.length_append]; show l.length + 1 + n' ≤ N; omega, by show s.2 + 13 * n' ≤ _; omega⟩, (by show n' < n' + 1; omega)⟩, [0, _, _, _, _], cv, cv, (HE.row rfl (by rfl) (HE.box rfl rfl (HE.kill rfl (HE.kill rfl (HE.kill rfl HE.nil))))), hv, rfl⟩
end
section
def a5i (a : La) : List AV := [pI a.proc, pI a.base.x, pI a.base.y, pI a.base.count, .row .ow 58 12 (a.done.map (a3n true))]
theorem d0c (a : La) : LeL true (a5i a) (a0j true a) := .cons (.cl rfl) (.cons (.cl rfl) (.cons (.cl rfl) (.cons (.cl rfl) (.cons (Le.ow_map _ (fun h => h) (fun _ => rfl)) .nil))))
theorem a6n (l : List La) : Le true (.row .ow 44 5 (l.map a5i)) (b8y true l) := Le.ow_map2 l (fun h => h) d0c

def d5u (e : Ev) : List AV := [pI e.time, pI e.to, pI e.from', pI e.count, pI e.n, pI e.kind, pI e.arg, pI 0, pI 0, pI 0, .pv (.slice none 0 0), .pv (.slice none 0 0)]
def d5v (e : Ev) : Pa := ⟨e, ⟨0, 0, 0⟩, [], []⟩
theorem e4v (ds : List Pa) (e : Ev) : Le true (.row .ow 58 12 (ds.map (a3n true) ++ [d5u e])) (b5s true (ds ++ [d5v e])) := by
 have h := Le.ow_map2 (f := fun x : Sum Pa Ev => match x with | .inl p => a3n true p | .inr e => d5u e) (f' := fun x : Sum Pa Ev => match x with | .inl p => a3n true p | .inr e => a3n true (d5v e)) (ty := 58) (sz := 12) (k := true) (c := true) (ds.map .inl ++ [.inr e]) (fun h => h)
  (fun x => match x with | .inl p => .cons (.cl rfl) (.cons (.cl rfl) (.cons (.cl rfl) (.cons (.cl rfl) (.cons (.cl rfl) (.cons (.cl rfl) (.cons (.cl rfl) (.cons (.cl rfl) (.cons (.cl rfl) (.cons (.cl rfl) (.cons (.cl rfl) (.cons (.cl rfl) .nil))))))))))) | .inr e => .cons (.cl rfl) (.cons (.cl rfl) (.cons (.cl rfl) (.cons (.cl rfl) (.cons (.cl rfl) (.cons (.cl rfl) (.cons (.cl rfl) (.cons (.cl rfl) (.cons (.cl rfl) (.cons (.cl rfl) (.cons .nil (.cons .nil .nil))))))))))))
 simp only [List.map_append, List.map_map, List.map_cons, List.map_nil, Function.comp_def] at h
 unfold b5s
 rw [List.map_append]
 exact h
def e1m (l : La) (e : Ev) : List AV := [pI l.proc, pI l.base.x, pI l.base.y, pI l.base.count, .row .ow 58 12 (l.done.map (a3n true) ++ [d5u e])]
theorem e4w (l : La) (e : Ev) (r : List La) : Le true (.row .ow 44 5 (e1m l e :: r.map a5i)) (b8y true (⟨l.proc, l.base, l.done ++ [d5v e]⟩ :: r)) := by
 have h := Le.ow_map2 (f := fun x : Sum La Unit => match x with | .inl p => a5i p | .inr _ => e1m l e) (f' := fun x : Sum La Unit => match x with | .inl p => a0j true p | .inr _ => a0j true ⟨l.proc, l.base, l.done ++ [d5v e]⟩) (ty := 44) (sz := 5) (k := true) (c := true) (.inr () :: r.map .inl) (fun h => h)
  (fun x => match x with | .inl p => d0c p | .inr _ => .cons (.cl rfl) (.cons (.cl rfl) (.cons (.cl rfl) (.cons (.cl rfl) (.cons (e4v _ _) .nil)))))
 simp only [List.map_map, List.map_cons, Function.comp_def] at h
 exact h
theorem e4x (ds : List Pa) (e : Ev) : d4o (ds.map (a3n true) ++ [d5u e]) := fun x hx c hc => by
 rcases List.mem_append.1 hx with h | h
 ·exact a1t (fun _ => rfl) x h c hc
 ·rw [List.mem_singleton.1 h] at hc
  exact List.all_eq_true.1 (show ((d5u e).all AV.flat) = true from rfl) c hc
theorem e1n (h : a2k n) : 0 < n.lanes.length := by
 rw [h.2.2.2.2.1]
 have h1 := h.1.1
 have : n.id = 0 ∨ n.id = 1 ∨ n.id = 2 := by omega
 rcases this with e | e | e <;> rw [e] <;> decide
theorem e1o (h : c2x n) (hl : n.lanes = l :: r) (e : Ev) : c2x { n with lanes := ⟨l.proc, l.base, l.done ++ [d5v e]⟩ :: r } := fun m hm p hp => by
 rcases List.mem_cons.1 hm with rfl | hm
 ·rcases List.mem_append.1 hp with hp | hp
  ·exact h l (by rw [hl]; exact List.mem_cons_self ..) p hp
  ·rw [List.mem_singleton.1 hp]; exact fun q hq => by cases hq
 ·exact h m (by rw [hl]; exact List.mem_cons_of_mem _ hm) p hp
end
section
theorem b8o (c : Bool) (n : Nd) (hl : n.lanes.length ≤ 1000000) (hk : n.kept.length ≤ 1000000) (ho : n.outs.length ≤ 1000000) (hd : ∀ l ∈ n.lanes, lb l) : Meth Tryz.prog 155 5 [] [.agg (w5w c n)] [(0, (0, .dead)), (1, (0, .dead)), (2, (0, .dead)), (3, (0, .dead)), (4, (0, .dead))] (.agg [pI n.id, .pv (.bool n.up), pI n.inc, pI n.g, .ref 0 0, .ref 3 0, .ref 4 0, pI n.led, pI 0, .ref 1 0, .ref 2 0, pI 0, pI 41]) [(0, (0, .row 44 5 ((n.lanes.map s5s).map (a0j true)))), (1, (0, .row 190 3 ([vi0, vi0, vi0].map (a5k true)))), (2, (0, .row 3 1 ([0, 0, 0].map a8u))), (3, (0, .row 56 7 ((n.kept).map v5v))), (4, (0, .row 141 5 ((n.outs).map a0w)))] := by
 refine mX Tryz.f155 [.agg [pI n.id, .pv (.bool n.up), pI n.inc, pI n.g, .ref 0 0, .ref 3 0, .ref 4 0, pI n.led, pI 0, .ref 1 0, .ref 2 0, pI 0, pI 41]] 5 11 fun γ => ?_
 refine exR (u2u (id := 5) rfl rfl rfl (y6y (id := 6) y5y s9s rfl (exD (x1x 8 rfl rfl (z8z (id := 3) u8u rfl z6z rfl (x1x 2 rfl rfl ?_))))))
 refine s4s (zs := (n.kept).map v5v) rfl rfl u8u rfl z6z rfl rfl rfl (w3w (fun _ => rfl) _) rfl (by (simp only [a1c, a0m, a0u, a0v, a1z, a4b, b2n, T56]; omega)) ?_
 refine z8z (id := 4) r3r rfl w7w rfl (x1x 2 rfl rfl ?_)
 refine s4s (zs := (n.outs).map a0w) rfl rfl r3r rfl w7w rfl rfl rfl (w3w (fun _ => rfl) _) rfl (by (simp only [a1c, a0m, a0u, a0v, a1z, a4b, b2n, T141]; omega)) ?_
 refine x1x 2 rfl rfl (rlB y5y s9s ?_)
 refine y6y (id := 9) y5y s9s rfl (x3x rfl rfl y5y rfl rfl rfl rfl ⟨by kernel_rfl, x2x fun K1 hK1 => ?_⟩)
 refine exR (x0x rfl (y0y (a2d 9 4 0 44 5 rfl rfl rfl rfl rfl ?_)))
 refine z2z (ι := Nat) (fun i γ1 => [(4, pI (i : Int))]) (fun i γ1 => [(0, ((γ1 0), .row 44 5 (((n.lanes.take i).map s5s).map (a0j true)))), (9, ((0 + 1), .box 65 [pI n.id, .pv (.bool n.up), pI n.inc, pI n.g, .ref 0 (γ1 0), .ref 3 (γ 3 + 1 + 1), .ref 4 (γ 4 + 1 + 1), pI n.led, pI 0, .pv (.slice none 0 0), .pv (.slice none 0 0), pI 0, pI 41])), (10, ((γ1 10), .dead)), (11, ((γ1 11), .dead))]) (fun i => i ≤ n.lanes.length) (fun i => n.lanes.length - i) (cK [1, 2, 3] rfl) (hK [1, 2, 3, 4, 5, 6, 7, 8, 12, 13, 14, 15] rfl) 0 (by omega) [_, 0, 0, 0, 0, 0, 0, 0, 0, 0, _, _] cv (HE.row rfl (by rw [List.take_zero]; rfl) (HE.box rfl rfl (HE.kill rfl (HE.kill rfl HE.nil)))) rfl fun i γ1 hi => ?_
 refine x2x fun K2 hK2 => ?_
 refine exA 3 rfl rfl (z3z rfl r5r rfl (v6v rfl rfl rfl (x7x rfl ?_ ?_)))<;>intro o<;>try simp at o
 ·obtain ⟨a, ha⟩ := gE n.lanes i
  have had := hd a (List.mem_of_getElem? ha)
  refine x8x (hK2 _ _ (x2x fun K4 hK4 => ?_))
  refine y0y (exH (x1x 5 rfl rfl (y7y rfl rfl r5r rfl v7v rfl ha (u5u rfl v7v rfl rfl (x9x rfl rfl rfl (a3l c a 0 0 had.1 (by omega) (by omega) had.2) ?_)))))
  refine u3u (id := 10) r5r rfl v7v rfl rfl rfl rfl rfl rfl ?_
  refine u6u (zs := ((n.lanes.take i).map s5s ++ [s5s a]).map (a0j true)) rfl rfl r5r rfl v7v rfl rfl rfl rfl (by rfl) (w2w _ _ _) (by (simp only [a1c, a0m, a0u, a0v, a1z, a4b, b2n, T44]; omega)) ?_
  refine y1y rfl y5y rfl rfl r5r rfl rfl (z0z rfl rfl r5r rfl rfl rfl rfl rfl (by simp only [a1h]; rfl) ?_)
  refine ⟨by kernel_rfl, hK4 _ _ (exG (x4x rfl (p5p rfl rfl rfl (x0x rfl ?_))))⟩
  exact ⟨i + 1, ⟨by omega, by omega⟩, [_, 0, 0, 0, 0, 0, 0, 0, 0, 0, _, _], (Cov.cons' (t := 4) rfl (by rw [u4u (by omega) (by omega)]; rfl) Cov.nil), cv, (HE.row rfl (by simp only [w1w ha, List.map_append, List.map_cons, List.map_nil]) (HE.box rfl rfl (HE.kill rfl (HE.kill rfl HE.nil)))), hv, rfl⟩
 obtain rfl : i = n.lanes.length := by omega
 refine z4z (hK1 _ _ (x2x fun K5 hK5 => ?_))
 refine exR (x0x rfl (y0y (a2d 9 9 1 190 3 rfl rfl rfl rfl rfl (a2d 9 10 2 3 1 rfl rfl rfl rfl rfl ?_))))
 refine z2z (ι := Nat) (fun i γ2 => [(5, pI (i : Int))]) (fun i γ2 => [(1, ((γ2 1), .row 190 3 ((List.range i).map fun _ => b1i))), (2, ((γ2 2), .row 3 1 ((List.range i).map fun _ => a8u 0))), (9, ((0 + 1), .box 65 [pI n.id, .pv (.bool n.up), pI n.inc, pI n.g, .ref 0 (γ1 0), .ref 3 (γ 3 + 1 + 1), .ref 4 (γ 4 + 1 + 1), pI n.led, pI 0, .ref 1 (γ2 1), .ref 2 (γ2 2), pI 0, pI 41])), (12, ((γ2 12), .dead)), (13, ((γ2 13), .dead)), (14, ((γ2 14), .dead)), (15, ((γ2 15), .dead))]) (fun i => i ≤ 3) (fun i => 3 - i) (cK [2, 3] rfl) (hK [0, 3, 4, 5, 6, 7, 8, 10, 11] rfl) 0 (by omega) [0, _, _, 0, 0, 0, 0, 0, 0, 0, 0, 0, _, _, _, _] cv hv rfl fun i γ2 hi => ?_
 refine x2x fun K6 hK6 => ?_
 refine exA 2 rfl rfl (y4y rfl ?_ ?_)<;>intro o<;>try simp at o
 ·obtain rfl : i = 3 := by omega
  rw [List.take_length]
  refine z4z (hK5 _ _ (exR (x5x rfl y5y rfl rfl rfl (x3x rfl rfl y5y rfl rfl rfl rfl ?_))))
  refine c8k (f := fun _ => b1i) (f' := fun _ => a5k true vi0) (l := List.range 3) 1 rfl (fun _ => .same (.same (.le rfl .nil rfl .nil))) ?_
  refine x6x ?_
  exact ⟨.inr rfl, [_, _, _, _, _], rfl, rfl, hv⟩
 refine x8x (hK6 _ _ (x2x fun K8 hK8 => ?_))
 refine y0y (exA 2 rfl rfl (rlB q8q a9v ?_))
 refine u3u (id := 12) a0o rfl q8q rfl rfl rfl rfl rfl rfl ?_
 refine u6u (zs := (List.range i).map (fun _ => b1i) ++ [b1i]) rfl rfl a0o rfl q8q rfl rfl rfl rfl (by rfl) rfl (by (simp only [a1c, a0m, a0u, a0v, a1z, a4b, b2n, T190]; omega)) ?_
 refine y1y rfl y5y rfl rfl a0o rfl rfl (z0z rfl rfl a0o rfl rfl rfl rfl rfl (by simp only [a1h]; rfl) ?_)
 refine exG (x1x 2 rfl rfl (a9w (id := 14) q2q rfl q1q rfl rfl rfl rfl rfl ?_))
 refine u6u (zs := (List.range i).map (fun _ => a8u 0) ++ [a8u 0]) rfl rfl q2q rfl q1q rfl rfl rfl rfl (by rfl) rfl (by (simp only [a1c, a0m, a0u, a0v, a1z, a4b, b2n, T3]; omega)) ?_
 refine y1y rfl y5y rfl rfl q2q rfl rfl (z0z rfl rfl q2q rfl rfl rfl rfl rfl (by simp only [a1h]; rfl) ?_)
 refine hK8 _ _ (exG (x4x rfl (p5p rfl rfl rfl (x0x rfl ?_))))
 exact ⟨i + 1, ⟨by omega, by omega⟩, [0, _, _, 0, 0, 0, 0, 0, 0, 0, 0, 0, _, _, _, _], (Cov.cons' (t := 5) rfl (by rw [u4u (by omega) (by omega)]; rfl) Cov.nil), cv, (HE.row rfl (by rw [List.range_succ, List.map_append]; rfl) (HE.row rfl (by rw [List.range_succ, List.map_append]; rfl) (HE.box rfl rfl (HE.kill rfl (HE.kill rfl (HE.kill rfl (HE.kill rfl HE.nil))))))), hv, rfl⟩
theorem b9o (c : Bool) (n : Nd) (h : nb n) : Meth Tryz.prog 161 5 [] [.agg (w5w c n)] [(0, (0, .dead)), (1, (0, .dead)), (2, (0, .dead)), (3, (0, .dead)), (4, (0, .dead))] (.agg [pI n.id, .pv (.bool n.up), pI n.inc, pI n.g, .ref 0 0, .ref 3 0, .ref 4 0, pI n.led, pI n.version, .ref 1 0, .ref 2 0, pI n.round, pI n.low]) [(0, (0, .row 44 5 ((n.lanes).map a5i))), (1, (0, .row 190 3 ((n.views).map (a5k true)))), (2, (0, .row 3 1 (n.known.map a8u))), (3, (0, .row 56 7 ((n.kept).map v5v))), (4, (0, .row 141 5 ((n.outs).map a0w)))] := by
 refine mX Tryz.f161 [.agg [pI n.id, .pv (.bool n.up), pI n.inc, pI n.g, .ref 0 0, .ref 3 0, .ref 4 0, pI n.led, pI n.version, .ref 1 0, .ref 2 0, pI n.round, pI n.low]] 5 11 fun γ => ?_
 obtain ⟨b1, b2, b3, b4, b5, b6, b7⟩ := h
 refine exR (u2u (id := 5) rfl rfl rfl (y6y (id := 6) y5y s9s rfl (exR (x5x rfl y5y rfl rfl rfl ?_))))
 refine rlM [0, 13, 14, 3, 4] [_, _, _, _, _] (b8o c n b1 b2 b3 b4) rfl rfl rfl ?_
 refine y6y (id := 7) y5y s9s rfl (x3x rfl rfl y5y rfl rfl rfl rfl (x2x fun K1 hK1 => ?_))
 refine exR (x0x rfl (y0y ?_))
 refine z2z (ι := Nat) (fun i γ1 => [(4, pI (i : Int))]) (fun i γ1 => [(15, ((γ1 15), .dead)), (0, ((γ 0 + 1), .row 44 5 ((n.lanes.take i).map a5i ++ ((n.lanes.drop i).map s5s).map (a0j true))))]) (fun i => i ≤ n.lanes.length) (fun i => n.lanes.length - i) (cK [1, 2, 3] rfl) (hK [1, 2, 3, 4, 5, 6, 7, 8, 9, 10, 11, 12, 13, 14] rfl) 0 (by omega) [0, 0, 0, 0, 0, 0, 0, 0, 0, 0, 0, 0, 0, 0, 0, _] cv (HE.kill rfl (HE.row rfl (by rw [List.take_zero, List.drop_zero]; rfl) HE.nil)) rfl fun i γ1 hi => ?_
 refine x2x fun K2 hK2 => ?_
 refine exA 3 rfl rfl (z3z rfl r5r rfl (v6v rfl rfl rfl (x7x rfl ?_ ?_)))<;>intro o<;>try simp at o
 ·obtain ⟨p, hp⟩ := gE n.lanes i
  have hpl := b4 p (List.mem_of_getElem? hp)
  have hAl : ((n.lanes.take i).map a5i).length = i := by rw [List.length_map, List.length_take]; omega
  rw [s0s hp, List.map_cons, List.map_cons]
  refine x8x (hK2 _ _ (x2x fun K4 hK4 => ?_))
  refine y0y (exH (x1x 6 rfl rfl (y7y rfl rfl r5r rfl v7v rfl hp (x1x 4 rfl rfl (y7y rfl rfl r5r rfl v7v rfl hp (x1x 2 rfl rfl (z3z rfl r9r rfl ?_)))))))
  refine rlM [15] [_] (b1l c p 0 p.done.length hpl.1 (by omega) hpl.1 hpl.2) rfl rfl rfl ?_
  refine c0r rfl rfl r5r rfl v7v rfl rfl hAl (c4n hAl rfl rfl v7v rfl rfl rfl rfl (.val rfl rfl (.val rfl rfl (.val rfl rfl (.val rfl rfl (.ref rfl (a1t fun _ => rfl) .nil rfl rfl))))) rfl ?_)
  refine ⟨by kernel_rfl, hK4 _ _ (exG (x4x rfl (p5p rfl rfl rfl (x0x rfl ?_))))⟩
  exact ⟨i + 1, ⟨by omega, by omega⟩, [0, 0, 0, 0, 0, 0, 0, 0, 0, 0, 0, 0, 0, 0, 0, _], (Cov.cons' (t := 4) rfl (by rw [u4u (by omega) (by omega)]; rfl) Cov.nil), cv, (HE.kill rfl (HE.row rfl (by rw [b5e]; simp only [w1w hp, List.map_append, List.append_assoc]; rfl) HE.nil)), hv, rfl⟩
 obtain rfl : i = n.lanes.length := by omega
 rw [List.take_length, List.drop_length, List.map_nil, List.map_nil, List.append_nil]
 refine z4z (hK1 _ _ (exA 3 rfl rfl (z0z rfl rfl q1q rfl rfl rfl rfl rfl (by simp only [a1h]; rfl) ?_)))
 refine exA 3 rfl rfl (z0z rfl rfl q1q rfl rfl rfl rfl rfl (by simp only [a1h]; rfl) ?_)
 refine exA 3 rfl rfl (z0z rfl rfl q1q rfl rfl rfl rfl rfl (by simp only [a1h]; rfl) ?_)
 refine exR (z8z (id := 1) a0o rfl q8q rfl (y1y rfl y5y rfl rfl a0o rfl rfl (z0z rfl rfl a0o rfl rfl rfl rfl rfl (by simp only [a1h]; rfl) ?_)))
 refine x2x fun K5 hK5 => ?_
 refine exR (x0x rfl (y0y ?_))
 refine z2z (ι := Nat) (fun j γ2 => [(5, pI (j : Int))]) (fun j γ2 => [(1, ((γ2 1), .row 190 3 ((n.views.take j).map (a5k true)))), (7, ((0 + 1), .box 65 [pI n.id, .pv (.bool n.up), pI n.inc, pI n.g, .ref 0 (γ 0 + 1), .ref 3 (γ 3 + 1), .ref 4 (γ 4 + 1), pI n.led, pI n.version, .ref 1 (γ2 1), .ref 14 (0 + 1), pI n.round, pI n.low])), (8, ((γ2 8), .dead)), (9, ((γ2 9), .dead)), (10, ((γ2 10), .dead)), (11, ((γ2 11), .dead))]) (fun j => j ≤ n.views.length) (fun j => n.views.length - j) (cK [1, 2, 3] rfl) (hK [0, 2, 3, 4, 5, 6, 12, 13, 14, 15] rfl) 0 (by omega) [0, _, 0, 0, 0, 0, 0, 0, _, _, _, _] cv (HE.row rfl (by rw [List.take_zero]; rfl) (HE.box rfl rfl (HE.kill rfl (HE.kill rfl (HE.kill rfl (HE.kill rfl HE.nil)))))) rfl fun j γ2 hi => ?_
 refine x2x fun K6 hK6 => ?_
 refine exA 3 rfl rfl (z3z rfl a0o rfl (v6v rfl rfl rfl (y4y rfl ?_ ?_)))<;>intro o<;>try simp at o
 ·obtain rfl : j = n.views.length := by omega
  rw [List.take_length]
  refine z4z (hK5 _ _ (exR (z8z (id := 2) q2q rfl q1q rfl (x1x 2 rfl rfl ?_))))
  refine s4s (zs := n.known.map a8u) rfl rfl q2q rfl q1q rfl rfl rfl (w3w (fun _ => rfl) _) rfl (by (simp only [a1c, a0m, a0u, a0v, a1z, a4b, b2n, T3]; omega)) ?_
  refine y1y rfl y5y rfl rfl q2q rfl rfl (z0z rfl rfl q2q rfl rfl rfl rfl rfl (by simp only [a1h]; rfl) ?_)
  refine exR (x5x rfl y5y rfl rfl rfl (x3x rfl rfl y5y rfl rfl rfl rfl (x6x ?_)))
  exact ⟨.inr rfl, [_, _, _, _, _], rfl, rfl, hv⟩
 obtain ⟨v, hv⟩ := gE n.views j
 have hve := b6 v (List.mem_of_getElem? hv)
 refine x8x (hK6 _ _ (x2x fun K8 hK8 => ?_))
 refine y0y (exH (x1x 5 rfl rfl (y7y rfl rfl a0o rfl q8q rfl hv (x1x 5 rfl rfl (y7y rfl rfl a0o rfl q8q rfl hv (x1x 2 rfl rfl (z8z (id := 8) u8u rfl z6z rfl (x1x 3 rfl rfl (y7y rfl rfl a0o rfl q8q rfl hv (x1x 2 rfl rfl ?_))))))))))
 refine a2j r6r (zs := (v.events).map v5v) rfl rfl u8u rfl z6z rfl rfl rfl (w3w (fun _ => rfl) _) rfl (by (simp only [a1c, a0m, a0u, a0v, a1z, a4b, b2n, T56]; omega)) (Le.ow_map _ (fun _ => rfl) (fun _ => rfl)) ?_
 refine rlB q8q a9v ?_
 refine u3u (id := 10) a0o rfl q8q rfl rfl rfl rfl rfl rfl ?_
 refine u6u (zs := (n.views.take j ++ [v]).map (a5k true)) rfl rfl a0o rfl q8q rfl rfl rfl rfl (by rfl) (w2w _ _ _) (by (simp only [a1c, a0m, a0u, a0v, a1z, a4b, b2n, T190]; omega)) ?_
 refine y1y rfl y5y rfl rfl a0o rfl rfl (z0z rfl rfl a0o rfl rfl rfl rfl rfl (by simp only [a1h]; rfl) ?_)
 refine ⟨by kernel_rfl, hK8 _ _ (exG (x4x rfl (p5p rfl rfl rfl (x0x rfl ?_))))⟩
 exact ⟨j + 1, ⟨by omega, by omega⟩, [0, _, 0, 0, 0, 0, 0, 0, _, _, _, _], (Cov.cons' (t := 5) rfl (by rw [u4u (by omega) (by omega)]; rfl) Cov.nil), (y3y 1 rfl (y3y 2 rfl (y3y 3 rfl Cov.nil))), (HE.row rfl (by rw [w1w hv]) (HE.box rfl rfl (HE.kill rfl (HE.kill rfl (HE.kill rfl (HE.kill rfl HE.nil)))))), (y8y 0 rfl (y8y 2 rfl (y8y 3 rfl (y8y 4 rfl (y8y 5 rfl (y8y 6 rfl (y8y 12 rfl (y8y 13 rfl (y8y 14 rfl (y8y 15 rfl HE.nil)))))))))), rfl⟩
end
section
theorem b8p (bs : List Nat) (hbs : ∀ b ∈ bs, b < 256) (p0 : Nat) (hp : p0 + 502 + 1040 * 14 ≤ 1000000) : MethE Tryz.prog 122 1 [.ptr 0 0 0] [(0, (0, .box 243 [p7p true bs, .pv (.int .i64 ((p0 : Nat) : Int))]))] (ι := Tw × Nd × Nat) (fun S' => b8l S'.1 ∧ c2x S'.2.1 ∧ S'.2.2 ≤ p0 + 15200) (fun S' => [0]) (fun S' => .tup [.agg (e4a true S'.1), .agg (w5w true S'.2.1)]) (fun S' => [(0, (0, .box 243 [p7p true bs, .pv (.int .i64 ((S'.2.2 : Nat) : Int))]))]) := by
 refine b4w r6r (fn := Tryz.f122) (by kernel_rfl) (by kernel_rfl) rfl (ι := Tw × Nd × Nat) (OF := fun S' => [.agg (e4a true S'.1), .agg (w5w true S'.2.1)]) 1 20 (a0q rfl) (by rfl) (fun _ _ => by rfl) (by repeat (first | exact BndH.nil | refine BndH.box rfl ?_)) (fun _ _ => (by repeat (first | exact BndH.nil | refine BndH.box rfl ?_))) (fun _ _ => by rfl) fun γ => ?_
 show Ex Tryz.prog _ _ [(0, .ptr 0 (γ 0) 0)] [(0, ((γ 0), .box 243 [p7p true bs, .pv (.int .i64 ((p0 : Nat) : Int))])), (20, (0, .dead)), (19, (0, .dead)), (18, (0, .dead)), (17, (0, .dead)), (16, (0, .dead)), (15, (0, .dead)), (14, (0, .dead)), (13, (0, .dead)), (12, (0, .dead)), (11, (0, .dead)), (10, (0, .dead)), (9, (0, .dead)), (8, (0, .dead)), (7, (0, .dead)), (6, (0, .dead)), (5, (0, .dead)), (4, (0, .dead)), (3, (0, .dead)), (2, (0, .dead)), (1, (0, .dead))] _
 refine exR (y6y (id := 1) q4q b7p rfl (y6y (id := 2) y5y s9s rfl (a0p fun B X0 w0 => ?_)))
 refine txR 1 rfl rfl (x4x rfl ?_)
 refine txM [0] [_] (c3z bs hbs p0 hp) rfl rfl rfl rfl fun j hj => ?_
 obtain ⟨hj1, hj2⟩ := hj
 have hq : j.1.p ≤ p0 + 503 + 1040 * 14 := hj1.2.2
 have hI := hj1.1.2.2.1 j.2 hj2
 have fS := hI.1.1
 have fb := b8c fS
 have fB := q5q fS
 obtain ⟨g1, g2, g3, g4, g5, g6⟩ := fB
 refine txR 7 rfl rfl (x1x 3 rfl rfl (y6y (id := 3) q4q b7p rfl (y6y (id := 4) y5y s9s rfl (x3x rfl rfl q4q rfl rfl rfl rfl (x3x rfl rfl y5y rfl rfl rfl rfl (v9v rfl (exR (x5x rfl y5y rfl rfl rfl ?_))))))))
 refine rlM [15, 16, 17, 18, 19] [_, _, _, _, _] (b9o true j.2 fb) rfl rfl rfl ?_
 refine x3x rfl rfl y5y rfl rfl rfl rfl ?_
 refine a0c (ι := Nd × Nat × List (List AV)) (fun s γ1 => []) (fun s γ1 => [(15, ((γ1 15), .row 44 5 (s.2.2))), (16, ((γ1 16), .row 190 3 ((s.1.views).map (a5k true)))), (17, ((γ1 17), .row 3 1 ((s.1.known).map a8u))), (18, ((γ1 18), .row 56 7 ((s.1.kept).map v5v))), (19, ((γ1 19), .row 141 5 ((s.1.outs).map a0w))), (20, ((γ1 20), .dead)), (0, ((γ 0), .box 243 [p7p true bs, pI ((s.2.1 : Nat) : Int)])), (4, ((0 + 1), .box 65 [pI s.1.id, .pv (.bool s.1.up), pI s.1.inc, pI s.1.g, .ref 15 (γ1 15), .ref 18 (γ1 18), .ref 19 (γ1 19), pI s.1.led, pI s.1.version, .ref 16 (γ1 16), .ref 17 (γ1 17), pI s.1.round, pI s.1.low])), (5, ((γ1 5), .dead)), (6, ((γ1 6), .dead)), (7, ((γ1 7), .dead)), (8, ((γ1 8), .dead)), (9, ((γ1 9), .dead)), (10, ((γ1 10), .dead)), (11, ((γ1 11), .dead)), (12, ((γ1 12), .dead)), (13, ((γ1 13), .dead)), (14, ((γ1 14), .dead))]) (fun s => c2x s.1 ∧ s.2.1 ≤ p0 + 15200 ∧ Le true (.row .ow 44 5 s.2.2) (b8y true s.1.lanes)) (cK [2, 3, 4, 5] rfl) (hK [1, 2, 3] rfl) ?_ fun s γ1 hi => ?_
 ·refine exR (x4x rfl ?_)
  refine rlM [0] [_] (y2y true bs (j.1.p) (24) (by have := hq; omega) hbs) rfl rfl rfl ?_
  refine y0y (exA 2 rfl rfl (x7x rfl ?_ ?_))<;>intro u<;>try simp at u
  ·refine exG (x4x rfl ?_)
   refine rlM [0] [_] (y2y true bs (j.1.p + 1) (5) (by have := hq; omega) hbs) rfl rfl rfl ?_
   have h5 := a3u bs (j.1.p + 1) 5 (by omega)
   refine a0y (.int .i64 ((pk bs (j.1.p + 1) 5 : Int) - 1)) rfl rfl rfl (a9c rfl (by omega) (by omega) (by omega)) ?_
   refine y1y rfl y5y rfl rfl q1q rfl rfl (z0z rfl rfl q1q rfl rfl rfl rfl rfl (by simp only [a1h]; rfl) ?_)
   exact ⟨({ j.2 with id := (pk bs (j.1.p + 1) 5 : Int) - 1 }, j.1.p + 1 + 1, j.2.lanes.map a5i), (by exact ⟨hI.2, by show j.1.p + 1 + 1 ≤ p0 + 15200; omega, (a6n _)⟩), [0, 0, 0, 0, 0, _, _, _, _, _, _, _, _, _, _, _, _, _, _, _, _], cv, cv, hv, hv, rfl⟩
  refine exA 2 rfl rfl (x7x rfl ?_ ?_)<;>intro u<;>try simp at u
  ·refine exG (x9x rfl rfl rfl (w0w ..) (x9x rfl rfl rfl (w0w ..) (a0y (.int .i64 10000) rfl rfl rfl rfl ?_)))
   refine a0d (id := 5) q2q rfl q1q rfl rfl rfl rfl (.val rfl rfl (.val rfl rfl (.val rfl rfl .nil))) rfl (a0q rfl) (a0q rfl) (a0q rfl) rfl rfl ?_
   refine x4x rfl ?_
   refine rlM [0] [_] (y2y true bs (j.1.p + 1) (3) (by have := hq; omega) hbs) rfl rfl rfl ?_
   obtain ⟨z, ez, hz⟩ : ∃ z, pk bs (j.1.p + 1) 3 = z ∧ z < 3 := ⟨_, rfl, a3u _ _ _ (by omega)⟩
   rw [ez]
   obtain ⟨v, hv⟩ : ∃ x, ([0, 9999, 10000] : List Int)[z]? = some x := ⟨_, List.getElem?_eq_getElem hz⟩
   refine v0v (f := fun x : Int => [pI x]) (l := [0, 9999, 10000]) (j := z) rfl rfl q2q rfl q1q rfl rfl hz ?_
   refine a0x (f := fun x : Int => [pI x]) (l := [0, 9999, 10000]) rfl q1q rfl hv rfl ?_
   refine y1y rfl y5y rfl rfl q1q rfl rfl ?_
   refine z0z rfl rfl q1q rfl rfl rfl rfl rfl (by simp only [a1h]; rfl) ?_
   exact ⟨({ j.2 with inc := v }, j.1.p + 1 + 1, j.2.lanes.map a5i), (by exact ⟨hI.2, by show j.1.p + 1 + 1 ≤ p0 + 15200; omega, (a6n _)⟩), [0, 0, 0, 0, 0, _, _, _, _, _, _, _, _, _, _, _, _, _, _, _, _], Cov.nil, (y3y 2 rfl (y3y 3 rfl (y3y 4 rfl (y3y 5 rfl Cov.nil)))), (HE.row rfl rfl (HE.row rfl rfl (HE.row rfl rfl (HE.row rfl rfl (HE.row rfl rfl (HE.kill rfl (HE.box rfl rfl (HE.box rfl rfl (HE.kill rfl (HE.kill rfl (HE.kill rfl (HE.kill rfl (HE.kill rfl (HE.kill rfl (HE.kill rfl (HE.kill rfl (HE.kill rfl (HE.kill rfl HE.nil)))))))))))))))))), (y8y 1 rfl (y8y 2 rfl (y8y 3 rfl HE.nil))), rfl⟩
  refine exA 2 rfl rfl (x7x rfl ?_ ?_)<;>intro u<;>try simp at u
  ·refine exG ?_
   refine a0d (id := 6) q2q rfl q1q rfl rfl rfl rfl (.val rfl rfl (.val rfl rfl (.val rfl rfl (.val rfl rfl .nil)))) rfl (a0q rfl) (a0q rfl) (a0q rfl) rfl rfl ?_
   refine x4x rfl ?_
   refine rlM [0] [_] (y2y true bs (j.1.p + 1) (4) (by have := hq; omega) hbs) rfl rfl rfl ?_
   obtain ⟨z, ez, hz⟩ : ∃ z, pk bs (j.1.p + 1) 4 = z ∧ z < 4 := ⟨_, rfl, a3u _ _ _ (by omega)⟩
   rw [ez]
   obtain ⟨v, hv⟩ : ∃ x, ([-1, 41, 42, 3] : List Int)[z]? = some x := ⟨_, List.getElem?_eq_getElem hz⟩
   refine v0v (f := fun x : Int => [pI x]) (l := [-1, 41, 42, 3]) (j := z) rfl rfl q2q rfl q1q rfl rfl hz ?_
   refine a0x (f := fun x : Int => [pI x]) (l := [-1, 41, 42, 3]) rfl q1q rfl hv rfl ?_
   refine y1y rfl y5y rfl rfl q1q rfl rfl ?_
   refine z0z rfl rfl q1q rfl rfl rfl rfl rfl (by simp only [a1h]; rfl) ?_
   exact ⟨({ j.2 with g := v }, j.1.p + 1 + 1, j.2.lanes.map a5i), (by exact ⟨hI.2, by show j.1.p + 1 + 1 ≤ p0 + 15200; omega, (a6n _)⟩), [0, 0, 0, 0, 0, _, _, _, _, _, _, _, _, _, _, _, _, _, _, _, _], Cov.nil, (y3y 2 rfl (y3y 3 rfl (y3y 4 rfl (y3y 5 rfl Cov.nil)))), (HE.row rfl rfl (HE.row rfl rfl (HE.row rfl rfl (HE.row rfl rfl (HE.row rfl rfl (HE.kill rfl (HE.box rfl rfl (HE.box rfl rfl (HE.kill rfl (HE.kill rfl (HE.kill rfl (HE.kill rfl (HE.kill rfl (HE.kill rfl (HE.kill rfl (HE.kill rfl (HE.kill rfl (HE.kill rfl HE.nil)))))))))))))))))), (y8y 1 rfl (y8y 2 rfl (y8y 3 rfl HE.nil))), rfl⟩
  refine exA 2 rfl rfl (x7x rfl ?_ ?_)<;>intro u<;>try simp at u
  ·refine d3s 3 (b4d r6r 0 3 rfl rfl ?_)
   refine x1x 3 rfl rfl (b5k c3d (by rfl) [0] [_] (a8k bs hbs (j.1.p + 1) (by omega)) rfl rfl rfl rfl (by decide) rfl rfl ihv (fun _ => (by (simp only [pI, a3p, a3s, b9s, gl, nx, a7r, Nat.beq]; rfl))) (fun _ => (by (simp only [pI, a3p, a3s, b9s, gl, nx, a7r, Nat.beq]; rfl))) (⟨0, 0, 0, 0, 0, 0, 0⟩, j.1.p + 1) (by show j.1.p + 1 ≤ _; omega) fun e he => ?_)
   refine b4e r6r 4 4 rfl rfl ?_
   refine u3u (id := 7) u8u rfl z6z rfl rfl rfl rfl rfl rfl ?_
   refine u6u (zs := (j.2.kept ++ [e.1]).map v5v) rfl rfl u8u rfl z6z rfl rfl rfl rfl (by rfl) (w2w v5v j.2.kept e.1) (by (simp only [a1c, a0m, a0u, a0v, a1z, a4b, T56]; omega)) ?_
   refine y1y rfl y5y rfl rfl u8u rfl rfl (z0z rfl rfl u8u rfl rfl rfl rfl rfl (by simp only [a1h]; rfl) ?_)
   refine c1w (by kernel_rfl) ?_
   exact ⟨({ j.2 with kept := j.2.kept ++ [e.1] }, e.2, j.2.lanes.map a5i), (by exact ⟨hI.2, by show e.2 ≤ p0 + 15200; omega, (a6n _)⟩), [0, 0, 0, 0, 0, _, _, _, _, _, _, _, _, _, _, _, _, _, _, _, _], cv, cv, hv, hv, rfl⟩
  refine exA 2 rfl rfl (x7x rfl ?_ ?_)<;>intro u<;>try simp at u
  ·refine d3s 3 (b4d r6r 0 3 rfl rfl ?_)
   refine x1x 3 rfl rfl (b5k c3d (by rfl) [0] [_] (c7h bs hbs (j.1.p + 1) (by omega)) rfl rfl rfl rfl (by decide) rfl rfl ihv (fun _ => (by (simp only [pI, a3p, a3s, b9s, gl, nx, a7r, Nat.beq]; rfl))) (fun _ => (by (simp only [pI, a3p, a3s, b9s, gl, nx, a7r, Nat.beq]; rfl))) (⟨0, 0, 0, 0, 0⟩, j.1.p + 1) (by show j.1.p + 1 ≤ _; omega) fun o ho => ?_)
   refine b4e r6r 4 4 rfl rfl ?_
   refine u3u (id := 9) r3r rfl w7w rfl rfl rfl rfl rfl rfl ?_
   refine u6u (zs := (j.2.outs ++ [o.1]).map a0w) rfl rfl r3r rfl w7w rfl rfl rfl rfl (by rfl) (w2w a0w j.2.outs o.1) (by (simp only [a1c, a0m, a0u, a0v, a1z, a4b, T141]; omega)) ?_
   refine y1y rfl y5y rfl rfl r3r rfl rfl (z0z rfl rfl r3r rfl rfl rfl rfl rfl (by simp only [a1h]; rfl) ?_)
   refine c1w (by kernel_rfl) ?_
   exact ⟨({ j.2 with outs := j.2.outs ++ [o.1] }, o.2, j.2.lanes.map a5i), (by exact ⟨hI.2, by show o.2 ≤ p0 + 15200; omega, (a6n _)⟩), [0, 0, 0, 0, 0, _, _, _, _, _, _, _, _, _, _, _, _, _, _, _, _], cv, cv, hv, hv, rfl⟩
  refine exA 2 rfl rfl (x7x rfl ?_ ?_)<;>intro u<;>try simp at u
  ·refine exG (x9x rfl rfl rfl (w0w ..) (x9x rfl rfl rfl (w0w ..) (a0y (.int .i64 10000) rfl rfl rfl rfl ?_)))
   refine a0d (id := 11) q2q rfl q1q rfl rfl rfl rfl (.val rfl rfl (.val rfl rfl (.val rfl rfl .nil))) rfl (a0q rfl) (a0q rfl) (a0q rfl) rfl rfl ?_
   refine x4x rfl ?_
   refine rlM [0] [_] (y2y true bs (j.1.p + 1) (3) (by have := hq; omega) hbs) rfl rfl rfl ?_
   obtain ⟨z, ez, hz⟩ : ∃ z, pk bs (j.1.p + 1) 3 = z ∧ z < 3 := ⟨_, rfl, a3u _ _ _ (by omega)⟩
   rw [ez]
   obtain ⟨v, hv⟩ : ∃ x, ([-1, 9999, 10000] : List Int)[z]? = some x := ⟨_, List.getElem?_eq_getElem hz⟩
   refine v0v (f := fun x : Int => [pI x]) (l := [-1, 9999, 10000]) (j := z) rfl rfl q2q rfl q1q rfl rfl hz ?_
   refine a0x (f := fun x : Int => [pI x]) (l := [-1, 9999, 10000]) rfl q1q rfl hv rfl ?_
   refine y1y rfl y5y rfl rfl q1q rfl rfl ?_
   refine z0z rfl rfl q1q rfl rfl rfl rfl rfl (by simp only [a1h]; rfl) ?_
   exact ⟨({ j.2 with version := v }, j.1.p + 1 + 1, j.2.lanes.map a5i), (by exact ⟨hI.2, by show j.1.p + 1 + 1 ≤ p0 + 15200; omega, (a6n _)⟩), [0, 0, 0, 0, 0, _, _, _, _, _, _, _, _, _, _, _, _, _, _, _, _], Cov.nil, (y3y 2 rfl (y3y 3 rfl (y3y 4 rfl (y3y 5 rfl Cov.nil)))), (HE.row rfl rfl (HE.row rfl rfl (HE.row rfl rfl (HE.row rfl rfl (HE.row rfl rfl (HE.kill rfl (HE.box rfl rfl (HE.box rfl rfl (HE.kill rfl (HE.kill rfl (HE.kill rfl (HE.kill rfl (HE.kill rfl (HE.kill rfl (HE.kill rfl (HE.kill rfl (HE.kill rfl (HE.kill rfl HE.nil)))))))))))))))))), (y8y 1 rfl (y8y 2 rfl (y8y 3 rfl HE.nil))), rfl⟩
  refine exA 2 rfl rfl (x7x rfl ?_ ?_)<;>intro u<;>try simp at u
  ·refine d3s 5 (b4d r6r 0 5 rfl rfl ?_)
   refine x1x 3 rfl rfl ?_
   refine rlM [0] [_] (y2y true bs (j.1.p + 1) (3) (by have := hq; omega) hbs) rfl rfl rfl ?_
   refine x4x rfl (b5k c3d (by rfl) [0] [_] (b9n bs hbs (j.1.p + 1 + 1) 3 (by omega) (by omega)) rfl rfl rfl rfl (by decide) rfl rfl ihv (fun _ => (by (simp only [pI, a3p, a3s, b9s, gl, nx, a7r, Nat.beq]; rfl))) (fun _ => (by (simp only [pI, a3p, a3s, b9s, gl, nx, a7r, Nat.beq]; rfl))) ([], j.1.p + 1 + 1) ⟨Nat.zero_le _, by show j.1.p + 1 + 1 ≤ _; omega⟩ fun l hl => ?_)
   refine b4e r6r 6 3 rfl rfl ?_
   have h3v : j.2.views.length = 3 := fS.2.2.2.2.2.1
   obtain ⟨z, ez, hz⟩ : ∃ z, pk bs (j.1.p + 1) 3 = z ∧ z < 3 := ⟨_, rfl, a3u _ _ _ (by omega)⟩
   rw [ez]
   obtain ⟨v, hv⟩ := gE j.2.views z
   refine v0v (j := z) rfl rfl a0o rfl q8q rfl rfl (v1v hv) ?_
   refine y1y rfl q8q rfl rfl u8u rfl rfl ?_
   refine b3j { v with events := l.1 } rfl rfl u8u rfl rfl rfl hv rfl (by decide) (.val rfl rfl .nil) rfl rfl ?_
   refine c1w (by kernel_rfl) ?_
   exact ⟨({ j.2 with views := j.2.views.set z { v with events := l.1 } }, l.2, j.2.lanes.map a5i), (by exact ⟨hI.2, by show l.2 ≤ p0 + 15200; omega, (a6n _)⟩), [0, 0, 0, 0, 0, _, _, _, _, _, _, _, _, _, _, _, _, _, _, _, _], Cov.nil, (y3y 2 rfl (y3y 3 rfl (y3y 4 rfl (y3y 5 rfl Cov.nil)))), (HE.row rfl rfl (HE.row rfl rfl (HE.row rfl rfl (HE.row rfl rfl (HE.row rfl rfl (HE.kill rfl (HE.box rfl rfl (HE.box rfl rfl (HE.kill rfl (HE.kill rfl (HE.kill rfl (HE.kill rfl (HE.kill rfl (HE.kill rfl (HE.kill rfl (HE.kill rfl (HE.kill rfl (HE.kill rfl HE.nil)))))))))))))))))), (y8y 1 rfl (y8y 2 rfl (y8y 3 rfl HE.nil))), rfl⟩
  refine exA 2 rfl rfl (x7x rfl ?_ ?_)<;>intro u<;>try simp at u
  ·obtain ⟨l0, rest, hl⟩ : ∃ l0 rest, j.2.lanes = l0 :: rest := by have h := e1n fS; match hm : j.2.lanes with | [] => (rw [hm] at h; cases h) | a :: r => exact ⟨a, r, rfl⟩
   have hld := (fb.2.2.2.1 l0 (by rw [hl]; exact List.mem_cons_self ..)).1
   rw [hl]
   refine d7t (A := []) (B := rest.map a5i) (cs := a5i l0) (j := 0) 15 4 20 rfl rfl rfl rfl rfl rfl ?_
   refine d3s 8 (b4d r6r 0 8 rfl rfl ?_)
   refine x1x 4 rfl rfl ?_
   refine c0r (A := []) (j := 0) rfl rfl r5r rfl v7v rfl rfl rfl ?_
   refine y1y rfl v7v rfl rfl r9r rfl rfl ?_
   refine e2r (A := []) rfl rfl r9r rfl rfl ?_
   refine x4x rfl (b5k c3d (by rfl) [0] [_] (a8k bs hbs (j.1.p + 1) (by omega)) rfl rfl rfl rfl (by decide) rfl rfl ihv (fun _ => (by (simp only [pI, a3p, a3s, b9s, gl, nx, a7r, Nat.beq]; rfl))) (fun _ => (by (simp only [pI, a3p, a3s, b9s, gl, nx, a7r, Nat.beq]; rfl))) (⟨0, 0, 0, 0, 0, 0, 0⟩, j.1.p + 1) (by show j.1.p + 1 ≤ _; omega) fun e he => ?_)
   refine b4e r6r 9 6 rfl rfl ?_
   refine rlB a0g c5i ?_
   refine u3u (id := 12) r9r rfl a0g rfl rfl rfl rfl rfl rfl ?_
   refine u6u (zs := l0.done.map (a3n true) ++ [d5u e.1]) rfl rfl r9r rfl a0g rfl rfl rfl rfl rfl rfl (by (simp only [a1c, a0m, a0u, a0v, a1z, a4b, T58]; omega)) ?_
   refine c0r (A := []) (j := 0) rfl rfl r5r rfl v7v rfl rfl rfl ?_
   refine y1y rfl v7v rfl rfl r9r rfl rfl (a6s rfl rfl r9r rfl rfl rfl (Nat.succ_pos _) (a0q rfl) (.ref rfl (e4x _ _) .nil rfl rfl) rfl ?_)
   refine c1w (by kernel_rfl) ?_
   exact ⟨({ j.2 with lanes := ⟨l0.proc, l0.base, l0.done ++ [d5v e.1]⟩ :: rest }, e.2, e1m l0 e.1 :: rest.map a5i), (by exact ⟨e1o hI.2 hl e.1, by show e.2 ≤ p0 + 15200; omega, e4w _ _ _⟩), [0, 0, 0, 0, 0, _, _, _, _, _, _, _, _, _, _, _, _, _, _, _, _], cv, cv, hv, hv, rfl⟩
  refine exA 2 rfl rfl (x7x rfl ?_ ?_)<;>intro u<;>try simp at u
  ·refine exG (x9x rfl rfl rfl (w0w ..) (x9x rfl rfl rfl (w0w ..) (a0y (.int .i64 10000) rfl rfl rfl rfl ?_)))
   refine a0d (id := 14) q2q rfl q1q rfl rfl rfl rfl (.val rfl rfl (.val rfl rfl (.val rfl rfl .nil))) rfl (a0q rfl) (a0q rfl) (a0q rfl) rfl rfl ?_
   refine x4x rfl ?_
   refine rlM [0] [_] (y2y true bs (j.1.p + 1) (3) (by have := hq; omega) hbs) rfl rfl rfl ?_
   obtain ⟨z, ez, hz⟩ : ∃ z, pk bs (j.1.p + 1) 3 = z ∧ z < 3 := ⟨_, rfl, a3u _ _ _ (by omega)⟩
   rw [ez]
   obtain ⟨v, hv⟩ : ∃ x, ([-1, 9999, 10000] : List Int)[z]? = some x := ⟨_, List.getElem?_eq_getElem hz⟩
   refine v0v (f := fun x : Int => [pI x]) (l := [-1, 9999, 10000]) (j := z) rfl rfl q2q rfl q1q rfl rfl hz ?_
   refine a0x (f := fun x : Int => [pI x]) (l := [-1, 9999, 10000]) rfl q1q rfl hv rfl ?_
   refine y1y rfl y5y rfl rfl q1q rfl rfl ?_
   refine z0z rfl rfl q1q rfl rfl rfl rfl rfl (by simp only [a1h]; rfl) ?_
   exact ⟨({ j.2 with round := v }, j.1.p + 1 + 1, j.2.lanes.map a5i), (by exact ⟨hI.2, by show j.1.p + 1 + 1 ≤ p0 + 15200; omega, (a6n _)⟩), [0, 0, 0, 0, 0, _, _, _, _, _, _, _, _, _, _, _, _, _, _, _, _], Cov.nil, (y3y 2 rfl (y3y 3 rfl (y3y 4 rfl (y3y 5 rfl Cov.nil)))), (HE.row rfl rfl (HE.row rfl rfl (HE.row rfl rfl (HE.row rfl rfl (HE.row rfl rfl (HE.kill rfl (HE.box rfl rfl (HE.box rfl rfl (HE.kill rfl (HE.kill rfl (HE.kill rfl (HE.kill rfl (HE.kill rfl (HE.kill rfl (HE.kill rfl (HE.kill rfl (HE.kill rfl (HE.kill rfl HE.nil)))))))))))))))))), (y8y 1 rfl (y8y 2 rfl (y8y 3 rfl HE.nil))), rfl⟩
  refine exA 2 rfl rfl (y4y rfl ?_ ?_)<;>intro u<;>try simp at u
  ·refine x8x ?_
   exact ⟨(j.2, j.1.p + 1, j.2.lanes.map a5i), (by exact ⟨hI.2, by show j.1.p + 1 ≤ p0 + 15200; omega, (a6n _)⟩), [0, 0, 0, 0, 0, _, _, _, _, _, _, _, _, _, _, _, _, _, _, _, _], cv, cv, hv, hv, rfl⟩
  refine exG (x1x 4 rfl rfl (z0z rfl rfl d6u rfl rfl rfl rfl rfl (by simp only [a1h]; rfl) ?_))
  exact ⟨({ j.2 with up := !j.2.up }, j.1.p + 1, j.2.lanes.map a5i), (by exact ⟨hI.2, by show j.1.p + 1 ≤ p0 + 15200; omega, (a6n _)⟩), [0, 0, 0, 0, 0, _, _, _, _, _, _, _, _, _, _, _, _, _, _, _, _], cv, cv, hv, hv, rfl⟩
 ·try dsimp only [b2o, b2p]
  refine p8p (b := b8y true s.1.lanes) 4 4 rfl rfl rfl (.ref rfl hi.2.2 .nil) rfl rfl rfl rfl ?_
  refine p8p (b := c2w true s.1.views) 4 9 rfl rfl rfl (.ref rfl (Le.ow_map _ (fun _ => rfl) (fun _ => rfl)) .nil) rfl rfl rfl rfl ?_
  refine p8p (b := a6f true s.1.known) 4 10 rfl rfl rfl (.ref rfl (Le.ow_map _ (fun _ => rfl) (fun _ => rfl)) .nil) rfl rfl rfl rfl ?_
  refine p8p (b := a2e true s.1.kept) 4 5 rfl rfl rfl (.ref rfl (Le.ow_map _ (fun _ => rfl) (fun _ => rfl)) .nil) rfl rfl rfl rfl ?_
  refine p8p (b := a0t true s.1.outs) 4 6 rfl rfl rfl (.ref rfl (Le.ow_map _ (fun _ => rfl) (fun _ => rfl)) .nil) rfl rfl rfl rfl ?_
  refine exD (x1x 2 rfl rfl (x3x rfl rfl q4q rfl rfl rfl rfl (x3x rfl rfl y5y rfl rfl rfl rfl ⟨by kernel_rfl, x6x ?_⟩)))
  exact ⟨.inr rfl, (j.1.w, s.1, s.2.1), ⟨hj1.1, hi.1, hi.2.1⟩, [γ 0], rfl, rfl, hv⟩
end
section
open Classical in
noncomputable def b3w (n : Nd) (p : Int) : List Ev := if z7z n ∧ s1s p = n.id then a1x n p else []
variable {n : Nd} {p : Int}
theorem c2s (h : z7z n ∧ s1s p = n.id) : b3w n p = a1x n p := if_pos h
theorem b8q (h : ¬ (z7z n ∧ s1s p = n.id)) : b3w n p = [] := if_neg h
theorem e4y {e : Ev} (h : e ∈ b3w n p) : e.to = p ∧ n.g ≤ e.time := by
 by_cases k : z7z n ∧ s1s p = n.id
 ·rw [c2s k] at h; exact (c6g.1 h).2
 ·rw [b8q k] at h; cases h
theorem e4z (n : Nd) (p : Int) : SS a2z (b3w n p) := by
 by_cases k : z7z n ∧ s1s p = n.id
 ·rw [c2s k]; exact b2h _
 ·rw [b8q k]; exact List.Pairwise.nil
variable {i : Nat}
theorem e5a {a b : Ev} (hi : 0 < i) (ha : (b3w n p)[i - 1]? = some a) (hb : (b3w n p)[i]? = some b) : a2z a b = true := by
 obtain ⟨h1, rfl⟩ := List.getElem?_eq_some_iff.1 ha
 obtain ⟨h2, rfl⟩ := List.getElem?_eq_some_iff.1 hb
 exact (List.pairwise_iff_getElem.1 (e4z n p)) (i - 1) i h1 h2 (by omega)
theorem e1p : ∀ (d : List Pa) (s : List Ev) (k : Nat) (q : Pa), k < same d s → d[k]? = some q → s[k]? = some q.ev
 | [], s, k, q, h, hq => by simp at hq
 | p :: d, [], k, q, h, hq => by simp [same] at h
 | p :: d, e :: s, k, q, h, hq => by
  simp only [same] at h
  split at h
  ·rename_i he
   cases k with
   | zero => simp only [List.getElem?_cons_zero, Option.some.injEq] at hq ⊢; subst hq; exact he.symm
   | succ k =>
    simp only [List.getElem?_cons_succ] at hq ⊢
    exact e1p d s k q (by omega) hq
  ·omega
theorem d5w (h : z7z n) {l : La} (hl : n.lanes[i]? = some l) {k : Nat} {q : Pa} (hq : l.done[k]? = some q) : (b3w n l.proc)[k]? = some q.ev := by
 have hc := b6t h hl
 rw [c2s ⟨h, (b2e (List.mem_of_getElem? hc.1)).1⟩]
 exact e1p _ _ _ _ (by have := (List.getElem?_eq_some_iff.1 hq).1; have := hc.2.2.2; omega) hq
end
section
theorem c2t (c : Bool) (n : Nd) (p : Int) : a1r Tryz.prog 35 [.agg (w5w c n), .pv (.int .i64 p)] (a2e true (b3w n p)) := by
 refine pX Tryz.f35 [a2e true (b3w n p)] 2 ?_
 refine exR (u2u (id := 0) rfl rfl rfl (x0x rfl (x2x fun K1 hK1 => ?_)))
 refine exD (x5x rfl y5y rfl rfl rfl (x9x rfl rfl rfl (q9q c n) (x1x 2 rfl rfl (z9z rfl rfl ?_ ?_))))<;>intro hg2<;>try simp at hg2
 ·have fX : ¬ (z7z n ∧ s1s p = n.id) := fun h => a0k (by simpa using hg2) h.1
  refine x1x 5 rfl rfl ⟨by kernel_rfl, x7x rfl (fun hc4 => ?_) (fun hc4 => ?_)⟩
  rotate_left
  ·simp at hc4
  try simp at hc4
  refine exR (z8z (id := 1) u8u rfl z6z rfl (x0x rfl (x6x ⟨.inr rfl, ?_⟩)))
  (rw [b8q fX]; exact a3y (l := ([] : List Ev)) rfl rfl (fun _ => rfl) rfl)
 have fK : z7z n := a1o.1 (by simpa using hg2)
 refine x4x rfl (z1z rfl rfl (x9x rfl rfl rfl (a1k p) (x1x 4 rfl rfl ⟨by kernel_rfl, x7x rfl ?_ ?_⟩)))<;>intro hc3<;>try simp at hc3
 ·have fX : ¬ (z7z n ∧ s1s p = n.id) := fun h => absurd h.2 (by simpa using hc3)
  refine exR (z8z (id := 1) u8u rfl z6z rfl (x0x rfl (x6x ⟨.inr rfl, ?_⟩)))
  (rw [b8q fX]; exact a3y (l := ([] : List Ev)) rfl rfl (fun _ => rfl) rfl)
 have fF : z7z n ∧ s1s p = n.id := ⟨fK, by exact hc3⟩
 have fS := fK.1
 have fB := q5q fS
 have fV := fS.2.2.2.2.2.1
 refine x8x (hK1 _ _ (exA 2 rfl rfl (x9x rfl rfl rfl (a3k c n p (a7v fS) (by omega) fS.2.2.2.2.2.1) ?_)))
 refine x0x rfl (x6x ⟨.inr rfl, ?_⟩)
 (rw [c2s fF]; exact ⟨_, _, rfl, .cl rfl .nil⟩)
theorem b8r (c : Bool) (n : Nd) (p : Int) : Meth Tryz.prog 36 1 [] [.agg (w5w c n), .pv (.int .i64 p)] [(0, (0, .dead))] (.ref 0 0) [(0, (0, .row 56 7 ((b3w n p).map v5v)))] := by
 refine mX Tryz.f36 [.ref 0 0] 1 6 fun γ => ?_
 refine exR (u2u (id := 1) rfl rfl rfl (x0x rfl (x2x fun K1 hK1 => ?_)))
 refine exD (x5x rfl y5y rfl rfl rfl (x9x rfl rfl rfl (b7c c n) (x1x 2 rfl rfl (z9z rfl rfl ?_ ?_))))<;>intro hg2<;>try simp at hg2
 ·have fX : ¬ (z7z n ∧ s1s p = n.id) := fun h => a0k (by simpa using hg2) h.1
  refine x1x 5 rfl rfl ⟨by kernel_rfl, x7x rfl (fun hc4 => ?_) (fun hc4 => ?_)⟩
  rotate_left
  ·simp at hc4
  try simp at hc4
  refine exR (x0x rfl (b1y 4 0 56 7 rfl rfl (x6x ?_)))
  exact ⟨.inr rfl, [_], rfl, rfl, HE.row rfl (by rw [b8q fX]; rfl) HE.nil⟩
 have fK : z7z n := a1o.1 (by simpa using hg2)
 refine x4x rfl (z1z rfl rfl (x9x rfl rfl rfl (b6x p) (x1x 4 rfl rfl ⟨by kernel_rfl, x7x rfl ?_ ?_⟩)))<;>intro hc3<;>try simp at hc3
 ·have fX : ¬ (z7z n ∧ s1s p = n.id) := fun h => absurd h.2 (by simpa using hc3)
  refine exR (x0x rfl (b1y 4 0 56 7 rfl rfl (x6x ?_)))
  exact ⟨.inr rfl, [_], rfl, rfl, HE.row rfl (by rw [b8q fX]; rfl) HE.nil⟩
 have fF : z7z n ∧ s1s p = n.id := ⟨fK, by exact hc3⟩
 have fS := fK.1
 have fB := q5q fS
 have fV := fS.2.2.2.2.2.1
 refine x8x (hK1 _ _ (exR (x5x rfl y5y rfl rfl rfl ?_)))
 refine rlM [2, 3, 4, 5, 6] [_, _, _, _, _] (b6z c n (by omega) (by omega) fS.2.2.2.2.2.2.1) rfl rfl rfl ?_
 refine x4x rfl ?_
 refine rlM [2, 3, 4, 5, 6, 0] [_, _, _, _, _, _] (b1j c n p (a7v fS) (by omega) fS.2.2.2.2.2.1) rfl rfl rfl ?_
 refine x0x rfl ?_
 skip
 refine x6x ?_
 exact ⟨.inr rfl, [_], rfl, rfl, HE.row rfl (by rw [c2s fF]) HE.nil⟩
theorem b5r (bs : List Nat) (hbs : ∀ b ∈ bs, b < 256)  : MethE Tryz.prog 34 0 [p7p true bs] [] (ι := Nd × Int) (fun S' => c2x S'.1) (fun S' => []) (fun S' => .tup [.agg (w5w true S'.1), .pv (.int .i64 S'.2)]) (fun S' => []) := by
 refine mE (ι := Nd × Int) Tryz.f34 (fun S' => [.agg (w5w true S'.1), .pv (.int .i64 S'.2)]) 0 4 fun γ => ?_
 refine exR (y6y (id := 0) y5y s9s rfl (x0x rfl (exR (x4x rfl ?_))))
 refine rlM [3] [_] (c7g true bs) rfl rfl rfl ?_
 refine x0x rfl (a0p fun B X0 w0 => ?_)
 refine txR 1 rfl rfl (x4x rfl ?_)
 refine txM [3] [_] (b8p (bs.take 2000) (fun b hb => hbs b (List.mem_of_mem_take hb)) (0) (by omega)) rfl rfl rfl rfl fun j hj => ?_
 refine txR 7 rfl rfl (x1x 3 rfl rfl (y6y (id := 1) q4q b7p rfl (y6y (id := 2) y5y s9s rfl (x3x rfl rfl q4q rfl rfl rfl rfl (x3x rfl rfl y5y rfl rfl rfl rfl (v9v rfl (x2x fun K1 hK1 => ?_)))))))
 refine exR (x4x rfl ?_)
 refine rlM [3] [_] (y2y true (bs.take 2000) (j.2.2) (5) (by have := hj.2.2; omega) (fun b hb => hbs b (List.mem_of_mem_take hb))) rfl rfl rfl ?_
 refine x1x 2 rfl rfl (z9z rfl rfl ?_ ?_)<;>intro o<;>try simp at o
 ·refine x1x 4 rfl rfl (x7x rfl (fun hc4 => ?_) (fun hc4 => ?_))
  ·simp at hc4
  try simp at hc4
  refine x8x (hK1 _ _ (exD (x1x 2 rfl rfl ?_)))
  refine rlM [3] [_] (y2y true (bs.take 2000) (j.2.2 + 1) (6) (by have := hj.2.2; omega) (fun b hb => hbs b (List.mem_of_mem_take hb))) rfl rfl rfl ?_
  have h6 := a3u (bs.take 2000) (j.2.2 + 1) 6 (by omega)
  refine a0y (.int .i64 ((pk (bs.take 2000) (j.2.2 + 1) 6 : Int) - 1)) rfl rfl rfl (a9c rfl (by omega) (by omega) (by omega)) ?_
  refine x3x rfl rfl y5y rfl rfl rfl rfl (x0x rfl ⟨by kernel_rfl, x6x ?_⟩)
  exact ⟨.inr rfl, (j.2.1, (pk (bs.take 2000) (j.2.2 + 1) 6 : Int) - 1), hj.2.1, [], rfl, rfl, hv⟩
 refine x1x 2 rfl rfl (z1z rfl rfl (z3z rfl r5r rfl (x1x 2 rfl rfl (y4y rfl ?_ ?_))))<;>intro o<;>try simp at o
 ·refine x8x (hK1 _ _ (exD (x1x 2 rfl rfl ?_)))
  refine rlM [3] [_] (y2y true (bs.take 2000) (j.2.2 + 1) (6) (by have := hj.2.2; omega) (fun b hb => hbs b (List.mem_of_mem_take hb))) rfl rfl rfl ?_
  have h6 := a3u (bs.take 2000) (j.2.2 + 1) 6 (by omega)
  refine a0y (.int .i64 ((pk (bs.take 2000) (j.2.2 + 1) 6 : Int) - 1)) rfl rfl rfl (a9c rfl (by omega) (by omega) (by omega)) ?_
  refine x3x rfl rfl y5y rfl rfl rfl rfl (x0x rfl ⟨by kernel_rfl, x6x ?_⟩)
  exact ⟨.inr rfl, (j.2.1, (pk (bs.take 2000) (j.2.2 + 1) 6 : Int) - 1), hj.2.1, [], rfl, rfl, hv⟩
 refine exD (x1x 6 rfl rfl (z3z rfl r5r rfl ?_))
 refine rlM [3] [_] (y2y true (bs.take 2000) (j.2.2 + 1) (j.2.1.lanes.length) (by have := hj.2.2; omega) (fun b hb => hbs b (List.mem_of_mem_take hb))) rfl rfl rfl ?_
 obtain ⟨z, ez, hz⟩ : ∃ z, pk (bs.take 2000) (j.2.2 + 1) j.2.1.lanes.length = z ∧ z < j.2.1.lanes.length := ⟨_, rfl, a3u _ _ _ (by omega)⟩
 rw [ez]
 obtain ⟨l, hl⟩ : ∃ l, j.2.1.lanes[z]? = some l := ⟨_, List.getElem?_eq_getElem hz⟩
 refine y7y rfl rfl r5r rfl v7v rfl hl (x1x 2 rfl rfl (x3x rfl rfl y5y rfl rfl rfl rfl (x0x rfl ⟨by kernel_rfl, x6x ?_⟩)))
 exact ⟨.inr rfl, (j.2.1, l.proc), hj.2.1, [], rfl, rfl, hv⟩
end
end Go.Proofs.YtlgknoapdbpojaaGreat.Am
