/- Part 4 of the texts that the proof of LawFnNodeMin leans on, merged by program. -/
import Derived.Test.YtlgknoapdbpojaaGreatKn3
set_option linter.unusedVariables false
set_option linter.unusedSimpArgs false
set_option maxHeartbeats 4000000
set_option autoImplicit true
set_option relaxedAutoImplicit true
namespace Go.Proofs.YtlgknoapdbpojaaGreat.Am
open Go Go.RowKit
section
theorem b7k (c : Bool) (n : Nd) : a1p Tryz.prog 38 [.agg (w5w c n)] (.pv (.bool (kb (u1u n)))) := by
 refine pX Tryz.f38 [.pv (.bool (kb (u1u n)))] 8 ?_
 have hpl := a5w n.id 4
 refine exR (u0u (id := 0) rfl rfl rfl (x1x rfl (x2x fun K1 hK1 => ?_)))
 refine exR (x5x rfl y5y rfl rfl rfl (x9x rfl rfl rfl (c3x ..) (a1w rfl (x8x rfl ?_ ?_))))<;>intro hc2<;>try simp at hc2
 ·try have hX : ¬ a2n n := a0v (by simpa using hc2)
  refine exR (x1x rfl (x6x ⟨.inr rfl, ?_⟩))
  refine y9y rfl ?_ rfl
  exact congrArg (fun b : Bool => [AV.pv (.bool b)]) (a5o (fun h => hX h.1))
 have fS : a2n n := a1x.1 (by simpa using hc2)
 have fB := q3q fS
 have fL := fS.2.2.2.2.1
 have fV := fS.2.2.2.2.2.1
 refine x7x (hK1 _ _ (exR (x5x rfl y5y rfl rfl rfl ?_)))
 refine rlM [1, 2, 3, 4, 5] [_, _, _, _, _] (b1f c n (by omega) (by omega) fS.2.2.2.2.2.2.1) rfl rfl rfl ?_
 refine x1x rfl (x2x fun K3 hK3 => ?_)
 refine exA 2 rfl rfl (x9x rfl rfl rfl (a6r ..) (z3z rfl q1q rfl (x4x rfl (y0y ?_))))
 refine z2z (ι := Nat) (fun j γ1 => [(16, pI (j : Int))]) (fun j γ1 => [(6, ((γ1 6), .dead)), (7, ((γ1 7), .dead))]) (fun j => j ≤ (s3s n.id 4).length ∧ c7t n.lanes (fun j l => ∀ p, (s3s n.id 4)[j]? = some p → l.done.length ≤ same l.done (r7r n p) ∧ (r7r n p).length ≤ 100) j) (fun j => (s3s n.id 4).length - j) (cK [3, 14, 15] rfl) (hK [0, 1, 2, 3, 4, 5] rfl) 0 ⟨by omega, a2j⟩ [0, 0, 0, 0, 0, 0, _, _] cv hv rfl fun j γ1 hi => ?_
 obtain ⟨d1, d2⟩ := hi
 refine exR (v6v rfl rfl rfl (x2x fun K4 hK4 => ?_))
 refine y4y rfl ?_ ?_<;>intro o<;>try simp at o
 ·have fC := fun (i : Nat) p l (a : (s3s n.id 4)[i]? = some p) (b : n.lanes[i]? = some l) => a3t d2 (by omega) i l b p a
  refine z5z (hK3 _ _ (exR (x1x rfl (x6x ⟨.inr rfl, ?_⟩))))
  refine y9y rfl ?_ rfl
  exact congrArg (fun b : Bool => [AV.pv (.bool b)]) (d9a ⟨fS, fC⟩)
 obtain ⟨l, hl⟩ := gE n.lanes j
 obtain ⟨p, hp⟩ := gE (s3s n.id 4) j
 obtain ⟨hdl, _⟩ := a3m (fS.2.2.2.2.2.2.2.1 j l hl).2
 refine x7x (hK4 _ _ (x2x fun K6 hK6 => ?_))
 refine y0y (exR (x4x rfl (y8y rfl rfl q1q rfl q2q rfl hp (x0x 3 rfl rfl (exA 2 rfl rfl ?_)))))
 refine rlM [1, 2, 3, 4, 5, 6] [_, _, _, _, _, _] (b1u c n p (a8d fS) (by omega) fS.2.2.2.2.2.1) rfl rfl rfl ?_
 refine x1x rfl (a0k 6 rfl rfl (fun _ => rfl) ?_)
 refine exD (x4x rfl (z3z rfl u8u rfl (x0x 2 rfl rfl (z8z rfl rfl ?_ ?_))))<;>intro o<;>try simp at o
 ·refine x0x 19 rfl rfl ⟨by kernel_rfl, x8x rfl (fun hc9 => ?_) (fun hc9 => ?_)⟩
  rotate_left
  ·simp at hc9
  try simp at hc9
  refine exR (x1x rfl (x6x ⟨.inr rfl, ?_⟩))
  refine y9y rfl ?_ rfl
  exact congrArg (fun b : Bool => [AV.pv (.bool b)]) (a5o (fun h => by have := h.2 _ _ _ hp hl; omega))
 refine x0x 5 rfl rfl (z1z rfl rfl ?_)
 refine v0v (j := j) rfl rfl b9e rfl r8r rfl rfl (v2v hl) ?_
 refine z1z rfl rfl (a0y rfl r8r rfl hl rfl (z1z rfl rfl ?_))
 refine rlM [7] [_] (b4o c l.done) rfl rfl rfl ?_
 refine z1z rfl rfl (x4x rfl (z1z rfl rfl ?_))
 refine rlM [7] [_] (a7d c true l.done (r7r n p)) rfl rfl rfl ?_
 refine x0x 5 rfl rfl (z1z rfl rfl ?_)
 refine v0v (j := j) rfl rfl b9e rfl r8r rfl rfl (v2v hl) ?_
 refine z1z rfl rfl (a0y rfl r8r rfl hl rfl (z1z rfl rfl (z3z rfl r8r rfl (x0x 2 rfl rfl ⟨by kernel_rfl, y4y rfl ?_ ?_⟩))))<;>intro o<;>try simp at o
 ·refine x7x (hK6 _ _ (exG (z4z (b := 1) rfl rfl (by omega) (x4x rfl ?_))))
  exact ⟨j + 1, ⟨⟨by omega, a0l d2 hl (fun p2 hp2 => by rw [hp] at hp2; cases hp2; omega)⟩, by omega⟩, [0, 0, 0, 0, 0, 0, _, _], cv, cv, hv, hv, rfl⟩
 refine exR (x1x rfl (x6x ⟨.inr rfl, ?_⟩))
 refine y9y rfl ?_ rfl
 exact congrArg (fun b : Bool => [AV.pv (.bool b)]) (a5o (fun h => by have := h.2 _ _ _ hp hl; omega))
end
section
theorem b7l (c : Bool) (n : Nd) (es : List (Value × AV)) (hes : ∀ p ∈ es, p.2.flatA = true) (i : Nat) (l : La) (hl : n.lanes[i]? = some l) (hp : (s3s n.id 4)[i]? = some l.proc) : Meth Tryz.prog 242 5 [0, 1, 2, 3, 4] [.ptr 4 0 0, .pv (.int .i64 (i : Int))] [(0, (0, .row 41 3 ((n.lanes).map fun l => a3i l.base))), (1, (0, .row 42 1 ((n.lanes).map fun l => [b2f c l.done]))), (2, (0, .map es)), (3, (0, .row 3 1 (n.known.map a7n))), (4, (0, .box 164 [pI n.id, pI n.inc, pI n.g, pI n.led, .ref 0 0, a1m c n.kept, a0p c n.outs, .pv (.bool n.up), .ref 1 0, pI n.version, .mp 2 0, .ref 3 0, pI n.round, pI n.low]))] (.agg (a0f c l)) [] := by
 refine a2g r4r (fn := Tryz.f242) (by kernel_rfl) (by kernel_rfl) rfl (O0 := [.agg (a0f c l)]) 5 1 (a0m rfl) (by rfl) (by repeat (first | exact BndH.nil | refine BndH.box rfl ?_ | refine BndH.row (a0t fun _ => rfl) ?_ | refine BndH.map hes ?_ )) (by repeat (exact BndH.nil )) (by rfl) fun γ => ?_
 show Ex Tryz.prog _ _ [(0, .ptr 4 (γ 4) 0), (1, .pv (.int .i64 (i : Int)))] [(0, ((γ 0), .row 41 3 ((n.lanes).map fun l => a3i l.base))), (1, ((γ 1), .row 42 1 ((n.lanes).map fun l => [b2f c l.done]))), (2, ((γ 2), .map es)), (3, ((γ 3), .row 3 1 (n.known.map a7n))), (4, ((γ 4), .box 164 [pI n.id, pI n.inc, pI n.g, pI n.led, .ref 0 (γ 0), a1m c n.kept, a0p c n.outs, .pv (.bool n.up), .ref 1 (γ 1), pI n.version, .mp 2 (γ 2), .ref 3 (γ 3), pI n.round, pI n.low])), (5, (0, .dead))] _
 refine exR (y7y (id := 5) v7v a8t rfl (exD (x0x 5 rfl rfl (x9x rfl rfl rfl (a6r ..) (x4x rfl (y8y rfl rfl q1q rfl q2q rfl hp (x0x 7 rfl rfl ?_)))))))
 refine v0v (j := i) rfl rfl c0s rfl a1v rfl rfl (v2v hl) ?_
 refine p8p rfl a1v rfl hl rfl rfl (x0x 5 rfl rfl ?_)
 refine v0v (j := i) rfl rfl b9e rfl r8r rfl rfl (v2v hl) ?_
 refine a0y rfl r8r rfl hl rfl (rlB v7v a8t ?_)
 refine x3x rfl rfl v7v rfl rfl rfl rfl ⟨by kernel_rfl, x6x ?_⟩
 exact ⟨.inr rfl, [γ 0, γ 1, γ 2, γ 3, γ 4], rfl, rfl, hv⟩
end
section
theorem b7m (c : Bool) (n : Nd) (proc : Int) (hs : (a1l n).length + (a0i n 3).length ≤ 5000000) (hlen : n.lanes.length ≤ 1048576) (hv3 : n.views.length = 3) : Meth Tryz.prog 126 6 [0, 1, 2, 3, 4] [.ptr 4 0 0, .pv (.int .i64 proc)] [(0, (0, .row 41 3 ((n.lanes).map fun l => a3i l.base))), (1, (0, .row 42 1 ((n.lanes).map fun l => [b2f c l.done]))), (2, (0, .map (c0e c n.views))), (3, (0, .row 3 1 (n.known.map a7n))), (4, (0, .box 164 [pI n.id, pI n.inc, pI n.g, pI n.led, .ref 0 0, a1m c n.kept, a0p c n.outs, .pv (.bool n.up), .ref 1 0, pI n.version, .mp 2 0, .ref 3 0, pI n.round, pI n.low])), (5, (0, .dead))] (a1m true (r7r n proc)) [(5, (0, .dead))] := by
 refine a2g r4r (fn := Tryz.f126) (by kernel_rfl) (by kernel_rfl) rfl (O0 := [a1m true (r7r n proc)]) 6 4 (a0m rfl) (by rfl) (by repeat (first | exact BndH.nil | refine BndH.dead ?_ | refine BndH.box rfl ?_ | refine BndH.row (a0t fun _ => rfl) ?_ | refine BndH.map (a7c _ _) ?_ )) (by repeat (first | exact BndH.nil | refine BndH.dead ?_ )) (by rfl) fun γ => ?_
 show Ex Tryz.prog _ _ [(0, .ptr 4 (γ 4) 0), (1, .pv (.int .i64 proc))] [(0, ((γ 0), .row 41 3 ((n.lanes).map fun l => a3i l.base))), (1, ((γ 1), .row 42 1 ((n.lanes).map fun l => [b2f c l.done]))), (2, ((γ 2), .map (c0e c n.views))), (3, ((γ 3), .row 3 1 (n.known.map a7n))), (4, ((γ 4), .box 164 [pI n.id, pI n.inc, pI n.g, pI n.led, .ref 0 (γ 0), a1m c n.kept, a0p c n.outs, .pv (.bool n.up), .ref 1 (γ 1), pI n.version, .mp 2 (γ 2), .ref 3 (γ 3), pI n.round, pI n.low])), (5, ((γ 5), .dead)), (9, (0, .dead)), (8, (0, .dead)), (7, (0, .dead)), (6, (0, .dead))] _
 refine exR (c5v (id := 6) rfl rfl rfl rfl (c5v (id := 7) rfl rfl rfl rfl (x1x rfl (exR (v1v rfl e5n rfl rfl ?_)))))
 refine rlM [0, 1, 2, 3, 4, 9] [_, _, _, _, _, _] (b1t c n (by omega) hlen) rfl rfl rfl ?_
 refine x1x rfl (x2x fun K1 hK1 => ?_)
 refine exR (x4x rfl (y0y ?_))
 refine z2z (ι := Nat) (fun i γ1 => [(5, .ref 9 (γ1 9)), (9, pI (i : Int))]) (fun i γ1 => [(9, ((γ1 9), .row 56 7 ((a1l n ++ a0i n i).map v4v))), (8, ((γ1 8), .dead))]) (fun i => i ≤ 3) (fun i => 3 - i) (cK [2, 3] rfl) (hK [0, 1, 2, 3, 4, 5, 6, 7] rfl) 0 (by omega) [0, 0, 0, 0, 0, 0, 0, 0, _, _] cv (HE.row rfl (by simp [a0i]) (HE.kill rfl HE.nil)) rfl fun i γ1 hi => ?_
 refine exR (v6v rfl rfl rfl (x2x fun K2 hK2 => ?_))
 refine y4y rfl ?_ ?_<;>intro o<;>try simp at o
 ·obtain rfl : i = 3 := by omega
  refine z5z (hK1 _ _ (a0k 5 rfl rfl (fun _ => rfl) ?_))
  refine exR (x4x rfl (c1b rfl rfl ?_))
  refine rlM [0, 1, 2, 3, 4, 7, 6] [_, _, _, _, _, _, _] (a4c c n proc _ (by rw [List.length_append]; omega)) rfl rfl rfl ?_
  refine rlM [5] [_] (b1s true _ (Nat.le_trans (List.length_filter_le _ _) (by rw [List.length_append]; omega))) rfl rfl rfl ?_
  refine x1x rfl (a0k 4 rfl rfl (fun _ => rfl) ?_)
  refine x6x ?_
  exact ⟨.inr rfl, [γ 0, γ 1, γ 2, γ 3, γ 4, _], rfl, rfl, hv⟩
 obtain ⟨v, hv⟩ := gE n.views i
 have hg : n.views.getD i vi0 = v := by rw [List.getD_eq_getElem?_getD, hv]; rfl
 have hol := c1n n (i := i + 1) (by omega)
 rw [a1c] at hol
 refine x7x (hK2 _ _ (x2x fun K4 hK4 => ?_))
 refine y0y (exA 2 rfl rfl (exA 7 rfl rfl (y4y rfl ?_ ?_)))<;>intro hc5<;>try simp at hc5
 ·have hve : a9j n i = [] := by rw [a9j, if_pos hc5]
  refine x7x (hK4 _ _ (exG (p4p rfl rfl rfl (x4x rfl ?_))))
  exact ⟨i + 1, ⟨by omega, by omega⟩, [0, 0, 0, 0, 0, 0, 0, 0, _, _], (y2y 5 rfl (Cov.cons' (t := 9) rfl (by rw [u3u (by omega) (by omega)]; rfl) Cov.nil)), (y2y 2 rfl (y2y 3 rfl Cov.nil)), (HE.row rfl (by rw [a1c, hve]; simp) (HE.kill rfl HE.nil)), (y6y 0 rfl (y6y 1 rfl (y6y 2 rfl (y6y 3 rfl (y6y 4 rfl (y6y 5 rfl (y6y 6 rfl (y6y 7 rfl HE.nil)))))))), rfl⟩
 have hve : a9j n i = v.events := by rw [a9j, if_neg hc5, hg]
 rw [hve] at hol
 simp only [a0o] at hol
 refine exG (x0x 6 rfl rfl ?_)
 refine a5v (κ := Int) (enc := fun n => .int .i64 n) (ks := c2j n.views.length) (k := (i : Int)) (out := .agg (a5d c v)) r4r Tryz.underlying162 (c0x Tryz.underlying3) rfl rfl (fun _ _ _ h => e7h h) rfl (c2k _ _) (c9u hv) ?_
 refine d3a rfl q8q rfl rfl u8u rfl ?_
 refine s1s (zs := (a1l n ++ a0i n i ++ v.events).map v4v) rfl rfl u8u rfl z6z rfl rfl rfl (w2w (fun _ => rfl) _) (a8g _ _ _) (by have hb56 : T56.bytes = 56 := rfl; rw [List.length_map, hb56]; simp only [a0o]; omega) ?_
 refine x1x rfl (hK4 _ _ (exG (p4p rfl rfl rfl (x4x rfl ?_))))
 exact ⟨i + 1, ⟨by omega, by omega⟩, [0, 0, 0, 0, 0, 0, 0, 0, _, _], (y2y 5 rfl (Cov.cons' (t := 9) rfl (by rw [u3u (by omega) (by omega)]; rfl) Cov.nil)), (y2y 2 rfl (y2y 3 rfl Cov.nil)), (HE.row rfl (by rw [a1c, hve]; simp) (HE.kill rfl HE.nil)), (y6y 0 rfl (y6y 1 rfl (y6y 2 rfl (y6y 3 rfl (y6y 4 rfl (y6y 5 rfl (y6y 6 rfl (y6y 7 rfl HE.nil)))))))), rfl⟩
end
section
theorem b3f (c c' : Bool) (l : La) (s : List Ev) : a1p Tryz.prog 150 [.agg (a0f c l), a1m c' s] (.tup [.agg (v4v (a0n l s).1), .pv (.bool (a0n l s).2)]) := by
 refine pX Tryz.f150 [.agg (v4v (a0n l s).1), .pv (.bool (a0n l s).2)] 3 ?_
 refine r1r 1 rfl fun hlen => ?_
 have hsm := b7c l.done s
 refine exR (u0u (id := 0) rfl rfl rfl (y7y (id := 1) z6z a6e rfl (x1x rfl (exA 2 rfl rfl ?_))))
 refine rlM [2] [_] (b4o c l.done) rfl rfl rfl ?_
 refine x4x rfl ?_
 refine rlM [2] [_] (a7d c c' l.done s) rfl rfl rfl ?_
 refine x1x rfl (x2x fun K1 hK1 => ?_)
 refine exA 3 rfl rfl (z3z rfl r8r rfl (x0x 2 rfl rfl (z8z rfl rfl ?_ ?_)))<;>intro h<;>try simp at h
 ·refine x0x 4 rfl rfl (x8x rfl (fun hc4 => ?_) (fun hc4 => ?_))
  rotate_left
  ·simp at hc4
  try simp at hc4
  refine exR (rlB z6z a6e ?_)
  refine x3x rfl rfl z6z rfl rfl rfl rfl (x1x rfl (x6x ⟨.inr rfl, ?_⟩))
  (rw [d9j (by omega)]; exact ⟨_, _, rfl, .agg rfl (.cl rfl (.cl rfl (.cl rfl (.cl rfl (.cl rfl (.cl rfl (.cl rfl .nil))))))) (.cl rfl .nil)⟩)
 refine x0x 2 rfl rfl (z1z rfl rfl (z3z rfl u8u rfl (x0x 2 rfl rfl (x8x rfl ?_ ?_))))<;>intro h<;>try simp at h
 ·refine exR (rlB z6z a6e ?_)
  refine x3x rfl rfl z6z rfl rfl rfl rfl (x1x rfl (x6x ⟨.inr rfl, ?_⟩))
  (rw [d9k (by omega)]; exact ⟨_, _, rfl, .agg rfl (.cl rfl (.cl rfl (.cl rfl (.cl rfl (.cl rfl (.cl rfl (.cl rfl .nil))))))) (.cl rfl .nil)⟩)
 have hlt : same l.done s < s.length := by omega
 obtain ⟨e, he⟩ : ∃ e, s[same l.done s]? = some e := ⟨_, List.getElem?_eq_getElem hlt⟩
 refine x7x (hK1 _ _ (exA 2 rfl rfl (y8y rfl rfl u8u rfl z6z rfl he ?_)))
 refine w3w (out := .agg (v4v e)) rfl z6z rfl ?_
 refine x3x rfl rfl z6z rfl rfl rfl rfl (x1x rfl (x6x ⟨.inr rfl, ?_⟩))
 (rw [d1l (by omega) he]; exact ⟨_, _, rfl, .agg rfl (.cl rfl (.cl rfl (.cl rfl (.cl rfl (.cl rfl (.cl rfl (.cl rfl .nil))))))) (.cl rfl .nil)⟩)
end
section
theorem c2m (c : Bool) (n : Nd) (fK : u1u n) : Meth Tryz.prog 142 5 [0, 1, 2, 3, 4] [.ptr 4 0 0] [(0, (0, .row 41 3 ((n.lanes).map fun l => a3i l.base))), (1, (0, .row 42 1 ((n.lanes).map fun l => [b2f c l.done]))), (2, (0, .map (c0e c n.views))), (3, (0, .row 3 1 (n.known.map a7n))), (4, (0, .box 164 [pI n.id, pI n.inc, pI n.g, pI n.led, .ref 0 0, a1m c n.kept, a0p c n.outs, .pv (.bool n.up), .ref 1 0, pI n.version, .mp 2 0, .ref 3 0, pI n.round, pI n.low]))] (.pv (.int .i64 (e3o n))) [] := by
 refine a2g r4r (fn := Tryz.f142) (by kernel_rfl) (by kernel_rfl) rfl (O0 := [.pv (.int .i64 (e3o n))]) 5 3 (a0m rfl) (by rfl) (by repeat (first | exact BndH.nil | refine BndH.box rfl ?_ | refine BndH.row (a0t fun _ => rfl) ?_ | refine BndH.map (a7c _ _) ?_ )) (by repeat (exact BndH.nil )) (by rfl) fun γ => ?_
 show Ex Tryz.prog _ _ [(0, .ptr 4 (γ 4) 0)] [(0, ((γ 0), .row 41 3 ((n.lanes).map fun l => a3i l.base))), (1, ((γ 1), .row 42 1 ((n.lanes).map fun l => [b2f c l.done]))), (2, ((γ 2), .map (c0e c n.views))), (3, ((γ 3), .row 3 1 (n.known.map a7n))), (4, ((γ 4), .box 164 [pI n.id, pI n.inc, pI n.g, pI n.led, .ref 0 (γ 0), a1m c n.kept, a0p c n.outs, .pv (.bool n.up), .ref 1 (γ 1), pI n.version, .mp 2 (γ 2), .ref 3 (γ 3), pI n.round, pI n.low])), (7, (0, .dead)), (6, (0, .dead)), (5, (0, .dead))] _
 have fS := fK.1
 have fB := q3q fS
 have fL := fS.2.2.2.2.1
 refine exR (x1x rfl (exR (x1x rfl (x2x fun K1 hK1 => ?_))))
 refine exA 5 rfl rfl (x9x rfl rfl rfl (a6r ..) (z3z rfl q1q rfl (x4x rfl (y0y ?_))))
 refine z2z (ι := Nat) (fun i γ1 => [(3, pI (a5c n i)), (15, pI (i : Int))]) (fun i γ1 => [(6, ((γ1 6), .dead)), (5, ((γ1 5), .dead))]) (fun i => i ≤ n.lanes.length) (fun i => n.lanes.length - i) (cK [0, 13, 14] rfl) (hK [0, 1, 2, 3, 4, 7] rfl) 0 (by omega) [0, 0, 0, 0, 0, _, _] cv hv rfl fun i γ1 hi => ?_
 refine exR (v6v rfl rfl rfl (x2x fun K2 hK2 => ?_))
 refine y4y rfl ?_ ?_<;>intro j<;>try simp at j
 ·obtain rfl : i = n.lanes.length := by omega
  refine z5z (hK1 _ _ (exA 2 rfl rfl (x6x ?_)))
  exact ⟨.inr rfl, [γ 0, γ 1, γ 2, γ 3, γ 4], rfl, rfl, hv⟩
 obtain ⟨l, hl⟩ := gE n.lanes i
 have hnc := a8k fK hl
 refine x7x (hK2 _ _ (x2x fun K4 hK4 => ?_))
 refine y0y (exR (x4x rfl (y8y rfl rfl q1q rfl q2q rfl hnc.1 ?_)))
 refine x0x 3 rfl rfl (exA 2 rfl rfl ?_)
 refine rlM [0, 1, 2, 3, 4] [_, _, _, _, _] (b7l c n _ (a7c _ _) i l hl hnc.1) rfl rfl rfl ?_
 refine x0x 2 rfl rfl ?_
 refine rlM [0, 1, 2, 3, 4, 6] [_, _, _, _, _, _] (b1u c n l.proc (a8d fS) (by omega) fS.2.2.2.2.2.1) rfl rfl rfl ?_
 refine b5h rfl rfl rfl (f3k rfl rfl (.ref rfl (Le.ow_map _ nf (fun _ => rfl)) .nil)) (b3f c false l (r7r n l.proc)) (.tup (a3q (.agg (d5v (evN _))) (a3q (.pv _) e6g))) ?_
 refine x0x 3 rfl rfl (y7y (id := 5) z6z a6e rfl (x3x rfl rfl z6z rfl rfl rfl rfl (x1x rfl (exA 2 rfl rfl (z8z rfl rfl ?_ ?_)))))<;>intro hg5<;>try simp at hg5
 ·have hno : ¬ ((a0n l (r7r n l.proc)).2 = true ∧ (a0n l (r7r n l.proc)).1.time < a5c n i) := fun h => by have := h.1; simp_all
  refine x0x 4 rfl rfl (x8x rfl (fun hc7 => ?_) (fun hc7 => ?_))
  ·simp at hc7
  try simp at hc7
  refine x7x (hK4 _ _ (exG (z4z (b := 1) rfl rfl (by omega) (x4x rfl ?_))))
  exact ⟨i + 1, ⟨by omega, by omega⟩, [0, 0, 0, 0, 0, _, _], (Cov.cons' (t := 3) rfl (congrArg (fun v : Int => AV.pv (.int .i64 v)) (b2s hl hno).symm) (y2y 15 rfl Cov.nil)), cv, hv, hv, rfl⟩
 have h2 : (a0n l (r7r n l.proc)).2 = true := hg5
 refine x0x 5 rfl rfl (y4y rfl ?_ ?_)<;>intro j<;>try simp at j
 ·have hno : ¬ ((a0n l (r7r n l.proc)).2 = true ∧ (a0n l (r7r n l.proc)).1.time < a5c n i) := by (intro h; omega)
  refine x7x (hK4 _ _ (exG (z4z (b := 1) rfl rfl (by omega) (x4x rfl ?_))))
  exact ⟨i + 1, ⟨by omega, by omega⟩, [0, 0, 0, 0, 0, _, _], (Cov.cons' (t := 3) rfl (congrArg (fun v : Int => AV.pv (.int .i64 v)) (b2s hl hno).symm) (y2y 15 rfl Cov.nil)), cv, hv, hv, rfl⟩
 have h3 : (a0n l (r7r n l.proc)).1.time < a5c n i := by omega
 refine exG (x0x 3 rfl rfl (hK4 _ _ (exG (z4z (b := 1) rfl rfl (by omega) (x4x rfl ?_)))))
 exact ⟨i + 1, ⟨by omega, by omega⟩, [0, 0, 0, 0, 0, _, _], (Cov.cons' (t := 3) rfl (congrArg (fun v : Int => AV.pv (.int .i64 v)) (b8n hl ⟨h2, h3⟩).symm) (y2y 15 rfl Cov.nil)), cv, hv, hv, rfl⟩
end
section
theorem b3g (id : Int) : a1p Tryz.prog 147 [.pv (.int .i64 id)] (.row (.rd true) 44 5 ((s3s id 4).map fun p => a0f true (b1z p))) := by
 refine pX Tryz.f147 [.row (.rd true) 44 5 ((s3s id 4).map fun p => a0f true (b1z p))] 3 ?_
 have hpl := fun k => a5w id k
 refine exR (x1x rfl (exR (z9z (id := 0) r6r rfl v7v rfl (x1x rfl (x2x fun K1 hK1 => ?_)))))
 refine exR (x1x rfl (y0y ?_))
 refine z2z (ι := Nat) (fun i γ1 => [(3, .ref 0 (γ1 0)), (4, pI (i : Int))]) (fun i γ1 => [(0, ((γ1 0), .row 44 5 ((s3s id i).map e0a))), (1, ((γ1 1), .dead)), (2, ((γ1 2), .dead))]) (fun i => i ≤ 4) (fun i => 4 - i) (y2y 0 rfl Cov.nil) HE.nil 0 (by omega) [_, _, _] cv hv rfl fun i γ1 hi => ?_
 refine x2x fun K2 hK2 => ?_
 refine exA 2 rfl rfl (y4y rfl ?_ ?_)<;>intro h<;>try simp at h
 ·refine z5z (hK1 _ _ (exA 2 rfl rfl (x6x ⟨.inr rfl, ?_⟩)))
  refine e2s rfl rfl e0b ?_
  have : i = 4 := by omega
  rw [this]
 refine x7x (hK2 _ _ (x2x fun K4 hK4 => ?_))
 refine y0y (exR (x4x rfl (x9x rfl rfl rfl (a2k ..) (x0x 2 rfl rfl (y4y rfl ?_ ?_)))))<;>intro h<;>try simp at h
 ·refine x7x (hK4 _ _ (exG (x4x rfl (p4p rfl rfl rfl (x1x rfl ?_)))))
  exact ⟨i + 1, ⟨by omega, by omega⟩, [_, _, _], (y2y 3 rfl (Cov.cons' (t := 4) rfl (by rw [u3u (by omega) (by omega)]; rfl) Cov.nil)), cv, (HE.row rfl (by simp only [a8b]; rw [if_neg (by assumption)]) (HE.kill rfl (HE.kill rfl HE.nil))), hv, rfl⟩
 refine exG (x0x 2 rfl rfl (rlB v7v a8t ?_))
 refine u4u (id := 1) r6r rfl v7v rfl rfl rfl rfl rfl rfl ?_
 have := hpl i
 refine u6u (zs := (s3s id i ++ [(i : Int)]).map e0a) rfl rfl r6r rfl v7v rfl rfl rfl rfl (by rfl) (w4w _ _ _) (by (simp only [a1f, a0o, a0x, a0z, a2c, a4b, T44]; omega)) ?_
 refine x1x rfl (hK4 _ _ (exG (x4x rfl (p4p rfl rfl rfl (x1x rfl ?_)))))
 exact ⟨i + 1, ⟨by omega, by omega⟩, [_, _, _], (y2y 3 rfl (Cov.cons' (t := 4) rfl (by rw [u3u (by omega) (by omega)]; rfl) Cov.nil)), cv, (HE.row rfl (by simp only [a8b]; rw [if_pos (by assumption)]) (HE.kill rfl (HE.kill rfl HE.nil))), hv, rfl⟩
theorem b5v (c : Bool) (l : La) : a1p Tryz.prog 110 [.agg (a0f c l), .pv (.int .i64 0), .pv (.int .i64 0)] (.agg (a0f true (s5s l))) := by
 refine pX Tryz.f110 [.agg (a0f true (s5s l))] 10 ?_
 refine exR (u0u (id := 0) rfl rfl rfl (y7y (id := 1) v7v a8t rfl (exA 4 rfl rfl (rlB v7v a8t ?_))))
 refine y7y (id := 2) v7v a8t rfl (x3x rfl rfl v7v rfl rfl rfl rfl (x2x fun K1 hK1 => ?_))
 refine exA 2 rfl rfl (y0y ?_)
 refine z2z (ι := Nat) (fun i γ1 => [(8, pI 0)]) (fun i γ1 => [(3, ((γ1 3), .dead)), (4, ((γ1 4), .dead)), (5, ((γ1 5), .dead)), (6, ((γ1 6), .dead)), (7, ((γ1 7), .dead)), (8, ((γ1 8), .dead)), (9, ((γ1 9), .dead))]) (fun i => True) (fun i => 0) (cK [2, 3, 6, 7] rfl) (hK [0, 1, 2] rfl) 0 trivial [0, 0, 0, _, _, _, _, _, _, _] cv hv rfl fun i γ1 hi => ?_
 refine x2x fun K2 hK2 => ?_
 refine exA 4 rfl rfl (e9v rfl rfl (fun hg3 => ?_) (fun hg3 => ?_))
 ·simp at hg3
 try simp at hg3
 refine x0x 5 rfl rfl (x8x rfl (fun hc5 => ?_) (fun hc5 => ?_))
 ·simp at hc5
 try simp at hc5
 refine z5z (hK1 _ _ (exR (x5x rfl v7v rfl rfl rfl (x3x rfl rfl v7v rfl rfl rfl rfl (x6x ⟨.inr rfl, ?_⟩)))))
 exact ⟨_, _, rfl, .agg rfl (.cl rfl (.cl rfl (.cl rfl (.cl rfl (.le rfl .nil .nil))))) .nil⟩
theorem c2n (c : Bool) (n : Nd) (hl : n.lanes.length ≤ 1000000000) (hk : n.kept.length ≤ 1000000000) (ho : n.outs.length ≤ 1000000000) : a1p Tryz.prog 155 [.agg (w5w c n)] (.agg (w5w true (a2r n))) := by
 refine pX Tryz.f155 [.agg (w5w true (a2r n))] 16 ?_
 refine exR (u0u (id := 0) rfl rfl rfl (y7y (id := 1) y5y s8s rfl (exD (x0x 8 rfl rfl (z9z (id := 2) u8u rfl z6z rfl (x0x 2 rfl rfl ?_))))))
 refine s1s (zs := n.kept.map v4v) rfl rfl u8u rfl z6z rfl rfl rfl (w2w (fun _ => rfl) _) rfl (by (simp only [a1f, a0o, a0x, a0z, a2c, a4b, T56]; omega)) ?_
 refine z9z (id := 4) r3r rfl w7w rfl (x0x 2 rfl rfl ?_)
 refine s1s (zs := n.outs.map a1b) rfl rfl r3r rfl w7w rfl rfl rfl (w2w (fun _ => rfl) _) rfl (by (simp only [a1f, a0o, a0x, a0z, a2c, a4b, T141]; omega)) ?_
 refine x0x 2 rfl rfl (rlB y5y s8s ?_)
 refine y7y (id := 6) y5y s8s rfl (x3x rfl rfl y5y rfl rfl rfl rfl ⟨by kernel_rfl, x2x fun K1 hK1 => ?_⟩)
 refine exR (x1x rfl (y0y (a2e 6 4 13 44 5 rfl rfl rfl rfl rfl ?_)))
 refine z2z (ι := Nat) (fun i γ1 => [(4, pI (i : Int))]) (fun i γ1 => [(13, ((γ1 13), .row 44 5 (((n.lanes.take i).map s5s).map (a0f true)))), (6, ((0 + 1), .box 65 [pI n.id, .pv (.bool n.up), pI n.inc, pI n.g, .ref 13 (γ1 13), .ref 2 2, .ref 4 2, pI n.led, pI 0, .pv (.slice none 0 0), .pv (.slice none 0 0), pI 0, pI 41])), (7, ((γ1 7), .dead)), (8, ((γ1 8), .dead))]) (fun i => i ≤ n.lanes.length) (fun i => n.lanes.length - i) (cK [1, 2, 3] rfl) (hK [0, 1, 2, 3, 4, 5, 9, 10, 11, 12, 14, 15] rfl) 0 (by omega) [0, 0, 0, 0, 0, 0, 0, _, _, 0, 0, 0, 0, _] cv (HE.row rfl (by rw [List.take_zero]; rfl) (HE.box rfl rfl (HE.kill rfl (HE.kill rfl HE.nil)))) rfl fun i γ1 hi => ?_
 refine x2x fun K2 hK2 => ?_
 refine exA 3 rfl rfl (z3z rfl r6r rfl (v6v rfl rfl rfl (x8x rfl ?_ ?_)))<;>intro h<;>try simp at h
 ·refine x7x (hK2 _ _ (x2x fun K4 hK4 => ?_))
  refine y0y (exH (x0x 5 rfl rfl ?_))
  obtain ⟨a, ha⟩ := gE n.lanes i
  refine y8y rfl rfl r6r rfl v7v rfl ha (u5u rfl v7v rfl rfl (x9x rfl rfl rfl (b5v c a) (u4u (id := 7) r6r rfl v7v rfl rfl rfl rfl rfl rfl ?_)))
  refine u6u (zs := ((n.lanes.take i).map s5s ++ [s5s a]).map (a0f true)) rfl rfl r6r rfl v7v rfl rfl rfl rfl (by rfl) (w4w _ _ _) (by (simp only [a1f, a0o, a0x, a0z, a2c, a4b, T44]; omega)) ?_
  refine y1y rfl y5y rfl rfl r6r rfl rfl (z0z rfl rfl r6r rfl rfl rfl rfl rfl (by simp only [a1k]; rfl) ?_)
  refine ⟨by kernel_rfl, hK4 _ _ (exG (x4x rfl (p4p rfl rfl rfl (x1x rfl ?_))))⟩
  exact ⟨i + 1, ⟨by omega, by omega⟩, [0, 0, 0, 0, 0, 0, 0, _, _, 0, 0, 0, 0, _], (Cov.cons' (t := 4) rfl (by rw [u3u (by omega) (by omega)]; rfl) Cov.nil), cv, (HE.row rfl (by simp only [w1w ha, List.map_append, List.map_cons, List.map_nil]) (HE.box rfl rfl (HE.kill rfl (HE.kill rfl HE.nil)))), hv, rfl⟩
 obtain rfl : i = n.lanes.length := by omega
 refine z5z (hK1 _ _ (x2x fun K5 hK5 => ?_))
 refine exR (x1x rfl (y0y (a2e 6 9 14 190 3 rfl rfl rfl rfl rfl (a2e 6 10 15 3 1 rfl rfl rfl rfl rfl ?_))))
 refine z2z (ι := Nat) (fun i γ2 => [(5, pI (i : Int))]) (fun i γ2 => [(14, ((γ2 14), .row 190 3 ((List.range i).map fun _ => b1q))), (15, ((γ2 15), .row 3 1 ((List.range i).map fun _ => a7n 0))), (6, ((0 + 1), .box 65 [pI n.id, .pv (.bool n.up), pI n.inc, pI n.g, .ref 13 (γ1 13), .ref 2 2, .ref 4 2, pI n.led, pI 0, .ref 14 (γ2 14), .ref 15 (γ2 15), pI 0, pI 41])), (9, ((γ2 9), .dead)), (10, ((γ2 10), .dead)), (11, ((γ2 11), .dead)), (12, ((γ2 12), .dead))]) (fun i => i ≤ 3) (fun i => 3 - i) (cK [2, 3] rfl) (hK [0, 1, 2, 3, 4, 5, 7, 8, 13] rfl) 0 (by omega) [0, 0, 0, 0, 0, 0, 0, 0, 0, _, _, _, _, 0, _, _] cv hv rfl fun i γ2 hi => ?_
 refine x2x fun K6 hK6 => ?_
 refine exA 2 rfl rfl (y4y rfl ?_ ?_)<;>intro h<;>try simp at h
 ·obtain rfl : i = 3 := by omega
  rw [List.take_length]
  refine z5z (hK5 _ _ (exR (x5x rfl y5y rfl rfl rfl (x3x rfl rfl y5y rfl rfl rfl rfl (x6x ⟨.inr rfl, ?_⟩)))))
  exact ⟨_, _, rfl, .agg rfl (.cl rfl (.cl rfl (.cl rfl (.cl rfl (.ref rfl (Le.ow_map _ (fun _ => rfl) (fun _ => rfl)) (.ref rfl (Le.ow_map _ (fun _ => rfl) (fun _ => rfl)) (.ref rfl (Le.ow_map _ (fun _ => rfl) (fun _ => rfl)) (.cl rfl (.cl rfl (.ref rfl (Le.ow_map2 (f := fun _ => b1q) (f' := fun _ => a5d true vi0) (List.range 3) (fun _ => rfl) (fun _ => .cons (.cl rfl) (.cons (.cl rfl) (.cons .nil .nil)))) (.ref rfl (Le.ow_map (f := fun _ => a7n 0) (List.range 3) (fun _ => rfl) (fun _ => rfl)) (.cl rfl (.cl rfl .nil))))))))))))) .nil⟩
 refine x7x (hK6 _ _ (x2x fun K8 hK8 => ?_))
 refine y0y (exA 2 rfl rfl (rlB q8q b0a ?_))
 refine u4u (id := 9) a0s rfl q8q rfl rfl rfl rfl rfl rfl ?_
 refine u6u (zs := (List.range i).map (fun _ => b1q) ++ [b1q]) rfl rfl a0s rfl q8q rfl rfl rfl rfl (by rfl) rfl (by (simp only [a1f, a0o, a0x, a0z, a2c, a4b, T190]; omega)) ?_
 refine y1y rfl y5y rfl rfl a0s rfl rfl (z0z rfl rfl a0s rfl rfl rfl rfl rfl (by simp only [a1k]; rfl) ?_)
 refine exG (x0x 2 rfl rfl (b0c (id := 11) q1q rfl q2q rfl rfl rfl rfl rfl ?_))
 refine u6u (zs := (List.range i).map (fun _ => a7n 0) ++ [a7n 0]) rfl rfl q1q rfl q2q rfl rfl rfl rfl (by rfl) rfl (by (simp only [a1f, a0o, a0x, a0z, a2c, a4b, T3]; omega)) ?_
 refine y1y rfl y5y rfl rfl q1q rfl rfl (z0z rfl rfl q1q rfl rfl rfl rfl rfl (by simp only [a1k]; rfl) ?_)
 refine hK8 _ _ (exG (x4x rfl (p4p rfl rfl rfl (x1x rfl ?_))))
 exact ⟨i + 1, ⟨by omega, by omega⟩, [0, 0, 0, 0, 0, 0, 0, 0, 0, _, _, _, _, 0, _, _], (Cov.cons' (t := 5) rfl (by rw [u3u (by omega) (by omega)]; rfl) Cov.nil), cv, (HE.row rfl (by rw [List.range_succ, List.map_append]; rfl) (HE.row rfl (by rw [List.range_succ, List.map_append]; rfl) (HE.box rfl rfl (HE.kill rfl (HE.kill rfl (HE.kill rfl (HE.kill rfl HE.nil))))))), hv, rfl⟩
theorem b9q (id : Int) : a1p Tryz.prog 89 [.pv (.int .i64 id)] (.agg (w5w true (a2q id))) := by
 refine pX Tryz.f89 [.agg (w5w true (a2q id))] 5 ?_
 have hpl := a5w id 4
 refine exR (y7y (id := 0) y5y s8s rfl (x2x fun K1 hK1 => ?_))
 refine exR (x4x rfl (x9x rfl rfl rfl (u7u ..) (a1w rfl (x8x rfl ?_ ?_))))<;>intro hc2<;>try simp at hc2
 ·have hns : a2q id = nd0 := if_neg (by omega)
  refine exR (rlB y5y s8s ?_)
  refine x3x rfl rfl y5y rfl rfl rfl rfl (x6x ⟨.inr rfl, ?_⟩)
  exact ⟨_, _, rfl, .agg rfl (by rw [hns]; exact .cl rfl (.cl rfl (.cl rfl (.cl rfl (.le rfl .nil (.le rfl .nil (.le rfl .nil (.cl rfl (.cl rfl (.le rfl .nil (.le rfl .nil (.cl rfl (.cl rfl .nil))))))))))))) .nil⟩
 have hin : 0 ≤ id ∧ id ≤ 2 := hc2
 have hns : a2q id = ⟨id, true, 1, 0, (s3s id 4).map b1z, p0p ((s3s id 4).map a1z), [], 0, 1, [vi0, vi0, vi0], [0, 0, 0], 0, 41⟩ := if_pos hin
 have hnb : ({ a2r ⟨id, true, 1, 0, (s3s id 4).map b1z, (s3s id 4).map a1z, [], 0, 0, [], [], 0, 0⟩ with version := 1 } : Nd) = a2q id := by rw [hns, c1l hin]; simp only [a2r, List.map_map]; rfl
 refine x7x (hK1 _ _ (exA 2 rfl rfl (x9x rfl rfl rfl (b3g ..) (rlB y5y s8s ?_))))
 refine y7y (id := 1) y5y s8s rfl (x3x rfl rfl y5y rfl rfl rfl rfl (x2x fun K3 hK3 => ?_))
 refine exR (x1x rfl (y0y (a2e 1 5 4 56 7 rfl rfl rfl rfl rfl ?_)))
 refine z2z (ι := Nat) (fun i γ1 => [(4, pI (i : Int))]) (fun i γ1 => [(4, ((γ1 4), .row 56 7 ((((s3s id 4).take i).map a1z).map v4v))), (1, ((0 + 1), .box 65 [pI id, .pv (.bool true), pI 1, pI 0, .row (.rd true) 44 5 ((s3s id 4).map fun p => a0f true (b1z p)), .ref 4 (γ1 4), .pv (.slice none 0 0), pI 0, pI 0, .pv (.slice none 0 0), .pv (.slice none 0 0), pI 0, pI 0])), (2, ((γ1 2), .dead)), (3, ((γ1 3), .dead))]) (fun i => i ≤ (s3s id 4).length) (fun i => (s3s id 4).length - i) (cK [2, 3] rfl) (y6y 0 rfl HE.nil) 0 (by omega) [0, 0, _, _, _] cv (HE.row rfl (by rw [List.take_zero]; rfl) (HE.box rfl rfl (HE.kill rfl (HE.kill rfl HE.nil)))) rfl fun i γ1 hi => ?_
 refine x2x fun K4 hK4 => ?_
 refine exA 3 rfl rfl (z3z rfl r6r rfl (v6v rfl rfl rfl (y4y rfl ?_ ?_)))<;>intro h<;>try simp at h
 ·obtain rfl : i = (s3s id 4).length := by omega
  rw [List.take_length]
  refine z5z (hK3 _ _ ?_)
  refine p9p (b := a1m true ((s3s id 4).map a1z)) 1 5 rfl rfl rfl (.ref rfl (Le.ow_map _ (fun _ => rfl) (fun _ => rfl)) .nil) rfl rfl rfl rfl ?_
  refine p9p (b := a0p true []) 1 6 rfl rfl rfl (.le rfl .nil .nil) rfl rfl rfl rfl ?_
  refine p9p (b := c3l true []) 1 9 rfl rfl rfl (.le rfl .nil .nil) rfl rfl rfl rfl ?_
  refine p9p (b := a6k true []) 1 10 rfl rfl rfl (.le rfl .nil .nil) rfl rfl rfl rfl ?_
  rw [show (AV.row (.rd true) 44 5 ((s3s id 4).map fun p => a0f true (b1z p))) = b9i true ((s3s id 4).map b1z) from by rw [b9i, List.map_map]; rfl]
  refine exR (x5x rfl y5y rfl rfl rfl (x9x rfl rfl rfl (c2n true ⟨id, true, 1, 0, (s3s id 4).map b1z, (s3s id 4).map a1z, [], 0, 0, [], [], 0, 0⟩ (by rw [List.length_map]; omega) (by rw [List.length_map]; omega) (by simp)) ?_))
  refine x3x rfl rfl y5y rfl rfl rfl rfl (exR (y1y rfl y5y rfl rfl q2q rfl rfl (z0z rfl rfl q2q rfl rfl rfl rfl rfl (by simp only [a1k]; rfl) ?_)))
  refine exR (x5x rfl y5y rfl rfl rfl (x3x rfl rfl y5y rfl rfl rfl rfl (x6x ⟨.inr rfl, ?_⟩)))
  exact a9h (cs := w5w true { a2r ⟨id, true, 1, 0, (s3s id 4).map b1z, (s3s id 4).map a1z, [], 0, 0, [], [], 0, 0⟩ with version := 1 }) rfl (by rw [hnb]) rfl rfl
 obtain ⟨p, hp⟩ := gE (s3s id 4) i
 refine x7x (hK4 _ _ (x2x fun K6 hK6 => ?_))
 refine y0y (exH (x0x 5 rfl rfl (y8y rfl rfl r6r rfl v7v rfl hp (x0x 2 rfl rfl (x9x rfl rfl rfl (c2i ..) (u4u (id := 2) u8u rfl z6z rfl rfl rfl rfl rfl rfl ?_))))))
 refine u6u (zs := (((s3s id 4).take i).map a1z ++ [a1z p]).map v4v) rfl rfl u8u rfl z6z rfl rfl rfl rfl (by rfl) (w4w _ _ _) (by (simp only [a1f, a0o, a0x, a0z, a2c, a4b, T56]; omega)) ?_
 refine y1y rfl y5y rfl rfl u8u rfl rfl (z0z rfl rfl u8u rfl rfl rfl rfl rfl (by simp only [a1k]; rfl) ?_)
 refine ⟨by kernel_rfl, hK6 _ _ (exG (x4x rfl (p4p rfl rfl rfl (x1x rfl ?_))))⟩
 exact ⟨i + 1, ⟨by omega, by omega⟩, [0, 0, _, _, _], (Cov.cons' (t := 4) rfl (by rw [u3u (by omega) (by omega)]; rfl) Cov.nil), cv, (HE.row rfl (by simp only [w1w hp, List.map_append, List.map_cons, List.map_nil]) (HE.box rfl rfl (HE.kill rfl (HE.kill rfl HE.nil)))), hv, rfl⟩
end
section
theorem a9n (c c' : Bool) (l : La) (s : List Ev) : a1p Tryz.prog 148 [.agg (a0f c l), a1m c' s] (.pv (.int .i64 (same l.done s : Int))) := by
 refine pX Tryz.f148 [.pv (.int .i64 (same l.done s : Int))] 1 ?_
 refine r1r 1 rfl fun hlen => ?_
 refine exR (u0u (id := 0) rfl rfl rfl (x1x rfl (exR (x1x rfl (x2x fun K1 hK1 => ?_)))))
 refine y0y ?_
 refine z2z (ι := Nat) (fun i γ1 => [(5, pI (i : Int))]) (fun i γ1 => []) (fun i => i ≤ l.done.length ∧ i ≤ s.length ∧ same l.done s = i + same (l.done.drop i) (s.drop i)) (fun i => l.done.length - i) (cK [1, 2] rfl) (y6y 0 rfl HE.nil) 0 ⟨by omega, by omega, by rw [List.drop_zero, List.drop_zero, Nat.zero_add]⟩ [] cv hv rfl fun i γ1 hi => ?_
 obtain ⟨h1, h2, h3⟩ := hi
 refine x2x fun K2 hK2 => ?_
 refine exD (x0x 3 rfl rfl (z3z rfl r8r rfl (x0x 2 rfl rfl (z8z rfl rfl ?_ ?_))))<;>intro o<;>try simp at o
 ·have g1 : l.done.length ≤ i := by omega
  refine x0x 17 rfl rfl ⟨by kernel_rfl, x8x rfl (fun hc7 => ?_) (fun hc7 => ?_)⟩
  ·simp at hc7
  try simp at hc7
  try have heq : ¬ p.ev = e := by simpa [a6w] using hc7
  refine z5z (hK1 _ _ (exA 2 rfl rfl (x6x ⟨.inr rfl, ?_⟩)))
  refine y9y rfl ?_ rfl
  exact congrArg (fun v : Nat => [AV.pv (.int .i64 (v : Int))]) (h3.trans (by rw [c9f g1]; rfl)).symm
 have g1 : i < l.done.length := by omega
 obtain ⟨p, hp⟩ := gE l.done i
 refine x0x 2 rfl rfl (z1z rfl rfl (z3z rfl u8u rfl (x0x 3 rfl rfl (z8z rfl rfl ?_ ?_))))<;>intro o<;>try simp at o
 ·have g2 : s.length ≤ i := by omega
  refine x0x 11 rfl rfl ⟨by kernel_rfl, x8x rfl (fun hc6 => ?_) (fun hc6 => ?_)⟩
  ·simp at hc6
  try simp at hc6
  try have heq : ¬ p.ev = e := by simpa [a6w] using hc6
  refine z5z (hK1 _ _ (exA 2 rfl rfl (x6x ⟨.inr rfl, ?_⟩)))
  refine y9y rfl ?_ rfl
  exact congrArg (fun v : Nat => [AV.pv (.int .i64 (v : Int))]) (h3.trans (by rw [c9g g2]; rfl)).symm
 have g2 : i < s.length := by omega
 obtain ⟨e, he⟩ := gE s i
 refine x0x 3 rfl rfl (z1z rfl rfl (y8y rfl rfl r8r rfl a0j rfl hp (z1z rfl rfl (y1y rfl a0j rfl rfl z6z rfl rfl (z1z rfl rfl ?_)))))
 refine w3w (out := .agg (v4v p.ev)) rfl z6z rfl ?_
 refine x0x 2 rfl rfl (z1z rfl rfl (y8y rfl rfl u8u rfl z6z rfl he (z1z rfl rfl ?_)))
 refine w3w (out := .agg (v4v e)) rfl z6z rfl ?_
 refine z1z rfl rfl (c5w rfl rfl (by intro a c h; cases h) (.inl rfl) (f1j _ _ _ _) ?_)
 refine b0x rfl rfl ⟨by kernel_rfl, x8x rfl ?_ ?_⟩<;>intro hc5<;>try simp at hc5
 ·try have heq : p.ev = e := by simpa [a6w] using hc5
  refine x7x (hK2 _ _ (y0y (exG (x4x rfl (z4z (b := 1) rfl rfl (by omega) (x1x rfl ?_))))))
  exact ⟨i + 1, ⟨⟨by omega, by omega, by rw [h3, c9d hp he heq]; omega⟩, by omega⟩, [], cv, cv, hv, hv, rfl⟩
 try have heq : ¬ p.ev = e := by simpa [a6w] using hc5
 refine z5z (hK1 _ _ (exA 2 rfl rfl (x6x ⟨.inr rfl, ?_⟩)))
 refine y9y rfl ?_ rfl
 exact congrArg (fun v : Nat => [AV.pv (.int .i64 (v : Int))]) (h3.trans (by rw [c9e hp he heq]; rfl)).symm
theorem b4s (c : Bool) (n : Nd) (hs : (a1l n).length ≤ 5000000) (hlen : n.lanes.length ≤ 1048576) : Meth Tryz.prog 228 1 [] [.agg (w5w c n)] [(0, (0, .dead))] (.ref 0 0) [(0, (0, .row 56 7 ((a1l n).map v4v)))] := by
 refine mX Tryz.f228 [.ref 0 0] 1 3 fun γ => ?_
 have hkl : n.kept.length ≤ 5000000 := by simp only [a1l, a0o] at hs; omega
 refine exR (u0u (id := 1) rfl rfl rfl (x1x rfl (exR (z9z (id := 0) u8u rfl z6z rfl (x0x 2 rfl rfl ?_)))))
 refine s1s (zs := n.kept.map v4v) rfl rfl u8u rfl z6z rfl rfl rfl (w2w (fun _ => rfl) _) rfl (by have hb56 : T56.bytes = 56 := rfl; rw [List.length_map, hb56]; omega) ?_
 refine x1x rfl (x2x fun K1 hK1 => ?_)
 refine exR (x1x rfl (y0y ?_))
 refine z2z (ι := Nat) (fun i γ1 => [(3, .ref 0 (γ1 0)), (4, pI (i : Int))]) (fun i γ1 => [(0, ((γ1 0), .row 56 7 ((n.kept ++ (n.lanes.take i).flatMap b0g).map v4v))), (3, ((γ1 3), .dead))]) (fun i => i ≤ n.lanes.length) (fun i => n.lanes.length - i) (y2y 1 rfl Cov.nil) (hK [1, 2] rfl) 0 (by omega) [_, 0, 0, _] cv (HE.row rfl (by simp) (HE.kill rfl HE.nil)) rfl fun i γ1 hi => ?_
 refine x2x fun K2 hK2 => ?_
 refine exA 3 rfl rfl (z3z rfl r6r rfl (v6v rfl rfl rfl (y4y rfl ?_ ?_)))<;>intro o<;>try simp at o
 ·obtain rfl : i = n.lanes.length := by omega
  refine z5z (hK1 _ _ (exA 2 rfl rfl (x6x ?_)))
  exact ⟨.inr rfl, [_], rfl, rfl, HE.row rfl (by rw [List.take_length]; rfl) HE.nil⟩
 obtain ⟨p, hp⟩ := gE n.lanes i
 refine x7x (hK2 _ _ (x2x fun K4 hK4 => ?_))
 refine y0y (exR (x1x rfl (y0y ?_)))
 refine z2z (ι := Nat) (fun j γ2 => [(3, .ref 0 (γ2 0)), (5, pI (j : Int))]) (fun j γ2 => [(0, ((γ2 0), .row 56 7 ((n.kept ++ (n.lanes.take i).flatMap b0g ++ (p.done.take j).flatMap Pa.sends).map v4v))), (3, ((γ2 3), .dead))]) (fun j => j ≤ p.done.length) (fun j => p.done.length - j) (cK [1, 4] rfl) (hK [1, 2] rfl) 0 (by omega) [_, 0, 0, _] cv (HE.row rfl (by simp) (HE.kill rfl HE.nil)) rfl fun j γ2 hi => ?_
 refine x2x fun K5 hK5 => ?_
 refine exA 4 rfl rfl (y8y rfl rfl r6r rfl v7v rfl hp (x0x 2 rfl rfl (z3z rfl r8r rfl (v6v rfl rfl rfl (y4y rfl ?_ ?_)))))<;>intro o<;>try simp at o
 ·obtain rfl : j = p.done.length := by omega
  refine z5z (hK4 _ _ (exG (x4x rfl (p4p rfl rfl rfl (x1x rfl ?_)))))
  exact ⟨i + 1, ⟨by omega, by omega⟩, [_, 0, 0, _], (y2y 3 rfl (Cov.cons' (t := 4) rfl (by rw [u3u (by omega) (by omega)]; rfl) Cov.nil)), cv, (HE.row rfl (by simp only [a5x hp, List.append_assoc, b0g, List.take_length]) (HE.kill rfl HE.nil)), hv, rfl⟩
 obtain ⟨q, hq⟩ := gE p.done j
 have hsp := c9b hp hq
 refine x7x (hK5 _ _ (x2x fun K7 hK7 => ?_))
 refine y0y (exG (x0x 4 rfl rfl (y8y rfl rfl r6r rfl v7v rfl hp (x0x 3 rfl rfl (y8y rfl rfl r8r rfl a0j rfl hq (x0x 2 rfl rfl ?_))))))
 refine s1s (zs := (n.kept ++ (n.lanes.take i).flatMap b0g ++ (p.done.take j).flatMap Pa.sends ++ q.sends).map v4v) rfl rfl u8u rfl z6z rfl rfl rfl (w2w (fun _ => rfl) _) (a8g _ _ _) (by have hb56 : T56.bytes = 56 := rfl; rw [List.length_map, hb56]; omega) ?_
 refine x1x rfl (hK7 _ _ (r1r 23 rfl fun hlen2 => ?_))
 refine exG (x4x rfl (p4p rfl rfl rfl (x1x rfl ?_)))
 exact ⟨j + 1, ⟨by omega, by omega⟩, [_, 0, 0, _], (y2y 3 rfl (Cov.cons' (t := 5) rfl (by rw [u3u (by omega) (by omega)]; rfl) Cov.nil)), cv, (HE.row rfl (by simp only [a5x hq, List.append_assoc]) (HE.kill rfl HE.nil)), hv, rfl⟩
end
section
theorem a2h (c : Bool) (l : List Ev) (hl : l.length ≤ 10000000) : a1p Tryz.prog 111 [a1m c l] (a1m true (p0p l)) := by
 refine pX Tryz.f111 [a1m true (p0p l)] 3 ?_
 refine exR (x1x rfl (exR (z9z (id := 0) u8u rfl z6z rfl (x1x rfl (x2x fun K1 hK1 => ?_)))))
 refine exR (x1x rfl (y0y ?_))
 refine z2z (ι := Nat) (fun i γ1 => [(3, .ref 0 (γ1 0)), (4, pI (i : Int))]) (fun i γ1 => [(0, ((γ1 0), .row 56 7 ((p0p (l.take i)).map v4v))), (1, ((γ1 1), .dead)), (2, ((γ1 2), .dead))]) (fun i => i ≤ l.length) (fun i => l.length - i) (y2y 0 rfl Cov.nil) HE.nil 0 (by omega) [_, _, _] cv (HE.row rfl (by rw [List.take_zero]; rfl) (HE.kill rfl (HE.kill rfl HE.nil))) rfl fun i γ1 hi => ?_
 refine x2x fun K2 hK2 => ?_
 refine exA 2 rfl rfl (z3z rfl u8u rfl (v6v rfl rfl rfl (y4y rfl ?_ ?_)))<;>intro o<;>try simp at o
 ·obtain rfl : i = l.length := by omega
  refine z5z (hK1 _ _ (exA 2 rfl rfl (x6x ⟨.inr rfl, ?_⟩)))
  refine a5b rfl rfl (fun _ => rfl) ?_
  rw [List.take_length]
 obtain ⟨x, hx⟩ := gE l i
 have hol : (p0p (l.take i)).length ≤ 10000000 := Nat.le_trans (b0h _) (by rw [List.length_take]; omega)
 have hss := b6z (l.take i)
 refine x7x (hK2 _ _ (x2x fun K4 hK4 => ?_))
 refine y0y (exR (x4x rfl (a1o rfl u8u rfl rfl (List.length_map _) ?_)))
 refine x1x rfl ?_
 refine a0c (ι := Nat) (fun k γ2 => [(5, pI (k : Int))]) (fun k γ2 => []) (fun k => k ≤ (p0p (l.take i)).length ∧ (∀ (j : Nat) y, k ≤ j → (p0p (l.take i))[j]? = some y → a3e x y = true) ∧ (∀ y, 0 < k → (p0p (l.take i))[k - 1]? = some y → a3e x y = false)) (cK [0, 3, 4] rfl) (hK [0, 1, 2] rfl) ?_ fun k γ2 hi => ?_
 ·refine y0y ?_
  refine z2z (ι := Nat) (fun k γ3 => [(5, pI (k : Int))]) (fun k γ3 => []) (fun k => k ≤ (p0p (l.take i)).length ∧ (∀ (j : Nat) y, k ≤ j → (p0p (l.take i))[j]? = some y → a3e x y = true)) (fun k => k) (cK [0, 3, 4] rfl) (hK [0, 1, 2] rfl) (p0p (l.take i)).length ⟨Nat.le_refl _, fun j y hj hy => by have := (List.getElem?_eq_some_iff.1 hy).1; omega⟩ [] cv hv rfl fun k γ3 hi => ?_
  obtain ⟨k1, k2⟩ := hi
  refine x2x fun K5 hK5 => ?_
  refine exD (x0x 3 rfl rfl (z8z rfl rfl ?_ ?_))<;>intro o<;>try simp at o
  ·have k0 : k = 0 := by omega
   refine x0x 10 rfl rfl ⟨by kernel_rfl, x8x rfl (fun hc8 => ?_) (fun hc8 => ?_)⟩
   ·simp at hc8
   try simp at hc8
   try have hlt := hc8
   refine z5z ?_
   exact ⟨k, ⟨k1, k2, fun y2 h0 h2 => by omega⟩, [], cv, cv, hv, hv, rfl⟩
  have k0 : 0 < k := by omega
  obtain ⟨y, hy⟩ := gE (p0p (l.take i)) (k - 1)
  refine x0x 2 rfl rfl (z1z rfl rfl (y8y rfl rfl u8u rfl z6z rfl hx (x0x 3 rfl rfl (z1z rfl rfl (a0h (b := 1) rfl rfl (by omega) (by omega) (z1z rfl rfl ?_))))))
  refine v0v (j := k - 1) rfl rfl u8u rfl z6z rfl rfl (by omega) ?_
  refine z1z rfl rfl (p8p rfl z6z rfl hy rfl rfl (z1z rfl rfl (x9x rfl rfl rfl (a7l ..) (b0x rfl rfl ⟨by kernel_rfl, y4y rfl ?_ ?_⟩))))<;>intro hc7<;>try simp at hc7
  ·try have hlt := hc7
   refine z5z ?_
   exact ⟨k, ⟨k1, k2, fun y2 h0 h2 => by (rw [hy] at h2; cases h2; exact hlt)⟩, [], cv, cv, hv, hv, rfl⟩
  try have hlt := hc7
  refine x7x (hK5 _ _ (y0y (exG (x4x rfl (a0h (b := 1) rfl rfl (by omega) (by omega) (x1x rfl ?_))))))
  exact ⟨k - 1, ⟨⟨by omega, fun j y2 hj hy2 => by by_cases hjk : j = k - 1; (subst hjk; rw [hy] at hy2; cases hy2; exact hlt); exact k2 j y2 (by omega) hy2⟩, by omega⟩, [], cv, cv, hv, hv, rfl⟩
 ·try dsimp only [b2z, b3a]
  obtain ⟨c1, c2, c3⟩ := hi
  refine x2x fun K9 hK9 => ?_
  refine exD (x0x 3 rfl rfl (z8z rfl rfl ?_ ?_))<;>intro o<;>try simp at o
  ·have k0 : k = 0 := by omega
   refine x0x 10 rfl rfl ⟨by kernel_rfl, x8x rfl (fun hc16 => ?_) (fun hc16 => ?_)⟩
   ·simp at hc16
   try simp at hc16
   try have hyx : ¬ y = x := by simpa [a6w] using hc16
   have hin : p0p (l.take (i + 1)) = (p0p (l.take i)).take k ++ x :: (p0p (l.take i)).drop k := by rw [b5m hx]; exact d9c c8z hss c2 (fun y2 h0 h2 => ⟨c3 y2 h0 h2, by omega⟩) c1
   refine x7x (hK9 _ _ (exA 3 rfl rfl (y8y rfl rfl u8u rfl z6z rfl hx (u5u rfl z6z rfl rfl (u4u (id := 1) u8u rfl z6z rfl rfl rfl rfl rfl rfl ?_)))))
   refine u6u (zs := (p0p (l.take i) ++ [x]).map v4v) rfl rfl u8u rfl z6z rfl rfl rfl rfl (by rfl) (w4w _ _ _) (by have hb56 : T56.bytes = 56 := rfl; rw [List.length_map, hb56]; simp only [a0o, a0x, a0z]; omega) ?_
   refine x1x rfl (x2x fun K17 hK17 => ?_)
   refine exR (x4x rfl (a1o rfl u8u rfl rfl (List.length_map _) ?_))
   refine a0h (b := 1) rfl rfl (by (simp; done)) (by (simp; omega)) ?_
   refine x1x rfl (y0y ?_)
   refine z2z (ι := Nat × Ev) (fun q γ5 => [(6, pI (q.1 : Int))]) (fun q γ5 => [(0, ((γ1 0 + 1), .row 56 7 (((p0p (l.take i)).take q.1 ++ q.2 :: (p0p (l.take i)).drop q.1).map v4v)))]) (fun q => k ≤ q.1 ∧ q.1 ≤ (p0p (l.take i)).length) (fun q => q.1) (cK [0, 3, 4, 5] rfl) (hK [1, 2] rfl) ((p0p (l.take i)).length, x) ⟨c1, Nat.le_refl _⟩ [] (Cov.cons' (t := 6) rfl (by simp) Cov.nil) (HE.row rfl (by rw [List.take_length, List.drop_length]) HE.nil) rfl fun q γ5 hi => ?_
   obtain ⟨m, u⟩ := q
   obtain ⟨m1, m2⟩ := hi
   dsimp only at m1 m2 ⊢
   refine x2x fun K18 hK18 => ?_
   refine exA 3 rfl rfl (y4y rfl ?_ ?_)<;>intro o<;>try simp at o
   ·obtain rfl : k = m := by omega
    refine z5z (hK17 _ _ (exG (x0x 4 rfl rfl (y8y rfl rfl u8u rfl z6z rfl hx (u5u rfl z6z rfl rfl ?_)))))
    refine v0v (j := k) rfl rfl u8u rfl z6z rfl rfl (v2v (c9i c1)) ?_
    refine q0q (el' := x) rfl rfl z6z rfl rfl rfl (c9i c1) rfl (a6o _) rfl rfl ?_
    refine hK4 _ _ (exG (x4x rfl (z4z (b := 1) rfl rfl (by omega) (x1x rfl ?_))))
    exact ⟨i + 1, ⟨by omega, by omega⟩, [_, _, _], cv, cv, (HE.row rfl (by rw [hin, d9e c1]) (HE.kill rfl (HE.kill rfl HE.nil))), hv, rfl⟩
   obtain ⟨z, hz⟩ := gE (p0p (l.take i)) (m - 1)
   refine x7x (hK18 _ _ (x2x fun K20 hK20 => ?_))
   refine y0y (exG (x0x 4 rfl rfl (a0h (b := 1) rfl rfl (by omega) (by omega) ?_)))
   refine v0v (j := m - 1) rfl rfl u8u rfl z6z rfl rfl (v2v (d3p m2 (by omega) hz)) ?_
   refine p8p rfl z6z rfl (d3p m2 (by omega) hz) rfl rfl ?_
   refine v0v (j := m) rfl rfl u8u rfl z6z rfl rfl (v2v (c9i m2)) ?_
   refine q0q (el' := z) rfl rfl z6z rfl rfl rfl (c9i m2) rfl (a6o _) rfl rfl ?_
   refine hK20 _ _ (exG (x4x rfl (a0h (b := 1) rfl rfl (by omega) (by omega) (x1x rfl ?_))))
   exact ⟨(m - 1, z), ⟨⟨by dsimp only; omega, by dsimp only; omega⟩, (by dsimp only; omega)⟩, [], cv, cv, (HE.row rfl (by rw [e6c m2 (by omega) hz]) HE.nil), hv, rfl⟩
  have k0 : 0 < k := by omega
  obtain ⟨y, hy⟩ := gE (p0p (l.take i)) (k - 1)
  refine x0x 2 rfl rfl (z1z rfl rfl (a0h (b := 1) rfl rfl (by omega) (by omega) (z1z rfl rfl ?_)))
  refine v0v (j := k - 1) rfl rfl u8u rfl z6z rfl rfl (by omega) ?_
  refine z1z rfl rfl (p8p rfl z6z rfl hy rfl rfl (x0x 2 rfl rfl (z1z rfl rfl (y8y rfl rfl u8u rfl z6z rfl hx (z1z rfl rfl (u5u rfl z6z rfl rfl (z1z rfl rfl (c5w rfl rfl (by intro a c h; cases h) (.inl rfl) (f1j _ _ _ _) ?_))))))))
  refine b0x rfl rfl ⟨by kernel_rfl, x8x rfl ?_ ?_⟩<;>intro hc11<;>try simp at hc11
  ·have hyx : y = x := by simpa [a6w] using hc11
   have hsk : p0p (l.take (i + 1)) = p0p (l.take i) := by rw [b5m hx]; exact e7w c8z hss (List.mem_of_getElem? (hyx ▸ hy))
   refine z5z (hK4 _ _ (exG (x4x rfl (z4z (b := 1) rfl rfl (by omega) (x1x rfl ?_)))))
   exact ⟨i + 1, ⟨by omega, by omega⟩, [_, _, _], cv, cv, (HE.row rfl (by rw [hsk]) (HE.kill rfl (HE.kill rfl HE.nil))), hv, rfl⟩
  try have hyx : ¬ y = x := by simpa [a6w] using hc11
  have hin : p0p (l.take (i + 1)) = (p0p (l.take i)).take k ++ x :: (p0p (l.take i)).drop k := by rw [b5m hx]; exact d9c c8z hss c2 (fun y2 h0 h2 => ⟨c3 y2 h0 h2, by (rw [hy] at h2; cases h2; exact hyx)⟩) c1
  refine x7x (hK9 _ _ (exA 3 rfl rfl (y8y rfl rfl u8u rfl z6z rfl hx (u5u rfl z6z rfl rfl (u4u (id := 1) u8u rfl z6z rfl rfl rfl rfl rfl rfl ?_)))))
  refine u6u (zs := (p0p (l.take i) ++ [x]).map v4v) rfl rfl u8u rfl z6z rfl rfl rfl rfl (by rfl) (w4w _ _ _) (by have hb56 : T56.bytes = 56 := rfl; rw [List.length_map, hb56]; simp only [a0o, a0x, a0z]; omega) ?_
  refine x1x rfl (x2x fun K12 hK12 => ?_)
  refine exR (x4x rfl (a1o rfl u8u rfl rfl (List.length_map _) ?_))
  refine a0h (b := 1) rfl rfl (by (simp; done)) (by (simp; omega)) ?_
  refine x1x rfl (y0y ?_)
  refine z2z (ι := Nat × Ev) (fun q γ4 => [(6, pI (q.1 : Int))]) (fun q γ4 => [(0, ((γ1 0 + 1), .row 56 7 (((p0p (l.take i)).take q.1 ++ q.2 :: (p0p (l.take i)).drop q.1).map v4v)))]) (fun q => k ≤ q.1 ∧ q.1 ≤ (p0p (l.take i)).length) (fun q => q.1) (cK [0, 3, 4, 5] rfl) (hK [1, 2] rfl) ((p0p (l.take i)).length, x) ⟨c1, Nat.le_refl _⟩ [] (Cov.cons' (t := 6) rfl (by simp) Cov.nil) (HE.row rfl (by rw [List.take_length, List.drop_length]) HE.nil) rfl fun q γ4 hi => ?_
  obtain ⟨m, u⟩ := q
  obtain ⟨m1, m2⟩ := hi
  dsimp only at m1 m2 ⊢
  refine x2x fun K13 hK13 => ?_
  refine exA 3 rfl rfl (y4y rfl ?_ ?_)<;>intro o<;>try simp at o
  ·obtain rfl : k = m := by omega
   refine z5z (hK12 _ _ (exG (x0x 4 rfl rfl (y8y rfl rfl u8u rfl z6z rfl hx (u5u rfl z6z rfl rfl ?_)))))
   refine v0v (j := k) rfl rfl u8u rfl z6z rfl rfl (v2v (c9i c1)) ?_
   refine q0q (el' := x) rfl rfl z6z rfl rfl rfl (c9i c1) rfl (a6o _) rfl rfl ?_
   refine hK4 _ _ (exG (x4x rfl (z4z (b := 1) rfl rfl (by omega) (x1x rfl ?_))))
   exact ⟨i + 1, ⟨by omega, by omega⟩, [_, _, _], cv, cv, (HE.row rfl (by rw [hin, d9e c1]) (HE.kill rfl (HE.kill rfl HE.nil))), hv, rfl⟩
  obtain ⟨z, hz⟩ := gE (p0p (l.take i)) (m - 1)
  refine x7x (hK13 _ _ (x2x fun K15 hK15 => ?_))
  refine y0y (exG (x0x 4 rfl rfl (a0h (b := 1) rfl rfl (by omega) (by omega) ?_)))
  refine v0v (j := m - 1) rfl rfl u8u rfl z6z rfl rfl (v2v (d3p m2 (by omega) hz)) ?_
  refine p8p rfl z6z rfl (d3p m2 (by omega) hz) rfl rfl ?_
  refine v0v (j := m) rfl rfl u8u rfl z6z rfl rfl (v2v (c9i m2)) ?_
  refine q0q (el' := z) rfl rfl z6z rfl rfl rfl (c9i m2) rfl (a6o _) rfl rfl ?_
  refine hK15 _ _ (exG (x4x rfl (a0h (b := 1) rfl rfl (by omega) (by omega) (x1x rfl ?_))))
  exact ⟨(m - 1, z), ⟨⟨by dsimp only; omega, by dsimp only; omega⟩, (by dsimp only; omega)⟩, [], cv, cv, (HE.row rfl (by rw [e6c m2 (by omega) hz]) HE.nil), hv, rfl⟩
end
section
theorem a4v (c : Bool) (n : Nd) (proc : Int) (hs : (a1l n).length + (a0i n 3).length ≤ 5000000) (hlen : n.lanes.length ≤ 1048576) (hv3 : n.views.length = 3) : a1p Tryz.prog 124 [.agg (w5w c n), .pv (.int .i64 proc)] (a1m true (r7r n proc)) := by
 refine pX Tryz.f124 [a1m true (r7r n proc)] 6 ?_
 have hla : (a1l n ++ a0i n 3).length = (a1l n).length + (a0i n 3).length := List.length_append
 refine exR (u0u (id := 0) rfl rfl rfl (x1x rfl (exR (x5x rfl y5y rfl rfl rfl ?_))))
 refine rlM [5] [_] (b4s c n (by omega) hlen) rfl rfl rfl ?_
 refine x1x rfl (x2x fun K1 hK1 => ?_)
 refine exR (x1x rfl (y0y ?_))
 refine z2z (ι := Nat) (fun i γ1 => [(5, .ref 5 (γ1 5)), (6, pI (i : Int))]) (fun i γ1 => [(5, ((γ1 5), .row 56 7 ((a1l n ++ a0i n i).map v4v))), (1, ((γ1 1), .dead))]) (fun i => i ≤ 3) (fun i => 3 - i) (cK [1, 2] rfl) (hK [0, 2, 3, 4] rfl) 0 (by omega) [0, _, 0, 0, 0, _] cv (HE.row rfl (by simp [a0i]) (HE.kill rfl HE.nil)) rfl fun i γ1 hi => ?_
 refine x2x fun K2 hK2 => ?_
 refine exA 3 rfl rfl (z3z rfl a0s rfl (v6v rfl rfl rfl (x8x rfl ?_ ?_)))<;>intro h<;>try simp at h
 ·obtain ⟨v, hv⟩ := gE n.views i
  have hg : n.views.getD i vi0 = v := by rw [List.getD_eq_getElem?_getD, hv]; rfl
  have hol := c1n n (i := i + 1) (by omega)
  rw [a1c] at hol
  refine x7x (hK2 _ _ (x2x fun K4 hK4 => ?_))
  refine y0y (exA 4 rfl rfl (y4y rfl ?_ ?_))<;>intro hc5<;>try simp at hc5
  ·have hve : a9j n i = [] := by rw [a9j, if_pos hc5]
   refine x7x (hK4 _ _ (exG (x4x rfl (p4p rfl rfl rfl (x1x rfl ?_)))))
   exact ⟨i + 1, ⟨by omega, by omega⟩, [0, _, 0, 0, 0, _], (y2y 5 rfl (Cov.cons' (t := 6) rfl (by rw [u3u (by omega) (by omega)]; rfl) Cov.nil)), (y2y 1 rfl (y2y 2 rfl Cov.nil)), (HE.row rfl (by rw [a1c, hve]; simp) (HE.kill rfl HE.nil)), (y6y 0 rfl (y6y 2 rfl (y6y 3 rfl (y6y 4 rfl HE.nil)))), rfl⟩
  have hve : a9j n i = v.events := by rw [a9j, if_neg hc5, hg]
  rw [hve] at hol
  simp only [a0o] at hol
  refine exG (x0x 4 rfl rfl (y8y rfl rfl a0s rfl q8q rfl hv (x0x 2 rfl rfl ?_)))
  refine s1s (zs := (a1l n ++ a0i n i ++ v.events).map v4v) rfl rfl u8u rfl z6z rfl rfl rfl (w2w (fun _ => rfl) _) (a8g _ _ _) (by have hb56 : T56.bytes = 56 := rfl; rw [List.length_map, hb56]; simp only [a0o, a0x, a0z]; omega) ?_
  refine x1x rfl (hK4 _ _ (exG (x4x rfl (p4p rfl rfl rfl (x1x rfl ?_)))))
  exact ⟨i + 1, ⟨by omega, by omega⟩, [0, _, 0, 0, 0, _], (y2y 5 rfl (Cov.cons' (t := 6) rfl (by rw [u3u (by omega) (by omega)]; rfl) Cov.nil)), (y2y 1 rfl (y2y 2 rfl Cov.nil)), (HE.row rfl (by rw [a1c, hve]; simp) (HE.kill rfl HE.nil)), (y6y 0 rfl (y6y 2 rfl (y6y 3 rfl (y6y 4 rfl HE.nil)))), rfl⟩
 obtain rfl : i = 3 := by omega
 have hall : (a1l n ++ a0i n 3).length ≤ 5000000 := by rw [List.length_append]; omega
 refine z5z (hK1 _ _ (a0k 5 rfl rfl (fun _ => rfl) ?_))
 refine exR (z9z (id := 2) u8u rfl z6z rfl (x1x rfl (x2x fun K6 hK6 => ?_)))
 refine exR (x1x rfl (y0y ?_))
 refine z2z (ι := Nat) (fun j γ2 => [(7, .ref 2 (γ2 2)), (8, pI (j : Int))]) (fun j γ2 => [(2, ((γ2 2), .row 56 7 ((((a1l n ++ a0i n 3).take j).filter (a8j proc n.g)).map v4v))), (3, ((γ2 3), .dead)), (4, ((γ2 4), .dead))]) (fun j => j ≤ (a1l n ++ a0i n 3).length) (fun j => (a1l n ++ a0i n 3).length - j) (cK [1, 2, 5] rfl) (hK [0, 1, 5] rfl) 0 (by omega) [0, 0, _, _, _] cv (HE.row rfl (by rw [List.take_zero]; rfl) (HE.kill rfl (HE.kill rfl HE.nil))) rfl fun j γ2 hi => ?_
 refine x2x fun K7 hK7 => ?_
 refine exA 2 rfl rfl (z3z rfl u8u rfl (v6v rfl rfl rfl (y4y rfl ?_ ?_)))<;>intro h<;>try simp at h
 ·obtain rfl : j = (a1l n ++ a0i n 3).length := by omega
  rw [List.take_length]
  refine z5z (hK6 _ _ (a0k 7 rfl rfl (fun _ => rfl) ?_))
  refine exR (x4x rfl (x9x rfl rfl rfl (a2h true ((a1l n ++ a0i n 3).filter (a8j proc n.g)) (Nat.le_trans (List.length_filter_le _ _) (by rw [List.length_append]; omega))) ?_))
  refine x1x rfl (x6x ⟨.inr rfl, ?_⟩)
  refine y9y rfl rfl rfl
 obtain ⟨p, hp⟩ := gE (a1l n ++ a0i n 3) j
 have hfl : (((a1l n ++ a0i n 3).take j).filter (a8j proc n.g)).length ≤ 5000000 := Nat.le_trans (List.length_filter_le _ _) (by rw [List.length_take]; omega)
 refine x7x (hK7 _ _ (x2x fun K9 hK9 => ?_))
 refine y0y (exD (x0x 2 rfl rfl (y8y rfl rfl u8u rfl z6z rfl hp (x0x 5 rfl rfl (z8z rfl rfl ?_ ?_)))))<;>intro hg10<;>try simp at hg10
 ·have hw : ¬ a8j proc n.g p = true := by simp only [a8j, decide_eq_true_eq]; omega
  refine x0x 8 rfl rfl ⟨by kernel_rfl, x8x rfl (fun hc12 => ?_) (fun hc12 => ?_)⟩
  ·simp at hc12
  try simp at hc12
  try have hw : ¬ a8j proc n.g p = true := by simp only [a8j, decide_eq_true_eq]; omega
  refine x7x (hK9 _ _ (exG (x4x rfl (p4p rfl rfl rfl (x1x rfl ?_)))))
  exact ⟨j + 1, ⟨by omega, by omega⟩, [0, 0, _, _, _], (y2y 7 rfl (Cov.cons' (t := 8) rfl (by rw [u3u (by omega) (by omega)]; rfl) Cov.nil)), cv, (HE.row rfl (by rw [a1d hp]; rw [if_neg hw, List.append_nil]) (HE.kill rfl (HE.kill rfl HE.nil))), hv, rfl⟩
 have hw1 : p.to = proc := hg10
 refine x0x 2 rfl rfl (z1z rfl rfl (y8y rfl rfl u8u rfl z6z rfl hp (x0x 6 rfl rfl ⟨by kernel_rfl, y4y rfl ?_ ?_⟩)))<;>intro h<;>try simp at h
 ·try have hw : ¬ a8j proc n.g p = true := by simp only [a8j, decide_eq_true_eq]; omega
  refine x7x (hK9 _ _ (exG (x4x rfl (p4p rfl rfl rfl (x1x rfl ?_)))))
  exact ⟨j + 1, ⟨by omega, by omega⟩, [0, 0, _, _, _], (y2y 7 rfl (Cov.cons' (t := 8) rfl (by rw [u3u (by omega) (by omega)]; rfl) Cov.nil)), cv, (HE.row rfl (by rw [a1d hp]; rw [if_neg hw, List.append_nil]) (HE.kill rfl (HE.kill rfl HE.nil))), hv, rfl⟩
 have hw : a8j proc n.g p = true := by simp only [a8j, decide_eq_true_eq]; omega
 refine exG (x0x 3 rfl rfl (y8y rfl rfl u8u rfl z6z rfl hp (u5u rfl z6z rfl rfl (u4u (id := 3) u8u rfl z6z rfl rfl rfl rfl rfl rfl ?_))))
 refine u6u (zs := (((a1l n ++ a0i n 3).take j).filter (a8j proc n.g) ++ [p]).map v4v) rfl rfl u8u rfl z6z rfl rfl rfl rfl (by rfl) (w4w _ _ _) (by have hb56 : T56.bytes = 56 := rfl; rw [List.length_map, hb56]; simp only [a0o, a0x, a0z]; omega) ?_
 refine x1x rfl (hK9 _ _ (exG (x4x rfl (p4p rfl rfl rfl (x1x rfl ?_)))))
 exact ⟨j + 1, ⟨by omega, by omega⟩, [0, 0, _, _, _], (y2y 7 rfl (Cov.cons' (t := 8) rfl (by rw [u3u (by omega) (by omega)]; rfl) Cov.nil)), cv, (HE.row rfl (by rw [a1d hp]; rw [if_pos hw]) (HE.kill rfl (HE.kill rfl HE.nil))), hv, rfl⟩
end
section
theorem q9q (c : Bool) (n : Nd) : a1p Tryz.prog 46 [.agg (w5w c n)] (.pv (.bool (kb (u1u n)))) := by
 refine pX Tryz.f46 [.pv (.bool (kb (u1u n)))] 1 ?_
 have hpl := a5w n.id 4
 refine exR (u0u (id := 0) rfl rfl rfl (x1x rfl (x2x fun K1 hK1 => ?_)))
 refine exD (x0x 2 rfl rfl (x9x rfl rfl rfl (u7u ..) (x0x 2 rfl rfl (z8z rfl rfl ?_ ?_))))<;>intro hg2<;>try simp at hg2
 ·have hX : ¬ (0 ≤ n.id ∧ n.id ≤ 2) := by omega
  refine x0x 36 rfl rfl ⟨by kernel_rfl, x8x rfl (fun hc33 => ?_) (fun hc33 => ?_)⟩
  rotate_left
  ·simp at hc33
  try simp at hc33
  try have hX : ¬ a9i n := a0v (by simpa using hc33)
  refine exR (x1x rfl (x6x ⟨.inr rfl, ?_⟩))
  refine y9y rfl ?_ rfl
  exact congrArg (fun b : Bool => [AV.pv (.bool b)]) (a5o (fun h => by obtain ⟨⟨q1, q2, q3, q4, q5, q6, q7, q8, q9⟩, q0⟩ := h; exact hX q1.1))
 have f1 : 0 ≤ n.id ∧ n.id ≤ 2 := hg2
 refine x0x 2 rfl rfl (z1z rfl rfl (x9x rfl rfl rfl (w0w ..) (z1z rfl rfl (x9x rfl rfl rfl (u7u ..) (x0x 3 rfl rfl (z8z rfl rfl ?_ ?_))))))<;>intro hg3<;>try simp at hg3
 ·have hX : ¬ (1 ≤ n.inc ∧ n.inc ≤ 9999) := by omega
  refine x0x 29 rfl rfl ⟨by kernel_rfl, x8x rfl (fun hc32 => ?_) (fun hc32 => ?_)⟩
  rotate_left
  ·simp at hc32
  try simp at hc32
  try have hX : ¬ a9i n := a0v (by simpa using hc32)
  refine exR (x1x rfl (x6x ⟨.inr rfl, ?_⟩))
  refine y9y rfl ?_ rfl
  exact congrArg (fun b : Bool => [AV.pv (.bool b)]) (a5o (fun h => by obtain ⟨⟨q1, q2, q3, q4, q5, q6, q7, q8, q9⟩, q0⟩ := h; exact hX q1.2.1))
 have f2 : 1 ≤ n.inc ∧ n.inc ≤ 9999 := hg3
 refine x0x 2 rfl rfl (z1z rfl rfl (x9x rfl rfl rfl (u7u ..) (x0x 3 rfl rfl (z8z rfl rfl ?_ ?_))))<;>intro hg4<;>try simp at hg4
 ·have hX : ¬ (0 ≤ n.g ∧ n.g ≤ 41) := by omega
  refine x0x 23 rfl rfl ⟨by kernel_rfl, x8x rfl (fun hc31 => ?_) (fun hc31 => ?_)⟩
  rotate_left
  ·simp at hc31
  try simp at hc31
  try have hX : ¬ a9i n := a0v (by simpa using hc31)
  refine exR (x1x rfl (x6x ⟨.inr rfl, ?_⟩))
  refine y9y rfl ?_ rfl
  exact congrArg (fun b : Bool => [AV.pv (.bool b)]) (a5o (fun h => by obtain ⟨⟨q1, q2, q3, q4, q5, q6, q7, q8, q9⟩, q0⟩ := h; exact hX q1.2.2.1))
 have f3 : 0 ≤ n.g ∧ n.g ≤ 41 := hg4
 refine x0x 2 rfl rfl (z1z rfl rfl (x9x rfl rfl rfl (w0w ..) (z1z rfl rfl (x9x rfl rfl rfl (u7u ..) (x0x 3 rfl rfl (z8z rfl rfl ?_ ?_))))))<;>intro hg5<;>try simp at hg5
 ·have hX : ¬ (0 ≤ n.led ∧ n.led ≤ 9999) := by omega
  refine x0x 16 rfl rfl ⟨by kernel_rfl, x8x rfl (fun hc30 => ?_) (fun hc30 => ?_)⟩
  rotate_left
  ·simp at hc30
  try simp at hc30
  try have hX : ¬ a9i n := a0v (by simpa using hc30)
  refine exR (x1x rfl (x6x ⟨.inr rfl, ?_⟩))
  refine y9y rfl ?_ rfl
  exact congrArg (fun b : Bool => [AV.pv (.bool b)]) (a5o (fun h => by obtain ⟨⟨q1, q2, q3, q4, q5, q6, q7, q8, q9⟩, q0⟩ := h; exact hX q1.2.2.2.1))
 have f4 : 0 ≤ n.led ∧ n.led ≤ 9999 := hg5
 refine x0x 2 rfl rfl (z1z rfl rfl (x9x rfl rfl rfl (a4i ..) (z1z rfl rfl (x9x rfl rfl rfl (a4d ..) (x0x 3 rfl rfl (z8z rfl rfl ?_ ?_))))))<;>intro hg6<;>try simp at hg6
 ·have hX : ¬ a7r okE a3e n.kept 100 = true := by simpa using hg6
  refine x0x 9 rfl rfl ⟨by kernel_rfl, x8x rfl (fun hc29 => ?_) (fun hc29 => ?_)⟩
  rotate_left
  ·simp at hc29
  try simp at hc29
  try have hX : ¬ a9i n := a0v (by simpa using hc29)
  refine exR (x1x rfl (x6x ⟨.inr rfl, ?_⟩))
  refine y9y rfl ?_ rfl
  exact congrArg (fun b : Bool => [AV.pv (.bool b)]) (a5o (fun h => by obtain ⟨⟨q1, q2, q3, q4, q5, q6, q7, q8, q9⟩, q0⟩ := h; exact hX q2))
 have f5 : a7r okE a3e n.kept 100 = true := hg6
 refine x0x 2 rfl rfl (z1z rfl rfl (x9x rfl rfl rfl (a7v ..) (x0x 3 rfl rfl (z8z rfl rfl ?_ ?_))))<;>intro hg7<;>try simp at hg7
 ·have hX : ¬ a7r okO b0y n.outs 96 = true := by simpa using hg7
  refine x0x 3 rfl rfl ⟨by kernel_rfl, x8x rfl (fun hc28 => ?_) (fun hc28 => ?_)⟩
  rotate_left
  ·simp at hc28
  try simp at hc28
  try have hX : ¬ a9i n := a0v (by simpa using hc28)
  refine exR (x1x rfl (x6x ⟨.inr rfl, ?_⟩))
  refine y9y rfl ?_ rfl
  exact congrArg (fun b : Bool => [AV.pv (.bool b)]) (a5o (fun h => by obtain ⟨⟨q1, q2, q3, q4, q5, q6, q7, q8, q9⟩, q0⟩ := h; exact hX q3))
 have f6 : a7r okO b0y n.outs 96 = true := hg7
 refine x5x rfl y5y rfl rfl rfl (z1z rfl rfl (x9x rfl rfl rfl (c2l ..) (x0x 2 rfl rfl ⟨by kernel_rfl, x8x rfl ?_ ?_⟩)))<;>intro hc8<;>try simp at hc8
 ·try have hX : ¬ a9i n := a0v (by simpa using hc8)
  refine exR (x1x rfl (x6x ⟨.inr rfl, ?_⟩))
  refine y9y rfl ?_ rfl
  exact congrArg (fun b : Bool => [AV.pv (.bool b)]) (a5o (fun h => by obtain ⟨⟨q1, q2, q3, q4, q5, q6, q7, q8, q9⟩, q0⟩ := h; exact hX ⟨q6, q7, q1.2.2.2.2.1, q1.2.2.2.2.2.1, q1.2.2.2.2.2.2, q9⟩))
 have fF : a9i n := a1x.1 (by simpa using hc8)
 have fo96 := (s7s f6).1
 refine x7x (hK1 _ _ ?_)
 refine a0c (ι := Unit) (fun _i γ1 => []) (fun _i γ1 => []) (fun _i => ∀ (i : Nat) a, n.outs[i]? = some a → a.time < n.g) (y2y 1 rfl Cov.nil) (y6y 0 rfl HE.nil) ?_ fun _i γ1 hi => ?_
 ·refine exD (x0x 2 rfl rfl (z3z rfl r3r rfl (x0x 2 rfl rfl (z8z rfl rfl ?_ ?_))))<;>intro hg9<;>try simp at hg9
  ·have g0 : n.outs.length = 0 := by (rw [hg9]; rfl)
   have fO : ∀ (i : Nat) a, n.outs[i]? = some a → a.time < n.g := fun i a ha => by have := (List.getElem?_eq_some_iff.1 ha).1; omega
   refine x0x 12 rfl rfl ⟨by kernel_rfl, x8x rfl (fun hc11 => ?_) (fun hc11 => ?_)⟩
   ·simp at hc11
   try simp at hc11
   try have fO : ∀ (i : Nat) a, n.outs[i]? = some a → a.time < n.g := c9j f6 ho (by omega)
   refine x7x ?_
   exact ⟨(), fO, [], cv, cv, hv, hv, rfl⟩
  have g0 : 0 < n.outs.length := by omega
  obtain ⟨o, ho⟩ := gE n.outs (n.outs.length - 1)
  refine x0x 4 rfl rfl (z1z rfl rfl (z3z rfl r3r rfl (z1z rfl rfl (a0h (b := 1) rfl rfl (by omega) (by omega) (z1z rfl rfl (y8y rfl rfl r3r rfl w7w rfl ho (x0x 6 rfl rfl ⟨by kernel_rfl, y4y rfl ?_ ?_⟩)))))))<;>intro u<;>try simp at u
  ·try have fO : ∀ (i : Nat) a, n.outs[i]? = some a → a.time < n.g := c9j f6 ho (by omega)
   refine x7x ?_
   exact ⟨(), fO, [], cv, cv, hv, hv, rfl⟩
  have hX : ¬ o.time < n.g := by omega
  refine exR (x1x rfl (x6x ⟨.inr rfl, ?_⟩))
  refine y9y rfl ?_ rfl
  exact congrArg (fun b : Bool => [AV.pv (.bool b)]) (a5o (fun h => by obtain ⟨⟨q1, q2, q3, q4, q5, q6, q7, q8, q9⟩, q0⟩ := h; exact hX (q4 _ _ ho)))
 ·try dsimp only [b2z, b3a]
  have fO := hi
  refine exA 2 rfl rfl (x9x rfl rfl rfl (b3g ..) (x1x rfl (x2x fun K12 hK12 => ?_)))
  refine exA 2 rfl rfl (z3z rfl r6r rfl (x4x rfl (z3z rfl r6r rfl (v6v rfl rfl rfl (x8x rfl ?_ ?_)))))<;>intro u<;>try simp at u
  ·refine exR (x1x rfl (x6x ⟨.inr rfl, ?_⟩))
   refine y9y rfl ?_ rfl
   exact congrArg (fun b : Bool => [AV.pv (.bool b)]) (a5o (fun h => by obtain ⟨⟨q1, q2, q3, q4, q5, q6, q7, q8, q9⟩, q0⟩ := h; omega))
  have fL : n.lanes.length = (s3s n.id 4).length := by omega
  refine x7x (hK12 _ _ (x2x fun K14 hK14 => ?_))
  refine exR (x1x rfl (y0y ?_))
  refine z2z (ι := Nat) (fun i γ2 => [(4, pI (i : Int))]) (fun i γ2 => []) (fun i => i ≤ (s3s n.id 4).length ∧ c7t n.lanes (fun j l => (s3s n.id 4)[j]? = some l.proc ∧ a6q l = true) i) (fun i => (s3s n.id 4).length - i) (cK [1, 3] rfl) (y6y 0 rfl HE.nil) 0 ⟨by omega, a2j⟩ [] cv hv rfl fun i γ2 hi => ?_
  obtain ⟨b1, b2⟩ := hi
  refine x2x fun K15 hK15 => ?_
  refine exA 2 rfl rfl (z3z rfl r6r rfl (v6v rfl rfl rfl (x8x rfl ?_ ?_)))<;>intro u<;>try simp at u
  ·obtain ⟨l, hl⟩ := gE n.lanes i
   obtain ⟨p, hp⟩ := gE (s3s n.id 4) i
   refine x7x (hK15 _ _ (x2x fun K17 hK17 => ?_))
   refine y0y (exD (x0x 3 rfl rfl (y8y rfl rfl r6r rfl v7v rfl hl (u5u rfl v7v rfl rfl (x9x rfl rfl rfl (a4j ..) (x0x 2 rfl rfl (z8z rfl rfl ?_ ?_)))))))<;>intro hg18<;>try simp at hg18
   ·have hX : ¬ a6q l = true := by simpa using hg18
    refine x0x 12 rfl rfl ⟨by kernel_rfl, x8x rfl (fun hc20 => ?_) (fun hc20 => ?_)⟩
    rotate_left
    ·simp at hc20
    try simp at hc20
    try have hX : ¬ l.proc = p := by first | exact hc20 | (simpa [b1z] using hc20)
    refine exR (x1x rfl (x6x ⟨.inr rfl, ?_⟩))
    refine y9y rfl ?_ rfl
    exact congrArg (fun b : Bool => [AV.pv (.bool b)]) (a5o (fun h => by obtain ⟨⟨q1, q2, q3, q4, q5, q6, q7, q8, q9⟩, q0⟩ := h; exact hX (q8 _ _ hl).2))
   have hlo : a6q l = true := hg18
   refine x0x 3 rfl rfl (z1z rfl rfl (y8y rfl rfl r6r rfl v7v rfl hl (x0x 4 rfl rfl (z1z rfl rfl (y8y rfl rfl r6r rfl v7v rfl hp (x0x 4 rfl rfl ⟨by kernel_rfl, y4y rfl ?_ ?_⟩))))))<;>intro hc19<;>try simp at hc19
   ·have hpe : l.proc = p := hc19
    refine x7x (hK17 _ _ (exG (x4x rfl (z4z (b := 1) rfl rfl (by omega) (x1x rfl ?_)))))
    exact ⟨i + 1, ⟨⟨by omega, a0l b2 hl ⟨by rw [hp, hpe], hlo⟩⟩, by omega⟩, [], cv, cv, hv, hv, rfl⟩
   try have hX : ¬ l.proc = p := hc19
   refine exR (x1x rfl (x6x ⟨.inr rfl, ?_⟩))
   refine y9y rfl ?_ rfl
   exact congrArg (fun b : Bool => [AV.pv (.bool b)]) (a5o (fun h => by obtain ⟨⟨q1, q2, q3, q4, q5, q6, q7, q8, q9⟩, q0⟩ := h; have := (q8 _ _ hl).1; rw [hp] at this; exact hX (Option.some.inj this).symm))
  have fN : e3j n := a3t b2 (by omega)
  refine z5z (hK14 _ _ (x2x fun K21 hK21 => ?_))
  refine exR (x1x rfl (y0y ?_))
  refine z2z (ι := Nat) (fun j γ3 => [(5, pI (j : Int))]) (fun j γ3 => []) (fun j => j ≤ (s3s n.id 4).length ∧ c7t n.lanes (fun j l => ∀ p, (s3s n.id 4)[j]? = some p → l.done.length ≤ same l.done (r7r n p) ∧ (r7r n p).length ≤ 100) j) (fun j => (s3s n.id 4).length - j) (cK [1, 3] rfl) (y6y 0 rfl HE.nil) 0 ⟨by omega, a2j⟩ [] cv hv rfl fun j γ3 hi => ?_
  obtain ⟨d1, d2⟩ := hi
  refine x2x fun K22 hK22 => ?_
  refine exA 2 rfl rfl (z3z rfl r6r rfl (v6v rfl rfl rfl (y4y rfl ?_ ?_)))<;>intro u<;>try simp at u
  ·have fC := fun (i : Nat) p l (a : (s3s n.id 4)[i]? = some p) (b : n.lanes[i]? = some l) => a3t d2 (by omega) i l b p a
   refine z5z (hK21 _ _ (exR (x1x rfl (x6x ⟨.inr rfl, ?_⟩))))
   refine y9y rfl ?_ rfl
   exact congrArg (fun b : Bool => [AV.pv (.bool b)]) (d9a ⟨⟨⟨f1, f2, f3, f4, fF.2.2.1, fF.2.2.2.1, fF.2.2.2.2.1⟩, f5, f6, fO, fL, fF.1, fF.2.1, fN, fF.2.2.2.2.2⟩, fC⟩)
  obtain ⟨l, hl⟩ := gE n.lanes j
  obtain ⟨p, hp⟩ := gE (s3s n.id 4) j
  obtain ⟨hdl, _⟩ := a3m (fN j l hl).2
  refine x7x (hK22 _ _ (x2x fun K24 hK24 => ?_))
  refine y0y (exD (x0x 3 rfl rfl (y8y rfl rfl r6r rfl v7v rfl hl (x0x 4 rfl rfl (y8y rfl rfl r6r rfl v7v rfl hp (x0x 2 rfl rfl ?_))))))
  refine x9x rfl rfl rfl (a4v c n p (by have := c6q f5 (by omega) fN; have := c6r fF.1 fF.2.1 fF.2.2.2.2.2; omega) (by omega) fF.1) ?_
  refine x9x rfl rfl rfl (a9n ..) (x0x 3 rfl rfl (y8y rfl rfl r6r rfl v7v rfl hl (x0x 2 rfl rfl (z3z rfl r8r rfl (x0x 2 rfl rfl (z8z rfl rfl ?_ ?_))))))<;>intro u<;>try simp at u
  ·refine x0x 10 rfl rfl ⟨by kernel_rfl, x8x rfl (fun hc27 => ?_) (fun hc27 => ?_)⟩
   rotate_left
   ·simp at hc27
   try simp at hc27
   refine exR (x1x rfl (x6x ⟨.inr rfl, ?_⟩))
   refine y9y rfl ?_ rfl
   exact congrArg (fun b : Bool => [AV.pv (.bool b)]) (a5o (fun h => by obtain ⟨⟨q1, q2, q3, q4, q5, q6, q7, q8, q9⟩, q0⟩ := h; have := q0 _ _ _ hp hl; omega))
  refine x0x 3 rfl rfl (z1z rfl rfl (y8y rfl rfl r6r rfl v7v rfl hp (x0x 2 rfl rfl (z1z rfl rfl ?_))))
  refine x9x rfl rfl rfl (a4v c n p (by have := c6q f5 (by omega) fN; have := c6r fF.1 fF.2.1 fF.2.2.2.2.2; omega) (by omega) fF.1) ?_
  refine z1z rfl rfl (z3z rfl u8u rfl (z1z rfl rfl (x9x rfl rfl rfl (a4i ..) (x0x 2 rfl rfl ⟨by kernel_rfl, y4y rfl ?_ ?_⟩))))<;>intro u<;>try simp at u
  ·refine x7x (hK24 _ _ (exG (x4x rfl (z4z (b := 1) rfl rfl (by omega) (x1x rfl ?_)))))
   exact ⟨j + 1, ⟨⟨by omega, a0l d2 hl (fun p2 hp2 => by rw [hp] at hp2; cases hp2; omega)⟩, by omega⟩, [], cv, cv, hv, hv, rfl⟩
  refine exR (x1x rfl (x6x ⟨.inr rfl, ?_⟩))
  refine y9y rfl ?_ rfl
  exact congrArg (fun b : Bool => [AV.pv (.bool b)]) (a5o (fun h => by obtain ⟨⟨q1, q2, q3, q4, q5, q6, q7, q8, q9⟩, q0⟩ := h; have := q0 _ _ _ hp hl; omega))
end
section
theorem c3y (c c' : Bool) (l : La) (s : List Ev) : a1p Tryz.prog 291 [.agg (a0f c l), a1m c' s] (.pv (.bool (kb (b0i l s)))) := by
 refine pX Tryz.f291 [.pv (.bool (kb (b0i l s)))] 1 ?_
 refine exR (u0u (id := 0) rfl rfl rfl (x1x rfl (x2x fun K1 hK1 => ?_)))
 refine exR (x4x rfl (x9x rfl rfl rfl (a4i ..) (x9x rfl rfl rfl (a4d ..) (a1w rfl (x8x rfl ?_ ?_)))))<;>intro hc2<;>try simp at hc2
 ·try have hX : ¬ a7r okE a3e s 100 = true := by simpa using hc2
  refine exR (x1x rfl (x6x ⟨.inr rfl, ?_⟩))
  refine y9y rfl ?_ rfl
  exact congrArg (fun b : Bool => [AV.pv (.bool b)]) (a5o (fun h => hX h.1))
 have hA : a7r okE a3e s 100 = true := hc2
 refine x7x (hK1 _ _ (x2x fun K3 hK3 => ?_))
 refine exR (x1x rfl (y0y (r1r 1 rfl fun hlen => ?_)))
 refine z2z (ι := Nat) (fun i γ1 => [(5, pI (i : Int))]) (fun i γ1 => []) (fun i => i ≤ s.length ∧ c7t s (fun _ e => e.to = l.proc) i) (fun i => s.length - i) (cK [1, 2] rfl) (y6y 0 rfl HE.nil) 0 ⟨by omega, a2j⟩ [] cv hv rfl fun i γ1 hi => ?_
 obtain ⟨h1, h2⟩ := hi
 refine x2x fun K4 hK4 => ?_
 refine exA 2 rfl rfl (z3z rfl u8u rfl (v6v rfl rfl rfl (y4y rfl ?_ ?_)))<;>intro j<;>try simp at j
 ·have hall := a3t h2 (by omega)
  refine z5z (hK3 _ _ (exR (x1x rfl (x6x ⟨.inr rfl, ?_⟩))))
  refine y9y rfl ?_ rfl
  exact congrArg (fun b : Bool => [AV.pv (.bool b)]) (d9a ⟨hA, fun e he => by obtain ⟨i, hi⟩ := List.getElem?_of_mem he; exact hall i e hi⟩)
 obtain ⟨e, he⟩ := gE s i
 refine x7x (hK4 _ _ (x2x fun K6 hK6 => ?_))
 refine y0y (exD (x0x 2 rfl rfl (y8y rfl rfl u8u rfl z6z rfl he (x0x 5 rfl rfl ⟨by kernel_rfl, y4y rfl ?_ ?_⟩))))<;>intro j<;>try simp at j
 ·have hto : e.to = l.proc := by omega
  refine x7x (hK6 _ _ (exG (x4x rfl (z4z (b := 1) rfl rfl (by omega) (x1x rfl ?_)))))
  exact ⟨i + 1, ⟨⟨by omega, a0l h2 he hto⟩, by omega⟩, [], cv, cv, hv, hv, rfl⟩
 have hX : ¬ e.to = l.proc := by omega
 refine exR (x1x rfl (x6x ⟨.inr rfl, ?_⟩))
 refine y9y rfl ?_ rfl
 exact congrArg (fun b : Bool => [AV.pv (.bool b)]) (a5o (fun h => hX (h.2 e (List.mem_of_getElem? he))))
theorem b3h (c c' : Bool) (l : La) (s : List Ev) : a1p Tryz.prog 241 [.agg (a0f c l), a1m c' s] (.tup [.agg (v4v (b2c l s).1), .pv (.bool (b2c l s).2)]) := by
 refine pX Tryz.f241 [.agg (v4v (b2c l s).1), .pv (.bool (b2c l s).2)] 2 ?_
 have hsm := b7c l.done s
 refine exR (u0u (id := 0) rfl rfl rfl (y7y (id := 1) z6z a6e rfl (x1x rfl (x2x fun K1 hK1 => ?_))))
 refine exR (x5x rfl v7v rfl rfl rfl (x9x rfl rfl rfl (a4j ..) (x0x 2 rfl rfl (z8z rfl rfl ?_ ?_))))<;>intro hg2<;>try simp at hg2
 ·have fX : ¬ (a6q l = true ∧ b0i l s) := fun h => by have := h.1; simp_all
  refine x0x 4 rfl rfl (x8x rfl (fun hc8 => ?_) (fun hc8 => ?_))
  rotate_left
  ·simp at hc8
  try simp at hc8
  refine exR (rlB z6z a6e ?_)
  refine x3x rfl rfl z6z rfl rfl rfl rfl (x1x rfl (x6x ⟨.inr rfl, ?_⟩))
  (rw [d1m fX]; exact ⟨_, _, rfl, .agg rfl (.cl rfl (.cl rfl (.cl rfl (.cl rfl (.cl rfl (.cl rfl (.cl rfl .nil))))))) (.cl rfl .nil)⟩)
 have fL : a6q l = true := hg2
 refine x0x 2 rfl rfl (z1z rfl rfl (x9x rfl rfl rfl (c3y ..) (x0x 2 rfl rfl (x8x rfl ?_ ?_))))<;>intro hc3<;>try simp at hc3
 ·have fX : ¬ (a6q l = true ∧ b0i l s) := fun h => a0v (by simpa using hc3) h.2
  refine exR (rlB z6z a6e ?_)
  refine x3x rfl rfl z6z rfl rfl rfl rfl (x1x rfl (x6x ⟨.inr rfl, ?_⟩))
  (rw [d1m fX]; exact ⟨_, _, rfl, .agg rfl (.cl rfl (.cl rfl (.cl rfl (.cl rfl (.cl rfl (.cl rfl (.cl rfl .nil))))))) (.cl rfl .nil)⟩)
 have fF : a6q l = true ∧ b0i l s := ⟨fL, a1x.1 (by simpa using hc3)⟩
 refine x7x (hK1 _ _ (exA 2 rfl rfl (x9x rfl rfl rfl (a9n ..) (x1x rfl (x2x fun K4 hK4 => ?_)))))
 refine r1r 1 rfl fun hlen => ?_
 refine exA 3 rfl rfl (z3z rfl r8r rfl (x0x 2 rfl rfl (z8z rfl rfl ?_ ?_)))<;>intro j<;>try simp at j
 ·refine x0x 4 rfl rfl (x8x rfl (fun hc7 => ?_) (fun hc7 => ?_))
  rotate_left
  ·simp at hc7
  try simp at hc7
  refine exR (rlB z6z a6e ?_)
  refine x3x rfl rfl z6z rfl rfl rfl rfl (x1x rfl (x6x ⟨.inr rfl, ?_⟩))
  (rw [c1s fF, d9j (by omega)]; exact ⟨_, _, rfl, .agg rfl (.cl rfl (.cl rfl (.cl rfl (.cl rfl (.cl rfl (.cl rfl (.cl rfl .nil))))))) (.cl rfl .nil)⟩)
 refine x0x 2 rfl rfl (z1z rfl rfl (z3z rfl u8u rfl (x0x 2 rfl rfl (x8x rfl ?_ ?_))))<;>intro j<;>try simp at j
 ·refine exR (rlB z6z a6e ?_)
  refine x3x rfl rfl z6z rfl rfl rfl rfl (x1x rfl (x6x ⟨.inr rfl, ?_⟩))
  (rw [c1s fF, d9k (by omega)]; exact ⟨_, _, rfl, .agg rfl (.cl rfl (.cl rfl (.cl rfl (.cl rfl (.cl rfl (.cl rfl (.cl rfl .nil))))))) (.cl rfl .nil)⟩)
 have hlt : same l.done s < s.length := by omega
 obtain ⟨e, he⟩ : ∃ e, s[same l.done s]? = some e := ⟨_, List.getElem?_eq_getElem hlt⟩
 refine x7x (hK4 _ _ (exA 2 rfl rfl (y8y rfl rfl u8u rfl z6z rfl he ?_)))
 refine w3w (out := .agg (v4v e)) rfl z6z rfl ?_
 refine x3x rfl rfl z6z rfl rfl rfl rfl (x1x rfl (x6x ⟨.inr rfl, ?_⟩))
 (rw [c1s fF, d1l (by omega) he]; exact ⟨_, _, rfl, .agg rfl (.cl rfl (.cl rfl (.cl rfl (.cl rfl (.cl rfl (.cl rfl (.cl rfl .nil))))))) (.cl rfl .nil)⟩)
end
section
theorem c3z (c : Bool) (n : Nd) (fS : a2n n) (i : Nat) (l : La) (hl : n.lanes[i]? = some l) : a1p Tryz.prog 141 [.agg (w5w c n), .pv (.int .i64 (i : Int))] (.tup [.agg (v4v (b2c l (r7r n l.proc)).1), .pv (.bool (b2c l (r7r n l.proc)).2)]) := by
 refine pX Tryz.f141 [.agg (v4v (b2c l (r7r n l.proc)).1), .pv (.bool (b2c l (r7r n l.proc)).2)] 2 ?_
 have fB := q3q fS
 refine exR (u0u (id := 0) rfl rfl rfl (y7y (id := 1) z6z a6e rfl (x1x rfl (exD (x0x 3 rfl rfl (y8y rfl rfl r6r rfl v7v rfl hl (x0x 5 rfl rfl (y8y rfl rfl r6r rfl v7v rfl hl (x0x 2 rfl rfl (x9x rfl rfl rfl (a4v c n l.proc (a8d fS) (by omega) fS.2.2.2.2.2.1) ?_))))))))))
 refine x9x rfl rfl rfl (b3h c true l (r7r n l.proc)) ?_
 refine x0x 2 rfl rfl (x3x rfl rfl z6z rfl rfl rfl rfl (x1x rfl ⟨by kernel_rfl, x6x ⟨.inr rfl, ?_⟩⟩))
 exact ⟨_, _, rfl, .agg rfl (.cl rfl (.cl rfl (.cl rfl (.cl rfl (.cl rfl (.cl rfl (.cl rfl .nil))))))) (.cl rfl .nil)⟩
theorem a9o (c : Bool) (n : Nd) : a1p Tryz.prog 44 [.agg (w5w c n)] (.pv (.int .i64 (b2t n))) := by
 refine pX Tryz.f44 [.pv (.int .i64 (b2t n))] 2 ?_
 refine exR (u0u (id := 0) rfl rfl rfl (x1x rfl (exR (x1x rfl (x2x fun K1 hK1 => ?_)))))
 refine exR (x5x rfl y5y rfl rfl rfl (x9x rfl rfl rfl (q9q ..) (a1w rfl (x8x rfl ?_ ?_))))<;>intro hc2<;>try simp at hc2
 ·have fX : ¬ u1u n := a0v (by simpa using hc2)
  refine exR (x1x rfl (x6x ⟨.inr rfl, ?_⟩))
  refine y9y rfl ?_ rfl
  exact congrArg (fun v : Int => [AV.pv (.int .i64 v)]) (c9l fX).symm
 have fK : u1u n := a1x.1 (by simpa using hc2)
 have fS := fK.1
 have fB := q3q fS
 refine x7x (hK1 _ _ (x2x fun K3 hK3 => ?_))
 refine exR (x1x rfl (y0y ?_))
 refine z2z (ι := Nat) (fun i γ1 => [(3, pI (a5c n i)), (4, pI (i : Int))]) (fun i γ1 => [(1, ((γ1 1), .dead))]) (fun i => i ≤ n.lanes.length) (fun i => n.lanes.length - i) (y2y 1 rfl Cov.nil) (y6y 0 rfl HE.nil) 0 (by omega) [0, _] cv hv rfl fun i γ1 hi => ?_
 refine x2x fun K4 hK4 => ?_
 refine exA 3 rfl rfl (z3z rfl r6r rfl (v6v rfl rfl rfl (y4y rfl ?_ ?_)))<;>intro j<;>try simp at j
 ·obtain rfl : i = n.lanes.length := by omega
  refine z5z (hK3 _ _ (exA 2 rfl rfl (x6x ⟨.inr rfl, ?_⟩)))
  refine y9y rfl ?_ rfl
  exact congrArg (fun v : Int => [AV.pv (.int .i64 v)]) (b2u fK).symm
 obtain ⟨l, hl⟩ := gE n.lanes i
 have hnc := a8k fK hl
 refine x7x (hK4 _ _ (x2x fun K6 hK6 => ?_))
 refine y0y (exA 2 rfl rfl (x9x rfl rfl rfl (c3z c n fS i l hl) (x0x 3 rfl rfl (y7y (id := 1) z6z a6e rfl (x3x rfl rfl z6z rfl rfl rfl rfl (x1x rfl ?_))))))
 rw [c1s ⟨hnc.2.1, hnc.2.2.1⟩]
 refine exA 2 rfl rfl (z8z rfl rfl ?_ ?_)<;>intro hg7<;>try simp at hg7
 ·have hno : ¬ ((a0n l (r7r n l.proc)).2 = true ∧ (a0n l (r7r n l.proc)).1.time < a5c n i) := fun h => by have := h.1; simp_all
  refine x0x 4 rfl rfl (x8x rfl (fun hc9 => ?_) (fun hc9 => ?_))
  ·simp at hc9
  try simp at hc9
  refine x7x (hK6 _ _ (exG (x4x rfl (z4z (b := 1) rfl rfl (by omega) (x1x rfl ?_)))))
  exact ⟨i + 1, ⟨by omega, by omega⟩, [0, _], (Cov.cons' (t := 3) rfl (congrArg (fun v : Int => AV.pv (.int .i64 v)) (b2s hl hno).symm) (y2y 4 rfl Cov.nil)), cv, hv, hv, rfl⟩
 have h2 : (a0n l (r7r n l.proc)).2 = true := hg7
 refine x0x 5 rfl rfl (y4y rfl ?_ ?_)<;>intro j<;>try simp at j
 ·have hno : ¬ ((a0n l (r7r n l.proc)).2 = true ∧ (a0n l (r7r n l.proc)).1.time < a5c n i) := by (intro h; omega)
  refine x7x (hK6 _ _ (exG (x4x rfl (z4z (b := 1) rfl rfl (by omega) (x1x rfl ?_)))))
  exact ⟨i + 1, ⟨by omega, by omega⟩, [0, _], (Cov.cons' (t := 3) rfl (congrArg (fun v : Int => AV.pv (.int .i64 v)) (b2s hl hno).symm) (y2y 4 rfl Cov.nil)), cv, hv, hv, rfl⟩
 have h3 : (a0n l (r7r n l.proc)).1.time < a5c n i := by omega
 refine exG (x0x 3 rfl rfl (hK6 _ _ (exG (x4x rfl (z4z (b := 1) rfl rfl (by omega) (x1x rfl ?_))))))
 exact ⟨i + 1, ⟨by omega, by omega⟩, [0, _], (Cov.cons' (t := 3) rfl (congrArg (fun v : Int => AV.pv (.int .i64 v)) (b8n hl ⟨h2, h3⟩).symm) (y2y 4 rfl Cov.nil)), cv, hv, hv, rfl⟩
end
section
theorem c4a (c : Bool) (n : Nd) : a1p Tryz.prog 45 [.agg (w5w c n)] (.pv (.int .i64 (b2t n))) := by
 refine pX Tryz.f45 [.pv (.int .i64 (b2t n))] 6 ?_
 refine exR (u0u (id := 0) rfl rfl rfl (x1x rfl (x2x fun K1 hK1 => ?_)))
 refine exR (x5x rfl y5y rfl rfl rfl (x9x rfl rfl rfl (b7k c n) (a1w rfl (x8x rfl ?_ ?_))))<;>intro hc2<;>try simp at hc2
 ·have fX : ¬ u1u n := a0v (by simpa using hc2)
  refine exR (x1x rfl (x6x ⟨.inr rfl, ?_⟩))
  refine y9y rfl ?_ rfl
  exact congrArg (fun v : Int => [AV.pv (.int .i64 v)]) (c9l fX).symm
 have fK : u1u n := a1x.1 (by simpa using hc2)
 have fS := fK.1
 have fB := q3q fS
 have fV := fS.2.2.2.2.2.1
 refine x7x (hK1 _ _ (exR (x5x rfl y5y rfl rfl rfl ?_)))
 refine rlM [1, 2, 3, 4, 5] [_, _, _, _, _] (b1f c n (by omega) (by omega) fS.2.2.2.2.2.2.1) rfl rfl rfl ?_
 refine rlM [1, 2, 3, 4, 5] [_, _, _, _, _] (c2m c n fK) rfl rfl rfl ?_
 refine x1x rfl (x6x ⟨.inr rfl, ?_⟩)
 refine y9y rfl ?_ rfl
 exact congrArg (fun v : Int => [AV.pv (.int .i64 v)]) (b2u fK).symm
theorem a8l (c : Bool) (n : Nd) (p : Int) (fK : u1u n) (hp : a0u p = n.id) : a1p Tryz.prog 36 [.agg (w5w c n), .pv (.int .i64 p)] (a1m true (r7r n p)) := by
 refine pX Tryz.f36 [a1m true (r7r n p)] 7 ?_
 have fS := fK.1
 have fB := q3q fS
 have fV := fS.2.2.2.2.2.1
 have fk := d9a fK
 refine exR (u0u (id := 0) rfl rfl rfl (x1x rfl (x2x fun K1 hK1 => ?_)))
 refine exD (x5x rfl y5y rfl rfl rfl (x9x rfl rfl rfl (b7k c n) (x0x 2 rfl rfl (e9v rfl rfl (fun hg2 => ?_) (fun hg2 => ?_)))))
 rotate_left
 ·(simp [fk] at hg2; done)
 try simp at hg2
 refine x4x rfl (z1z rfl rfl (x9x rfl rfl rfl (b7g p) (x0x 4 rfl rfl ⟨by kernel_rfl, x8x rfl (fun hc3 => ?_) (fun hc3 => ?_)⟩)))
 ·(simp at hc3; omega)
 try simp at hc3
 refine x7x (hK1 _ _ (exR (x5x rfl y5y rfl rfl rfl ?_)))
 refine rlM [1, 2, 3, 4, 5] [_, _, _, _, _] (b1f c n (by omega) (by omega) fS.2.2.2.2.2.2.1) rfl rfl rfl ?_
 refine x4x rfl ?_
 refine rlM [1, 2, 3, 4, 5, 6] [_, _, _, _, _, _] (b7m c n p (a8d fS) (by omega) fS.2.2.2.2.2.1) rfl rfl rfl ?_
 refine x1x rfl (x6x ⟨.inr rfl, ?_⟩)
 exact ⟨_, _, rfl, .cl rfl .nil⟩
theorem c2o (c c' : Bool) (l : La) (s : List Ev) (hs : b0i l s) : a1p Tryz.prog 149 [.agg (a0f c l), a1m c' s] (.pv (.bool (true))) := by
 refine pX Tryz.f149 [.pv (.bool (true))] 2 ?_
 refine exR (u0u (id := 0) rfl rfl rfl (x1x rfl (x2x fun K1 hK1 => ?_)))
 refine exR (x4x rfl (z3z rfl u8u rfl (x4x rfl (y0y (r1r 1 rfl fun hlen => ?_)))))
 refine z2z (ι := Nat) (fun i γ1 => [(9, pI (i : Int))]) (fun i γ1 => [(1, ((γ1 1), .dead))]) (fun i => i ≤ s.length) (fun i => s.length - i) (cK [1, 2, 7, 8] rfl) (y6y 0 rfl HE.nil) 0 (by omega) [0, _] cv hv rfl fun i γ1 hi => ?_
 refine exR (v6v rfl rfl rfl (x2x fun K2 hK2 => ?_))
 refine y4y rfl ?_ ?_<;>intro h<;>try simp at h
 ·refine z5z (hK1 _ _ (exR (x4x rfl (x9x rfl rfl rfl (a5y c' s 100) ?_))))
  refine x1x rfl (x6x ⟨.inr rfl, ?_⟩)
  refine y9y rfl ?_ rfl
  exact congrArg (fun b : Bool => [AV.pv (.bool b)]) hs.1
 obtain ⟨e, he⟩ := gE s i
 have hto := hs.2 e (List.mem_of_getElem? he)
 refine x7x (hK2 _ _ (x2x fun K4 hK4 => ?_))
 refine y0y (exR (y8y rfl rfl u8u rfl z6z rfl he (u5u rfl z6z rfl rfl (y7y (id := 1) z6z a6e rfl (x3x rfl rfl z6z rfl rfl rfl rfl (exA 5 rfl rfl (x8x rfl (fun hc5 => ?_) (fun hc5 => ?_))))))))
 ·(simp at hc5; omega)
 try simp at hc5
 refine x7x (hK4 _ _ (exG (z4z (b := 1) rfl rfl (by omega) (x4x rfl ?_))))
 exact ⟨i + 1, ⟨by omega, by omega⟩, [0, _], cv, cv, hv, hv, rfl⟩
theorem c2p (c c' : Bool) (l : La) (s : List Ev) (hl : a6q l = true) (hs : b0i l s) : a1p Tryz.prog 47 [.agg (a0f c l), a1m c' s] (.tup [.agg (v4v (a0n l s).1), .pv (.bool (a0n l s).2)]) := by
 refine pX Tryz.f47 [.agg (v4v (a0n l s).1), .pv (.bool (a0n l s).2)] 2 ?_
 refine exR (u0u (id := 0) rfl rfl rfl (y7y (id := 1) z6z a6e rfl (x1x rfl (x2x fun K1 hK1 => ?_))))
 refine exR (x5x rfl v7v rfl rfl rfl (x9x rfl rfl rfl (b7j c l) (x0x 2 rfl rfl (e9v rfl rfl (fun hg2 => ?_) (fun hg2 => ?_)))))
 rotate_left
 ·(simp [hl] at hg2; done)
 try simp at hg2
 refine x0x 2 rfl rfl (z1z rfl rfl (x9x rfl rfl rfl (c2o c c' l s hs) ?_))
 refine x0x 2 rfl rfl (x8x rfl (fun hc3 => ?_) (fun hc3 => ?_))
 ·(simp [hl] at hc3; done)
 try simp at hc3
 refine x7x (hK1 _ _ (exA 2 rfl rfl (x9x rfl rfl rfl (b3f c c' l s) ?_)))
 refine x0x 2 rfl rfl (x3x rfl rfl z6z rfl rfl rfl rfl (x1x rfl (x6x ⟨.inr rfl, ?_⟩)))
 exact ⟨_, _, rfl, .agg rfl (.cl rfl (.cl rfl (.cl rfl (.cl rfl (.cl rfl (.cl rfl (.cl rfl .nil))))))) (.cl rfl .nil)⟩
end
section
structure Op_ where
 do' : Int
 a : Int
 b : Int
 c : Int
 d : Int
 deriving DecidableEq, Inhabited
structure Ru where
 kind : Int
 ops : List Op_
 deriving DecidableEq, Inhabited
structure Ap where
 rules : List Ru
 deriving DecidableEq, Inhabited
structure Hb where
 round : Int
 ones : List Wo
 twos : List Wo
 outs : List Wo
 deriving DecidableEq, Inhabited
structure Tw where
 time : Int
 apps : List Ap
 nodes : List Nd
 radio : List Wo
 hub : Hb
 sink : List Ou
 deriving DecidableEq, Inhabited
def hb0 : Hb := ⟨0, [], [], []⟩
def a3y (v : Int) : Prop := 0 ≤ v ∧ v ≤ 1
def b4t (v : Int) : Prop := 0 ≤ v ∧ v ≤ 999
instance (v : Int) : Decidable (a3y v) := by unfold a3y; infer_instance
instance (v : Int) : Decidable (b4t v) := by unfold b4t; infer_instance

def b1g (o : Op_) : Prop :=
 ((o.do' = 1 ∨ o.do' = 3) ∧ a3y o.a ∧ b4t o.b ∧ o.c = 0 ∧ o.d = 0) ∨ (o.do' = 2 ∧ a3y o.a ∧ a3y o.b ∧ o.c = 0 ∧ o.d = 0) ∨
 ((o.do' = 4 ∨ o.do' = 7) ∧ a3y o.a ∧ o.b = 0 ∧ o.c = 0 ∧ o.d = 0) ∨ (o.do' = 5 ∧ a3y o.a ∧ b4t o.b ∧ (1 ≤ o.c ∧ o.c ≤ 8) ∧ o.d = 0) ∨
 (o.do' = 6 ∧ (0 ≤ o.a ∧ o.a ≤ 3) ∧ (0 ≤ o.b ∧ o.b ≤ 3) ∧ (1 ≤ o.c ∧ o.c ≤ 40) ∧ a3y o.d)
instance (o : Op_) : Decidable (b1g o) := by unfold b1g; infer_instance
def c5h (l : List Op_) : Nat := (l.filter fun o => decide (o.do' = 6)).length
def d5y (l : List Op_) : Nat := (l.filter fun o => decide (o.do' = 7)).length
def c7u (r : Ru) : Prop := (∀ o ∈ r.ops, b1g o) ∧ r.ops.length ≤ 8 ∧ c5h r.ops ≤ 2 ∧ d5y r.ops ≤ 2

def f3q (l : List Ru) : Prop := ∀ (i : Nat) r, l[i]? = some r → (0 ≤ r.kind ∧ r.kind ≤ 3) ∧ c7u r ∧ ∀ p, 0 < i → l[i - 1]? = some p → p.kind < r.kind
def e0r (a : Ap) : Prop := a.rules.length ≤ 4 ∧ f3q a.rules
def a7e (l : List Ap) : Prop := l.length = 4 ∧ ∀ a ∈ l, e0r a
def a9p (k : Nat) : List Nd := (List.range k).map fun (i : Nat) => a2q (i : Int)
theorem c9v (k : Nat) : a9p (k + 1) = a9p k ++ [a2q (k : Int)] := by simp [a9p, List.range_succ]
theorem b1h (l : List Op_) (o : Op_) : c5h (l ++ [o]) = c5h l + if o.do' = 6 then 1 else 0 := by
 unfold c5h
 rw [List.filter_append, List.length_append]
 by_cases h : o.do' = 6 <;> simp [h]
theorem b4d (l : List Op_) (o : Op_) : d5y (l ++ [o]) = d5y l + if o.do' = 7 then 1 else 0 := by
 unfold d5y
 rw [List.filter_append, List.length_append]
 by_cases h : o.do' = 7 <;> simp [h]
theorem d1y (l : List Op_) (i : Nat) : c5h (l.take i) ≤ i := Nat.le_trans (List.length_filter_le _ _) (by rw [List.length_take]; omega)
theorem d5z (l : List Op_) (i : Nat) : d5y (l.take i) ≤ i := Nat.le_trans (List.length_filter_le _ _) (by rw [List.length_take]; omega)
end
section
def opL (o : Op_) : List Int := [o.do', o.a, o.b, o.c, o.d]
def b7n (o : Op_) : List AV := (opL o).map pI
def f2p (c : Bool) (l : List Op_) : AV := .row (.rd c) 297 5 (l.map b7n)
def d1z (c : Bool) (r : Ru) : List AV := [pI r.kind, f2p c r.ops]
def e8u (c : Bool) (l : List Ru) : AV := .row (.rd c) 232 2 (l.map (d1z c))
def b9r (c : Bool) (a : Ap) : List AV := [e8u c a.rules]
def a6g (c : Bool) (l : List Ap) : AV := .row (.rd c) 121 1 (l.map (b9r c))
def f4b (c : Bool) (l : List Nd) : AV := .row (.rd c) 65 13 (l.map (w5w c))
def e4j (c : Bool) (w : Tw) : List AV := [pI w.time, a6g c w.apps, f4b c w.nodes, q4q c w.radio, pI w.hub.round, q4q c w.hub.ones, q4q c w.hub.twos, q4q c w.hub.outs, a0p c w.sink]
end
section

def c4b (l : List Int) : Prop := (l.length = 0 ∨ l.length = 3) ∧ ∀ v ∈ l, 0 ≤ v ∧ v ≤ 9999
instance (l : List Int) : Decidable (c4b l) := by unfold c4b; infer_instance
def a5z (w : Wo) : Prop := (1 ≤ w.kind ∧ w.kind ≤ 7) ∧ (0 ≤ w.from' ∧ w.from' ≤ 2) ∧ (0 ≤ w.to ∧ w.to ≤ 2) ∧ (0 ≤ w.inc ∧ w.inc ≤ 9999) ∧ (0 ≤ w.version ∧ w.version ≤ 9999) ∧ (0 ≤ w.round ∧ w.round ≤ 9999) ∧ (0 ≤ w.g ∧ w.g ≤ 41)
instance (w : Wo) : Decidable (a5z w) := by unfold a5z; infer_instance
def a4l (w : Wo) : Prop := a5z w ∧ c4b w.incs ∧ c4b w.versions ∧ a7r okE a3e w.events 100 = true ∧ a7r okO b0y w.outs 96 = true
instance (w : Wo) : Decidable (a4l w) := by unfold a4l; infer_instance

def b2e (l : List Wo) (kind : Int) : Prop := ∀ (i : Nat) w, l[i]? = some w → a4l w ∧ w.kind = kind ∧ ∀ p, 0 < i → l[i - 1]? = some p → p.from' < w.from'
def a8v (w : Wo) : Prop := w.incs.length = 3 ∧ w.versions.length = 3
def a0w (h : Hb) : Prop := (0 ≤ h.round ∧ h.round ≤ 9999) ∧ b2e h.ones 3 ∧ b2e h.twos 5 ∧ b2e h.outs 7 ∧ ∀ w ∈ h.ones, a8v w
theorem d4e (h : b2e l k) : ∀ (i : Nat) w, l[i]? = some w → (i : Int) ≤ w.from'
 | 0, w, hw => by have := (h 0 w hw).1.1.2.1.1; omega
 | i + 1, w, hw => by
  obtain ⟨p, hp⟩ : ∃ p, l[i]? = some p := ⟨_, List.getElem?_eq_getElem (by have := (List.getElem?_eq_some_iff.1 hw).1; omega)⟩
  have h1 := d4e h i p hp
  have h2 := (h (i + 1) w hw).2.2 p (by omega) (by simpa using hp)
  omega
theorem b5w (h : b2e l k) : l.length ≤ 3 := by
 rcases Nat.lt_or_ge 3 l.length with hl | hl
 ·obtain ⟨w, hw⟩ : ∃ w, l[3]? = some w := ⟨_, List.getElem?_eq_getElem (by omega)⟩
  have h1 := d4e h 3 w hw
  have := (h 3 w hw).1.1.2.1.2
  omega
 ·exact hl
theorem c7j (k : Int) : b2e [] k := fun i w h => by simp at h

def wob (w : Wo) : Prop := w.incs.length ≤ 1000000 ∧ w.versions.length ≤ 1000000 ∧ w.events.length ≤ 1000000 ∧ w.outs.length ≤ 1000000
theorem c9w (h : a4l w) : wob w := by
 obtain ⟨_, h1, h2, h3, h4⟩ := h
 have h3 := (s7s h3).1
 have h4 := (s7s h4).1
 have h1 := h1.1
 have h2 := h2.1
 exact ⟨by omega, by omega, by omega, by omega⟩

def a7f (x : Wo) (again : Bool) : List Wo → Bool → List Wo
 | [], done => if done then [] else [x]
 | w :: r, done =>
  if w.from' = x.from' then (if again then x :: a7f x again r true else w :: a7f x again r true)
  else if done = false ∧ x.from' < w.from' then x :: w :: a7f x again r true else w :: a7f x again r done
def b5x (f : Int) (l : List Wo) : Option Wo := l.find? fun w => decide (w.from' = f)
def e2g (w : Wo) : List Wo := [{ w with to := 1 }, { w with to := 2 }]
def f4c (n : Nd) : Wo := { wo0 with kind := 5, from' := n.id, inc := n.inc, round := n.round, version := n.version }

def b0m (n : Nd) (w : Wo) : Prop := n.up = true ∧ a4l w ∧ w.to = n.id ∧ ¬ w.from' = n.id
instance (n : Nd) (w : Wo) : Decidable (b0m n w) := by unfold b0m; infer_instance
noncomputable def b0n (n : Nd) (w : Wo) : Nd × List Wo :=
 if w.kind = 1 then (a4f n w.from' w.inc w.version w.g w.events, [])
 else if w.kind = 2 then (if (w6w n w.round).2.2 = true then ((w6w n w.round).1, [(w6w n w.round).2.1]) else (n, []))
 else if w.kind = 4 then (n, if w.round = n.round ∧ 0 < w.round then [f4c n] else [])
 else if w.kind = 6 then (if w.inc = n.inc then ((s9s n w.round w.g).1, []) else (n, []))
 else (n, [])
open Classical in
noncomputable def r2r (n : Nd) (w : Wo) : Nd × List Wo := if u1u n then (if b0m n w then b0n n w else (n, [])) else (nd0, [])
theorem f1m (h : ¬ u1u n) : r2r n w = (nd0, []) := if_neg h
theorem d4f (h : u1u n) (h2 : ¬ b0m n w) : r2r n w = (n, []) := by unfold r2r; rw [if_pos h, if_neg h2]
theorem b7o (h : u1u n) (h2 : b0m n w) : r2r n w = b0n n w := by unfold r2r; rw [if_pos h, if_pos h2]
theorem e8v (h : w.kind = 1) : b0n n w = (a4f n w.from' w.inc w.version w.g w.events, []) := if_pos h
theorem e4k (h : w.kind = 2) (h2 : (w6w n w.round).2.2 = true) : b0n n w = ((w6w n w.round).1, [(w6w n w.round).2.1]) := by unfold b0n; rw [if_neg (by omega), if_pos h, if_pos h2]
theorem e4l (h : w.kind = 2) (h2 : ¬ (w6w n w.round).2.2 = true) : b0n n w = (n, []) := by unfold b0n; rw [if_neg (by omega), if_pos h, if_neg h2]
theorem e4m (h : w.kind = 4) (h2 : w.round = n.round ∧ 0 < w.round) : b0n n w = (n, [f4c n]) := by unfold b0n; rw [if_neg (by omega), if_neg (by omega), if_pos h, if_pos h2]
theorem d4g (h : w.kind = 4) (h2 : ¬ (w.round = n.round ∧ 0 < w.round)) : b0n n w = (n, []) := by unfold b0n; rw [if_neg (by omega), if_neg (by omega), if_pos h, if_neg h2]
theorem e4n (h : w.kind = 6) (h2 : w.inc = n.inc) : b0n n w = ((s9s n w.round w.g).1, []) := by unfold b0n; rw [if_neg (by omega), if_neg (by omega), if_neg (by omega), if_pos h, if_pos h2]
theorem e4o (h : w.kind = 6) (h2 : ¬ w.inc = n.inc) : b0n n w = (n, []) := by unfold b0n; rw [if_neg (by omega), if_neg (by omega), if_neg (by omega), if_pos h, if_neg h2]
theorem e8w (h1 : ¬ w.kind = 1) (h2 : ¬ w.kind = 2) (h4 : ¬ w.kind = 4) (h6 : ¬ w.kind = 6) : b0n n w = (n, []) := by unfold b0n; rw [if_neg h1, if_neg h2, if_neg h4, if_neg h6]

def c9x (n : Nd) : Nd := { n with led := n.led + 1 }
def f4d (r : Int) : Wo := { wo0 with kind := 2, round := r }
def e8x (r : Int) : Wo := { wo0 with kind := 4, round := r }
def a5f (n : Nd) : Prop := n.id = 0 ∧ n.up = true ∧ n.led < 9999 ∧ n.round < n.led + 1
instance (n : Nd) : Decidable (a5f n) := by unfold a5f; infer_instance
open Classical in
noncomputable def s0s (h : Hb) (n : Nd) : Hb × Nd × List Wo :=
 if a0w h ∧ u1u n then (if a5f n then (⟨n.led + 1, [d9l (c9x n) (n.led + 1)], [], h.outs⟩, { c9x n with round := n.led + 1, low := 41 }, e2g (f4d (n.led + 1))) else (h, n, [])) else (hb0, nd0, [])
theorem e0s (k : ¬ (a0w h ∧ u1u n)) : s0s h n = (hb0, nd0, []) := if_neg k
theorem c2q (k : a0w h ∧ u1u n) (k2 : ¬ a5f n) : s0s h n = (h, n, []) := by unfold s0s; rw [if_pos k, if_neg k2]
theorem d2a (k : a0w h ∧ u1u n) (k2 : a5f n) : s0s h n = (⟨n.led + 1, [d9l (c9x n) (n.led + 1)], [], h.outs⟩, { c9x n with round := n.led + 1, low := 41 }, e2g (f4d (n.led + 1))) := by unfold s0s; rw [if_pos k, if_pos k2]
theorem d4h (h : u1u n) (h2 : n.led < 9999) : u1u (c9x n) := by
 obtain ⟨⟨hn, h3⟩, h4⟩ := h
 exact ⟨⟨⟨hn.1, hn.2.1, hn.2.2.1, ⟨by show 0 ≤ n.led + 1; have := hn.2.2.2.1; omega, by show n.led + 1 ≤ 9999; omega⟩, hn.2.2.2.2⟩, h3⟩, h4⟩

def e0t (h : Hb) (i : Nat) : Prop := ∀ a b, h.ones[i]? = some a → h.twos[i]? = some b → a.inc = b.inc ∧ ∀ (k : Nat) c, k ≠ i → h.ones[k]? = some c → c.incs.getD i 0 = b.inc ∧ c.versions.getD i 0 = b.version
def a7m (h : Hb) : Prop := a0w h ∧ h.ones.length = 3 ∧ h.twos.length = 3 ∧ ∀ i, i < 3 → e0t h i
def a2d (m : Int) (l : List Wo) : Int := l.foldl (fun m w => if w.g < m then w.g else m) m
theorem c2r {m : Int} {l : List Wo} {i : Nat} {w : Wo} (h : l[i]? = some w) : a2d m (l.take (i + 1)) = if w.g < a2d m (l.take i) then w.g else a2d m (l.take i) := by
 unfold a2d
 rw [w1w h, List.foldl_append]; rfl
open Classical in
noncomputable def s4s (h : Hb) : Int × Bool := if a7m h then (a2d 41 h.ones, true) else (0, false)
theorem b5y (k : ¬ a7m h) : s4s h = (0, false) := if_neg k
theorem e8y (k : a7m h) : s4s h = (a2d 41 h.ones, true) := if_pos k
def c7k (h : Hb) (g : Int) (to : Nat) : Wo := { wo0 with kind := 6, to := (to : Int), inc := ((h.twos.map Wo.inc).getD to 0), round := h.round, g := g }
def a1y (n : Nd) (w : Wo) : Prop := n.id = 0 ∧ n.up = true ∧ a4l w ∧ w.to = 0 ∧ ¬ w.from' = 0
instance (n : Nd) (w : Wo) : Decidable (a1y n w) := by unfold a1y; infer_instance
def a4e (h : Hb) (w : Wo) : Bool := match b5x w.from' h.outs with
 | none => true
 | some old => decide (old.g < w.g)
def d6a (h : Hb) (w : Wo) : Prop := w.round = h.round ∧ ¬ w.incs.length = 0 ∧ ¬ w.versions.length = 0 ∧ h.ones.length < 3
instance (h : Hb) (w : Wo) : Decidable (d6a h w) := by unfold d6a; infer_instance
def e2h (h : Hb) (w : Wo) : Prop := w.round = h.round ∧ 3 ≤ h.ones.length ∧ h.twos.length < 3
instance (h : Hb) (w : Wo) : Decidable (e2h h w) := by unfold e2h; infer_instance
def d4i (h : Hb) (w : Wo) : Hb := { h with ones := a7f w false h.ones false }
def b0o (h : Hb) (w : Wo) : Hb := { h with twos := a7f w false h.twos false }
def f2q (h : Hb) (n : Nd) : Wo := { wo0 with kind := 5, inc := n.inc, round := h.round, version := n.version }
noncomputable def a1e (h : Hb) (n : Nd) (w : Wo) : Hb × Nd × List Wo :=
 if w.kind = 7 then (if a4e h w = true then { h with outs := a7f w true h.outs false } else h, n, [])
 else if w.kind = 3 then (if d6a h w then (if (d4i h w).ones.length = 3 then ({ d4i h w with twos := [f2q h n] }, n, e2g (e8x h.round)) else (d4i h w, n, [])) else (h, n, []))
 else if w.kind = 5 then (if e2h h w then (if (s4s (b0o h w)).2 = true then (b0o h w, (s9s n h.round (s4s (b0o h w)).1).1, [c7k (b0o h w) (s4s (b0o h w)).1 1, c7k (b0o h w) (s4s (b0o h w)).1 2]) else (b0o h w, n, [])) else (h, n, []))
 else (h, n, [])
open Classical in
noncomputable def p6p (h : Hb) (n : Nd) (w : Wo) : Hb × Nd × List Wo := if a0w h ∧ u1u n then (if a1y n w then a1e h n w else (h, n, [])) else (hb0, nd0, [])
open Classical in
noncomputable def a8m (h : Hb) (n : Nd) : List Ou := if a0w h ∧ u1u n ∧ n.id = 0 ∧ h.outs.length = 2 then a1s ((n.outs ++ h.outs.flatMap Wo.outs).filter fun o => decide (o.time < a2d n.g h.outs)) else []
end
section
theorem c9y (h : u1u n) : u1u (b1c n m).1 := by
 by_cases k : u1u m
 ·rw [c1z k]; exact k
 ·rw [c2a k]; exact h
theorem e8z (h : u1u n) (f inc ver g : Int) (es : List Ev) : u1u (a4f n f inc ver g es) := by
 unfold a4f
 rw [if_pos h]
 split
 ·exact c9y h
 ·exact h
theorem c9z (h : u1u n) (r g : Int) : u1u (s9s n r g).1 := by
 unfold s9s
 rw [if_pos h]
 split
 ·exact c9y h
 ·exact h
theorem d4j (h : u1u n) (hr : 0 ≤ r ∧ r ≤ 9999) : u1u { n with round := r, low := 41 } := by
 obtain ⟨⟨hn, h3⟩, h4⟩ := h
 exact ⟨⟨⟨hn.1, hn.2.1, hn.2.2.1, hn.2.2.2.1, hn.2.2.2.2.1, hr, by show (0 : Int) ≤ 41; omega, by show (41 : Int) ≤ 41; omega⟩, h3⟩, h4⟩
theorem e0u (h : u1u n) (r : Int) : u1u (w6w n r).1 := by
 have hb := h.1.1.2.2.2.2.2.1
 unfold w6w
 rw [if_pos h]
 split
 ·rename_i k; exact d4j h ⟨by omega, k.2.2⟩
 ·exact h
theorem d0a (h : a6q l = true) : (0 ≤ l.proc ∧ l.proc ≤ 3) ∧ c3k l.base := by
 unfold a6q at h
 simp only [Bool.and_eq_true, decide_eq_true_eq] at h
 exact h.1
theorem d6b (h : a6q l = true) : a6q (s5s l) = true := by
 have hb := d0a h
 rw [c6p (l := s5s l) hb.1 hb.2 (Nat.zero_le _)]; rfl
theorem e0v : d3o vi0 := ⟨by decide, by decide, rfl⟩
theorem d4k (h : a2n n) (hd : ∀ l ∈ n.lanes, l.done = []) (hv : n.views = [vi0, vi0, vi0]) : u1u n := by
 refine ⟨h, fun i p l hp hl => ?_⟩
 have kl := (s7s h.2.1).1
 refine ⟨by rw [hd l (List.mem_of_getElem? hl)]; exact Nat.zero_le _, ?_⟩
 have e1 : a1l n = n.kept := by
  show n.kept ++ n.lanes.flatMap b0g = n.kept
  have : n.lanes.flatMap b0g = [] := by
   rw [List.flatMap_eq_nil_iff]
   intro l hl
   unfold b0g
   rw [hd l hl]; rfl
  rw [this, List.append_nil]
 have e2 : a0i n 3 = [] := by
  have : ∀ j, a9j n j = [] := fun j => by
   unfold a9j
   split
   ·rfl
   ·rw [hv]
    match j with
    | 0 => rfl
    | 1 => rfl
    | 2 => rfl
    | j + 3 => rfl
  simp [a0i, this, List.range, List.range.loop]
 have e3 : (r7r n p).length ≤ n.kept.length := by
  unfold r7r
  rw [e1, e2, List.append_nil]
  exact Nat.le_trans (b0h _) (List.length_filter_le _ _)
 omega
theorem f4e (h1 : n.views = [vi0, vi0, vi0]) (h2 : n.known = [0, 0, 0]) : d9b n := fun i v k hi hk => by
 rw [h1] at hi
 rw [h2] at hk
 match i, hi, hk with
 | 0, hi, hk => cases hi; cases hk; exact ⟨e0v, by decide, by decide⟩
 | 1, hi, hk => cases hi; cases hk; exact ⟨e0v, by decide, by decide⟩
 | 2, hi, hk => cases hi; cases hk; exact ⟨e0v, by decide, by decide⟩
 | i + 3, hi, hk => simp at hi
theorem d4l (h : u1u n) (hi : 1 ≤ inc ∧ inc ≤ 9999) (hv : 0 ≤ ver ∧ ver ≤ 9999) : u1u { a2r n with up := u, inc := inc, version := ver } := by
 obtain ⟨⟨hn, hk, ho, ht, hl, hv3, hk3, hls, hvk⟩, h4⟩ := h
 refine d4k ⟨⟨hn.1, hi, hn.2.2.1, hn.2.2.2.1, hv, (show (0 : Int) ≤ 0 ∧ (0 : Int) ≤ 9999 by omega), (show (0 : Int) ≤ 41 ∧ (41 : Int) ≤ 41 by omega)⟩, hk, ho, ht, ?_, rfl, rfl, ?_, f4e rfl rfl⟩ ?_ rfl
 ·show (n.lanes.map s5s).length = _
  rw [List.length_map]; exact hl
 ·intro i l hil
  have hil : (n.lanes.map s5s)[i]? = some l := hil
  rw [List.getElem?_map] at hil
  cases hq : n.lanes[i]? with
  | none => rw [hq] at hil; cases hil
  | some l0 =>
   rw [hq] at hil; cases hil
   obtain ⟨q1, q2⟩ := hls i l0 hq
   exact ⟨q1, d6b q2⟩
 ·intro l hl
  obtain ⟨l0, _, rfl⟩ := List.mem_map.1 (show l ∈ n.lanes.map s5s from hl)
  rfl
theorem e4p (i : Int) (h : 0 ≤ i ∧ i ≤ 2) : u1u (a2q i) := by
 have e : a2q i = ⟨i, true, 1, 0, (s3s i 4).map b1z, (s3s i 4).map a1z, [], 0, 1, [vi0, vi0, vi0], [0, 0, 0], 0, 41⟩ := by
  unfold a2q
  rw [if_pos h, c1l h]
 rw [e]
 have pe : ∀ p ∈ (s3s i 4).map a1z, okE p = true := fun p hp => by
  obtain ⟨q, hq, rfl⟩ := List.mem_map.1 hp
  have h1 := b2p hq
  unfold a1z
  rw [if_pos (by omega)]
  refine decide_eq_true ?_
  unfold b9m
  dsimp only
  omega
 have hi : i = 0 ∨ i = 1 ∨ i = 2 := by omega
 refine d4k ⟨⟨h, (show (1 : Int) ≤ 1 ∧ (1 : Int) ≤ 9999 by omega), (show (0 : Int) ≤ 0 ∧ (0 : Int) ≤ 41 by omega), (show (0 : Int) ≤ 0 ∧ (0 : Int) ≤ 9999 by omega), (show (0 : Int) ≤ 1 ∧ (1 : Int) ≤ 9999 by omega), (show (0 : Int) ≤ 0 ∧ (0 : Int) ≤ 9999 by omega), (show (0 : Int) ≤ 41 ∧ (41 : Int) ≤ 41 by omega)⟩, ?_, rfl, ?_, ?_, rfl, rfl, ?_, f4e rfl rfl⟩ ?_ rfl
 ·rcases hi with rfl | rfl | rfl <;> rfl
 ·intro j o ho; simp at ho
 ·show ((s3s i 4).map b1z).length = _
  rw [List.length_map]
 ·intro j l hl
  have hl : ((s3s i 4).map b1z)[j]? = some l := hl
  rw [List.getElem?_map] at hl
  cases hq : (s3s i 4)[j]? with
  | none => rw [hq] at hl; cases hl
  | some q =>
   rw [hq] at hl; cases hl
   refine ⟨rfl, ?_⟩
   have h1 := b2p (List.mem_of_getElem? hq)
   rw [c6p (l := b1z q) (by show 0 ≤ q ∧ q ≤ 3; omega) (show c3k ⟨0, 0, 0⟩ by decide) (Nat.zero_le _)]; rfl
 ·intro l hl
  obtain ⟨q, _, rfl⟩ := List.mem_map.1 (show l ∈ (s3s i 4).map b1z from hl)
  rfl
theorem e9a (h : u1u n) : u1u (a7s n) := by
 rw [b8k h]
 exact d4l (u := false) (inc := n.inc) (ver := 0) h h.1.1.2.1 ⟨by decide, by decide⟩
theorem e9b (h : u1u n) : u1u (a4y n) := by
 by_cases k : n.up = true ∨ 9999 ≤ n.inc
 ·rw [b3x h k]; exact h
 ·rw [b8l h k]
  have := h.1.1.2.1
  exact d4l (u := true) (inc := n.inc + 1) (ver := 1) h ⟨by omega, by omega⟩ ⟨by decide, by decide⟩
theorem d0b (h : u1u n) (k : a5f n) : u1u { c9x n with round := n.led + 1, low := 41 } := by
 have := h.1.1.2.2.2.1
 have := k.2.2.1
 exact d4j (d4h h k.2.2.1) ⟨by omega, by omega⟩
theorem e0w (k : u1u n) (w : Wo) : u1u (a1e h n w).2.1 := by
 unfold a1e
 split
 ·exact k
 ·split
  ·split
   ·split <;> exact k
   ·exact k
  ·split
   ·split
    ·split
     ·exact c9z k _ _
     ·exact k
    ·exact k
   ·exact k
theorem d2b (k : u1u n) (hk : a0w h) (w : Wo) : u1u (p6p h n w).2.1 := by
 unfold p6p
 rw [if_pos ⟨hk, k⟩]
 split
 ·exact e0w k w
 ·exact k
theorem e9c (k : u1u n) (w : Wo) : u1u (r2r n w).1 := by
 unfold r2r
 rw [if_pos k]
 split
 ·unfold b0n
  split
  ·exact e8z k _ _ _ _ _
  ·split
   ·split
    ·exact e0u k _
    ·exact k
   ·split
    ·exact k
    ·split
     ·split
      ·exact c9z k _ _
      ·exact k
     ·exact k
 ·exact k
end
section
def f4z (l : List Wo) (k : Int) : Prop := (∀ w ∈ l, a4l w ∧ w.kind = k) ∧ l.Pairwise fun a b => a.from' < b.from'
variable {l : List Wo} {k : Int}
theorem e0x : b2e l k ↔ f4z l k := by
 constructor
 ·intro h
  refine ⟨fun w hw => ?_, ?_⟩
  ·obtain ⟨i, hi⟩ := List.getElem?_of_mem hw
   exact ⟨(h i w hi).1, (h i w hi).2.1⟩
  ·rw [List.pairwise_iff_getElem]
   intro i j hi hj hij
   have key : ∀ (d i : Nat) a b, l[i]? = some a → l[i + d + 1]? = some b → a.from' < b.from' := by
    intro d
    induction d with
    | zero => intro i a b ha hb; exact (h (i + 0 + 1) b hb).2.2 a (by omega) (by simpa using ha)
    | succ d ih =>
     intro i a b ha hb
     obtain ⟨c, hc⟩ : ∃ c, l[i + d + 1]? = some c := ⟨_, List.getElem?_eq_getElem (by have := (List.getElem?_eq_some_iff.1 hb).1; omega)⟩
     have h1 := ih i a c ha hc
     have h2 := (h (i + (d + 1) + 1) b hb).2.2 c (by omega) (by rw [show i + (d + 1) + 1 - 1 = i + d + 1 from by omega]; exact hc)
     omega
   exact key (j - i - 1) i _ _ (List.getElem?_eq_getElem hi) (by rw [show i + (j - i - 1) + 1 = j from by omega]; exact List.getElem?_eq_getElem hj)
 ·rintro ⟨h1, h2⟩ i w hw
  refine ⟨(h1 w (List.mem_of_getElem? hw)).1, (h1 w (List.mem_of_getElem? hw)).2, fun p hi hp => ?_⟩
  rw [List.pairwise_iff_getElem] at h2
  obtain ⟨l1, e1⟩ := List.getElem?_eq_some_iff.1 hw
  obtain ⟨l2, e2⟩ := List.getElem?_eq_some_iff.1 hp
  have := h2 (i - 1) i l2 l1 (by omega)
  rw [e1, e2] at this
  exact this
theorem b1i {x : Wo} {again : Bool} : ∀ {l : List Wo} {d : Bool} {w : Wo}, w ∈ a7f x again l d → w = x ∨ w ∈ l
 | [], d, w, h => by cases d <;> simp [a7f] at h; exact .inl h
 | a :: r, d, w, h => by
  unfold a7f at h
  split at h
  ·split at h
   ·rcases List.mem_cons.1 h with h | h
    ·exact .inl h
    ·rcases b1i h with h | h
     ·exact .inl h
     ·exact .inr (List.mem_cons_of_mem _ h)
   ·rcases List.mem_cons.1 h with h | h
    ·exact .inr (h ▸ List.mem_cons_self ..)
    ·rcases b1i h with h | h
     ·exact .inl h
     ·exact .inr (List.mem_cons_of_mem _ h)
  ·split at h
   ·rcases List.mem_cons.1 h with h | h
    ·exact .inl h
    ·rcases List.mem_cons.1 h with h | h
     ·exact .inr (h ▸ List.mem_cons_self ..)
     ·rcases b1i h with h | h
      ·exact .inl h
      ·exact .inr (List.mem_cons_of_mem _ h)
   ·rcases List.mem_cons.1 h with h | h
    ·exact .inr (h ▸ List.mem_cons_self ..)
    ·rcases b1i h with h | h
     ·exact .inl h
     ·exact .inr (List.mem_cons_of_mem _ h)
theorem c2s {x : Wo} {again : Bool} : ∀ {l : List Wo}, (∀ w ∈ l, x.from' < w.from') → a7f x again l true = l
 | [], _ => rfl
 | a :: r, h => by
  have h1 := h a (List.mem_cons_self ..)
  unfold a7f
  rw [if_neg (by omega), if_neg (by simp), c2s fun w hw => h w (List.mem_cons_of_mem _ hw)]
theorem e0y {x : Wo} {again : Bool} : ∀ {l : List Wo}, l.Pairwise (fun a b => a.from' < b.from') → (a7f x again l false).Pairwise fun a b => a.from' < b.from'
 | [], _ => by simp [a7f]
 | a :: r, h => by
  rw [List.pairwise_cons] at h
  unfold a7f
  split
  ·rename_i e
   have hr : a7f x again r true = r := c2s fun w hw => by have := h.1 w hw; omega
   rw [hr]
   split
   ·exact List.pairwise_cons.2 ⟨fun w hw => by have := h.1 w hw; omega, h.2⟩
   ·exact List.pairwise_cons.2 h
  ·split
   ·rename_i e e2
    have hr : a7f x again r true = r := c2s fun w hw => by have := h.1 w hw; omega
    rw [hr]
    refine List.pairwise_cons.2 ⟨fun w hw => ?_, List.pairwise_cons.2 h⟩
    rcases List.mem_cons.1 hw with e3 | hw
    ·rw [e3]; exact e2.2
    ·have := h.1 w hw; have := e2.2; omega
   ·rename_i e e2
    have : a.from' < x.from' := by
     have : ¬ x.from' < a.from' := fun h => e2 ⟨rfl, h⟩
     omega
    refine List.pairwise_cons.2 ⟨fun w hw => ?_, e0y h.2⟩
    rcases b1i hw with rfl | hw
    ·exact this
    ·exact h.1 w hw
variable {x : Wo}
theorem d2c {again : Bool} (h : b2e l k) (hx : a4l x) (hk : x.kind = k) : b2e (a7f x again l false) k := by
 rw [e0x] at h ⊢
 refine ⟨fun w hw => ?_, e0y h.2⟩
 rcases b1i hw with rfl | hw
 ·exact ⟨hx, hk⟩
 ·exact h.1 w hw
theorem e0z (hx : a4l x) (hk : x.kind = k) : b2e [x] k := by
 rw [e0x]
 exact ⟨fun w hw => by rw [List.mem_singleton.1 hw]; exact ⟨hx, hk⟩, by simp⟩
theorem e1a : a0w hb0 := ⟨by decide, c7j _, c7j _, c7j _, fun w h => by cases h⟩
theorem e1b {l : La} {s : List Ev} (hs : ∀ e ∈ s, okE e = true) (h : (a0n l s).2 = true) : 0 ≤ (a0n l s).1.time ∧ (a0n l s).1.time ≤ 40 := by
 unfold a0n at h ⊢
 split at h
 ·cases h
 ·rename_i k
  rw [if_neg k]
  split at h
  ·rename_i e he
   have := hs e (List.mem_of_getElem? he)
   simp only [okE, decide_eq_true_eq] at this
   exact this.1
  ·cases h
theorem c2t {n : Nd} (h : u1u n) : ∀ k, 0 ≤ a5c n k ∧ a5c n k ≤ 41
 | 0 => by unfold a5c; omega
 | k + 1 => by
  have ih := c2t h k
  cases hl : n.lanes[k]? with
  | none => unfold a5c; rw [hl]; exact ih
  | some l =>
   by_cases h2 : (a0n l (r7r n l.proc)).2 = true ∧ (a0n l (r7r n l.proc)).1.time < a5c n k
   ·rw [b8n hl h2]
    have hc := (a8k h hl).2.2.1
    have := e1b (fun e he => (s7s hc.1).2 e he) h2.1
    omega
   ·rw [b2s hl h2]; exact ih
variable {n : Nd}
theorem e9d (h : u1u n) {r : Int} (hr : 0 ≤ r ∧ r ≤ 9999) : a4l (d9l n r) ∧ a8v (d9l n r) := by
 have hn := h.1.1
 have h3 := h.1.2.2.2.2.2.1
 have hk3 := h.1.2.2.2.2.2.2.1
 have hv := h.1.2.2.2.2.2.2.2.2
 have e1 : (n.views.map Vi.inc).length = 3 := by rw [List.length_map]; exact h3
 have e2 : (n.views.map Vi.version).length = 3 := by rw [List.length_map]; exact h3
 have vo : ∀ v ∈ n.views, d3o v := fun v hv' => by
  obtain ⟨i, hi⟩ := List.getElem?_of_mem hv'
  obtain ⟨k, hk⟩ : ∃ k, n.known[i]? = some k := ⟨_, List.getElem?_eq_getElem (by have := (List.getElem?_eq_some_iff.1 hi).1; omega)⟩
  exact (hv i v k hi hk).1
 refine ⟨⟨⟨?_, hn.1, ?_, ?_, ?_, hr, c2t h _⟩, ⟨.inr e1, fun v hv => ?_⟩, ⟨.inr e2, fun v hv => ?_⟩, rfl, rfl⟩, e1, e2⟩
 ·show (1 : Int) ≤ 3 ∧ (3 : Int) ≤ 7; omega
 ·show (0 : Int) ≤ 0 ∧ (0 : Int) ≤ 2; omega
 ·show 0 ≤ n.inc ∧ n.inc ≤ 9999
  have := hn.2.1; omega
 ·show (0 : Int) ≤ 0 ∧ (0 : Int) ≤ 9999; omega
 ·obtain ⟨w, hw, rfl⟩ := List.mem_map.1 hv; exact (vo w hw).1
 ·obtain ⟨w, hw, rfl⟩ := List.mem_map.1 hv; exact (vo w hw).2.1
variable {h : Hb}
theorem d0c (k : u1u n) (hk : a0w h) : a0w (s0s h n).1 := by
 unfold s0s
 rw [if_pos ⟨hk, k⟩]
 split
 ·rename_i q
  have hl := k.1.1.2.2.2.1
  have hq := q.2.2.1
  have := e9d (d4h k q.2.2.1) (r := n.led + 1) ⟨by omega, by omega⟩
  refine ⟨⟨?_, ?_⟩, e0z this.1 rfl, c7j _, hk.2.2.2.1, fun w hw => ?_⟩
  ·show 0 ≤ n.led + 1; omega
  ·show n.led + 1 ≤ 9999; omega
  ·rw [List.mem_singleton.1 hw]; exact this.2
 ·exact hk
variable {w : Wo}
theorem e1c (hw : a4l w) (k : d6a h w) : a8v w := by
 have h1 := hw.2.1.1
 have h2 := hw.2.2.1.1
 exact ⟨h1.resolve_left k.2.1, h2.resolve_left k.2.2.1⟩
theorem e9f (k : a0w h) (hw : a4l w) (k3 : w.kind = 3) (m : d6a h w) : a0w (d4i h w) :=
 ⟨k.1, d2c k.2.1 hw k3, k.2.2.1, k.2.2.2.1, fun x hx => by
  rcases b1i hx with rfl | hx
  ·exact e1c hw m
  ·exact k.2.2.2.2 x hx⟩
theorem e9g (k : a0w h) (hw : a4l w) (k5 : w.kind = 5) : a0w (b0o h w) := ⟨k.1, k.2.1, d2c k.2.2.1 hw k5, k.2.2.2⟩
theorem e9h (k : a0w h) (hw : a4l w) (k7 : w.kind = 7) : a0w { h with outs := a7f w true h.outs false } := ⟨k.1, k.2.1, k.2.2.1, d2c k.2.2.2.1 hw k7, k.2.2.2.2⟩
theorem e9i (k : a0w h) (q : u1u n) : a4l (f2q h n) := by
 have hn := q.1.1
 refine ⟨⟨(show (1 : Int) ≤ 5 ∧ (5 : Int) ≤ 7 by omega), (show (0 : Int) ≤ 0 ∧ (0 : Int) ≤ 2 by omega), (show (0 : Int) ≤ 0 ∧ (0 : Int) ≤ 2 by omega), ?_, hn.2.2.2.2.1, k.1, (show (0 : Int) ≤ 0 ∧ (0 : Int) ≤ 41 by omega)⟩, ⟨.inl rfl, fun v hv => by cases hv⟩, ⟨.inl rfl, fun v hv => by cases hv⟩, rfl, rfl⟩
 show 0 ≤ n.inc ∧ n.inc ≤ 9999
 have := hn.2.1; omega
theorem b3i (k : u1u n) (hk : a0w h) (w : Wo) : a0w (p6p h n w).1 := by
 unfold p6p
 rw [if_pos ⟨hk, k⟩]
 split
 ·rename_i m
  have hw := m.2.2.1
  unfold a1e
  split
  ·rename_i k7
   show a0w (if a4e h w = true then { h with outs := a7f w true h.outs false } else h)
   split
   ·exact e9h hk hw k7
   ·exact hk
  ·split
   ·rename_i k3
    split
    ·rename_i m1
     have h1 := e9f hk hw k3 m1
     split
     ·exact ⟨h1.1, h1.2.1, e0z (e9i hk k) rfl, h1.2.2.2⟩
     ·exact h1
    ·exact hk
   ·split
    ·rename_i k5
     split
     ·split <;> exact e9g hk hw k5
     ·exact hk
    ·exact hk
 ·exact hk
structure Te where
 kind : Int
 node : Int
 proc : Int
 word : Int
 keep : Bool
 deriving DecidableEq, Inhabited

structure Sm where
 w : Tw
 list : List Te
 p : Nat
def c7l (x : Wo) : Prop := (0 ≤ x.to ∧ x.to ≤ 2) ∧ wob x
theorem e9j {l : List Nd} (h3 : l.length = 3) (i : Nat) (hi : i < 3) : ∃ n, l[i]? = some n := ⟨_, List.getElem?_eq_getElem (by omega)⟩
theorem d6c (h : u1u n) {k : Nat} (hk : k ≤ 2) : c7l (b2r n (k : Int)) := by
 have := c9k h.1 (k : Int)
 refine ⟨⟨?_, ?_⟩, Nat.zero_le _, Nat.zero_le _, ?_, Nat.zero_le _⟩
 ·show (0 : Int) ≤ (k : Int); omega
 ·show (k : Int) ≤ 2; omega
 ·show (a3u n (k : Int)).length ≤ 1000000; omega
theorem b4e {n : Nd} (h : u1u n) : ∀ k, k ≤ 3 → ∀ x ∈ a6z n k, c7l x
 | 0, _, x, hx => by cases hx
 | k + 1, hk, x, hx => by
  by_cases e : (k : Int) = n.id
  ·rw [d3s e] at hx; exact b4e h k (by omega) x hx
  ·rw [d3r e] at hx
   rcases List.mem_append.1 hx with h1 | h1
   ·exact b4e h k (by omega) x h1
   ·rw [List.mem_singleton.1 h1]; exact d6c h (by omega)
theorem e4q (h : u1u n) : ∀ x ∈ c1r n, c7l x := fun x hx => by
 unfold c1r at hx
 have ho := (q3q h.1).2.2.1
 split at hx
 ·split at hx
  ·exact b4e h 3 (by omega) x hx
  ·rcases List.mem_append.1 hx with h1 | h1
   ·exact b4e h 3 (by omega) x h1
   ·rw [List.mem_singleton.1 h1]
    exact ⟨⟨by show (0 : Int) ≤ 0; omega, by show (0 : Int) ≤ 2; omega⟩, Nat.zero_le _, Nat.zero_le _, Nat.zero_le _, by show n.outs.length ≤ 1000000; omega⟩
 ·cases hx
theorem e4r (h : u1u n) (r : Int) : c7l (d9l n r) := by
 have := h.1.2.2.2.2.2.1
 refine ⟨⟨by show (0 : Int) ≤ 0; omega, by show (0 : Int) ≤ 2; omega⟩, ?_, ?_, Nat.zero_le _, Nat.zero_le _⟩
 ·show (n.views.map Vi.inc).length ≤ 1000000; rw [List.length_map]; omega
 ·show (n.views.map Vi.version).length ≤ 1000000; rw [List.length_map]; omega
theorem b3j (h : w.to = 0 ∨ w.to = 1 ∨ w.to = 2) (h1 : w.incs = []) (h2 : w.versions = []) (h3 : w.events = []) (h4 : w.outs = []) : c7l w :=
 ⟨by omega, by simp [h1], by simp [h2], by simp [h3], by simp [h4]⟩
theorem e1d (h1 : w.incs = []) (h2 : w.versions = []) (h3 : w.events = []) (h4 : w.outs = []) : ∀ x ∈ e2g w, c7l x := fun x hx => by
 simp only [e2g, List.mem_cons, List.not_mem_nil, or_false] at hx
 rcases hx with rfl | rfl
 ·exact b3j (.inr (.inl rfl)) h1 h2 h3 h4
 ·exact b3j (.inr (.inr rfl)) h1 h2 h3 h4
theorem c7m (h : u1u n) (w : Wo) : ∀ x ∈ (r2r n w).2, c7l x := by
 unfold r2r
 rw [if_pos h]
 split
 ·unfold b0n
  split
  ·intro x hx; cases hx
  ·split
   ·split
    ·rename_i hr
     intro x hx
     rw [List.mem_singleton.1 hx]
     unfold w6w at hr ⊢
     rw [if_pos h] at hr ⊢
     split
     ·exact e4r h _
     ·rename_i k; rw [if_neg k] at hr; cases hr
    ·intro x hx; cases hx
   ·split
    ·intro x hx
     split at hx
     ·rw [List.mem_singleton.1 hx]; exact b3j (.inl rfl) rfl rfl rfl rfl
     ·cases hx
    ·split
     ·split <;> (intro x hx; cases hx)
     ·intro x hx; cases hx
 ·intro x hx; cases hx
theorem e1f (h : Hb) (n : Nd) : ∀ x ∈ (s0s h n).2.2, c7l x := by
 unfold s0s
 split
 ·split
  ·exact e1d rfl rfl rfl rfl
  ·intro x hx; cases hx
 ·intro x hx; cases hx
theorem b8u (h : Hb) (n : Nd) (w : Wo) : ∀ x ∈ (p6p h n w).2.2, c7l x := by
 unfold p6p
 split
 ·split
  ·unfold a1e
   split
   ·intro x hx; cases hx
   ·split
    ·split
     ·split
      ·exact e1d rfl rfl rfl rfl
      ·intro x hx; cases hx
     ·intro x hx; cases hx
    ·split
     ·split
      ·split
       ·intro x hx
        simp only [List.mem_cons, List.not_mem_nil, or_false] at hx
        rcases hx with rfl | rfl
        ·exact b3j (.inr (.inl rfl)) rfl rfl rfl rfl
        ·exact b3j (.inr (.inr rfl)) rfl rfl rfl rfl
       ·intro x hx; cases hx
      ·intro x hx; cases hx
     ·intro x hx; cases hx
  ·intro x hx; cases hx
 ·intro x hx; cases hx
theorem e4s (k : u1u n) (hn : a0w h) : u1u (s0s h n).2.1 := by
 unfold s0s
 rw [if_pos ⟨hn, k⟩]
 split
 ·rename_i q; exact d0b k q
 ·exact k

def b1j (r m : List Wo) : List Wo := r ++ m.take (40 - r.length)
variable {r m : List Wo}
theorem e4t (h : r.length ≤ 40) : (b1j r m).length ≤ 40 := by
 unfold b1j; rw [List.length_append, List.length_take]; omega
theorem e4u (h : ∀ x ∈ r, c7l x) (k : ∀ x ∈ m, c7l x) : ∀ x ∈ b1j r m, c7l x := fun x hx => by
 rcases List.mem_append.1 hx with h1 | h1
 ·exact h x h1
 ·exact k x (List.mem_of_mem_take h1)
end
section
variable {w x : Wo} {r : List Wo} {d : Bool}
theorem f1n (h : x.from' = w.from') : a7f w true (x :: r) d = w :: a7f w true r true := by
 show (if x.from' = w.from' then _ else _) = _
 rw [if_pos h]; rfl
theorem f1o (h : x.from' = w.from') : a7f w false (x :: r) d = x :: a7f w false r true := by
 show (if x.from' = w.from' then _ else _) = _
 rw [if_pos h]; rfl
variable {ag : Bool}
theorem f1p (h : ¬ x.from' = w.from') (h2 : w.from' < x.from') : a7f w ag (x :: r) false = w :: x :: a7f w ag r true := by
 show (if x.from' = w.from' then _ else if false = false ∧ w.from' < x.from' then _ else _) = _
 rw [if_neg h, if_pos ⟨rfl, h2⟩]
theorem d4m (h : ¬ x.from' = w.from') (h2 : ¬ (d = false ∧ w.from' < x.from')) : a7f w ag (x :: r) d = x :: a7f w ag r d := by
 show (if x.from' = w.from' then _ else if d = false ∧ w.from' < x.from' then _ else _) = _
 rw [if_neg h, if_neg h2]
variable {l : List Wo}
theorem b1k {o t l' : List Wo} {a : List Wo} (h : o ++ l = t) (e : l = a ++ l') : (o ++ a) ++ l' = t := by rw [List.append_assoc, ← e, h]
theorem d4n {f : Int} {w : Wo} : ∀ {l : List Wo} {i : Nat}, (∀ (j : Nat) a, j < i → l[j]? = some a → ¬ a.from' = f) → l[i]? = some w → w.from' = f → b5x f l = some w
 | [], i, _, h, _ => by simp at h
 | a :: l, 0, _, h, k => by
  have : a = w := by simpa using h
  subst this
  simp [b5x, k]
 | a :: l, i + 1, hn, h, k => by
  have h0 := hn 0 a (by omega) rfl
  have := d4n (l := l) (i := i) (fun j b hj hb => hn (j + 1) b (by omega) (by simpa using hb)) (by simpa using h) k
  unfold b5x at this ⊢
  rw [List.find?_cons, decide_eq_false h0]
  exact this
theorem e4v {f : Int} (hn : ∀ (j : Nat) a, l[j]? = some a → ¬ a.from' = f) : b5x f l = none := by
 unfold b5x
 rw [List.find?_eq_none]
 intro a ha
 obtain ⟨j, hj⟩ := List.getElem?_of_mem ha
 simpa using hn j a hj
def e9w (f : Int) (l : List Wo) : Wo := (b5x f l).getD wo0
variable {k : Int}
theorem d2e (h : b2e l k) : ∀ w ∈ l, wob w := fun w hw => by
 obtain ⟨i, hi⟩ := List.getElem?_of_mem hw
 exact c9w (h i w hi).1
variable {i : Nat}
theorem b3k {α : Type} {l : List α} {x d : α} (h : l[i]? = some x) : l.getD i d = x := by rw [List.getD_eq_getElem?_getD, h]; rfl
variable {m : Int}
theorem d4o (h : l[i]? = some w) (k : w.g < a2d m (l.take i)) : w.g = a2d m (l.take (i + 1)) := by rw [c2r h, if_pos k]
theorem d4p (h : l[i]? = some w) (k : ¬ w.g < a2d m (l.take i)) : a2d m (l.take i) = a2d m (l.take (i + 1)) := by rw [c2r h, if_neg k]

def b4u (h : Hb) (g : Int) (i : Nat) : List Wo := (List.range 2).map fun j => if j < i then c7k h g (j + 1) else { c7k h g (j + 1) with inc := 0 }
theorem e1g (h : Hb) (g : Int) (hi : i < 2) : (b4u h g i)[i]? = some { c7k h g (i + 1) with inc := 0 } := by
 match i, hi with
 | 0, _ => rfl
 | 1, _ => rfl
theorem d6e (h : Hb) (g : Int) (hi : i < 2) : (b4u h g i).set i (c7k h g (i + 1)) = b4u h g (i + 1) := by
 match i, hi with
 | 0, _ => rfl
 | 1, _ => rfl
variable {h : Hb}
theorem e1h {to : Nat} {b : Wo} (hb : h.twos[to]? = some b) (g : Int) : (c7k h g to).inc = b.inc := by
 show (h.twos.map Wo.inc).getD to 0 = b.inc
 rw [List.getD_eq_getElem?_getD, List.getElem?_map, hb]; rfl
variable {n : Nd}
theorem d0e (k : u1u n) (h : n.led < 9999) : (w6w (c9x n) (c9x n).led).2.2 = true ↔ (n.up = true ∧ n.round < n.led + 1) := by
 have hl := k.1.1.2.2.2.1
 unfold w6w
 rw [if_pos (d4h k h)]
 constructor
 ·intro q
  split at q
  ·rename_i m; exact ⟨m.1, by have := m.2.1; show n.round < n.led + 1; exact Int.lt_of_lt_of_le (Int.lt_succ n.round) this⟩
  ·cases q
 ·rintro ⟨q1, q2⟩
  rw [if_pos ⟨q1, by show n.round + 1 ≤ n.led + 1; omega, by show n.led + 1 ≤ 9999; omega⟩]
theorem e4w (k : a0w h ∧ u1u n) (m : a5f n) : w6w (c9x n) (c9x n).led = ((s0s h n).2.1, d9l (c9x n) (n.led + 1), true) := by
 have hl := k.2.1.1.2.2.2.1
 rw [d2a k m]
 unfold w6w
 rw [if_pos (d4h k.2 m.2.2.1), if_pos ⟨m.2.1, by have := m.2.2.2; show n.round + 1 ≤ n.led + 1; omega, by have := m.2.2.1; show n.led + 1 ≤ 9999; omega⟩]
 rfl
theorem e4x (k : (b5x w.from' h.outs).isSome = false) : a4e h w = true := by
 unfold a4e
 cases e : b5x w.from' h.outs with
 | none => rfl
 | some x => rw [e] at k; cases k
theorem d0f (k : (b5x w.from' h.outs).isSome = true) : a4e h w = true ↔ (e9w w.from' h.outs).g < w.g := by
 unfold a4e e9w
 cases e : b5x w.from' h.outs with
 | none => rw [e] at k; cases k
 | some x => simp
theorem e1i (k : (s4s h).2 = true) : a7m h := Classical.byContradiction fun q => by rw [b5y q] at k; cases k
theorem f1q (k : ¬ (a0w h ∧ u1u n)) : p6p h n w = (hb0, nd0, []) := if_neg k
theorem e1j (k : a0w h ∧ u1u n) (m : ¬ a1y n w) : p6p h n w = (h, n, []) := by unfold p6p; rw [if_pos k, if_neg m]
theorem b5z (k : a0w h ∧ u1u n) (m : a1y n w) : p6p h n w = a1e h n w := by unfold p6p; rw [if_pos k, if_pos m]
theorem e6i (k : w.kind = 7) (l : a4e h w = true) : a1e h n w = ({ h with outs := a7f w true h.outs false }, n, []) := by unfold a1e; rw [if_pos k, if_pos l]
theorem f1r (k : w.kind = 7) (l : ¬ a4e h w = true) : a1e h n w = (h, n, []) := by unfold a1e; rw [if_pos k, if_neg l]
theorem d4q (k : w.kind = 3) (l : ¬ d6a h w) : a1e h n w = (h, n, []) := by unfold a1e; rw [if_neg (by omega), if_pos k, if_neg l]
theorem f1s (k : w.kind = 3) (l : d6a h w) (e : (d4i h w).ones.length = 3) : a1e h n w = ({ d4i h w with twos := [f2q h n] }, n, e2g (e8x h.round)) := by unfold a1e; rw [if_neg (by omega), if_pos k, if_pos l, if_pos e]
theorem f1t (k : w.kind = 3) (l : d6a h w) (e : ¬ (d4i h w).ones.length = 3) : a1e h n w = (d4i h w, n, []) := by unfold a1e; rw [if_neg (by omega), if_pos k, if_pos l, if_neg e]
theorem e1k (k : w.kind = 5) (l : ¬ e2h h w) : a1e h n w = (h, n, []) := by unfold a1e; rw [if_neg (by omega), if_neg (by omega), if_pos k, if_neg l]
theorem f1u (k : w.kind = 5) (l : e2h h w) (e : (s4s (b0o h w)).2 = true) : a1e h n w = (b0o h w, (s9s n h.round (s4s (b0o h w)).1).1, b4u (b0o h w) (s4s (b0o h w)).1 2) := by unfold a1e; rw [if_neg (by omega), if_neg (by omega), if_pos k, if_pos l, if_pos e]; rfl
theorem f1v (k : w.kind = 5) (l : e2h h w) (e : ¬ (s4s (b0o h w)).2 = true) : a1e h n w = (b0o h w, n, []) := by unfold a1e; rw [if_neg (by omega), if_neg (by omega), if_pos k, if_pos l, if_neg e]
theorem f3r (k7 : ¬ w.kind = 7) (k3 : ¬ w.kind = 3) (k5 : ¬ w.kind = 5) : a1e h n w = (h, n, []) := by unfold a1e; rw [if_neg k7, if_neg k3, if_neg k5]
theorem d0g (k : ¬ (a0w h ∧ u1u n ∧ n.id = 0 ∧ h.outs.length = 2)) : a8m h n = [] := if_neg k
theorem e6j (k : a0w h ∧ u1u n ∧ n.id = 0 ∧ h.outs.length = 2) : a8m h n = a1s ((n.outs ++ h.outs.flatMap Wo.outs).filter fun o => decide (o.time < a2d n.g h.outs)) := if_pos k
def d2f (g : Int) (o : Ou) : Bool := decide (o.time < g)
theorem d4r (h : b2e l k) : ∀ w ∈ l, w.outs.length ≤ 96 := fun w hw => by
 obtain ⟨i, hi⟩ := List.getElem?_of_mem hw
 have := (s7s (h i w hi).1.2.2.2.2).1
 omega
end
section

def e6k (l : La) : St := if a6q l = true then b4l l l.done.length else ⟨0, 0, 0⟩
variable {l : La}
theorem f1w (h : ¬ a6q l = true) : e6k l = ⟨0, 0, 0⟩ := if_neg h
theorem f1x (h : a6q l = true) (h2 : l.done.length = 0) : e6k l = l.base := by unfold e6k; rw [if_pos h, h2]; rfl
variable {p : Pa}
theorem f1y (h : a6q l = true) (h2 : l.done[l.done.length - 1]? = some p) : e6k l = p.after := by
 have hlt := (List.getElem?_eq_some_iff.1 h2).1
 unfold e6k
 rw [if_pos h]
 have := c1u h2
 rw [show l.done.length - 1 + 1 = l.done.length from by omega] at this
 exact this
def paT (p : Pa) : Prop := ∀ q ∈ p.outs, q.time = p.ev.time
def c2u (n : Nd) : Prop := ∀ l ∈ n.lanes, ∀ p ∈ l.done, paT p
def ndI (n : Nd) : Prop := u1u n ∧ c2u n
variable {n : Nd}
theorem e1l {P : La → Prop} (hP : ∀ l k, P l → P (a2s l 0 k)) : ∀ (k : Nat) {ls : List La}, c6x ls ≤ k → (∀ l ∈ ls, P l) → ∀ l ∈ a0g n ls, P l := by
 have step : ∀ (ls : List La) (i : Nat), (∀ l ∈ ls, P l) → ∀ l ∈ b7d n ls i, P l := fun ls i h => by
  rcases b2x n ls i with ⟨h1, h2⟩ | ⟨l, h0, h3, h1, h2⟩
  ·rw [h1]; exact h
  ·rw [h1]
   intro m hm
   rcases List.mem_or_eq_of_mem_set hm with hm | hm
   ·exact h m hm
   ·rw [hm]; exact hP l _ (h l (List.mem_of_getElem? h0))
 have pass : ∀ (ls : List La), (∀ l ∈ ls, P l) → ∀ i, ∀ l ∈ a3h n ls i, P l := fun ls h i => by
  induction i with
  | zero => exact h
  | succ i ih => exact step _ i ih
 intro k
 induction k with
 | zero =>
  intro ls hk h
  cases hm : b1e n ls ls.length with
  | false => rw [← c0b hm]; exact pass ls h _
  | true => have hd := (b0j n ls ls.length).2 hm; omega
 | succ k ih =>
  intro ls hk h
  cases hm : b1e n ls ls.length with
  | false => rw [← c0b hm]; exact pass ls h _
  | true =>
   have hd := (b0j n ls ls.length).2 hm
   rw [← c6z hm]
   exact ih (by omega) (pass ls h _)
theorem e9k {k : Nat} (h : ∀ p ∈ l.done, paT p) : ∀ p ∈ (a2s l 0 k).done, paT p := fun p hp => h p (List.mem_of_mem_take (List.mem_of_mem_drop hp))
variable {m : Nd}
theorem c5i (h : c2u m) : c2u (nl m (a0g m m.lanes)) := e1l (P := fun l => ∀ p ∈ l.done, paT p) (fun l k h => e9k h) _ (Nat.le_refl _) h
theorem e1m (h : c2u n) (f inc ver g : Int) (es : List Ev) : c2u (a4f n f inc ver g es) := by
 have h0 : c2u nd0 := fun l hl => by cases hl
 have hA : c2u (a9k n (b5p n f.toNat inc ver g es)) := by
  have hm : c2u (b5p n f.toNat inc ver g es) := by
   unfold c2u
   rw [(d3z n f.toNat inc ver g es).2.2]; exact h
  exact c5i hm
 unfold a4f
 split
 ·split
  ·unfold b1c
   split
   ·exact hA
   ·exact h
  ·exact h
 ·exact h0
theorem c2v (h : c2u n) (r g : Int) : c2u (s9s n r g).1 := by
 have hS : c2u (a4o n g) := fun l hl p hp => by
  obtain ⟨l0, h1, rfl⟩ := List.mem_map.1 (show l ∈ n.lanes.map (c1v g) from hl)
  exact h l0 h1 p (List.mem_of_mem_drop hp)
 unfold s9s
 split
 ·split
  ·unfold b1c
   split
   ·exact hS
   ·exact h
  ·exact h
 ·exact fun l hl => by cases hl
theorem d2g (h : c2u n) (r : Int) : c2u (w6w n r).1 := by
 unfold w6w
 split
 ·split
  ·exact h
  ·exact h
 ·exact fun l hl => by cases hl
theorem c5j (n : Nd) (u : Bool) (inc ver : Int) : c2u { a2r n with up := u, inc := inc, version := ver } := fun l hl p hp => by
 obtain ⟨l0, _, rfl⟩ := List.mem_map.1 (show l ∈ n.lanes.map s5s from hl)
 cases hp
theorem e6l (h : ndI n) : ndI (a7s n) := ⟨e9a h.1, by rw [b8k h.1]; exact c5j n false n.inc 0⟩
theorem f1z (h : ndI n) : ndI (a4y n) := ⟨e9b h.1, by
 by_cases k : n.up = true ∨ 9999 ≤ n.inc
 ·rw [b3x h.1 k]; exact h.2
 ·rw [b8l h.1 k]; exact c5j n true (n.inc + 1) 1⟩
theorem e9l (i : Int) (h : 0 ≤ i ∧ i ≤ 2) : ndI (a2q i) := ⟨e4p i h, fun l hl p hp => by
 unfold a2q at hl
 rw [if_pos h] at hl
 obtain ⟨q, _, rfl⟩ := List.mem_map.1 (show l ∈ (s3s i 4).map b1z from hl)
 cases hp⟩
variable {h : Hb}
theorem e9m (k : ndI n) (hn : a0w h) : ndI (s0s h n).2.1 := ⟨e4s k.1 hn, by
 unfold s0s
 rw [if_pos ⟨hn, k.1⟩]
 split <;> exact k.2⟩
theorem c7n (k : ndI n) (hk : a0w h) (w : Wo) : ndI (p6p h n w).2.1 := ⟨d2b k.1 hk w, by
 unfold p6p
 rw [if_pos ⟨hk, k.1⟩]
 split
 ·unfold a1e
  split
  ·exact k.2
  ·split
   ·split
    ·split <;> exact k.2
    ·exact k.2
   ·split
    ·split
     ·split
      ·exact c2v k.2 _ _
      ·exact k.2
     ·exact k.2
    ·exact k.2
 ·exact k.2⟩
theorem e1n (k : ndI n) (w : Wo) : ndI (r2r n w).1 := ⟨e9c k.1 w, by
 unfold r2r
 rw [if_pos k.1]
 split
 ·unfold b0n
  split
  ·exact e1m k.2 _ _ _ _ _
  ·split
   ·split
    ·exact d2g k.2 _
    ·exact k.2
   ·split
    ·exact k.2
    ·split
     ·split
      ·exact c2v k.2 _ _
      ·exact k.2
     ·exact k.2
 ·exact k.2⟩

def a3c (l : La) (p : Pa) : La := ⟨l.proc, l.base, l.done ++ [p]⟩
def paB (p : Pa) : Prop := p.sends.length ≤ 32 ∧ p.outs.length ≤ 32 ∧ paT p
variable {i : Nat}
theorem e4y (h : wk n) (hl : n.lanes[i]? = some l) (hd : l.done.length < 100) (hp : paB p) : wk (nl n (n.lanes.set i (a3c l p))) := by
 obtain ⟨h1, h2, h3, h4, h5, h6, h7⟩ := h
 refine ⟨by show (n.lanes.set i (a3c l p)).length ≤ 4; rw [List.length_set]; exact h1, h2, h3, h4, fun m hm => ?_, h6, fun j m hm => ?_⟩
 ·have hm : m ∈ n.lanes.set i (a3c l p) := hm
  rcases List.mem_or_eq_of_mem_set hm with hm | hm
  ·exact h5 m hm
  ·obtain ⟨q1, q2⟩ := h5 l (List.mem_of_getElem? hl)
   rw [hm]
   refine ⟨by show (l.done ++ [p]).length ≤ 100; rw [List.length_append]; simp only [List.length_cons, List.length_nil]; omega, fun x hx => ?_⟩
   rcases List.mem_append.1 (show x ∈ l.done ++ [p] from hx) with hx | hx
   ·exact q2 x hx
   ·rw [List.mem_singleton.1 hx]; exact ⟨hp.1, hp.2.1⟩
 ·have hm : (n.lanes.set i (a3c l p))[j]? = some m := hm
  rw [List.getElem?_set] at hm
  by_cases e : i = j
  ·subst e
   rw [if_pos rfl, if_pos (List.getElem?_eq_some_iff.1 hl).1] at hm
   cases hm
   exact h7 i l hl
  ·rw [if_neg e] at hm; exact h7 j m hm
theorem e1o (h : c2u n) (hl : n.lanes[i]? = some l) (hp : paB p) : c2u (nl n (n.lanes.set i (a3c l p))) := fun m hm x hx => by
 have hm : m ∈ n.lanes.set i (a3c l p) := hm
 rcases List.mem_or_eq_of_mem_set hm with hm | hm
 ·exact h m hm x hx
 ·rw [hm] at hx
  rcases List.mem_append.1 (show x ∈ l.done ++ [p] from hx) with hx | hx
  ·exact h l (List.mem_of_getElem? hl) x hx
  ·rw [List.mem_singleton.1 hx]; exact hp.2.2
theorem f3s {l : List Nd} (h : ∀ n ∈ l, ndI n) (hm : ndI m) : ∀ n ∈ l.set i m, ndI n := fun n hn => by
 rcases List.mem_or_eq_of_mem_set hn with h1 | h1
 ·exact h n h1
 ·rw [h1]; exact hm
theorem e1p {s : List Ev} (h : (b2c l s).2 = true) : l.done.length < 100 := by
 by_cases k : a6q l = true ∧ b0i l s
 ·rw [c1s k] at h
  have h1 := (s7s k.2.1).1
  unfold a0n at h
  split at h
  ·cases h
  ·rename_i k2
   split at h
   ·rename_i e he
    have := (List.getElem?_eq_some_iff.1 he).1
    omega
   ·cases h
 ·rw [d1m k] at h; cases h
theorem e9n {e : Ev} {s : St} {sd : List Ev} {ou : List Ou} (h1 : sd.length ≤ 32) (h2 : ou.length ≤ 32) (h3 : ∀ q ∈ ou, q.time = e.time) : paB ⟨e, s, p0p sd, a1s ou⟩ := by
 refine ⟨?_, ?_, fun q hq => h3 q ?_⟩
 ·show (p0p sd).length ≤ 32
  have := b0h sd; omega
 ·show (a1s ou).length ≤ 32
  rw [b3y]; exact h2
 ·exact (b0e ou).mem_iff.1 (show q ∈ a1s ou from hq)
def b8v (w : Tw) : Prop := a7e w.apps ∧ w.nodes.length = 3 ∧ (∀ n ∈ w.nodes, ndI n) ∧ w.radio.length ≤ 40 ∧ (∀ x ∈ w.radio, c7l x) ∧ a0w w.hub ∧ w.sink.length ≤ 1000000
def smOk (S : Sm) (c : Nat) : Prop := b8v S.w ∧ S.list.length ≤ c ∧ S.p ≤ c
theorem smOk.mono {S : Sm} {c d : Nat} (h : smOk S c) (hd : c ≤ d) : smOk S d := ⟨h.1, by have := h.2.1; omega, by have := h.2.2; omega⟩
end
section
def a8w (c : Bool) (h : Hb) : List AV := [pI h.round, q4q c h.ones, q4q c h.twos, q4q c h.outs]
def a4q (e : Te) : List AV := [pI e.kind, pI e.node, pI e.proc, pI e.word, .pv (.bool e.keep)]
def wZ (k f t i v r g : Int) : Wo := ⟨k, f, t, i, v, r, g, [], [], [], []⟩
def cZ (k f t i v r g : Int) : List AV := [pI k, pI f, pI t, pI i, pI v, pI r, pI g, .pv (.slice none 0 0), .pv (.slice none 0 0), .pv (.slice none 0 0), .pv (.slice none 0 0)]
theorem f3t (k f t i v r g : Int) : LeL true (cZ k f t i v r g) (p5p true (wZ k f t i v r g)) :=
 .cons (.cl rfl) (.cons (.cl rfl) (.cons (.cl rfl) (.cons (.cl rfl) (.cons (.cl rfl) (.cons (.cl rfl) (.cons (.cl rfl) (.cons .nil (.cons .nil (.cons .nil (.cons .nil .nil))))))))))
theorem a2x (h0 : u2u h i = some (g, .row 79 11 (l.map (p5p true)))) (t : FinL ((i, (g, .dead)) :: h) az bs h') : FinL h (.ref i g :: az) (q4q true l :: bs) h' := .ref h0 (Le.ow_map _ (fun _ => rfl) (fun _ => rfl)) t
theorem f2a (k f t i v r g : Int) : Le true (.row .ow 79 11 [cZ k f t i v r g]) (q4q true [wZ k f t i v r g]) := Le.ow_map2 (f := fun _ : Unit => cZ k f t i v r g) (f' := fun _ : Unit => p5p true (wZ k f t i v r g)) [()] (fun h => h) (fun _ => f3t k f t i v r g)
theorem f3u (h0 : u2u h j = some (q, .row 79 11 [cZ k f t i v r g])) (x : FinL ((j, (q, .dead)) :: h) az bs h') : FinL h (.ref j q :: az) (q4q true [wZ k f t i v r g] :: bs) h' := .ref h0 (f2a k f t i v r g) x
theorem d0h (t : FinL h az bs h') : FinL h (.agg (w5w true n) :: az) (.agg (w5w true n) :: bs) h' := .agg rfl (.cl rfl (.cl rfl (.cl rfl (.cl rfl (.cl rfl (.cl rfl (.cl rfl (.cl rfl (.cl rfl (.cl rfl (.cl rfl (.cl rfl (.cl rfl .nil))))))))))))) t
theorem a8n (t : FinL h az bs h') : FinL h (.agg (a8w true u) :: az) (.agg (a8w true u) :: bs) h' := .agg rfl (.cl rfl (.cl rfl (.cl rfl (.cl rfl .nil)))) t
theorem d4s (t : FinL h az bs h') : FinL h (.agg [pI 0, .pv (.slice none 0 0), .pv (.slice none 0 0), .pv (.slice none 0 0)] :: az) (.agg (a8w true hb0) :: bs) h' := .agg rfl (.cl rfl (.le rfl .nil (.le rfl .nil (.le rfl .nil .nil)))) t
theorem f2b (h0 : u2u h j = some (q, .row 79 11 [cZ k f t i v r g])) (x : FinL ((j, (q, .dead)) :: h) az bs h') :
  FinL h (.agg [pI R, q4q true a, .ref j q, q4q true b] :: az) (.agg (a8w true ⟨R, a, [wZ k f t i v r g], b⟩) :: bs) h' := .agg rfl (.cl rfl (.cl rfl (.ref h0 (f2a k f t i v r g) (.cl rfl .nil)))) x
theorem f2c (h0 : u2u h j = some (q, .row 79 11 (a.map (p5p true)))) (h1 : u2u ((j, (q, .dead)) :: h) j' = some (q', .row 79 11 (c.map (p5p true)))) (x : FinL ((j', (q', .dead)) :: (j, (q, .dead)) :: h) az bs h') :
  FinL h (.agg [pI R, .ref j q, .ref j' q', q4q true b] :: az) (.agg (a8w true ⟨R, a, c, b⟩) :: bs) h' := .agg rfl (.cl rfl (.ref h0 (Le.ow_map _ (fun _ => rfl) (fun _ => rfl)) (.ref h1 (Le.ow_map _ (fun _ => rfl) (fun _ => rfl)) (.cl rfl .nil)))) x

structure Rn where
 s : St
 sends : List Ev
 outs : List Ou
def f2d (s : St) (r n : Int) : St := if r = 0 then ⟨n.tmod 1000, s.y, s.count⟩ else ⟨s.x, n.tmod 1000, s.count⟩
theorem e9o (hc : c' = true → c = true) (l : List Op_) : Le k (f2p c l) (f2p c' l) := Le.rd_map l hc (fun _ => .cons (.cl rfl) (.cons (.cl rfl) (.cons (.cl rfl) (.cons (.cl rfl) (.cons (.cl rfl) .nil))))) (fun _ => rfl)
theorem e9p (hc : c' = true → c = true) (l : List Ru) : Le k (e8u c l) (e8u c' l) := Le.rd_map l hc (fun _ => .cons (.cl rfl) (.cons (e9o hc _) .nil)) (fun _ => rfl)

def e9x (a : Ap) : List Ap := [a, ⟨[]⟩, ⟨[]⟩, ⟨[]⟩]
theorem e1q (a : Ap) : Le k (.row .ow 121 1 [[e8u true a.rules], [.pv (.slice none 0 0)], [.pv (.slice none 0 0)], [.pv (.slice none 0 0)]]) (a6g false (e9x a)) :=
 Le.ow_map2 (f := fun o : Option Unit => match o with | some _ => [e8u true a.rules] | none => [.pv (.slice none 0 0)]) (f' := fun o : Option Unit => match o with | some _ => b9r false a | none => b9r false ⟨[]⟩) [some (), none, none, none] (fun h => by cases h) (fun o => match o with | some _ => .cons (e9p nfc _) .nil | none => .cons .nil .nil)
theorem e9q (h : a7e (e9x a)) : e0r a := h.2 a (List.mem_cons_self ..)
end
section
theorem a5l (r : Int) : a1p Tryz.prog 301 [.pv (.int .i64 r)] (.pv (.bool (decide (0 ≤ r ∧ r ≤ 1)))) := by
 refine pX Tryz.f301 [.pv (.bool (decide (0 ≤ r ∧ r ≤ 1)))] 0 ?_
 refine exR (x1x rfl (exR (x4x rfl (x9x rfl rfl rfl (u7u r 0 1) (x1x rfl (x6x ⟨.inr rfl, ?_⟩))))))
 exact y9y rfl rfl rfl
theorem c7o (o : Op_) : a1p Tryz.prog 270 [.agg (b7n o)] (.pv (.bool (decide (b1g o)))) := by
 refine a9y r4r (fn := Tryz.f270) (by kernel_rfl) (by kernel_rfl) rfl (outs := [.pv (.bool (decide (b1g o)))]) (by rfl) (a0m rfl) 1 ?_
 refine exR (u0u (id := 0) rfl rfl rfl (x1x rfl (x2x fun K1 hK1 => ?_)))
 refine exA 2 rfl rfl (y0y ?_)
 refine a0c (ι := Bool) (fun b γ1 => [(5, .pv (.bool (b)))]) (fun b γ1 => []) (fun b => b = decide (o.do' = 1 ∨ o.do' = 3)) (cK [1, 4] rfl) (y6y 0 rfl HE.nil) ?_ fun b γ1 hi => ?_
 ·refine exR (v6v rfl rfl rfl (x1x rfl (x8x rfl ?_ ?_)))<;>intro h<;>try simp at h
  ·refine x7x ?_
   exact ⟨_, (by (simp_all; done)), [], (y2y 5 rfl Cov.nil), (y2y 1 rfl (y2y 4 rfl Cov.nil)), HE.nil, (y6y 0 rfl HE.nil), rfl⟩
  refine exG ?_
  refine v6v rfl rfl rfl ?_
  refine x1x rfl ?_
  exact ⟨_, (by (show (_ : Bool) = _; rw [Bool.eq_iff_iff]; simp; omega)), [], (y2y 5 rfl Cov.nil), (y2y 1 rfl (y2y 4 rfl Cov.nil)), HE.nil, (y6y 0 rfl HE.nil), rfl⟩
 ·try dsimp only [b2z, b3a]
  subst hi
  refine x8x rfl ?_ ?_<;>intro h<;>try simp at h
  ·refine exA 2 rfl rfl (x9x rfl rfl rfl (a5l ..) (x4x rfl (z8z rfl rfl ?_ ?_)))<;>intro h<;>try simp at h
   ·refine x0x 14 rfl rfl (x6x ⟨.inr rfl, ?_⟩)
    refine y9y rfl ?_ rfl
    exact congrArg (fun b : Bool => [AV.pv (.bool b)]) ((decide_eq_false (by simp only [b1g, a3y, b4t]; omega)).symm)
   refine x0x 2 rfl rfl (z1z rfl rfl (x9x rfl rfl rfl (a5k ..) (x0x 2 rfl rfl (z8z rfl rfl ?_ ?_))))<;>intro h<;>try simp at h
   ·refine x0x 9 rfl rfl (x6x ⟨.inr rfl, ?_⟩)
    refine y9y rfl ?_ rfl
    exact congrArg (fun b : Bool => [AV.pv (.bool b)]) ((decide_eq_false (by simp only [b1g, a3y, b4t]; omega)).symm)
   refine x0x 5 rfl rfl (z8z rfl rfl ?_ ?_)<;>intro h<;>try simp at h
   ·refine x0x 4 rfl rfl (x6x ⟨.inr rfl, ?_⟩)
    refine y9y rfl ?_ rfl
    exact congrArg (fun b : Bool => [AV.pv (.bool b)]) ((decide_eq_false (by simp only [b1g, a3y, b4t]; omega)).symm)
   refine x0x 5 rfl rfl (x6x ⟨.inr rfl, ?_⟩)
   refine y9y rfl ?_ rfl
   exact congrArg (fun b : Bool => [AV.pv (.bool b)]) (decide_eq_decide.2 (by simp only [b1g, a3y, b4t]; omega))
  refine exA 2 rfl rfl (x8x rfl ?_ ?_)<;>intro h<;>try simp at h
  ·refine exA 2 rfl rfl (x9x rfl rfl rfl (a5l ..) (x4x rfl (z8z rfl rfl ?_ ?_)))<;>intro h<;>try simp at h
   ·refine x0x 14 rfl rfl (x6x ⟨.inr rfl, ?_⟩)
    refine y9y rfl ?_ rfl
    exact congrArg (fun b : Bool => [AV.pv (.bool b)]) ((decide_eq_false (by simp only [b1g, a3y, b4t]; omega)).symm)
   refine x0x 2 rfl rfl (z1z rfl rfl (x9x rfl rfl rfl (a5l ..) (x0x 2 rfl rfl (z8z rfl rfl ?_ ?_))))<;>intro h<;>try simp at h
   ·refine x0x 9 rfl rfl (x6x ⟨.inr rfl, ?_⟩)
    refine y9y rfl ?_ rfl
    exact congrArg (fun b : Bool => [AV.pv (.bool b)]) ((decide_eq_false (by simp only [b1g, a3y, b4t]; omega)).symm)
   refine x0x 5 rfl rfl (z8z rfl rfl ?_ ?_)<;>intro h<;>try simp at h
   ·refine x0x 4 rfl rfl (x6x ⟨.inr rfl, ?_⟩)
    refine y9y rfl ?_ rfl
    exact congrArg (fun b : Bool => [AV.pv (.bool b)]) ((decide_eq_false (by simp only [b1g, a3y, b4t]; omega)).symm)
   refine x0x 5 rfl rfl (x6x ⟨.inr rfl, ?_⟩)
   refine y9y rfl ?_ rfl
   exact congrArg (fun b : Bool => [AV.pv (.bool b)]) (decide_eq_decide.2 (by simp only [b1g, a3y, b4t]; omega))
  refine a0c (ι := Bool) (fun b γ2 => [(46, .pv (.bool (b)))]) (fun b γ2 => []) (fun b => b = decide (o.do' = 4 ∨ o.do' = 7)) (cK [1, 4] rfl) (y6y 0 rfl HE.nil) ?_ fun b γ2 hi => ?_
  ·refine exR (v6v rfl rfl rfl (x1x rfl (x8x rfl ?_ ?_)))<;>intro h<;>try simp at h
   ·refine x7x ?_
    exact ⟨_, (by (simp_all; done)), [], (y2y 46 rfl Cov.nil), (y2y 1 rfl (y2y 4 rfl Cov.nil)), HE.nil, (y6y 0 rfl HE.nil), rfl⟩
   refine exG ?_
   refine x0x 2 rfl rfl ?_
   exact ⟨_, (by (show (_ : Bool) = _; rw [Bool.eq_iff_iff]; simp; omega)), [], (y2y 46 rfl Cov.nil), (y2y 1 rfl (y2y 4 rfl Cov.nil)), HE.nil, (y6y 0 rfl HE.nil), rfl⟩
  ·try dsimp only [b2z, b3a]
   subst hi
   refine x8x rfl ?_ ?_<;>intro h<;>try simp at h
   ·refine exA 2 rfl rfl (x9x rfl rfl rfl (a5l ..) (x4x rfl (z8z rfl rfl ?_ ?_)))<;>intro h<;>try simp at h
    ·refine x0x 14 rfl rfl (x6x ⟨.inr rfl, ?_⟩)
     refine y9y rfl ?_ rfl
     exact congrArg (fun b : Bool => [AV.pv (.bool b)]) ((decide_eq_false (by simp only [b1g, a3y, b4t]; omega)).symm)
    refine x0x 5 rfl rfl (z8z rfl rfl ?_ ?_)<;>intro h<;>try simp at h
    ·refine x0x 9 rfl rfl (x6x ⟨.inr rfl, ?_⟩)
     refine y9y rfl ?_ rfl
     exact congrArg (fun b : Bool => [AV.pv (.bool b)]) ((decide_eq_false (by simp only [b1g, a3y, b4t]; omega)).symm)
    refine x0x 5 rfl rfl (z8z rfl rfl ?_ ?_)<;>intro h<;>try simp at h
    ·refine x0x 4 rfl rfl (x6x ⟨.inr rfl, ?_⟩)
     refine y9y rfl ?_ rfl
     exact congrArg (fun b : Bool => [AV.pv (.bool b)]) ((decide_eq_false (by simp only [b1g, a3y, b4t]; omega)).symm)
    refine x0x 5 rfl rfl (x6x ⟨.inr rfl, ?_⟩)
    refine y9y rfl ?_ rfl
    exact congrArg (fun b : Bool => [AV.pv (.bool b)]) (decide_eq_decide.2 (by simp only [b1g, a3y, b4t]; omega))
   refine exA 2 rfl rfl (x8x rfl ?_ ?_)<;>intro h<;>try simp at h
   ·refine exA 2 rfl rfl (x9x rfl rfl rfl (a5l ..) (x4x rfl (z8z rfl rfl ?_ ?_)))<;>intro h<;>try simp at h
    ·refine x0x 14 rfl rfl (x6x ⟨.inr rfl, ?_⟩)
     refine y9y rfl ?_ rfl
     exact congrArg (fun b : Bool => [AV.pv (.bool b)]) ((decide_eq_false (by simp only [b1g, a3y, b4t]; omega)).symm)
    refine x0x 2 rfl rfl (z1z rfl rfl (x9x rfl rfl rfl (a5k ..) (x0x 2 rfl rfl (z8z rfl rfl ?_ ?_))))<;>intro h<;>try simp at h
    ·refine x0x 9 rfl rfl (x6x ⟨.inr rfl, ?_⟩)
     refine y9y rfl ?_ rfl
     exact congrArg (fun b : Bool => [AV.pv (.bool b)]) ((decide_eq_false (by simp only [b1g, a3y, b4t]; omega)).symm)
    refine x0x 2 rfl rfl (z1z rfl rfl (x9x rfl rfl rfl (u7u ..) (x0x 2 rfl rfl (z8z rfl rfl ?_ ?_))))<;>intro h<;>try simp at h
    ·refine x0x 4 rfl rfl (x6x ⟨.inr rfl, ?_⟩)
     refine y9y rfl ?_ rfl
     exact congrArg (fun b : Bool => [AV.pv (.bool b)]) ((decide_eq_false (by simp only [b1g, a3y, b4t]; omega)).symm)
    refine x0x 5 rfl rfl (x6x ⟨.inr rfl, ?_⟩)
    refine y9y rfl ?_ rfl
    exact congrArg (fun b : Bool => [AV.pv (.bool b)]) (decide_eq_decide.2 (by simp only [b1g, a3y, b4t]; omega))
   refine exA 2 rfl rfl (y4y rfl ?_ ?_)<;>intro h<;>try simp at h
   ·refine x7x (hK1 _ _ (exR (x1x rfl (x6x ⟨.inr rfl, ?_⟩))))
    refine y9y rfl ?_ rfl
    exact congrArg (fun b : Bool => [AV.pv (.bool b)]) ((decide_eq_false (by simp only [b1g, a3y, b4t]; omega)).symm)
   refine exA 2 rfl rfl (x9x rfl rfl rfl (a4h ..) (x4x rfl (z8z rfl rfl ?_ ?_)))<;>intro h<;>try simp at h
   ·refine x0x 14 rfl rfl (x6x ⟨.inr rfl, ?_⟩)
    refine y9y rfl ?_ rfl
    exact congrArg (fun b : Bool => [AV.pv (.bool b)]) ((decide_eq_false (by simp only [b1g, a3y, b4t]; omega)).symm)
   refine x0x 2 rfl rfl (z1z rfl rfl (x9x rfl rfl rfl (u7u ..) (x0x 2 rfl rfl (z8z rfl rfl ?_ ?_))))<;>intro h<;>try simp at h
   ·refine x0x 9 rfl rfl (x6x ⟨.inr rfl, ?_⟩)
    refine y9y rfl ?_ rfl
    exact congrArg (fun b : Bool => [AV.pv (.bool b)]) ((decide_eq_false (by simp only [b1g, a3y, b4t]; omega)).symm)
   refine x0x 2 rfl rfl (z1z rfl rfl (x9x rfl rfl rfl (u7u ..) (x0x 2 rfl rfl (z8z rfl rfl ?_ ?_))))<;>intro h<;>try simp at h
   ·refine x0x 4 rfl rfl (x6x ⟨.inr rfl, ?_⟩)
    refine y9y rfl ?_ rfl
    exact congrArg (fun b : Bool => [AV.pv (.bool b)]) ((decide_eq_false (by simp only [b1g, a3y, b4t]; omega)).symm)
   refine x0x 2 rfl rfl (z1z rfl rfl (x9x rfl rfl rfl (a5l ..) (x0x 2 rfl rfl (x6x ⟨.inr rfl, ?_⟩))))
   refine y9y rfl ?_ rfl
   exact congrArg (fun b : Bool => [AV.pv (.bool b)]) (decide_eq_decide.2 (by simp only [b1g, a3y, b4t]; omega))
theorem b3l (c : Bool) (r : Ru) (hl : r.ops.length ≤ 1048576) : a1p Tryz.prog 203 [.agg (d1z c r)] (.pv (.bool (kb (c7u r)))) := by
 refine pX Tryz.f203 [.pv (.bool (kb (c7u r)))] 1 ?_
 refine exR (u0u (id := 0) rfl rfl rfl (x1x rfl (exR (x1x rfl (exR (x1x rfl (x2x fun K1 hK1 => ?_)))))))
 refine exR (x1x rfl (y0y ?_))
 refine z2z (ι := Nat) (fun i γ1 => [(3, pI (c5h (r.ops.take i) : Int)), (4, pI (d5y (r.ops.take i) : Int)), (5, pI (i : Int))]) (fun i γ1 => []) (fun i => i ≤ r.ops.length ∧ ∀ (j : Nat) o, j < i → r.ops[j]? = some o → b1g o) (fun i => r.ops.length - i) (y2y 1 rfl Cov.nil) (y6y 0 rfl HE.nil) 0 ⟨by omega, fun j o hj => by omega⟩ [] (Cov.cons' (t := 3) rfl (by rfl) (Cov.cons' (t := 4) rfl (by rfl) (y2y 5 rfl Cov.nil))) hv rfl fun i γ1 hi => ?_
 obtain ⟨k1, k2⟩ := hi
 refine x2x fun K2 hK2 => ?_
 refine exA 3 rfl rfl (z3z rfl a5s rfl (v6v rfl rfl rfl (y4y rfl ?_ ?_)))<;>intro h<;>try simp at h
 ·obtain rfl : i = r.ops.length := by omega
  rw [List.take_length]
  have hall : ∀ o ∈ r.ops, b1g o := fun o ho => by obtain ⟨j, hj⟩ := List.getElem?_of_mem ho; exact k2 j o (List.getElem?_eq_some_iff.1 hj).1 hj
  refine z5z (hK1 _ _ (exA 2 rfl rfl (z3z rfl a5s rfl (x0x 2 rfl rfl (z8z rfl rfl ?_ ?_)))))<;>intro h<;>try simp at h
  ·refine x0x 7 rfl rfl (x6x ⟨.inr rfl, ?_⟩)
   refine y9y rfl ?_ rfl
   exact congrArg (fun b : Bool => [AV.pv (.bool b)]) (a5o fun q => by have := q.2; omega)
  refine x0x 4 rfl rfl (z8z rfl rfl ?_ ?_)<;>intro h<;>try simp at h
  ·refine x0x 3 rfl rfl (x6x ⟨.inr rfl, ?_⟩)
   refine y9y rfl ?_ rfl
   exact congrArg (fun b : Bool => [AV.pv (.bool b)]) (a5o fun q => by have := q.2; omega)
  refine x0x 4 rfl rfl (x6x ⟨.inr rfl, ?_⟩)
  refine y9y rfl ?_ rfl
  exact congrArg (fun b : Bool => [AV.pv (.bool b)]) (e7v (by rw [decide_eq_true_iff]; exact ⟨fun q => ⟨hall, by omega, by omega, by omega⟩, fun q => by have := q.2; omega⟩))
 obtain ⟨o, ho⟩ := gE r.ops i
 have hs6 := d1y r.ops i
 have hs7 := d5z r.ops i
 refine x7x (hK2 _ _ (x2x fun K4 hK4 => ?_))
 refine y0y (x2x fun K5 hK5 => ?_)
 refine exA 3 rfl rfl (y8y rfl rfl a5s rfl a1h rfl ho (u5u rfl a1h rfl rfl (x9x rfl rfl rfl (c7o ..) (a1w rfl (x8x rfl ?_ ?_)))))<;>intro hc6<;>try simp at hc6
 ·have fX : ¬ c7u r := fun q => by have := q.1 o (List.mem_of_getElem? ho); simp_all
  refine exR (x1x rfl (x6x ⟨.inr rfl, ?_⟩))
  refine y9y rfl ?_ rfl
  exact congrArg (fun b : Bool => [AV.pv (.bool b)]) (a5o fX)
 have hoo : b1g o := by simpa using hc6
 refine x7x (hK5 _ _ (x2x fun K7 hK7 => ?_))
 refine exA 3 rfl rfl (y8y rfl rfl a5s rfl a1h rfl ho (x0x 3 rfl rfl (y4y rfl ?_ ?_)))<;>intro hc8<;>try simp at hc8
 ·have h6 : ¬ o.do' = 6 := hc8
  refine x7x (hK7 _ _ (exA 3 rfl rfl (y8y rfl rfl a5s rfl a1h rfl ho (x0x 3 rfl rfl (y4y rfl ?_ ?_)))))<;>intro hc10<;>try simp at hc10
  ·have h7 : ¬ o.do' = 7 := hc10
   refine x7x (hK4 _ _ (exG (x4x rfl (z4z (b := 1) rfl rfl (by omega) (x1x rfl ?_)))))
   exact ⟨i + 1, ⟨⟨by omega, fun j q hj hq => by by_cases e : j = i; (subst e; rw [ho] at hq; cases hq; exact hoo); exact k2 j q (by omega) hq⟩, by omega⟩, [], (Cov.cons' (t := 3) rfl (by rw [w1w ho, b1h]; (rw [if_neg h6]; rfl)) (Cov.cons' (t := 4) rfl (by rw [w1w ho, b4d]; (rw [if_neg h7]; rfl)) (y2y 5 rfl Cov.nil))), cv, hv, hv, rfl⟩
  have h7 : o.do' = 7 := hc10
  refine exG (x4x rfl (z4z (b := 1) rfl rfl (by omega) (x1x rfl (hK4 _ _ (exG (x4x rfl (z4z (b := 1) rfl rfl (by omega) (x1x rfl ?_))))))))
  exact ⟨i + 1, ⟨⟨by omega, fun j q hj hq => by by_cases e : j = i; (subst e; rw [ho] at hq; cases hq; exact hoo); exact k2 j q (by omega) hq⟩, by omega⟩, [], (Cov.cons' (t := 3) rfl (by rw [w1w ho, b1h]; (rw [if_neg h6]; rfl)) (Cov.cons' (t := 4) rfl (by rw [w1w ho, b4d]; (rw [if_pos h7]; done)) (y2y 5 rfl Cov.nil))), cv, hv, hv, rfl⟩
 have h6 : o.do' = 6 := hc8
 refine exG (x4x rfl (z4z (b := 1) rfl rfl (by omega) (x1x rfl (hK7 _ _ (exA 3 rfl rfl (y8y rfl rfl a5s rfl a1h rfl ho (x0x 3 rfl rfl (y4y rfl ?_ ?_))))))))<;>intro hc9<;>try simp at hc9
 ·have h7 : ¬ o.do' = 7 := hc9
  refine x7x (hK4 _ _ (exG (x4x rfl (z4z (b := 1) rfl rfl (by omega) (x1x rfl ?_)))))
  exact ⟨i + 1, ⟨⟨by omega, fun j q hj hq => by by_cases e : j = i; (subst e; rw [ho] at hq; cases hq; exact hoo); exact k2 j q (by omega) hq⟩, by omega⟩, [], (Cov.cons' (t := 3) rfl (by rw [w1w ho, b1h]; (rw [if_pos h6]; done)) (Cov.cons' (t := 4) rfl (by rw [w1w ho, b4d]; (rw [if_neg h7]; rfl)) (y2y 5 rfl Cov.nil))), cv, hv, hv, rfl⟩
 have h7 : o.do' = 7 := hc9
 refine exG (x4x rfl (z4z (b := 1) rfl rfl (by omega) (x1x rfl (hK4 _ _ (exG (x4x rfl (z4z (b := 1) rfl rfl (by omega) (x1x rfl ?_))))))))
 exact ⟨i + 1, ⟨⟨by omega, fun j q hj hq => by by_cases e : j = i; (subst e; rw [ho] at hq; cases hq; exact hoo); exact k2 j q (by omega) hq⟩, by omega⟩, [], (Cov.cons' (t := 3) rfl (by rw [w1w ho, b1h]; (rw [if_pos h6]; done)) (Cov.cons' (t := 4) rfl (by rw [w1w ho, b4d]; (rw [if_pos h7]; done)) (y2y 5 rfl Cov.nil))), cv, hv, hv, rfl⟩
theorem a9e (c : Bool) (l : List Ap) (hb : ∀ a ∈ l, ∀ r ∈ a.rules, r.ops.length ≤ 1048576) : a1p Tryz.prog 87 [a6g c l] (.pv (.bool (kb (a7e l)))) := by
 refine pX Tryz.f87 [.pv (.bool (kb (a7e l)))] 0 ?_
 refine exR (x1x rfl (x2x fun K1 hK1 => ?_))
 refine exR (x4x rfl (z3z rfl b2j rfl (v6v rfl rfl rfl (x8x rfl ?_ ?_))))<;>intro h<;>try simp at h
 ·have fX : ¬ a7e l := fun q => by have := q.1; omega
  refine exR (x1x rfl (x6x ⟨.inr rfl, ?_⟩))
  refine y9y rfl ?_ rfl
  exact congrArg (fun b : Bool => [AV.pv (.bool b)]) (a5o fX)
 have h4 : l.length = 4 := by omega
 refine x7x (hK1 _ _ (x2x fun K3 hK3 => ?_))
 refine exR (x1x rfl (y0y ?_))
 refine z2z (ι := Nat) (fun i γ1 => [(3, pI (i : Int))]) (fun i γ1 => []) (fun i => i ≤ l.length ∧ ∀ (j : Nat) a, j < i → l[j]? = some a → e0r a) (fun i => l.length - i) (y2y 0 rfl Cov.nil) HE.nil 0 ⟨by omega, fun j a hj => by omega⟩ [] cv hv rfl fun i γ1 hi => ?_
 obtain ⟨k1, k2⟩ := hi
 refine x2x fun K4 hK4 => ?_
 refine exA 2 rfl rfl (z3z rfl b2j rfl (v6v rfl rfl rfl (y4y rfl ?_ ?_)))<;>intro h<;>try simp at h
 ·obtain rfl : i = l.length := by omega
  have hT : a7e l := ⟨h4, fun a ha => by obtain ⟨j, hj⟩ := List.getElem?_of_mem ha; exact k2 j a (List.getElem?_eq_some_iff.1 hj).1 hj⟩
  refine z5z (hK3 _ _ (exR (x1x rfl (x6x ⟨.inr rfl, ?_⟩))))
  refine y9y rfl ?_ rfl
  exact congrArg (fun b : Bool => [AV.pv (.bool b)]) (d9a hT)
 obtain ⟨a, ha⟩ := gE l i
 refine x7x (hK4 _ _ (x2x fun K6 hK6 => ?_))
 refine y0y (exA 2 rfl rfl (y8y rfl rfl b2j rfl a2b rfl ha (x0x 3 rfl rfl (x2x fun K7 hK7 => ?_))))
 refine exR (x4x rfl (z3z rfl a5h rfl (v6v rfl rfl rfl (x8x rfl ?_ ?_))))<;>intro h<;>try simp at h
 ·have fX : ¬ a7e l := fun q => by have := (q.2 a (List.mem_of_getElem? ha)).1; omega
  refine exR (x1x rfl (x6x ⟨.inr rfl, ?_⟩))
  refine y9y rfl ?_ rfl
  exact congrArg (fun b : Bool => [AV.pv (.bool b)]) (a5o fX)
 have h5 : a.rules.length ≤ 4 := by omega
 refine x7x (hK7 _ _ (exR (x1x rfl (y0y ?_))))
 refine z2z (ι := Nat) (fun k γ2 => [(5, pI (k : Int))]) (fun k γ2 => []) (fun k => k ≤ a.rules.length ∧ c7t a.rules (fun j r => (0 ≤ r.kind ∧ r.kind ≤ 3) ∧ c7u r ∧ ∀ p, 0 < j → a.rules[j - 1]? = some p → p.kind < r.kind) k) (fun k => a.rules.length - k) (cK [0, 3, 4] rfl) HE.nil 0 ⟨by omega, a2j⟩ [] cv hv rfl fun k γ2 hi => ?_
 obtain ⟨k3, k4⟩ := hi
 refine x2x fun K9 hK9 => ?_
 refine exA 2 rfl rfl (z3z rfl a5h rfl (v6v rfl rfl rfl (y4y rfl ?_ ?_)))<;>intro h<;>try simp at h
 ·obtain rfl : k = a.rules.length := by omega
  have hap : e0r a := ⟨h5, fun j r hj => a3t k4 (Nat.le_refl _) j r hj⟩
  refine z5z (hK6 _ _ (exG (x4x rfl (z4z (b := 1) rfl rfl (by omega) (x1x rfl ?_)))))
  exact ⟨i + 1, ⟨⟨by omega, fun j q hj hq => by by_cases e : j = i; (subst e; rw [ha] at hq; cases hq; exact hap); exact k2 j q (by omega) hq⟩, by omega⟩, [], cv, cv, hv, hv, rfl⟩
 obtain ⟨r, hr⟩ := gE a.rules k
 refine x7x (hK9 _ _ (x2x fun K11 hK11 => ?_))
 refine y0y (exD (x0x 2 rfl rfl (y8y rfl rfl a5h rfl a5t rfl hr (x0x 2 rfl rfl (x9x rfl rfl rfl (u7u ..) (x0x 2 rfl rfl (z8z rfl rfl ?_ ?_)))))))<;>intro h<;>try simp at h
 ·have fR : ¬ ((0 ≤ r.kind ∧ r.kind ≤ 3) ∧ c7u r ∧ ∀ p, 0 < k → a.rules[k - 1]? = some p → p.kind < r.kind) := by (rintro ⟨q1, q2, q3⟩; omega)
  refine x0x 24 rfl rfl ⟨by kernel_rfl, x8x rfl (fun hc18 => ?_) (fun hc18 => ?_)⟩
  rotate_left
  ·simp at hc18
  try simp at hc18
  have fX : ¬ a7e l := fun q => fR ((q.2 a (List.mem_of_getElem? ha)).2 k r hr)
  refine exR (x1x rfl (x6x ⟨.inr rfl, ?_⟩))
  refine y9y rfl ?_ rfl
  exact congrArg (fun b : Bool => [AV.pv (.bool b)]) (a5o fX)
 refine x0x 2 rfl rfl (z1z rfl rfl (y8y rfl rfl a5h rfl a5t rfl hr (z1z rfl rfl (u5u rfl a5t rfl rfl (z1z rfl rfl (x9x rfl rfl rfl (b3l c r (hb a (List.mem_of_getElem? ha) r (List.mem_of_getElem? hr))) ?_))))))
 refine x0x 3 rfl rfl (z8z rfl rfl ?_ ?_)<;>intro hg13<;>try simp at hg13
 ·have hnr : ¬ c7u r := a0v (by simpa using hg13)
  have fR : ¬ ((0 ≤ r.kind ∧ r.kind ≤ 3) ∧ c7u r ∧ ∀ p, 0 < k → a.rules[k - 1]? = some p → p.kind < r.kind) := by (rintro ⟨q1, q2, q3⟩; exact absurd q2 hnr)
  refine x0x 16 rfl rfl ⟨by kernel_rfl, x8x rfl (fun hc17 => ?_) (fun hc17 => ?_)⟩
  rotate_left
  ·simp at hc17
  try simp at hc17
  have fX : ¬ a7e l := fun q => fR ((q.2 a (List.mem_of_getElem? ha)).2 k r hr)
  refine exR (x1x rfl (x6x ⟨.inr rfl, ?_⟩))
  refine y9y rfl ?_ rfl
  exact congrArg (fun b : Bool => [AV.pv (.bool b)]) (a5o fX)
 have hru : c7u r := a1x.1 (by simpa using hg13)
 refine x0x 3 rfl rfl (z8z rfl rfl ?_ ?_)<;>intro h<;>try simp at h
 ·have hR : ((0 ≤ r.kind ∧ r.kind ≤ 3) ∧ c7u r ∧ ∀ p, 0 < k → a.rules[k - 1]? = some p → p.kind < r.kind) := ⟨by omega, hru, fun p h0 => by omega⟩
  refine x0x 13 rfl rfl ⟨by kernel_rfl, x8x rfl (fun hc16 => ?_) (fun hc16 => ?_)⟩
  ·simp at hc16
  try simp at hc16
  refine x7x (hK11 _ _ (exG (x4x rfl (z4z (b := 1) rfl rfl (by omega) (x1x rfl ?_)))))
  exact ⟨k + 1, ⟨⟨by omega, a0l k4 hr hR⟩, by omega⟩, [], cv, cv, hv, hv, rfl⟩
 have k0 : 0 < k := by omega
 obtain ⟨p, hp⟩ := gE a.rules (k - 1)
 refine x0x 2 rfl rfl (z1z rfl rfl (a0h (b := 1) rfl rfl (by omega) (by omega) (z1z rfl rfl (y8y rfl rfl a5h rfl a5t rfl hp (x0x 4 rfl rfl (z1z rfl rfl (y8y rfl rfl a5h rfl a5t rfl hr (x0x 5 rfl rfl ⟨by kernel_rfl, y4y rfl ?_ ?_⟩))))))))<;>intro h<;>try simp at h
 ·have hR : ((0 ≤ r.kind ∧ r.kind ≤ 3) ∧ c7u r ∧ ∀ p, 0 < k → a.rules[k - 1]? = some p → p.kind < r.kind) := by exact ⟨by omega, hru, fun p2 h0 hp2 => by rw [hp] at hp2; cases hp2; omega⟩
  refine x7x (hK11 _ _ (exG (x4x rfl (z4z (b := 1) rfl rfl (by omega) (x1x rfl ?_)))))
  exact ⟨k + 1, ⟨⟨by omega, a0l k4 hr hR⟩, by omega⟩, [], cv, cv, hv, hv, rfl⟩
 have fR : ¬ ((0 ≤ r.kind ∧ r.kind ≤ 3) ∧ c7u r ∧ ∀ p, 0 < k → a.rules[k - 1]? = some p → p.kind < r.kind) := by (rintro ⟨q1, q2, q3⟩; (have := q3 p (by omega) hp; omega))
 have fX : ¬ a7e l := fun q => fR ((q.2 a (List.mem_of_getElem? ha)).2 k r hr)
 refine exR (x1x rfl (x6x ⟨.inr rfl, ?_⟩))
 refine y9y rfl ?_ rfl
 exact congrArg (fun b : Bool => [AV.pv (.bool b)]) (a5o fX)
end
section
theorem a2i (S : Rn) (e : Ev) (r : Int) : Meth Tryz.prog 338 3 [0, 1, 2] [.ptr 0 0 0, .pv (.int .i64 r)] [(0, (0, .box 362 [pI S.s.x, pI S.s.y, pI S.s.count, pI e.time, pI e.to, pI e.from', pI e.count, pI e.n, pI e.kind, pI e.arg, .ref 1 0, .ref 2 0])), (1, (0, .row 56 7 ((S.sends).map v4v))), (2, (0, .row 141 5 ((S.outs).map a1b)))] (.pv (.int .i64 (if r = 0 then S.s.x else S.s.y))) [] := by
 refine mX Tryz.f338 [.pv (.int .i64 (if r = 0 then S.s.x else S.s.y))] 3 0 fun γ => ?_
 refine exR (x1x rfl (x2x fun K1 hK1 => ?_))
 refine exA 2 rfl rfl (x8x rfl ?_ ?_)<;>intro hc2<;>try simp at hc2
 ·have k : r = 0 := hc2
  refine exA 6 rfl rfl (x6x ?_)
  exact ⟨.inr rfl, [γ 0, γ 1, γ 2], rfl, congrArg (fun v : Int => some [AV.pv (.int .i64 v)]) (if_pos k).symm, hv⟩
 have k : ¬ r = 0 := hc2
 refine x7x (hK1 _ _ (exA 6 rfl rfl (x6x ?_)))
 exact ⟨.inr rfl, [γ 0, γ 1, γ 2], rfl, congrArg (fun v : Int => some [AV.pv (.int .i64 v)]) (if_neg k).symm, hv⟩
theorem a4z (S : Rn) (e : Ev) (r n : Int) : Meth Tryz.prog 337 3 [0, 1, 2] [.ptr 0 0 0, .pv (.int .i64 r), .pv (.int .i64 n)] [(0, (0, .box 362 [pI S.s.x, pI S.s.y, pI S.s.count, pI e.time, pI e.to, pI e.from', pI e.count, pI e.n, pI e.kind, pI e.arg, .ref 1 0, .ref 2 0])), (1, (0, .row 56 7 ((S.sends).map v4v))), (2, (0, .row 141 5 ((S.outs).map a1b)))] (.tup []) [(0, (0, .box 362 [pI (f2d S.s r n).x, pI (f2d S.s r n).y, pI (f2d S.s r n).count, pI e.time, pI e.to, pI e.from', pI e.count, pI e.n, pI e.kind, pI e.arg, .ref 1 0, .ref 2 0]))] := by
 refine mX Tryz.f337 [] 3 0 fun γ => ?_
 refine exA 2 rfl rfl (x8x rfl ?_ ?_)<;>intro hc1<;>try simp at hc1
 ·have k : r = 0 := hc1
  refine exG (x0x 2 rfl rfl (p4p rfl rfl rfl (x0x 3 rfl rfl (z0z rfl rfl q2q rfl rfl rfl rfl rfl (by simp only [a1k]; rfl) ?_))))
  exact ⟨.inl rfl, [γ 0, γ 1, γ 2], rfl, rfl, HE.box rfl (by unfold f2d; rw [if_pos k]; rfl) (HE.same rfl (HE.same rfl HE.nil))⟩
 have k : ¬ r = 0 := hc1
 refine exG (x0x 2 rfl rfl (p4p rfl rfl rfl (x0x 3 rfl rfl (z0z rfl rfl q2q rfl rfl rfl rfl rfl (by simp only [a1k]; rfl) ?_))))
 exact ⟨.inl rfl, [γ 0, γ 1, γ 2], rfl, rfl, HE.box rfl (by unfold f2d; rw [if_neg k]; rfl) (HE.same rfl (HE.same rfl HE.nil))⟩
theorem c2w (S : Rn) (e : Ev) (o : Op_) (ho : b1g o) (hs : S.sends.length ≤ 1000) (hu : S.outs.length ≤ 1000) : MethE Tryz.prog 336 3 [.ptr 0 0 0, .agg (b7n o)] [(0, (0, .box 362 [pI S.s.x, pI S.s.y, pI S.s.count, pI e.time, pI e.to, pI e.from', pI e.count, pI e.n, pI e.kind, pI e.arg, .ref 1 0, .ref 2 0])), (1, (0, .row 56 7 ((S.sends).map v4v))), (2, (0, .row 141 5 ((S.outs).map a1b)))] (ι := Rn × Int) (fun S' => S'.1.sends.length ≤ S.sends.length + 1 ∧ S'.1.outs.length ≤ S.outs.length + 1 ∧ (∀ q ∈ S'.1.outs, q ∈ S.outs ∨ q.time = e.time) ∧ 0 ≤ S'.2 ∧ S'.2 ≤ 8) (fun S' => [0]) (fun S' => .pv (.int .i64 S'.2)) (fun S' => [(0, (0, .box 362 [pI S'.1.s.x, pI S'.1.s.y, pI S'.1.s.count, pI e.time, pI e.to, pI e.from', pI e.count, pI e.n, pI e.kind, pI e.arg, .ref 1 0, .ref 2 0])), (1, (0, .row 56 7 ((S'.1.sends).map v4v))), (2, (0, .row 141 5 ((S'.1.outs).map a1b)))]) := by
 refine mE (ι := Rn × Int) Tryz.f336 (fun S' => [.pv (.int .i64 S'.2)]) 3 5 fun γ => ?_
 refine exR (u0u (id := 3) rfl rfl rfl (x1x rfl (x2x fun K1 hK1 => ?_)))
 refine exA 2 rfl rfl (y0y (exA 2 rfl rfl (x8x rfl ?_ ?_)))<;>intro u<;>try simp at u
 ·refine exG (x0x 5 rfl rfl ?_)
  refine rlM [0, 1, 2] [_, _, _] (a4z S e (o.a) (o.b)) rfl rfl rfl ?_
  refine hK1 _ _ ?_
  refine exR ?_
  refine x1x rfl ?_
  refine x6x ?_
  exact ⟨.inr rfl, (⟨⟨_, _, _⟩, S.sends, S.outs⟩, 0), ⟨by exact Nat.le_succ _, by exact Nat.le_succ _, by exact (fun q h => .inl h), by show (0 : Int) ≤ 0; omega, by show (0 : Int) ≤ 8; omega⟩, [γ 0, _, _], rfl, rfl, HE.box rfl rfl (HE.row rfl rfl (HE.row rfl rfl HE.nil))⟩
 refine exA 2 rfl rfl (x8x rfl ?_ ?_)<;>intro u<;>try simp at u
 ·refine exH (x0x 6 rfl rfl ?_)
  refine rlM [0, 1, 2] [_, _, _] (a2i S e (o.a)) rfl rfl rfl ?_
  refine x0x 3 rfl rfl ?_
  refine rlM [0, 1, 2] [_, _, _] (a2i S e (o.b)) rfl rfl rfl ?_
  refine p4p rfl rfl rfl ?_
  refine rlM [0, 1, 2] [_, _, _] (a4z S e (o.a) (IntKind.i64.wrap ((if o.a = 0 then S.s.x else S.s.y) + (if o.b = 0 then S.s.x else S.s.y)))) rfl rfl rfl ?_
  refine ⟨by kernel_rfl, ?_⟩
  refine hK1 _ _ ?_
  refine exR ?_
  refine x1x rfl ?_
  refine x6x ?_
  exact ⟨.inr rfl, (⟨⟨_, _, _⟩, S.sends, S.outs⟩, 0), ⟨by exact Nat.le_succ _, by exact Nat.le_succ _, by exact (fun q h => .inl h), by show (0 : Int) ≤ 0; omega, by show (0 : Int) ≤ 8; omega⟩, [γ 0, _, _], rfl, rfl, HE.box rfl rfl (HE.row rfl rfl (HE.row rfl rfl HE.nil))⟩
 refine exA 2 rfl rfl (x8x rfl ?_ ?_)<;>intro u<;>try simp at u
 ·refine exH (x0x 6 rfl rfl ?_)
  refine rlM [0, 1, 2] [_, _, _] (a2i S e (o.a)) rfl rfl rfl ?_
  refine x0x 2 rfl rfl (p4p rfl rfl rfl ?_)
  refine rlM [0, 1, 2] [_, _, _] (a4z S e (o.a) (IntKind.i64.wrap ((if o.a = 0 then S.s.x else S.s.y) + o.b))) rfl rfl rfl ?_
  refine ⟨by kernel_rfl, ?_⟩
  refine hK1 _ _ ?_
  refine exR ?_
  refine x1x rfl ?_
  refine x6x ?_
  exact ⟨.inr rfl, (⟨⟨_, _, _⟩, S.sends, S.outs⟩, 0), ⟨by exact Nat.le_succ _, by exact Nat.le_succ _, by exact (fun q h => .inl h), by show (0 : Int) ≤ 0; omega, by show (0 : Int) ≤ 8; omega⟩, [γ 0, _, _], rfl, rfl, HE.box rfl rfl (HE.row rfl rfl (HE.row rfl rfl HE.nil))⟩
 refine exA 2 rfl rfl (x8x rfl ?_ ?_)<;>intro u<;>try simp at u
 ·refine exH (x0x 8 rfl rfl ?_)
  refine rlM [0, 1, 2] [_, _, _] (a4z S e (o.a) (e.arg)) rfl rfl rfl ?_
  refine ⟨by kernel_rfl, ?_⟩
  refine hK1 _ _ ?_
  refine exR ?_
  refine x1x rfl ?_
  refine x6x ?_
  exact ⟨.inr rfl, (⟨⟨_, _, _⟩, S.sends, S.outs⟩, 0), ⟨by exact Nat.le_succ _, by exact Nat.le_succ _, by exact (fun q h => .inl h), by show (0 : Int) ≤ 0; omega, by show (0 : Int) ≤ 8; omega⟩, [γ 0, _, _], rfl, rfl, HE.box rfl rfl (HE.row rfl rfl (HE.row rfl rfl HE.nil))⟩
 refine exA 2 rfl rfl (x8x rfl ?_ ?_)<;>intro hc6<;>try simp at hc6
 ·have k5 : o.do' = 5 := hc6
  have hoc : 1 ≤ o.c ∧ o.c ≤ 8 := by unfold b1g at ho; omega
  refine exD (x0x 3 rfl rfl ?_)
  refine rlM [0, 1, 2] [_, _, _] (a2i S e (o.a)) rfl rfl rfl ?_
  refine x0x 3 rfl rfl ⟨by kernel_rfl, x8x rfl ?_ ?_⟩<;>intro u<;>try simp at u
  ·refine exA 3 rfl rfl (x6x ?_)
   exact ⟨.inr rfl, (⟨⟨_, _, _⟩, S.sends, S.outs⟩, o.c), ⟨by exact Nat.le_succ _, by exact Nat.le_succ _, by exact (fun q h => .inl h), by show (0 : Int) ≤ o.c; omega, by show (o.c : Int) ≤ 8; omega⟩, [γ 0, _, _], rfl, rfl, hv⟩
  refine x7x (hK1 _ _ (exR (x1x rfl (x6x ?_))))
  exact ⟨.inr rfl, (⟨⟨_, _, _⟩, S.sends, S.outs⟩, 0), ⟨by exact Nat.le_succ _, by exact Nat.le_succ _, by exact (fun q h => .inl h), by show (0 : Int) ≤ 0; omega, by show (0 : Int) ≤ 8; omega⟩, [γ 0, _, _], rfl, rfl, hv⟩
 refine exA 2 rfl rfl (y4y rfl ?_ ?_)<;>intro u<;>try simp at u
 ·refine exA 2 rfl rfl (y4y rfl ?_ ?_)<;>intro u<;>try simp at u
  ·refine x7x (hK1 _ _ (exR (x1x rfl (x6x ?_))))
   exact ⟨.inr rfl, (⟨⟨_, _, _⟩, S.sends, S.outs⟩, 0), ⟨by exact Nat.le_succ _, by exact Nat.le_succ _, by exact (fun q h => .inl h), by show (0 : Int) ≤ 0; omega, by show (0 : Int) ≤ 8; omega⟩, [γ 0, _, _], rfl, rfl, hv⟩
  refine exH (x0x 24 rfl rfl ?_)
  refine a1o (n := S.outs.length) rfl r3r rfl rfl (List.length_map _) ?_
  refine x0x 3 rfl rfl ?_
  refine rlM [0, 1, 2] [_, _, _] (a2i S e (o.a)) rfl rfl rfl ?_
  refine rlB w7w c4u ?_
  refine u4u (id := 6) r3r rfl w7w rfl rfl rfl rfl rfl rfl ?_
  refine u6u (zs := (S.outs ++ [(Ou.mk e.time e.to S.s.count (S.outs.length : Int) (if o.a = 0 then S.s.x else S.s.y))]).map a1b) rfl rfl r3r rfl w7w rfl rfl rfl rfl (by rfl) (w4w a1b S.outs (Ou.mk e.time e.to S.s.count (S.outs.length : Int) (if o.a = 0 then S.s.x else S.s.y))) (by (simp only [a1f, a0o, a0x, a0z, a2c, a4b, T141]; omega)) ?_
  refine x0x 2 rfl rfl (z0z rfl rfl r3r rfl rfl rfl rfl rfl (by simp only [a1k]; rfl) ?_)
  refine ⟨by kernel_rfl, hK1 _ _ (exR (x1x rfl (x6x ?_)))⟩
  exact ⟨.inr rfl, (⟨⟨_, _, _⟩, S.sends, S.outs ++ [(Ou.mk e.time e.to S.s.count (S.outs.length : Int) (if o.a = 0 then S.s.x else S.s.y))]⟩, 0), ⟨by exact Nat.le_succ _, by simp, by exact (fun q h => by rcases List.mem_append.1 h with h | h; exact .inl h; exact .inr (by rw [List.mem_singleton.1 h])), by show (0 : Int) ≤ 0; omega, by show (0 : Int) ≤ 8; omega⟩, [γ 0, _, _], rfl, rfl, hv⟩
 refine exD (x0x 7 rfl rfl (p4p rfl rfl rfl (v6v rfl rfl rfl ⟨by kernel_rfl, y4y rfl ?_ ?_⟩)))<;>intro u<;>try simp at u
 ·refine x7x (hK1 _ _ (exR (x1x rfl (x6x ?_))))
  exact ⟨.inr rfl, (⟨⟨_, _, _⟩, S.sends, S.outs⟩, 0), ⟨by exact Nat.le_succ _, by exact Nat.le_succ _, by exact (fun q h => .inl h), by show (0 : Int) ≤ 0; omega, by show (0 : Int) ≤ 8; omega⟩, [γ 0, _, _], rfl, rfl, hv⟩
 refine exH (x0x 12 rfl rfl (p4p rfl rfl rfl (x0x 16 rfl rfl ?_)))
 refine a1o (n := S.sends.length) rfl u8u rfl rfl (List.length_map _) ?_
 refine x0x 5 rfl rfl ?_
 refine rlM [0, 1, 2] [_, _, _] (a2i S e (o.d)) rfl rfl rfl ?_
 refine rlB z6z a6e ?_
 refine u4u (id := 4) u8u rfl z6z rfl rfl rfl rfl rfl rfl ?_
 refine u6u (zs := (S.sends ++ [(Ev.mk (IntKind.i64.wrap (e.time + o.c)) o.a e.to S.s.count (S.sends.length : Int) o.b (if o.d = 0 then S.s.x else S.s.y))]).map v4v) rfl rfl u8u rfl z6z rfl rfl rfl rfl (by rfl) (w4w v4v S.sends (Ev.mk (IntKind.i64.wrap (e.time + o.c)) o.a e.to S.s.count (S.sends.length : Int) o.b (if o.d = 0 then S.s.x else S.s.y))) (by (simp only [a1f, a0o, a0x, a0z, a2c, a4b, T56]; omega)) ?_
 refine x0x 2 rfl rfl (z0z rfl rfl u8u rfl rfl rfl rfl rfl (by simp only [a1k]; rfl) ?_)
 refine ⟨by kernel_rfl, hK1 _ _ (exR (x1x rfl (x6x ?_)))⟩
 exact ⟨.inr rfl, (⟨⟨_, _, _⟩, S.sends ++ [(Ev.mk (IntKind.i64.wrap (e.time + o.c)) o.a e.to S.s.count (S.sends.length : Int) o.b (if o.d = 0 then S.s.x else S.s.y))], S.outs⟩, 0), ⟨by simp, by exact Nat.le_succ _, by exact (fun q h => .inl h), by show (0 : Int) ≤ 0; omega, by show (0 : Int) ≤ 8; omega⟩, [γ 0, _, _], rfl, rfl, hv⟩
theorem c7p (a : Ap) (s : St) (e : Ev) (hb : ∀ r ∈ a.rules, r.ops.length ≤ 1048576) : MethE Tryz.prog 335 0 [.agg (b9r true a), .agg (a3i s), .agg (v4v e)] [] (ι := Rn) (fun S' => S'.sends.length ≤ 32 ∧ S'.outs.length ≤ 32 ∧ ∀ q ∈ S'.outs, q.time = e.time) (fun S' => []) (fun S' => .tup [.agg (a3i S'.s), a1m true S'.sends, a0p true S'.outs]) (fun S' => []) := by
 refine mE (ι := Rn) Tryz.f335 (fun S' => [.agg (a3i S'.s), a1m true S'.sends, a0p true S'.outs]) 0 12 fun γ => ?_
 refine exR (u0u (id := 0) rfl rfl rfl (u0u (id := 1) rfl rfl rfl (u0u (id := 2) rfl rfl rfl (y7y (id := 3) a1v c8i rfl (x0x 2 rfl rfl (x2x fun K1 hK1 => ?_))))))
 refine exR (x5x rfl a2b rfl rfl rfl (rlB a2b b4i ?_))
 refine rlB a2b b4i ?_
 refine rlB a2b b4i ?_
 refine a0d (id := 4) b2j rfl a2b rfl rfl rfl rfl (.val rfl rfl (.val rfl rfl (.val rfl rfl (.val rfl rfl .nil)))) rfl (a0m rfl) (a0m rfl) (a0m rfl) rfl rfl ?_
 refine b5h rfl rfl rfl (.ref rfl (e1q a) .nil) (a9e false (e9x a) (by intro x hx; simp only [e9x, List.mem_cons, List.not_mem_nil, or_false] at hx; rcases hx with rfl | rfl | rfl | rfl <;> first | exact hb | (intro r hr; cases hr))) (.pv _) ?_
 refine x0x 2 rfl rfl (z8z rfl rfl ?_ ?_)<;>intro hg2<;>try simp at hg2
 ·refine x0x 8 rfl rfl (x8x rfl (fun hc17 => ?_) (fun hc17 => ?_))
  rotate_left
  ·simp at hc17
  try simp at hc17
  refine exR (rlB a1v c8i ?_)
  refine z9z (id := 5) u8u rfl z6z rfl (z9z (id := 6) r3r rfl w7w rfl (x3x rfl rfl a1v rfl rfl rfl rfl (x0x 2 rfl rfl ?_)))
  refine a0k (f := v4v) (l := []) 7 rfl rfl (fun _ => rfl) ?_
  refine a0k (f := a1b) (l := []) 8 rfl rfl (fun _ => rfl) ?_
  refine x6x ?_
  exact ⟨.inr rfl, ⟨⟨0, 0, 0⟩, [], []⟩, ⟨Nat.zero_le _, Nat.zero_le _, fun q h => by cases h⟩, [], rfl, rfl, hv⟩
 have fA : e0r a := e9q (a1x.1 (by simpa using hg2))
 refine x5x rfl a1v rfl rfl rfl (z1z rfl rfl (x9x rfl rfl rfl (a7j ..) (x0x 3 rfl rfl (z8z rfl rfl ?_ ?_))))<;>intro u<;>try simp at u
 ·refine x0x 3 rfl rfl (x8x rfl (fun hc16 => ?_) (fun hc16 => ?_))
  rotate_left
  ·simp at hc16
  try simp at hc16
  refine exR (rlB a1v c8i ?_)
  refine z9z (id := 5) u8u rfl z6z rfl (z9z (id := 6) r3r rfl w7w rfl (x3x rfl rfl a1v rfl rfl rfl rfl (x0x 2 rfl rfl ?_)))
  refine a0k (f := v4v) (l := []) 7 rfl rfl (fun _ => rfl) ?_
  refine a0k (f := a1b) (l := []) 8 rfl rfl (fun _ => rfl) ?_
  refine x6x ?_
  exact ⟨.inr rfl, ⟨⟨0, 0, 0⟩, [], []⟩, ⟨Nat.zero_le _, Nat.zero_le _, fun q h => by cases h⟩, [], rfl, rfl, hv⟩
 refine x5x rfl z6z rfl rfl rfl (z1z rfl rfl (x9x rfl rfl rfl (a7k ..) (x0x 2 rfl rfl (x8x rfl ?_ ?_))))<;>intro u<;>try simp at u
 ·refine exR (rlB a1v c8i ?_)
  refine z9z (id := 5) u8u rfl z6z rfl (z9z (id := 6) r3r rfl w7w rfl (x3x rfl rfl a1v rfl rfl rfl rfl (x0x 2 rfl rfl ?_)))
  refine a0k (f := v4v) (l := []) 7 rfl rfl (fun _ => rfl) ?_
  refine a0k (f := a1b) (l := []) 8 rfl rfl (fun _ => rfl) ?_
  refine x6x ?_
  exact ⟨.inr rfl, ⟨⟨0, 0, 0⟩, [], []⟩, ⟨Nat.zero_le _, Nat.zero_le _, fun q h => by cases h⟩, [], rfl, rfl, hv⟩
 refine x7x (hK1 _ _ (x2x fun K5 hK5 => ?_))
 refine exA 3 rfl rfl (x8x rfl ?_ ?_)<;>intro u<;>try simp at u
 ·refine exR (x5x rfl a1v rfl rfl rfl (z9z (id := 7) u8u rfl z6z rfl (z9z (id := 8) r3r rfl w7w rfl (x3x rfl rfl a1v rfl rfl rfl rfl (x0x 2 rfl rfl ?_)))))
  refine a0k (f := v4v) (l := []) 7 rfl rfl (fun _ => rfl) ?_
  refine a0k (f := a1b) (l := []) 8 rfl rfl (fun _ => rfl) ?_
  refine x6x ?_
  exact ⟨.inr rfl, ⟨s, [], []⟩, ⟨Nat.zero_le _, Nat.zero_le _, fun q h => by cases h⟩, [], rfl, rfl, hv⟩
 refine x7x (hK5 _ _ (exA 2 rfl rfl (z9z (id := 9) u8u rfl z6z rfl (z9z (id := 10) r3r rfl w7w rfl (rlB f0k f0p ?_)))))
 refine u0u (id := 11) rfl rfl rfl (x1x rfl (x2x fun K7 hK7 => ?_))
 refine exR (x1x rfl (y0y ?_))
 refine z2z (ι := Rn × Nat) (fun p γ1 => [(10, pI (p.2 : Int))]) (fun p γ1 => [(9, ((γ1 9), .row 56 7 ((p.1.sends).map v4v))), (10, ((γ1 10), .row 141 5 ((p.1.outs).map a1b))), (11, ((0 + 1), .box 362 [pI p.1.s.x, pI p.1.s.y, pI p.1.s.count, pI e.time, pI e.to, pI e.from', pI e.count, pI e.n, pI e.kind, pI e.arg, .ref 9 (γ1 9), .ref 10 (γ1 10)]))]) (fun p => p.2 ≤ a.rules.length ∧ p.1.sends.length ≤ 8 * p.2 ∧ p.1.outs.length ≤ 8 * p.2 ∧ ∀ q ∈ p.1.outs, q.time = e.time) (fun p => a.rules.length - p.2) (cK [3, 5, 6, 9] rfl) (hK [0, 1, 2, 3, 4, 5, 6, 7, 8] rfl) (⟨s, [], []⟩, 0) ⟨Nat.zero_le _, Nat.zero_le _, Nat.zero_le _, fun q h => by cases h⟩ [0, 0, 0, 0, 0, 0, 0, 0, 0, _, _] cv (HE.row rfl (by rfl) (HE.row rfl (by rfl) (HE.box rfl (by rfl) HE.nil))) rfl fun p γ1 hi => ?_
 obtain ⟨S, i⟩ := p
 obtain ⟨h1, h2, h3, h4⟩ := hi
 dsimp only at h1 h2 h3 h4 ⊢
 refine x2x fun K8 hK8 => ?_
 refine exA 3 rfl rfl (z3z rfl a5h rfl (v6v rfl rfl rfl (y4y rfl ?_ ?_)))<;>intro u<;>try simp at u
 ·have ha4 := fA.1
  refine z5z (hK7 _ _ (exA 6 rfl rfl (p4p rfl rfl rfl (x0x 3 rfl rfl (z0z rfl rfl q2q rfl rfl rfl rfl rfl (by simp only [a1k]; rfl) ?_)))))
  refine exD (x0x 12 rfl rfl (x3x rfl rfl a1v rfl rfl rfl rfl (x0x 2 rfl rfl ⟨by kernel_rfl, a0k 7 rfl rfl (fun _ => rfl) ?_⟩)))
  refine a0k 8 rfl rfl (fun _ => rfl) ?_
  refine x6x ?_
  exact ⟨.inr rfl, ⟨⟨S.s.x, S.s.y, IntKind.i64.wrap (S.s.count + 1)⟩, S.sends, S.outs⟩, ⟨by show S.sends.length ≤ 32; omega, by show S.outs.length ≤ 32; omega, by exact h4⟩, [], rfl, rfl, hv⟩
 obtain ⟨r, hr⟩ := gE a.rules i
 have hro := fA.2 i r hr
 have hr8 := hro.2.1.2.1
 have ha4 := fA.1
 refine x7x (hK8 _ _ (x2x fun K10 hK10 => ?_))
 refine y0y (x2x fun K11 hK11 => ?_)
 refine exD (x0x 3 rfl rfl (y8y rfl rfl a5h rfl a5t rfl hr (x0x 5 rfl rfl ⟨by kernel_rfl, x8x rfl ?_ ?_⟩)))<;>intro u<;>try simp at u
 ·refine z5z (hK10 _ _ (exG (x4x rfl (z4z (b := 1) rfl rfl (by omega) (x1x rfl ?_)))))
  exact ⟨(S, i + 1), ⟨(by exact ⟨by show i + 1 ≤ _; omega, by show S.sends.length ≤ 8 * (i + 1); omega, by show S.outs.length ≤ 8 * (i + 1); omega, h4⟩), (by show a.rules.length - (i + 1) < a.rules.length - i; omega)⟩, [0, 0, 0, 0, 0, 0, 0, 0, 0, _, _], cv, cv, hv, hv, rfl⟩
 refine x7x (hK11 _ _ (exA 3 rfl rfl (y8y rfl rfl a5h rfl a5t rfl hr (x0x 3 rfl rfl (exR (x1x rfl (y0y ?_)))))))
 refine z2z (ι := Rn × Nat × Nat) (fun p γ2 => [(12, pI (p.2.1 : Int))]) (fun p γ2 => [(9, ((γ2 9), .row 56 7 ((p.1.sends).map v4v))), (10, ((γ2 10), .row 141 5 ((p.1.outs).map a1b))), (11, ((0 + 1), .box 362 [pI p.1.s.x, pI p.1.s.y, pI p.1.s.count, pI e.time, pI e.to, pI e.from', pI e.count, pI e.n, pI e.kind, pI e.arg, .ref 9 (γ2 9), .ref 10 (γ2 10)]))]) (fun p => p.2.1 ≤ 20 ∧ p.2.2 ≤ p.2.1 ∧ p.2.2 ≤ 8 ∧ p.1.sends.length ≤ 8 * i + p.2.2 ∧ p.1.outs.length ≤ 8 * i + p.2.2 ∧ ∀ q ∈ p.1.outs, q.time = e.time) (fun p => 20 - p.2.1) (cK [3, 5, 6, 9, 10, 11] rfl) (hK [0, 1, 2, 3, 4, 5, 6, 7, 8] rfl) (S, 0, 0) ⟨Nat.zero_le _, Nat.le_refl _, Nat.zero_le _, h2, h3, h4⟩ [0, 0, 0, 0, 0, 0, 0, 0, 0, _, _] cv hv rfl fun p γ2 hi => ?_
 obtain ⟨S, k, m⟩ := p
 obtain ⟨k1, k2, k3, k3a, k4, k5⟩ := hi
 dsimp only at k1 k2 k3 k3a k4 k5 ⊢
 refine x2x fun K13 hK13 => ?_
 refine exA 2 rfl rfl (z3z rfl a5s rfl (v6v rfl rfl rfl (y4y rfl ?_ ?_)))<;>intro u<;>try simp at u
 ·refine z5z (hK10 _ _ (exG (x4x rfl (z4z (b := 1) rfl rfl (by omega) (x1x rfl ?_)))))
  exact ⟨(S, i + 1), ⟨(by exact ⟨by show i + 1 ≤ _; omega, by show S.sends.length ≤ 8 * (i + 1); omega, by show S.outs.length ≤ 8 * (i + 1); omega, k5⟩), (by show a.rules.length - (i + 1) < a.rules.length - i; omega)⟩, [0, 0, 0, 0, 0, 0, 0, 0, 0, _, _], cv, cv, hv, hv, rfl⟩
 obtain ⟨o, ho⟩ := gE r.ops k
 have hok := hro.2.1.1 o (List.mem_of_getElem? ho)
 refine x7x (hK13 _ _ (x2x fun K15 hK15 => ?_))
 refine y0y (a7t fun B X0 w0 => ?_)
 refine txR 6 rfl rfl (x0x 4 rfl rfl (y8y rfl rfl a5s rfl a1h rfl ho ?_))
 refine w3w (out := .agg (b7n o)) rfl a1h rfl ?_
 refine txM [11, 9, 10] [_, _, _] (c2w S e o hok (by omega) (by omega)) rfl rfl rfl rfl fun j hj => ?_
 obtain ⟨q1, q2, q3, q4, q5⟩ := hj
 obtain ⟨sk, hsk⟩ : ∃ sk : Nat, j.2 = (sk : Int) := ⟨j.2.toNat, by omega⟩
 rw [hsk]
 refine txR 2 rfl rfl (z4z rfl rfl (by omega) (x1x rfl (v8v rfl (hK15 _ _ (exG (x4x rfl (z4z (b := 1) rfl rfl (by omega) (x1x rfl ?_))))))))
 exact ⟨(j.1, k + sk + 1, m + 1), ⟨(by exact ⟨by show k + sk + 1 ≤ 20; omega, by show m + 1 ≤ k + sk + 1; omega, by show m + 1 ≤ 8; omega, by show j.1.sends.length ≤ 8 * i + (m + 1); omega, by show j.1.outs.length ≤ 8 * i + (m + 1); omega, fun q hq => (q3 q hq).elim (k5 q) (fun h => h)⟩), (by show 20 - (k + sk + 1) < 20 - k; omega)⟩, [0, 0, 0, 0, 0, 0, 0, 0, 0, _, _], cv, cv, hv, hv, rfl⟩
end
section
theorem a3n (c : Bool) (l : La) (f t : Nat) (hlen : l.done.length ≤ 1000000) (hf : f ≤ 1000000) (ht : t ≤ 1000000) (hb : ∀ p ∈ l.done, p.sends.length ≤ 1000000 ∧ p.outs.length ≤ 1000000) : a1p Tryz.prog 110 [.agg (a0f c l), .pv (.int .i64 (f : Int)), .pv (.int .i64 (t : Int))] (.agg (a0f true (a2s l f t))) := by
 refine pX Tryz.f110 [.agg (a0f true (a2s l f t))] 11 ?_
 refine exR (u0u (id := 0) rfl rfl rfl (y7y (id := 1) v7v a8t rfl (exA 4 rfl rfl (rlB v7v a8t ?_))))
 refine y7y (id := 2) v7v a8t rfl (x3x rfl rfl v7v rfl rfl rfl rfl (x2x fun K1 hK1 => ?_))
 refine exA 2 rfl rfl (y0y (a2e 2 4 10 58 12 rfl rfl rfl rfl rfl ?_))
 refine z2z (ι := Nat) (fun i γ1 => [(8, pI (i : Int))]) (fun i γ1 => [(10, ((γ1 10), .row 58 12 (((l.done.take i).drop f).map (a3p true)))), (2, ((0 + 1), .box 44 [pI l.proc, pI l.base.x, pI l.base.y, pI l.base.count, .ref 10 (γ1 10)])), (3, ((γ1 3), .dead)), (4, ((γ1 4), .dead)), (5, ((γ1 5), .dead)), (6, ((γ1 6), .dead)), (7, ((γ1 7), .dead)), (8, ((γ1 8), .dead)), (9, ((γ1 9), .dead))]) (fun i => f ≤ i ∧ (i = f ∨ (i ≤ t ∧ i ≤ l.done.length))) (fun i => l.done.length - i) (cK [2, 3, 6, 7] rfl) (hK [0, 1] rfl) f ⟨Nat.le_refl _, .inl rfl⟩ [0, 0, 0, _, _, _, _, _, _, _, _] cv (HE.row rfl (by rw [List.drop_of_length_le (by rw [List.length_take]; omega)]; rfl) (HE.box rfl rfl (HE.kill rfl (HE.kill rfl (HE.kill rfl (HE.kill rfl (HE.kill rfl (HE.kill rfl (HE.kill rfl HE.nil))))))))) rfl fun i γ1 hi => ?_
 obtain ⟨k1, k2⟩ := hi
 refine x2x fun K2 hK2 => ?_
 refine exA 4 rfl rfl (z8z rfl rfl ?_ ?_)<;>intro h<;>try simp at h
 ·refine x0x 5 rfl rfl (x8x rfl (fun hc6 => ?_) (fun hc6 => ?_))
  ·simp at hc6
  try simp at hc6
  have hfin : (l.done.take i).drop f = (l.done.take t).drop f := c6s k1 k2 (by omega)
  refine z5z (hK1 _ _ (exR (x5x rfl v7v rfl rfl rfl (x3x rfl rfl v7v rfl rfl rfl rfl (x6x ⟨.inr rfl, ?_⟩)))))
  rw [a2s, ← hfin]
  exact ⟨_, _, rfl, .agg rfl (.cl rfl (.cl rfl (.cl rfl (.cl rfl (.ref rfl (Le.ow_map _ (fun _ => rfl) (fun _ => rfl)) .nil))))) .nil⟩
 refine x0x 3 rfl rfl (z1z rfl rfl (z3z rfl r8r rfl (x0x 2 rfl rfl (y4y rfl ?_ ?_))))<;>intro h<;>try simp at h
 ·have hfin : (l.done.take i).drop f = (l.done.take t).drop f := c6s k1 k2 (by omega)
  refine z5z (hK1 _ _ (exR (x5x rfl v7v rfl rfl rfl (x3x rfl rfl v7v rfl rfl rfl rfl (x6x ⟨.inr rfl, ?_⟩)))))
  rw [a2s, ← hfin]
  exact ⟨_, _, rfl, .agg rfl (.cl rfl (.cl rfl (.cl rfl (.cl rfl (.ref rfl (Le.ow_map _ (fun _ => rfl) (fun _ => rfl)) .nil))))) .nil⟩
 obtain ⟨p, hp⟩ := gE l.done i
 have g1 : i < t := by omega
 obtain ⟨hps, hpo⟩ := hb p (List.mem_of_getElem? hp)
 refine x7x (hK2 _ _ (x2x fun K5 hK5 => ?_))
 refine y0y (exA 3 rfl rfl (y8y rfl rfl r8r rfl a0j rfl hp (u5u rfl a0j rfl rfl (y7y (id := 3) a0j c5s rfl (x3x rfl rfl a0j rfl rfl rfl rfl (exH (x0x 3 rfl rfl ?_)))))))
 refine v1v (out := .agg (v4v p.ev)) rfl z6z rfl rfl ?_
 refine y1y rfl a0j rfl rfl a1v rfl rfl ?_
 refine v1v (out := .agg (a3i p.after)) rfl a1v rfl rfl ?_
 refine z9z (id := 4) u8u rfl z6z rfl (x0x 2 rfl rfl ?_)
 refine a2m r4r (zs := (p.sends).map v4v) rfl rfl u8u rfl z6z rfl rfl rfl (w2w (fun _ => rfl) _) rfl (by (simp only [a1f, a0o, a0x, a0z, a2c, a4b, b2y, T56]; omega)) (Le.ow_map _ (fun _ => rfl) (fun _ => rfl)) ?_
 refine z9z (id := 6) r3r rfl w7w rfl (x0x 2 rfl rfl ?_)
 refine a2m r4r (zs := (p.outs).map a1b) rfl rfl r3r rfl w7w rfl rfl rfl (w2w (fun _ => rfl) _) rfl (by (simp only [a1f, a0o, a0x, a0z, a2c, a4b, b2y, T141]; omega)) (Le.ow_map _ (fun _ => rfl) (fun _ => rfl)) ?_
 refine rlB a0j c5s ?_
 refine u4u (id := 8) r8r rfl a0j rfl rfl rfl rfl rfl rfl ?_
 refine u6u (zs := ((l.done.take i).drop f ++ [p]).map (a3p true)) rfl rfl r8r rfl a0j rfl rfl rfl rfl (by rfl) (w4w _ _ _) (by (simp only [a1f, a0o, a0x, a0z, a2c, a4b, b2y, T58]; omega)) ?_
 refine y1y rfl v7v rfl rfl r8r rfl rfl (z0z rfl rfl r8r rfl rfl rfl rfl rfl (by simp only [a1k]; rfl) ?_)
 refine ⟨by kernel_rfl, hK5 _ _ (exG (x4x rfl (z4z (b := 1) rfl rfl (by omega) (x1x rfl ?_))))⟩
 exact ⟨i + 1, ⟨⟨by omega, .inr ⟨by omega, by omega⟩⟩, by omega⟩, [0, 0, 0, _, _, _, _, _, _, _, _], cv, cv, (HE.row rfl (by rw [w1w hp, List.drop_append_of_le_length (by rw [List.length_take]; omega)]) (HE.box rfl rfl (HE.kill rfl (HE.kill rfl (HE.kill rfl (HE.kill rfl (HE.kill rfl (HE.kill rfl (HE.kill rfl HE.nil))))))))), hv, rfl⟩
theorem a6m (c : Bool) (n : Nd) (hl : n.lanes.length ≤ 1000000) (hk : n.kept.length ≤ 1000000) (ho : n.outs.length ≤ 1000000) (hd : ∀ l ∈ n.lanes, lb l) : Meth Tryz.prog 155 3 [] [.agg (w5w c n)] [(0, (0, .dead)), (1, (0, .dead)), (2, (0, .dead))] (.agg [pI n.id, .pv (.bool n.up), pI n.inc, pI n.g, .ref 0 0, a1m true n.kept, a0p true n.outs, pI n.led, pI 0, .ref 1 0, .ref 2 0, pI 0, pI 41]) [(0, (0, .row 44 5 ((n.lanes.map s5s).map (a0f true)))), (1, (0, .row 190 3 ([vi0, vi0, vi0].map (a5d true)))), (2, (0, .row 3 1 ([0, 0, 0].map a7n)))] := by
 refine mX Tryz.f155 [.agg [pI n.id, .pv (.bool n.up), pI n.inc, pI n.g, .ref 0 0, a1m true n.kept, a0p true n.outs, pI n.led, pI 0, .ref 1 0, .ref 2 0, pI 0, pI 41]] 3 13 fun γ => ?_
 refine exR (u0u (id := 3) rfl rfl rfl (y7y (id := 4) y5y s8s rfl (exD (x0x 8 rfl rfl (z9z (id := 5) u8u rfl z6z rfl (x0x 2 rfl rfl ?_))))))
 refine a2m r4r (zs := (n.kept).map v4v) rfl rfl u8u rfl z6z rfl rfl rfl (w2w (fun _ => rfl) _) rfl (by (simp only [a1f, a0o, a0x, a0z, a2c, a4b, b2y, T56]; omega)) (Le.ow_map _ (fun _ => rfl) (fun _ => rfl)) ?_
 refine z9z (id := 7) r3r rfl w7w rfl (x0x 2 rfl rfl ?_)
 refine a2m r4r (zs := (n.outs).map a1b) rfl rfl r3r rfl w7w rfl rfl rfl (w2w (fun _ => rfl) _) rfl (by (simp only [a1f, a0o, a0x, a0z, a2c, a4b, b2y, T141]; omega)) (Le.ow_map _ (fun _ => rfl) (fun _ => rfl)) ?_
 refine x0x 2 rfl rfl (rlB y5y s8s ?_)
 refine y7y (id := 9) y5y s8s rfl (x3x rfl rfl y5y rfl rfl rfl rfl ⟨by kernel_rfl, x2x fun K1 hK1 => ?_⟩)
 refine exR (x1x rfl (y0y (a2e 9 4 0 44 5 rfl rfl rfl rfl rfl ?_)))
 refine z2z (ι := Nat) (fun i γ1 => [(4, pI (i : Int))]) (fun i γ1 => [(0, ((γ1 0), .row 44 5 (((n.lanes.take i).map s5s).map (a0f true)))), (9, ((0 + 1), .box 65 [pI n.id, .pv (.bool n.up), pI n.inc, pI n.g, .ref 0 (γ1 0), a1m true n.kept, a0p true n.outs, pI n.led, pI 0, .pv (.slice none 0 0), .pv (.slice none 0 0), pI 0, pI 41])), (10, ((γ1 10), .dead)), (11, ((γ1 11), .dead))]) (fun i => i ≤ n.lanes.length) (fun i => n.lanes.length - i) (cK [1, 2, 3] rfl) (hK [1, 2, 3, 4, 5, 6, 7, 8, 12, 13, 14, 15] rfl) 0 (by omega) [_, 0, 0, 0, 0, 0, 0, 0, 0, 0, _, _] cv (HE.row rfl (by rw [List.take_zero]; rfl) (HE.box rfl rfl (HE.kill rfl (HE.kill rfl HE.nil)))) rfl fun i γ1 hi => ?_
 refine x2x fun K2 hK2 => ?_
 refine exA 3 rfl rfl (z3z rfl r6r rfl (v6v rfl rfl rfl (x8x rfl ?_ ?_)))<;>intro h<;>try simp at h
 ·obtain ⟨a, ha⟩ := gE n.lanes i
  have had := hd a (List.mem_of_getElem? ha)
  refine x7x (hK2 _ _ (x2x fun K4 hK4 => ?_))
  refine y0y (exH (x0x 5 rfl rfl (y8y rfl rfl r6r rfl v7v rfl ha (u5u rfl v7v rfl rfl (x9x rfl rfl rfl (a3n c a 0 0 had.1 (by omega) (by omega) had.2) ?_)))))
  refine u4u (id := 10) r6r rfl v7v rfl rfl rfl rfl rfl rfl ?_
  refine u6u (zs := ((n.lanes.take i).map s5s ++ [s5s a]).map (a0f true)) rfl rfl r6r rfl v7v rfl rfl rfl rfl (by rfl) (w4w _ _ _) (by (simp only [a1f, a0o, a0x, a0z, a2c, a4b, b2y, T44]; omega)) ?_
  refine y1y rfl y5y rfl rfl r6r rfl rfl (z0z rfl rfl r6r rfl rfl rfl rfl rfl (by simp only [a1k]; rfl) ?_)
  refine ⟨by kernel_rfl, hK4 _ _ (exG (x4x rfl (p4p rfl rfl rfl (x1x rfl ?_))))⟩
  exact ⟨i + 1, ⟨by omega, by omega⟩, [_, 0, 0, 0, 0, 0, 0, 0, 0, 0, _, _], (Cov.cons' (t := 4) rfl (by rw [u3u (by omega) (by omega)]; rfl) Cov.nil), cv, (HE.row rfl (by simp only [w1w ha, List.map_append, List.map_cons, List.map_nil]) (HE.box rfl rfl (HE.kill rfl (HE.kill rfl HE.nil)))), hv, rfl⟩
 obtain rfl : i = n.lanes.length := by omega
 refine z5z (hK1 _ _ (x2x fun K5 hK5 => ?_))
 refine exR (x1x rfl (y0y (a2e 9 9 1 190 3 rfl rfl rfl rfl rfl (a2e 9 10 2 3 1 rfl rfl rfl rfl rfl ?_))))
 refine z2z (ι := Nat) (fun i γ2 => [(5, pI (i : Int))]) (fun i γ2 => [(1, ((γ2 1), .row 190 3 ((List.range i).map fun _ => b1q))), (2, ((γ2 2), .row 3 1 ((List.range i).map fun _ => a7n 0))), (9, ((0 + 1), .box 65 [pI n.id, .pv (.bool n.up), pI n.inc, pI n.g, .ref 0 (γ1 0), a1m true n.kept, a0p true n.outs, pI n.led, pI 0, .ref 1 (γ2 1), .ref 2 (γ2 2), pI 0, pI 41])), (12, ((γ2 12), .dead)), (13, ((γ2 13), .dead)), (14, ((γ2 14), .dead)), (15, ((γ2 15), .dead))]) (fun i => i ≤ 3) (fun i => 3 - i) (cK [2, 3] rfl) (hK [0, 3, 4, 5, 6, 7, 8, 10, 11] rfl) 0 (by omega) [0, _, _, 0, 0, 0, 0, 0, 0, 0, 0, 0, _, _, _, _] cv hv rfl fun i γ2 hi => ?_
 refine x2x fun K6 hK6 => ?_
 refine exA 2 rfl rfl (y4y rfl ?_ ?_)<;>intro h<;>try simp at h
 ·obtain rfl : i = 3 := by omega
  rw [List.take_length]
  refine z5z (hK5 _ _ (exR (x5x rfl y5y rfl rfl rfl (x3x rfl rfl y5y rfl rfl rfl rfl ?_))))
  refine c8u (f := fun _ => b1q) (f' := fun _ => a5d true vi0) (l := List.range 3) 1 rfl (fun _ => .same (.same (.le rfl .nil rfl .nil))) ?_
  refine x6x ?_
  exact ⟨.inr rfl, [_, _, _], rfl, rfl, hv⟩
 refine x7x (hK6 _ _ (x2x fun K8 hK8 => ?_))
 refine y0y (exA 2 rfl rfl (rlB q8q b0a ?_))
 refine u4u (id := 12) a0s rfl q8q rfl rfl rfl rfl rfl rfl ?_
 refine u6u (zs := (List.range i).map (fun _ => b1q) ++ [b1q]) rfl rfl a0s rfl q8q rfl rfl rfl rfl (by rfl) rfl (by (simp only [a1f, a0o, a0x, a0z, a2c, a4b, b2y, T190]; omega)) ?_
 refine y1y rfl y5y rfl rfl a0s rfl rfl (z0z rfl rfl a0s rfl rfl rfl rfl rfl (by simp only [a1k]; rfl) ?_)
 refine exG (x0x 2 rfl rfl (b0c (id := 14) q1q rfl q2q rfl rfl rfl rfl rfl ?_))
 refine u6u (zs := (List.range i).map (fun _ => a7n 0) ++ [a7n 0]) rfl rfl q1q rfl q2q rfl rfl rfl rfl (by rfl) rfl (by (simp only [a1f, a0o, a0x, a0z, a2c, a4b, b2y, T3]; omega)) ?_
 refine y1y rfl y5y rfl rfl q1q rfl rfl (z0z rfl rfl q1q rfl rfl rfl rfl rfl (by simp only [a1k]; rfl) ?_)
 refine hK8 _ _ (exG (x4x rfl (p4p rfl rfl rfl (x1x rfl ?_))))
 exact ⟨i + 1, ⟨by omega, by omega⟩, [0, _, _, 0, 0, 0, 0, 0, 0, 0, 0, 0, _, _, _, _], (Cov.cons' (t := 5) rfl (by rw [u3u (by omega) (by omega)]; rfl) Cov.nil), cv, (HE.row rfl (by rw [List.range_succ, List.map_append]; rfl) (HE.row rfl (by rw [List.range_succ, List.map_append]; rfl) (HE.box rfl rfl (HE.kill rfl (HE.kill rfl (HE.kill rfl (HE.kill rfl HE.nil))))))), hv, rfl⟩
end
section
theorem a6b (c : Bool) (l : La) (h : lb l) : a1p Tryz.prog 110 [.agg (a0f c l), .pv (.int .i64 ((0 : Nat) : Int)), .pv (.int .i64 (l.done.length : Int))] (.agg (a0f true l)) := by
 have := a3n c l 0 l.done.length h.1 (by omega) h.1 h.2
 rw [b5n] at this
 exact this
theorem z7z (c : Bool) (n : Nd) (h : nb n) : Meth Tryz.prog 161 3 [] [.agg (w5w c n)] [(0, (0, .dead)), (1, (0, .dead)), (2, (0, .dead))] (.agg [pI n.id, .pv (.bool n.up), pI n.inc, pI n.g, .ref 0 0, a1m true n.kept, a0p true n.outs, pI n.led, pI n.version, .ref 1 0, .ref 2 0, pI n.round, pI n.low]) [(0, (0, .row 44 5 ((n.lanes).map (a0f true)))), (1, (0, .row 190 3 ((n.views).map (a5d true)))), (2, (0, .row 3 1 (n.known.map a7n)))] := by
 refine mX Tryz.f161 [.agg [pI n.id, .pv (.bool n.up), pI n.inc, pI n.g, .ref 0 0, a1m true n.kept, a0p true n.outs, pI n.led, pI n.version, .ref 1 0, .ref 2 0, pI n.round, pI n.low]] 3 10 fun γ => ?_
 obtain ⟨b1, b2, b3, b4, b5, b6, b7⟩ := h
 refine exR (u0u (id := 3) rfl rfl rfl (y7y (id := 4) y5y s8s rfl (exR (x5x rfl y5y rfl rfl rfl ?_))))
 refine rlM [0, 11, 12] [_, _, _] (a6m c n b1 b2 b3 b4) rfl rfl rfl ?_
 refine y7y (id := 5) y5y s8s rfl (x3x rfl rfl y5y rfl rfl rfl rfl (x2x fun K1 hK1 => ?_))
 refine exR (x1x rfl (y0y ?_))
 refine z2z (ι := Nat) (fun i γ1 => [(4, pI (i : Int))]) (fun i γ1 => [(0, ((γ 0 + 1), .row 44 5 ((n.lanes.take i ++ (n.lanes.drop i).map s5s).map (a0f true))))]) (fun i => i ≤ n.lanes.length) (fun i => n.lanes.length - i) (cK [1, 2, 3] rfl) (hK [1, 2, 3, 4, 5, 6, 7, 8, 9, 10, 11, 12] rfl) 0 (by omega) [] cv (HE.row rfl (by rw [List.take_zero, List.drop_zero]; rfl) HE.nil) rfl fun i γ1 hi => ?_
 refine x2x fun K2 hK2 => ?_
 refine exA 3 rfl rfl (z3z rfl r6r rfl (v6v rfl rfl rfl (x8x rfl ?_ ?_)))<;>intro o<;>try simp at o
 ·obtain ⟨p, hp⟩ := gE n.lanes i
  have hpl := b4 p (List.mem_of_getElem? hp)
  have hAl : ((n.lanes.take i).map (a0f true)).length = i := by rw [List.length_map, List.length_take]; omega
  rw [s2s hp, List.map_cons, List.map_append, List.map_cons]
  refine x7x (hK2 _ _ (x2x fun K4 hK4 => ?_))
  refine y0y (exH (x0x 6 rfl rfl (y8y rfl rfl r6r rfl v7v rfl hp (x0x 4 rfl rfl (y8y rfl rfl r6r rfl v7v rfl hp (x0x 2 rfl rfl (z3z rfl r8r rfl (x9x rfl rfl rfl (a6b c p hpl) (c1a rfl rfl r6r rfl v7v rfl rfl hAl (c4y hAl rfl rfl v7v rfl rfl rfl rfl (a0b rfl) rfl ?_))))))))))
  refine ⟨by kernel_rfl, hK4 _ _ (exG (x4x rfl (p4p rfl rfl rfl (x1x rfl ?_))))⟩
  exact ⟨i + 1, ⟨by omega, by omega⟩, [], (Cov.cons' (t := 4) rfl (by rw [u3u (by omega) (by omega)]; rfl) Cov.nil), cv, (HE.row rfl (by simp only [w1w hp, List.map_append, List.append_assoc]; rfl) HE.nil), hv, rfl⟩
 obtain rfl : i = n.lanes.length := by omega
 rw [List.take_length, List.drop_length, List.map_nil, List.append_nil]
 refine z5z (hK1 _ _ (exA 3 rfl rfl (z0z rfl rfl q2q rfl rfl rfl rfl rfl (by simp only [a1k]; rfl) ?_)))
 refine exA 3 rfl rfl (z0z rfl rfl q2q rfl rfl rfl rfl rfl (by simp only [a1k]; rfl) ?_)
 refine exA 3 rfl rfl (z0z rfl rfl q2q rfl rfl rfl rfl rfl (by simp only [a1k]; rfl) ?_)
 refine exR (z9z (id := 1) a0s rfl q8q rfl (y1y rfl y5y rfl rfl a0s rfl rfl (z0z rfl rfl a0s rfl rfl rfl rfl rfl (by simp only [a1k]; rfl) ?_)))
 refine x2x fun K5 hK5 => ?_
 refine exR (x1x rfl (y0y ?_))
 refine z2z (ι := Nat) (fun j γ2 => [(5, pI (j : Int))]) (fun j γ2 => [(1, ((γ2 1), .row 190 3 ((n.views.take j).map (a5d true)))), (5, ((0 + 1), .box 65 [pI n.id, .pv (.bool n.up), pI n.inc, pI n.g, .ref 0 (γ 0 + 1), a1m true n.kept, a0p true n.outs, pI n.led, pI n.version, .ref 1 (γ2 1), .ref 12 (0 + 1), pI n.round, pI n.low])), (6, ((γ2 6), .dead)), (7, ((γ2 7), .dead)), (8, ((γ2 8), .dead)), (9, ((γ2 9), .dead))]) (fun j => j ≤ n.views.length) (fun j => n.views.length - j) (cK [1, 2, 3] rfl) (hK [0, 2, 3, 4, 10, 11, 12] rfl) 0 (by omega) [0, _, 0, 0, 0, 0, _, _, _, _] cv (HE.row rfl (by rw [List.take_zero]; rfl) (HE.box rfl rfl (HE.kill rfl (HE.kill rfl (HE.kill rfl (HE.kill rfl HE.nil)))))) rfl fun j γ2 hi => ?_
 refine x2x fun K6 hK6 => ?_
 refine exA 3 rfl rfl (z3z rfl a0s rfl (v6v rfl rfl rfl (y4y rfl ?_ ?_)))<;>intro o<;>try simp at o
 ·obtain rfl : j = n.views.length := by omega
  rw [List.take_length]
  refine z5z (hK5 _ _ (exR (z9z (id := 2) q1q rfl q2q rfl (x0x 2 rfl rfl ?_))))
  refine s1s (zs := n.known.map a7n) rfl rfl q1q rfl q2q rfl rfl rfl (w2w (fun _ => rfl) _) rfl (by (simp only [a1f, a0o, a0x, a0z, a2c, a4b, b2y, T3]; omega)) ?_
  refine y1y rfl y5y rfl rfl q1q rfl rfl (z0z rfl rfl q1q rfl rfl rfl rfl rfl (by simp only [a1k]; rfl) ?_)
  refine exR (x5x rfl y5y rfl rfl rfl (x3x rfl rfl y5y rfl rfl rfl rfl (x6x ?_)))
  exact ⟨.inr rfl, [_, _, _], rfl, rfl, hv⟩
 obtain ⟨v, hv⟩ := gE n.views j
 have hve := b6 v (List.mem_of_getElem? hv)
 refine x7x (hK6 _ _ (x2x fun K8 hK8 => ?_))
 refine y0y (exH (x0x 5 rfl rfl (y8y rfl rfl a0s rfl q8q rfl hv (x0x 5 rfl rfl (y8y rfl rfl a0s rfl q8q rfl hv (x0x 2 rfl rfl (z9z (id := 6) u8u rfl z6z rfl (x0x 3 rfl rfl (y8y rfl rfl a0s rfl q8q rfl hv (x0x 2 rfl rfl ?_))))))))))
 refine a2m r4r (zs := (v.events).map v4v) rfl rfl u8u rfl z6z rfl rfl rfl (w2w (fun _ => rfl) _) rfl (by (simp only [a1f, a0o, a0x, a0z, a2c, a4b, b2y, T56]; omega)) (Le.ow_map _ (fun _ => rfl) (fun _ => rfl)) ?_
 refine rlB q8q b0a ?_
 refine u4u (id := 8) a0s rfl q8q rfl rfl rfl rfl rfl rfl ?_
 refine u6u (zs := (n.views.take j ++ [v]).map (a5d true)) rfl rfl a0s rfl q8q rfl rfl rfl rfl (by rfl) (w4w _ _ _) (by (simp only [a1f, a0o, a0x, a0z, a2c, a4b, b2y, T190]; omega)) ?_
 refine y1y rfl y5y rfl rfl a0s rfl rfl (z0z rfl rfl a0s rfl rfl rfl rfl rfl (by simp only [a1k]; rfl) ?_)
 refine ⟨by kernel_rfl, hK8 _ _ (exG (x4x rfl (p4p rfl rfl rfl (x1x rfl ?_))))⟩
 exact ⟨j + 1, ⟨by omega, by omega⟩, [0, _, 0, 0, 0, 0, _, _, _, _], (Cov.cons' (t := 5) rfl (by rw [u3u (by omega) (by omega)]; rfl) Cov.nil), (y2y 1 rfl (y2y 2 rfl (y2y 3 rfl Cov.nil))), (HE.row rfl (by rw [w1w hv]) (HE.box rfl rfl (HE.kill rfl (HE.kill rfl (HE.kill rfl (HE.kill rfl HE.nil)))))), (y6y 0 rfl (y6y 2 rfl (y6y 3 rfl (y6y 4 rfl (y6y 10 rfl (y6y 11 rfl (y6y 12 rfl HE.nil))))))), rfl⟩
end
section
theorem a4w (c : Bool) (l : List Ou) (hl : l.length ≤ 1000000) : a1p Tryz.prog 112 [a0p c l] (a0p true (a1s l)) := by
 refine pX Tryz.f112 [a0p true (a1s l)] 6 ?_
 refine exR (x1x rfl (exR (z9z (id := 0) r3r rfl w7w rfl (x1x rfl (x2x fun K1 hK1 => ?_)))))
 refine exR (x1x rfl (y0y ?_))
 refine a0k (l := ([] : List Ou)) (f := a1b) 3 rfl rfl (fun _ => rfl) ?_
 refine z2z (ι := Nat) (fun i γ1 => [(3, a0p true (a1s (l.take i))), (4, pI (i : Int))]) (fun i γ1 => [(1, ((γ1 1), .dead)), (2, ((γ1 2), .dead)), (3, ((γ1 3), .dead)), (4, ((γ1 4), .dead)), (5, ((γ1 5), .dead))]) (fun i => i ≤ l.length) (fun i => l.length - i) (y2y 0 rfl Cov.nil) (y6y 0 rfl HE.nil) 0 (by omega) [0, _, _, _, _, _] (Cov.cons' (t := 3) rfl (by rw [List.take_zero]; rfl) (y2y 4 rfl Cov.nil)) hv rfl fun i γ1 hi => ?_
 refine x2x fun K2 hK2 => ?_
 refine exA 2 rfl rfl (z3z rfl r3r rfl (v6v rfl rfl rfl (y4y rfl ?_ ?_)))<;>intro h<;>try simp at h
 ·obtain rfl : i = l.length := by omega
  refine z5z (hK1 _ _ (exA 2 rfl rfl (x6x ⟨.inr rfl, ?_⟩)))
  refine y9y rfl ?_ rfl
  exact congrArg (fun l : List Ou => [a0p true l]) (by rw [List.take_length])
 obtain ⟨x, hx⟩ := gE l i
 have hol : (a1s (l.take i)).length ≤ 1000000 := by rw [b3y, List.length_take]; omega
 refine x7x (hK2 _ _ (x2x fun K4 hK4 => ?_))
 refine y0y (exR (x4x rfl (z3z rfl r3r rfl (x1x rfl ?_))))
 refine a0c (ι := Nat) (fun k γ2 => [(5, pI (k : Int))]) (fun k γ2 => []) (fun k => k ≤ (a1s (l.take i)).length ∧ (∀ (j : Nat) y, k ≤ j → (a1s (l.take i))[j]? = some y → b0y x y = true) ∧ (∀ y, 0 < k → (a1s (l.take i))[k - 1]? = some y → b0y x y = false)) (cK [0, 3, 4] rfl) (hK [0, 1, 2, 3, 4, 5] rfl) ?_ fun k γ2 hi => ?_
 ·refine y0y ?_
  refine z2z (ι := Nat) (fun k γ3 => [(5, pI (k : Int))]) (fun k γ3 => []) (fun k => k ≤ (a1s (l.take i)).length ∧ (∀ (j : Nat) y, k ≤ j → (a1s (l.take i))[j]? = some y → b0y x y = true)) (fun k => k) (cK [0, 3, 4] rfl) (hK [0, 1, 2, 3, 4, 5] rfl) (a1s (l.take i)).length ⟨Nat.le_refl _, fun j y hj hy => by have := (List.getElem?_eq_some_iff.1 hy).1; omega⟩ [] cv hv rfl fun k γ3 hi => ?_
  obtain ⟨k1, k2⟩ := hi
  refine x2x fun K5 hK5 => ?_
  refine exD (x0x 3 rfl rfl (z8z rfl rfl ?_ ?_))<;>intro h<;>try simp at h
  ·have k0 : k = 0 := by omega
   refine x0x 10 rfl rfl ⟨by kernel_rfl, x8x rfl (fun hc8 => ?_) (fun hc8 => ?_)⟩
   ·simp at hc8
   try simp at hc8
   try have hlt := hc8
   refine z5z ?_
   exact ⟨k, ⟨k1, k2, fun y2 h0 h2 => by omega⟩, [], cv, cv, hv, hv, rfl⟩
  have k0 : 0 < k := by omega
  obtain ⟨y, hy⟩ := gE (a1s (l.take i)) (k - 1)
  refine x0x 2 rfl rfl (z1z rfl rfl (y8y rfl rfl r3r rfl w7w rfl hx (x0x 3 rfl rfl (z1z rfl rfl (a0h (b := 1) rfl rfl (by omega) (by omega) (z1z rfl rfl (y8y rfl rfl r3r rfl w7w rfl hy (z1z rfl rfl (u5u rfl w7w rfl rfl (z1z rfl rfl (x9x rfl rfl rfl (b4r ..) (b0x rfl rfl ⟨by kernel_rfl, y4y rfl ?_ ?_⟩))))))))))))<;>intro hc7<;>try simp at hc7
  ·try have hlt := hc7
   refine z5z ?_
   exact ⟨k, ⟨k1, k2, fun y2 h0 h2 => by (rw [hy] at h2; cases h2; exact hlt)⟩, [], cv, cv, hv, hv, rfl⟩
  try have hlt := hc7
  refine x7x (hK5 _ _ (y0y (exG (x4x rfl (a0h (b := 1) rfl rfl (by omega) (by omega) (x1x rfl ?_))))))
  exact ⟨k - 1, ⟨⟨by omega, fun j y2 hj hy2 => by by_cases hjk : j = k - 1; (subst hjk; rw [hy] at hy2; cases hy2; exact hlt); exact k2 j y2 (by omega) hy2⟩, by omega⟩, [], cv, cv, hv, hv, rfl⟩
 ·try dsimp only [b2z, b3a]
  obtain ⟨c1, c2, c3⟩ := hi
  have hin := (d1n hx).trans (e8c f1b (d9m _) c2 c3 c1)
  refine exH (z9z (id := 1) r3r rfl w7w rfl (x0x 2 rfl rfl (b9x rfl r3r rfl w7w rfl rfl rfl (by omega) (by omega) (by omega) ?_)))
  refine s1s (zs := ((a1s (l.take i)).take k).map a1b) rfl rfl r3r rfl w7w rfl rfl rfl (w2w (fun _ => rfl) _) (by simp) (by (simp only [a1f, a0o, a0x, a0z, a2c, b2y, T141]; omega)) ?_
  refine x0x 2 rfl rfl (y8y rfl rfl r3r rfl w7w rfl hx (u5u rfl w7w rfl rfl (u4u (id := 3) r3r rfl w7w rfl rfl rfl rfl rfl rfl ?_)))
  refine u6u (zs := ((a1s (l.take i)).take k ++ [x]).map a1b) rfl rfl r3r rfl w7w rfl rfl rfl rfl (by rfl) (w4w _ _ _) (by (simp only [a1f, a0o, a0x, a0z, a2c, b2y, T141]; omega)) ?_
  refine x0x 2 rfl rfl (b9x rfl r3r rfl w7w rfl rfl rfl (by omega) (by (rw [List.length_map]; omega)) (by (rw [List.length_map]; omega)) ?_)
  refine a2m r4r (zs := ((a1s (l.take i)).take k ++ x :: (a1s (l.take i)).drop k).map a1b) rfl rfl r3r rfl w7w rfl rfl rfl (w2w (fun _ => rfl) _) (by simp) (by (simp only [a1f, a0o, a0x, a0z, a2c, b2y, T141]; omega)) (Le.ow_map _ (fun _ => rfl) (fun _ => rfl)) ?_
  refine x1x rfl ⟨by kernel_rfl, hK4 _ _ (exG (x4x rfl (z4z (b := 1) rfl rfl (by omega) (x1x rfl ?_))))⟩
  exact ⟨i + 1, ⟨by omega, by omega⟩, [0, _, _, _, _, _], (Cov.cons' (t := 3) rfl (by rw [hin]; rfl) (y2y 4 rfl Cov.nil)), cv, hv, hv, rfl⟩
end
section
theorem c4d (c : Bool) (l : La) : a1p Tryz.prog 31 [.agg (a0f c l)] (.agg (a3i (e6k l))) := by
 refine pX Tryz.f31 [.agg (a3i (e6k l))] 2 ?_
 refine exR (u0u (id := 0) rfl rfl rfl (y7y (id := 1) a1v c8i rfl (x2x fun K1 hK1 => ?_)))
 refine exR (x5x rfl v7v rfl rfl rfl (x9x rfl rfl rfl (a4j ..) (a1w rfl (x8x rfl ?_ ?_))))<;>intro hc2<;>try simp at hc2
 ·have fX : ¬ a6q l = true := by simpa using hc2
  refine exR (rlB a1v c8i ?_)
  refine x3x rfl rfl a1v rfl rfl rfl rfl (x6x ⟨.inr rfl, ?_⟩)
  (rw [f1w fX]; exact a9h rfl rfl rfl rfl)
 have fL : a6q l = true := hc2
 have hl1 := (a3m fL).1
 refine x7x (hK1 _ _ (x2x fun K3 hK3 => ?_))
 refine exA 2 rfl rfl (z3z rfl r8r rfl (v6v rfl rfl rfl (x8x rfl ?_ ?_)))<;>intro hc4<;>try simp at hc4
 ·have h0 : l.done.length = 0 := by (rw [hc4]; rfl)
  refine exR (y1y rfl v7v rfl rfl a1v rfl rfl ?_)
  refine v1v (out := .agg (a3i l.base)) rfl a1v rfl rfl ?_
  refine x3x rfl rfl a1v rfl rfl rfl rfl (x6x ⟨.inr rfl, ?_⟩)
  (rw [f1x fL h0]; exact a9h rfl rfl rfl rfl)
 have h1 : 0 < l.done.length := List.length_pos_iff.2 hc4
 obtain ⟨p, hp⟩ := gE l.done (l.done.length - 1)
 refine x7x (hK3 _ _ (exA 4 rfl rfl (z3z rfl r8r rfl (a0h (b := 1) rfl rfl (by omega) (by omega) (y8y rfl rfl r8r rfl a0j rfl hp (y1y rfl a0j rfl rfl a1v rfl rfl ?_))))))
 refine w3w (out := .agg (a3i p.after)) rfl a1v rfl ?_
 refine x3x rfl rfl a1v rfl rfl rfl rfl (x6x ⟨.inr rfl, ?_⟩)
 (rw [f1y fL hp]; exact a9h rfl rfl rfl rfl)
theorem b1w (c : Bool) (l : La) (f t : Nat) (hlen : l.done.length ≤ 1000000) (hf : f ≤ 1000000) (ht : t ≤ 1000000) (hb : ∀ p ∈ l.done, p.sends.length ≤ 1000000 ∧ p.outs.length ≤ 1000000) : Meth Tryz.prog 110 1 [] [.agg (a0f c l), .pv (.int .i64 (f : Int)), .pv (.int .i64 (t : Int))] [(0, (0, .dead))] (.agg [pI l.proc, pI l.base.x, pI l.base.y, pI l.base.count, .ref 0 0]) [(0, (0, .row 58 12 (((a2s l f t).done).map (a3p true))))] := by
 refine mX Tryz.f110 [.agg [pI l.proc, pI l.base.x, pI l.base.y, pI l.base.count, .ref 0 0]] 1 10 fun γ => ?_
 refine exR (u0u (id := 1) rfl rfl rfl (y7y (id := 2) v7v a8t rfl (exA 4 rfl rfl (rlB v7v a8t ?_))))
 refine y7y (id := 3) v7v a8t rfl (x3x rfl rfl v7v rfl rfl rfl rfl (x2x fun K1 hK1 => ?_))
 refine exA 2 rfl rfl (y0y (a2e 3 4 0 58 12 rfl rfl rfl rfl rfl ?_))
 refine z2z (ι := Nat) (fun i γ1 => [(8, pI (i : Int))]) (fun i γ1 => [(0, ((γ1 0), .row 58 12 (((l.done.take i).drop f).map (a3p true)))), (3, ((0 + 1), .box 44 [pI l.proc, pI l.base.x, pI l.base.y, pI l.base.count, .ref 0 (γ1 0)])), (4, ((γ1 4), .dead)), (5, ((γ1 5), .dead)), (6, ((γ1 6), .dead)), (7, ((γ1 7), .dead)), (8, ((γ1 8), .dead)), (9, ((γ1 9), .dead)), (10, ((γ1 10), .dead))]) (fun i => f ≤ i ∧ (i = f ∨ (i ≤ t ∧ i ≤ l.done.length))) (fun i => l.done.length - i) (cK [2, 3, 6, 7] rfl) (hK [1, 2] rfl) f ⟨Nat.le_refl _, .inl rfl⟩ [_, 0, 0, 0, _, _, _, _, _, _, _] cv (HE.row rfl (by rw [List.drop_of_length_le (by rw [List.length_take]; omega)]; rfl) (HE.box rfl rfl (HE.kill rfl (HE.kill rfl (HE.kill rfl (HE.kill rfl (HE.kill rfl (HE.kill rfl (HE.kill rfl HE.nil))))))))) rfl fun i γ1 hi => ?_
 obtain ⟨k1, k2⟩ := hi
 refine x2x fun K2 hK2 => ?_
 refine exA 4 rfl rfl (z8z rfl rfl ?_ ?_)<;>intro j<;>try simp at j
 ·refine x0x 5 rfl rfl (x8x rfl (fun hc6 => ?_) (fun hc6 => ?_))
  ·simp at hc6
  try simp at hc6
  have hfin : (l.done.take i).drop f = (l.done.take t).drop f := c6s k1 k2 (by omega)
  refine z5z (hK1 _ _ (exR (x5x rfl v7v rfl rfl rfl (x3x rfl rfl v7v rfl rfl rfl rfl (x6x ?_)))))
  exact ⟨.inr rfl, [_], rfl, rfl, HE.row rfl (by rw [hfin]; rfl) HE.nil⟩
 refine x0x 3 rfl rfl (z1z rfl rfl (z3z rfl r8r rfl (x0x 2 rfl rfl (y4y rfl ?_ ?_))))<;>intro j<;>try simp at j
 ·have hfin : (l.done.take i).drop f = (l.done.take t).drop f := c6s k1 k2 (by omega)
  refine z5z (hK1 _ _ (exR (x5x rfl v7v rfl rfl rfl (x3x rfl rfl v7v rfl rfl rfl rfl (x6x ?_)))))
  exact ⟨.inr rfl, [_], rfl, rfl, HE.row rfl (by rw [hfin]; rfl) HE.nil⟩
 obtain ⟨p, hp⟩ := gE l.done i
 have g1 : i < t := by omega
 obtain ⟨hps, hpo⟩ := hb p (List.mem_of_getElem? hp)
 refine x7x (hK2 _ _ (x2x fun K5 hK5 => ?_))
 refine y0y (exA 3 rfl rfl (y8y rfl rfl r8r rfl a0j rfl hp (u5u rfl a0j rfl rfl (y7y (id := 4) a0j c5s rfl (x3x rfl rfl a0j rfl rfl rfl rfl (exH (x0x 3 rfl rfl ?_)))))))
 refine v1v (out := .agg (v4v p.ev)) rfl z6z rfl rfl ?_
 refine y1y rfl a0j rfl rfl a1v rfl rfl ?_
 refine v1v (out := .agg (a3i p.after)) rfl a1v rfl rfl ?_
 refine z9z (id := 5) u8u rfl z6z rfl (x0x 2 rfl rfl ?_)
 refine a2m r4r (zs := (p.sends).map v4v) rfl rfl u8u rfl z6z rfl rfl rfl (w2w (fun _ => rfl) _) rfl (by (simp only [a1f, a0o, a0x, a0z, a2c, a4b, b2y, T56]; omega)) (Le.ow_map _ (fun _ => rfl) (fun _ => rfl)) ?_
 refine z9z (id := 7) r3r rfl w7w rfl (x0x 2 rfl rfl ?_)
 refine a2m r4r (zs := (p.outs).map a1b) rfl rfl r3r rfl w7w rfl rfl rfl (w2w (fun _ => rfl) _) rfl (by (simp only [a1f, a0o, a0x, a0z, a2c, a4b, b2y, T141]; omega)) (Le.ow_map _ (fun _ => rfl) (fun _ => rfl)) ?_
 refine rlB a0j c5s ?_
 refine u4u (id := 9) r8r rfl a0j rfl rfl rfl rfl rfl rfl ?_
 refine u6u (zs := ((l.done.take i).drop f ++ [p]).map (a3p true)) rfl rfl r8r rfl a0j rfl rfl rfl rfl (by rfl) (w4w _ _ _) (by (simp only [a1f, a0o, a0x, a0z, a2c, a4b, b2y, T58]; omega)) ?_
 refine y1y rfl v7v rfl rfl r8r rfl rfl (z0z rfl rfl r8r rfl rfl rfl rfl rfl (by simp only [a1k]; rfl) ?_)
 refine ⟨by kernel_rfl, hK5 _ _ (exG (x4x rfl (z4z (b := 1) rfl rfl (by omega) (x1x rfl ?_))))⟩
 exact ⟨i + 1, ⟨⟨by omega, .inr ⟨by omega, by omega⟩⟩, by omega⟩, [_, 0, 0, 0, _, _, _, _, _, _, _], cv, cv, (HE.row rfl (by rw [w1w hp, List.drop_append_of_le_length (by rw [List.length_take]; omega)]) (HE.box rfl rfl (HE.kill rfl (HE.kill rfl (HE.kill rfl (HE.kill rfl (HE.kill rfl (HE.kill rfl (HE.kill rfl HE.nil))))))))), hv, rfl⟩
theorem c2x (a : Ap) (l : La) (s : List Ev) (hA : e0r a) (hL : a6q l = true) : MethE Tryz.prog 328 0 [.agg (b9r true a), .agg (a0f true l), a1m true s] [] (ι := La × Bool) (fun S' => S'.2 = true → ∃ p, S'.1 = a3c l p ∧ l.done.length < 100 ∧ paB p) (fun S' => []) (fun S' => .tup [.agg (a0f true S'.1), .pv (.bool (S'.2))]) (fun S' => []) := by
 refine mE (ι := La × Bool) Tryz.f328 (fun S' => [.agg (a0f true S'.1), .pv (.bool (S'.2))]) 0 10 fun γ => ?_
 have hb : ∀ r ∈ a.rules, r.ops.length ≤ 1048576 := fun r hr => by obtain ⟨i, hi⟩ := List.getElem?_of_mem hr; have := (hA.2 i r hi).2.1.2.1; omega
 have hlb := e7y hL
 refine exR (u0u (id := 0) rfl rfl rfl (u0u (id := 1) rfl rfl rfl (y7y (id := 2) v7v a8t rfl (x1x rfl (exA 2 rfl rfl (x9x rfl rfl rfl (b3h true true l s) (x0x 3 rfl rfl (y7y (id := 3) z6z a6e rfl (x3x rfl rfl z6z rfl rfl rfl rfl (x1x rfl (x2x fun K1 hK1 => ?_)))))))))))
 refine exA 3 rfl rfl (z8z rfl rfl ?_ ?_)<;>intro hg2<;>try simp at hg2
 ·refine x0x 7 rfl rfl (x8x rfl (fun hc6 => ?_) (fun hc6 => ?_))
  rotate_left
  ·simp at hc6
  try simp at hc6
  refine x2x fun K7 hK7 => ?_
  refine exR (x5x rfl v7v rfl rfl rfl (x9x rfl rfl rfl (a4j ..) (a1w rfl (x8x rfl ?_ ?_))))<;>intro hc8<;>try simp at hc8
  ·exact absurd hL (by simpa using hc8)
  refine x7x (hK7 _ _ (exA 3 rfl rfl (z3z rfl r8r rfl (x9x rfl rfl rfl (a6b true l hlb) (x3x rfl rfl v7v rfl rfl rfl rfl (x1x rfl ?_))))))
  skip
  refine x6x ?_
  exact ⟨.inr rfl, (l, false), (by intro h; simp at h), [], rfl, rfl, hv⟩
 have hok : (b2c l s).2 = true := hg2
 refine x5x rfl a2b rfl rfl rfl (z1z rfl rfl (rlB a2b b4i ?_))
 refine z1z rfl rfl (rlB a2b b4i ?_)
 refine z1z rfl rfl (rlB a2b b4i ?_)
 refine z1z rfl rfl ?_
 refine a0d (id := 4) b2j rfl a2b rfl rfl rfl rfl (.val rfl rfl (.val rfl rfl (.val rfl rfl (.val rfl rfl .nil)))) rfl (a0m rfl) (a0m rfl) (a0m rfl) rfl rfl ?_
 refine z1z rfl rfl ?_
 refine b5h rfl rfl rfl (.ref rfl (e1q a) .nil) (a9e false (e9x a) (by intro x hx; simp only [e9x, List.mem_cons, List.not_mem_nil, or_false] at hx; rcases hx with rfl | rfl | rfl | rfl <;> first | exact hb | (intro r hr; cases hr))) (.pv _) ?_
 refine x0x 2 rfl rfl (x8x rfl ?_ ?_)<;>intro j<;>try simp at j
 ·refine x2x fun K4 hK4 => ?_
  refine exR (x5x rfl v7v rfl rfl rfl (x9x rfl rfl rfl (a4j ..) (a1w rfl (x8x rfl ?_ ?_))))<;>intro hc5<;>try simp at hc5
  ·exact absurd hL (by simpa using hc5)
  refine x7x (hK4 _ _ (exA 3 rfl rfl (z3z rfl r8r rfl (x9x rfl rfl rfl (a6b true l hlb) (x3x rfl rfl v7v rfl rfl rfl rfl (x1x rfl ?_))))))
  skip
  refine x6x ?_
  exact ⟨.inr rfl, (l, false), (by intro h; simp at h), [], rfl, rfl, hv⟩
 have hroom := e1p hok
 refine x7x (hK1 _ _ (d1v 4 (b4m r4r 0 4 rfl rfl ?_)))
 refine x0x 2 rfl rfl (x9x rfl rfl rfl (c4d true l) (x5x rfl z6z rfl rfl rfl (b4m r4r 9 1 rfl rfl ?_)))
 refine y7y (id := 5) a1v c8i rfl (b5t c3q (by rfl) [] [] (c7p a (e6k l) (b2c l s).1 hb) rfl rfl rfl rfl (by decide) rfl rfl (by repeat (exact InH.nil)) (fun _ => (by (simp only [pI, a3s, a3v, b9z, gl, nx, a7y, Nat.beq]; rfl))) (fun _ => (by (simp only [pI, a3s, a3v, b9z, gl, nx, a7y, Nat.beq]; rfl))) ⟨⟨0, 0, 0⟩, [], []⟩ ⟨Nat.zero_le _, Nat.zero_le _, fun q h => by cases h⟩ fun r hr => ?_)
 obtain ⟨r1, r2, r3⟩ := hr
 refine b4n r4r 5 4 rfl rfl ?_
 refine x0x 4 rfl rfl (b4n r4r 10 3 rfl rfl ?_)
 refine x3x rfl rfl a1v rfl rfl rfl rfl (x0x 2 rfl rfl (c2h (by kernel_rfl) ?_))
 refine exA 3 rfl rfl (z3z rfl r8r rfl ?_)
 refine rlM [9] [_] (b1w true l 0 l.done.length hlb.1 (by omega) hlb.1 hlb.2) rfl rfl rfl ?_
 refine y7y (id := 6) v7v a8t rfl (x3x rfl rfl v7v rfl rfl rfl rfl ?_)
 rw [b5n]
 refine exD (x0x 5 rfl rfl (x9x rfl rfl rfl (a2h true r.sends (by omega)) ?_))
 refine x4x rfl (x9x rfl rfl rfl (a4w true r.outs (by omega)) ?_)
 refine rlB a0j c5s ?_
 refine u4u (id := 7) r8r rfl a0j rfl rfl rfl rfl rfl rfl ?_
 refine u6u (zs := (l.done ++ [(⟨(b2c l s).1, r.s, p0p r.sends, a1s r.outs⟩ : Pa)]).map (a3p true)) rfl rfl r8r rfl a0j rfl rfl rfl rfl (by rfl) (w4w (a3p true) l.done (⟨(b2c l s).1, r.s, p0p r.sends, a1s r.outs⟩ : Pa)) (by (simp only [a1f, a0o, a0x, a0z, a2c, a4b, b2y, T58]; omega)) ?_
 refine y1y rfl v7v rfl rfl r8r rfl rfl (z0z rfl rfl r8r rfl rfl rfl rfl rfl (by simp only [a1k]; rfl) ?_)
 refine ⟨by kernel_rfl, exR (x5x rfl v7v rfl rfl rfl (x3x rfl rfl v7v rfl rfl rfl rfl (x1x rfl ?_)))⟩
 refine p9p (b := b2f true (l.done ++ [(⟨(b2c l s).1, r.s, p0p r.sends, a1s r.outs⟩ : Pa)])) 2 4 rfl rfl rfl (.ref rfl (Le.ow_map _ (fun _ => rfl) (fun _ => rfl)) .nil) rfl rfl rfl rfl ?_
 refine x6x ?_
 exact ⟨.inr rfl, (a3c l (⟨(b2c l s).1, r.s, p0p r.sends, a1s r.outs⟩ : Pa), true), (fun _ => ⟨(⟨(b2c l s).1, r.s, p0p r.sends, a1s r.outs⟩ : Pa), rfl, hroom, e9n r1 r2 r3⟩), [], rfl, rfl, hv⟩
theorem c4e (n : Nd) (q : Int) (hl4 : n.lanes.length ≤ 1000000) : MethE Tryz.prog 327 0 [.agg (w5w true n), .pv (.int .i64 q)] [] (ι := Int) (fun S' => S' = -1 ∨ ∃ (i : Nat) (l : La), S' = (i : Int) ∧ n.lanes[i]? = some l ∧ l.proc = q) (fun S' => []) (fun S' => .pv (.int .i64 S')) (fun S' => []) := by
 refine mE (ι := Int) Tryz.f327 (fun S' => [.pv (.int .i64 S')]) 0 1 fun γ => ?_
 refine exR (u0u (id := 0) rfl rfl rfl (x1x rfl (x2x fun K1 hK1 => ?_)))
 refine exR (x1x rfl (y0y ?_))
 refine z2z (ι := Nat) (fun i γ1 => [(5, pI (i : Int))]) (fun i γ1 => []) (fun i => i ≤ n.lanes.length) (fun i => n.lanes.length - i) (cK [1, 2] rfl) (y6y 0 rfl HE.nil) 0 (by omega) [] cv hv rfl fun i γ1 hi => ?_
 refine x2x fun K2 hK2 => ?_
 refine exA 3 rfl rfl (z3z rfl r6r rfl (v6v rfl rfl rfl (y4y rfl ?_ ?_)))<;>intro j<;>try simp at j
 ·refine z5z (hK1 _ _ (exR (x1x rfl (x6x ?_))))
  exact ⟨.inr rfl, -1, .inl rfl, [], rfl, rfl, hv⟩
 obtain ⟨l, hl⟩ := gE n.lanes i
 refine x7x (hK2 _ _ (x2x fun K4 hK4 => ?_))
 refine y0y (exA 3 rfl rfl (y8y rfl rfl r6r rfl v7v rfl hl (x0x 4 rfl rfl (x8x rfl ?_ ?_))))<;>intro hc5<;>try simp at hc5
 ·have hq : l.proc = q := hc5
  refine exA 2 rfl rfl (x6x ?_)
  exact ⟨.inr rfl, (i : Int), .inr ⟨i, l, rfl, hl, hq⟩, [], rfl, rfl, hv⟩
 refine x7x (hK4 _ _ (exG (x4x rfl (z4z (b := 1) rfl rfl (by omega) (x1x rfl ?_)))))
 exact ⟨i + 1, ⟨by omega, by omega⟩, [], cv, cv, hv, hv, rfl⟩
end
section
theorem a8o (c : Bool) (n : Nd) (t : Nat) (ht : t < 3) (hk3 : n.known.length = 3) (hs : (a1l n).length ≤ 5000000) (hlen : n.lanes.length ≤ 1048576) : a1p Tryz.prog 135 [.agg (w5w c n), .pv (.int .i64 (t : Int))] (a1m true (a3u n (t : Int))) := by
 refine pX Tryz.f135 [a1m true (a3u n (t : Int))] 5 ?_
 obtain ⟨kn, hkn⟩ := gE n.known t
 rw [d9f hkn]
 refine exR (u0u (id := 0) rfl rfl rfl (x1x rfl (exR (x5x rfl y5y rfl rfl rfl ?_))))
 refine rlM [4] [_] (b4s c n (by omega) hlen) rfl rfl rfl ?_
 refine x1x rfl (a0k 5 rfl rfl (fun _ => rfl) ?_)
 refine exR (z9z (id := 1) u8u rfl z6z rfl (x1x rfl (x2x fun K1 hK1 => ?_)))
 refine exR (x1x rfl (y0y ?_))
 refine z2z (ι := Nat) (fun j γ1 => [(6, .ref 1 (γ1 1)), (7, pI (j : Int))]) (fun j γ1 => [(1, ((γ1 1), .row 56 7 ((((a1l n).take j).filter (b5o (t : Int) kn)).map v4v))), (2, ((γ1 2), .dead)), (3, ((γ1 3), .dead))]) (fun j => j ≤ (a1l n).length) (fun j => (a1l n).length - j) (cK [1, 2, 5] rfl) (hK [0, 4] rfl) 0 (by omega) [0, _, _, _] cv (HE.row rfl (by rw [List.take_zero]; rfl) (HE.kill rfl (HE.kill rfl HE.nil))) rfl fun j γ1 hi => ?_
 refine x2x fun K2 hK2 => ?_
 refine exA 2 rfl rfl (z3z rfl u8u rfl (v6v rfl rfl rfl (y4y rfl ?_ ?_)))<;>intro h<;>try simp at h
 ·obtain rfl : j = (a1l n).length := by omega
  rw [List.take_length]
  refine z5z (hK1 _ _ (a0k 6 rfl rfl (fun _ => rfl) ?_))
  refine exR (x4x rfl (x9x rfl rfl rfl (a2h true ((a1l n).filter (b5o (t : Int) kn)) (Nat.le_trans (List.length_filter_le _ _) (by omega))) ?_))
  refine x1x rfl (x6x ⟨.inr rfl, ?_⟩)
  refine y9y rfl rfl rfl
 obtain ⟨p, hp⟩ := gE (a1l n) j
 have hfl : (((a1l n).take j).filter (b5o (t : Int) kn)).length ≤ 5000000 := Nat.le_trans (List.length_filter_le _ _) (by rw [List.length_take]; omega)
 refine x7x (hK2 _ _ (x2x fun K4 hK4 => ?_))
 refine y0y (exD (x0x 2 rfl rfl (y8y rfl rfl u8u rfl z6z rfl hp (x0x 2 rfl rfl (x9x rfl rfl rfl (a2k ..) (x0x 3 rfl rfl (z8z rfl rfl ?_ ?_)))))))<;>intro hg5<;>try simp at hg5
 ·have hw : ¬ b5o (t : Int) kn p = true := by simp only [b5o, decide_eq_true_eq]; omega
  refine x0x 11 rfl rfl ⟨by kernel_rfl, x8x rfl (fun hc7 => ?_) (fun hc7 => ?_)⟩
  ·simp at hc7
  try simp at hc7
  try have hw : ¬ b5o (t : Int) kn p = true := by simp only [b5o, decide_eq_true_eq]; omega
  refine x7x (hK4 _ _ (exG (x4x rfl (p4p rfl rfl rfl (x1x rfl ?_)))))
  exact ⟨j + 1, ⟨by omega, by omega⟩, [0, _, _, _], (y2y 6 rfl (Cov.cons' (t := 7) rfl (by rw [u3u (by omega) (by omega)]; rfl) Cov.nil)), cv, (HE.row rfl (by rw [a1d hp]; rw [if_neg hw, List.append_nil]) (HE.kill rfl (HE.kill rfl HE.nil))), hv, rfl⟩
 have hw1 : a0u p.to = (t : Int) := hg5
 refine x0x 2 rfl rfl (z1z rfl rfl (y8y rfl rfl u8u rfl z6z rfl hp (x0x 5 rfl rfl (z1z rfl rfl (y8y rfl rfl q1q rfl q2q rfl hkn (x0x 3 rfl rfl ⟨by kernel_rfl, y4y rfl ?_ ?_⟩))))))<;>intro h<;>try simp at h
 ·try have hw : ¬ b5o (t : Int) kn p = true := by simp only [b5o, decide_eq_true_eq]; omega
  refine x7x (hK4 _ _ (exG (x4x rfl (p4p rfl rfl rfl (x1x rfl ?_)))))
  exact ⟨j + 1, ⟨by omega, by omega⟩, [0, _, _, _], (y2y 6 rfl (Cov.cons' (t := 7) rfl (by rw [u3u (by omega) (by omega)]; rfl) Cov.nil)), cv, (HE.row rfl (by rw [a1d hp]; rw [if_neg hw, List.append_nil]) (HE.kill rfl (HE.kill rfl HE.nil))), hv, rfl⟩
 have hw : b5o (t : Int) kn p = true := by simp only [b5o, decide_eq_true_eq]; omega
 refine exG (x0x 3 rfl rfl (y8y rfl rfl u8u rfl z6z rfl hp (u5u rfl z6z rfl rfl (u4u (id := 2) u8u rfl z6z rfl rfl rfl rfl rfl rfl ?_))))
 refine u6u (zs := (((a1l n).take j).filter (b5o (t : Int) kn) ++ [p]).map v4v) rfl rfl u8u rfl z6z rfl rfl rfl rfl (by rfl) (w4w _ _ _) (by (simp only [a1f, a0o, a0x, a0z, a2c, a4b, T56] at *; omega)) ?_
 refine x1x rfl (hK4 _ _ (exG (x4x rfl (p4p rfl rfl rfl (x1x rfl ?_)))))
 exact ⟨j + 1, ⟨by omega, by omega⟩, [0, _, _, _], (y2y 6 rfl (Cov.cons' (t := 7) rfl (by rw [u3u (by omega) (by omega)]; rfl) Cov.nil)), cv, (HE.row rfl (by rw [a1d hp]; rw [if_pos hw]) (HE.kill rfl (HE.kill rfl HE.nil))), hv, rfl⟩
end
section
theorem c4f (c c' : Bool) (l l' : List Ev) : a1p Tryz.prog 251 [a1m c l, a1m c' l'] (.pv (.bool (decide (l = l')))) := by
 refine pX Tryz.f251 [.pv (.bool (decide (l = l')))] 0 ?_
 refine r1r 0 rfl fun hlen => ?_
 refine exR (x1x rfl (x2x fun K1 hK1 => ?_))
 refine exR (x4x rfl (z3z rfl u8u rfl (x4x rfl (z3z rfl u8u rfl (v6v rfl rfl rfl (x8x rfl ?_ ?_))))))<;>intro o<;>try simp at o
 ·refine exR (x1x rfl (x6x ⟨.inr rfl, ?_⟩))
  refine y9y rfl ?_ rfl
  exact f4x (by omega)
 refine x7x (hK1 _ _ (x2x fun K3 hK3 => ?_))
 refine exR (x1x rfl (y0y ?_))
 refine z2z (ι := Nat) (fun i γ1 => [(5, pI (i : Int))]) (fun i γ1 => []) (fun i => i ≤ l.length ∧ l.length = l'.length ∧ l.take i = l'.take i) (fun i => l.length - i) (cK [0, 1] rfl) HE.nil 0 ⟨by omega, by omega, rfl⟩ [] cv hv rfl fun i γ1 hi => ?_
 obtain ⟨h1, h2, h3⟩ := hi
 refine x2x fun K4 hK4 => ?_
 refine exA 2 rfl rfl (z3z rfl u8u rfl (v6v rfl rfl rfl (y4y rfl ?_ ?_)))<;>intro o<;>try simp at o
 ·refine z5z (hK3 _ _ (exR (x1x rfl (x6x ⟨.inr rfl, ?_⟩))))
  refine y9y rfl ?_ rfl
  exact eqT h3 (by omega) (by omega)
 refine x7x (hK4 _ _ (x2x fun K6 hK6 => ?_))
 refine y0y (exD (x0x 2 rfl rfl ?_))
 obtain ⟨x, hx⟩ := gE l i
 refine y8y rfl rfl u8u rfl z6z rfl hx (x0x 3 rfl rfl ?_)
 obtain ⟨y, hy⟩ := gE l' i
 refine y8y rfl rfl u8u rfl z6z rfl hy (u5u rfl z6z rfl rfl (c5w rfl rfl (by intro p q h; cases h) (.inr rfl) (f1j _ _ _ _) ?_))
 refine ⟨by kernel_rfl, y4y rfl ?_ ?_⟩<;>intro hc7<;>try simp at hc7
 ·have hxy : x = y := by simpa [a6w] using hc7
  refine x7x (hK6 _ _ (exG (x4x rfl ?_)))
  refine a2l (.int .i64 ((i + 1 : Nat) : Int)) rfl rfl rfl (b2l rfl (by omega) (by omega) (by have := hlen; omega)) ?_
  refine x1x rfl ?_
  exact ⟨i + 1, ⟨⟨by omega, h2, d9z h3 hx hy (by assumption)⟩, by omega⟩, [], cv, cv, hv, hv, rfl⟩
 have hxy : ¬ x = y := by simpa [a6w] using hc7
 refine exR (x1x rfl (x6x ⟨.inr rfl, ?_⟩))
 refine y9y rfl ?_ rfl
 exact f4y hx hy (by assumption)
theorem b1x (c : Bool) (a b : List Ev) (g : Int) : a1p Tryz.prog 169 [a1m c a, a1m c b, .pv (.int .i64 g)] (.pv (.int .i64 (chg g a (chg g b 41 a) b))) := by
 refine pX Tryz.f169 [.pv (.int .i64 (chg g a (chg g b 41 a) b))] 0 ?_
 refine exR (x1x rfl (exR (x1x rfl (x2x fun K1 hK1 => ?_))))
 refine exR (x1x rfl (y0y ?_))
 refine z2z (ι := Nat) (fun k γ1 => [(0, a1m c (swK a b k)), (1, a1m c (swK b a k)), (7, pI (e6d g a b k)), (8, pI (k : Int))]) (fun k γ1 => []) (fun k => k ≤ 2) (fun k => 2 - k) (y2y 2 rfl Cov.nil) HE.nil 0 (by omega) [] (Cov.cons' (t := 0) rfl (rfl) (Cov.cons' (t := 1) rfl (rfl) (Cov.cons' (t := 7) rfl (rfl) (y2y 8 rfl Cov.nil)))) hv rfl fun k γ1 hi => ?_
 refine x2x fun K2 hK2 => ?_
 refine exA 2 rfl rfl (y4y rfl ?_ ?_)<;>intro o<;>try simp at o
 ·obtain rfl : k = 2 := by omega
  refine z5z (hK1 _ _ (exA 2 rfl rfl (x6x ⟨.inr rfl, ?_⟩)))
  exact y9y rfl rfl rfl
 refine x7x (hK2 _ _ (x2x fun K4 hK4 => ?_))
 refine y0y (x2x fun K5 hK5 => ?_)
 refine exR (x1x rfl (y0y (r1r 0 rfl fun hlen0 => ?_)))
 refine z2z (ι := Nat) (fun i γ2 => [(7, pI (chg g (swK b a k) (e6d g a b k) ((swK a b k).take i))), (9, pI (i : Int))]) (fun i γ2 => []) (fun i => i ≤ (swK a b k).length) (fun i => (swK a b k).length - i) (cK [0, 1, 2, 8] rfl) HE.nil 0 (by omega) [] (Cov.cons' (t := 7) rfl (by rw [List.take_zero]; rfl) (y2y 9 rfl Cov.nil)) hv rfl fun i γ2 hi => ?_
 refine x2x fun K6 hK6 => ?_
 refine exA 2 rfl rfl (z3z rfl u8u rfl (v6v rfl rfl rfl (y4y rfl ?_ ?_)))<;>intro o<;>try simp at o
 ·obtain rfl : i = (swK a b k).length := by omega
  refine z5z (hK5 _ _ (exA 2 rfl rfl (exA 2 rfl rfl (exG (x0x 2 rfl rfl (hK4 _ _ (exG (x4x rfl (z4z (b := 1) rfl rfl (by omega) (x1x rfl ?_))))))))))
  exact ⟨k + 1, ⟨by omega, by omega⟩, [], (Cov.cons' (t := 0) rfl (by rw [d3y (by omega)]) (Cov.cons' (t := 1) rfl (by rw [d3y (by omega)]) (Cov.cons' (t := 7) rfl (by rw [d9x (by omega), List.take_length]) (y2y 8 rfl Cov.nil)))), cv, hv, hv, rfl⟩
 obtain ⟨x, hx⟩ := gE (swK a b k) i
 refine x7x (hK6 _ _ (x2x fun K8 hK8 => ?_))
 refine y0y (exR (x1x rfl (x2x fun K9 hK9 => ?_)))
 refine exR (x1x rfl (y0y (r1r 1 rfl fun hlen1 => ?_)))
 refine z2z (ι := Nat) (fun j γ3 => [(10, .pv (.bool (decide (x ∈ (swK b a k).take j)))), (11, pI (j : Int))]) (fun j γ3 => []) (fun j => j ≤ (swK b a k).length) (fun j => (swK b a k).length - j) (cK [0, 1, 2, 7, 8, 9] rfl) HE.nil 0 (by omega) [] (Cov.cons' (t := 10) rfl (by simp) (y2y 11 rfl Cov.nil)) hv rfl fun j γ3 hi => ?_
 refine x2x fun K10 hK10 => ?_
 refine exA 2 rfl rfl (z3z rfl u8u rfl (v6v rfl rfl rfl (x8x rfl ?_ ?_)))<;>intro o<;>try simp at o
 ·obtain ⟨z, hz⟩ := gE (swK b a k) j
  refine x7x (hK10 _ _ (x2x fun K12 hK12 => ?_))
  refine y0y (exH (x0x 2 rfl rfl (z8z rfl rfl ?_ ?_)))<;>intro hg13<;>try simp at hg13
  ·have hin : x ∈ (swK b a k).take j := by simpa using hg13
   refine x0x 10 rfl rfl ⟨by kernel_rfl, hK12 _ _ (exG (x4x rfl (z4z (b := 1) rfl rfl (by omega) (x1x rfl ?_))))⟩
   exact ⟨j + 1, ⟨by omega, by omega⟩, [], (Cov.cons' (t := 10) rfl (by rw [w1w hz]; (simp [hin]; done)) (y2y 11 rfl Cov.nil)), cv, hv, hv, rfl⟩
  have hin : ¬ x ∈ (swK b a k).take j := by simpa using hg13
  refine x0x 2 rfl rfl (z1z rfl rfl (y8y rfl rfl u8u rfl z6z rfl hx (x0x 3 rfl rfl (z1z rfl rfl (y8y rfl rfl u8u rfl z6z rfl hz (z1z rfl rfl (u5u rfl z6z rfl rfl (z1z rfl rfl (c5w rfl rfl (by intro a c h; cases h) (.inl rfl) (f1j _ _ _ _) ?_)))))))))
  refine x0x 2 rfl rfl ⟨by kernel_rfl, hK12 _ _ (exG (x4x rfl (z4z (b := 1) rfl rfl (by omega) (x1x rfl ?_))))⟩
  exact ⟨j + 1, ⟨by omega, by omega⟩, [], (Cov.cons' (t := 10) rfl (by rw [w1w hz]; (simp [hin]; rfl)) (y2y 11 rfl Cov.nil)), cv, hv, hv, rfl⟩
 obtain rfl : j = (swK b a k).length := by omega
 rw [List.take_length]
 refine z5z (hK9 _ _ (exA 3 rfl rfl (z8z rfl rfl ?_ ?_)))<;>intro hg14<;>try simp at hg14
 ·have hn : ¬ (g ≤ x.time ∧ x.time < chg g (swK b a k) (e6d g a b k) ((swK a b k).take i) ∧ ¬ x ∈ swK b a k) := fun q => q.2.2 (by simpa using hg14)
  refine x0x 16 rfl rfl (x8x rfl (fun hc18 => ?_) (fun hc18 => ?_))
  ·simp at hc18
  try simp at hc18
  refine x7x (hK8 _ _ (exG (x4x rfl (z4z (b := 1) rfl rfl (by omega) (x1x rfl ?_)))))
  exact ⟨i + 1, ⟨by omega, by omega⟩, [], (Cov.cons' (t := 7) rfl (by rw [b7e hx, if_neg hn]) (y2y 9 rfl Cov.nil)), cv, hv, hv, rfl⟩
 have hm : ¬ x ∈ swK b a k := by simpa using hg14
 refine x0x 2 rfl rfl (z1z rfl rfl (y8y rfl rfl u8u rfl z6z rfl hx (x0x 6 rfl rfl (z8z rfl rfl ?_ ?_))))<;>intro o<;>try simp at o
 ·have hn : ¬ (g ≤ x.time ∧ x.time < chg g (swK b a k) (e6d g a b k) ((swK a b k).take i) ∧ ¬ x ∈ swK b a k) := fun q => (by have := q.1; omega)
  refine x0x 7 rfl rfl (x8x rfl (fun hc17 => ?_) (fun hc17 => ?_))
  ·simp at hc17
  try simp at hc17
  refine x7x (hK8 _ _ (exG (x4x rfl (z4z (b := 1) rfl rfl (by omega) (x1x rfl ?_)))))
  exact ⟨i + 1, ⟨by omega, by omega⟩, [], (Cov.cons' (t := 7) rfl (by rw [b7e hx, if_neg hn]) (y2y 9 rfl Cov.nil)), cv, hv, hv, rfl⟩
 refine x0x 2 rfl rfl (z1z rfl rfl (y8y rfl rfl u8u rfl z6z rfl hx (x0x 5 rfl rfl (y4y rfl ?_ ?_))))<;>intro o<;>try simp at o
 ·have hn : ¬ (g ≤ x.time ∧ x.time < chg g (swK b a k) (e6d g a b k) ((swK a b k).take i) ∧ ¬ x ∈ swK b a k) := by exact fun q => (by have := q.2.1; omega)
  refine x7x (hK8 _ _ (exG (x4x rfl (z4z (b := 1) rfl rfl (by omega) (x1x rfl ?_)))))
  exact ⟨i + 1, ⟨by omega, by omega⟩, [], (Cov.cons' (t := 7) rfl (by rw [b7e hx, if_neg hn]) (y2y 9 rfl Cov.nil)), cv, hv, hv, rfl⟩
 have hy : g ≤ x.time ∧ x.time < chg g (swK b a k) (e6d g a b k) ((swK a b k).take i) ∧ ¬ x ∈ swK b a k := ⟨by omega, by omega, hm⟩
 refine exG (x0x 2 rfl rfl (y8y rfl rfl u8u rfl z6z rfl hx (x0x 3 rfl rfl (hK8 _ _ (exG (x4x rfl (z4z (b := 1) rfl rfl (by omega) (x1x rfl ?_))))))))
 exact ⟨i + 1, ⟨by omega, by omega⟩, [], (Cov.cons' (t := 7) rfl (by (rw [b7e hx, if_pos hy] <;> rfl)) (y2y 9 rfl Cov.nil)), cv, hv, hv, rfl⟩
theorem b3m (n : Nd) (hw : wk n) : Meth Tryz.prog 171 3 [0, 1, 2] [.agg [pI n.id, .pv (.bool n.up), pI n.inc, pI n.g, .ref 0 0, a1m true n.kept, a0p true n.outs, pI n.led, pI n.version, .ref 1 0, .ref 2 0, pI n.round, pI n.low]] [(0, (0, .row 44 5 ((n.lanes).map (a0f true)))), (1, (0, .row 190 3 ((n.views).map (a5d true)))), (2, (0, .row 3 1 (n.known.map a7n)))] (.agg [pI (nl n (a0g n n.lanes)).id, .pv (.bool (nl n (a0g n n.lanes)).up), pI (nl n (a0g n n.lanes)).inc, pI (nl n (a0g n n.lanes)).g, .ref 0 0, a1m true (nl n (a0g n n.lanes)).kept, a0p true (nl n (a0g n n.lanes)).outs, pI (nl n (a0g n n.lanes)).led, pI (nl n (a0g n n.lanes)).version, .ref 1 0, .ref 2 0, pI (nl n (a0g n n.lanes)).round, pI (nl n (a0g n n.lanes)).low]) [(0, (0, .row 44 5 ((a0g n n.lanes).map (a0f true))))] := by
 refine mX Tryz.f171 [.agg [pI (nl n (a0g n n.lanes)).id, .pv (.bool (nl n (a0g n n.lanes)).up), pI (nl n (a0g n n.lanes)).inc, pI (nl n (a0g n n.lanes)).g, .ref 0 0, a1m true (nl n (a0g n n.lanes)).kept, a0p true (nl n (a0g n n.lanes)).outs, pI (nl n (a0g n n.lanes)).led, pI (nl n (a0g n n.lanes)).version, .ref 1 0, .ref 2 0, pI (nl n (a0g n n.lanes)).round, pI (nl n (a0g n n.lanes)).low]] 3 2 fun γ => ?_
 refine exR (u0u (id := 3) rfl rfl rfl (y7y (id := 4) y5y s8s rfl (exR (x1x rfl (x2x fun K1 hK1 => ?_)))))
 refine y0y ?_
 refine z2z (ι := List La × Bool) (fun p γ1 => [(3, .pv (.bool (p.2)))]) (fun p γ1 => [(0, ((γ 0), .row 44 5 ((p.1).map (a0f true))))]) (fun p => (p.2 = true → a0g n p.1 = a0g n n.lanes) ∧ (p.2 = false → p.1 = a0g n n.lanes) ∧ wk (nl n p.1)) (fun p => 2 * c6x p.1 + p.2.toNat) (cK [1, 2] rfl) (hK [1, 2, 3, 4] rfl) (n.lanes, true) ⟨fun _ => rfl, fun h => (by cases h), hw⟩ [] cv hv rfl fun p γ1 hi => ?_
 obtain ⟨ls, q⟩ := p
 obtain ⟨h1, h2, h3⟩ := hi
 dsimp only at h1 h2 h3 ⊢
 refine x2x fun K2 hK2 => ?_
 refine exR (x4x rfl (y4y rfl ?_ ?_))<;>intro hc3<;>try simp at hc3
 ·have hq : q = false := by simpa using hc3
  subst hq
  have hfin : ls = a0g n n.lanes := h2 rfl
  refine z5z (hK1 _ _ (exR (x5x rfl y5y rfl rfl rfl (x3x rfl rfl y5y rfl rfl rfl rfl ?_))))
  subst hfin
  refine x6x ?_
  exact ⟨.inr rfl, [γ 0, γ 1, γ 2], rfl, rfl, hv⟩
 have hq : q = true := hc3
 subst hq
 refine x7x (hK2 _ _ (y0y (exR (x1x rfl (exR (x1x rfl (y0y ?_)))))))
 refine z2z (ι := Nat) (fun i γ2 => [(3, .pv (.bool (b1e n ls i))), (4, pI (i : Int))]) (fun i γ2 => [(0, ((γ 0), .row 44 5 ((a3h n ls i).map (a0f true))))]) (fun i => i ≤ ls.length) (fun i => ls.length - i) (cK [1, 2] rfl) (hK [1, 2, 3, 4] rfl) 0 (by omega) [] (Cov.cons' (t := 3) rfl (rfl) (y2y 4 rfl Cov.nil)) hv rfl fun i γ2 hi => ?_
 refine x2x fun K4 hK4 => ?_
 refine exA 3 rfl rfl (a1o rfl r6r rfl rfl (List.length_map _) ?_)
 refine v6v rfl rfl rfl (y4y rfl ?_ ?_)<;>intro o<;>try simp at o
 ·have hpl : (a3h n ls i).length = ls.length := c6y n ls i
  obtain rfl : i = ls.length := by omega
  refine z5z ?_
  exact ⟨(a3h n ls ls.length, b1e n ls ls.length), ⟨⟨fun h => (c6z h).trans (h1 rfl), fun h => (c0b h).trans (h1 rfl), c2b h3 _⟩, (e8h n ls ls.length)⟩, [], cv, cv, hv, hv, rfl⟩
 have hpl : (a3h n ls i).length = ls.length := c6y n ls i
 obtain ⟨l, hp⟩ := gE (a3h n ls i) i
 have h4 := c2b h3 i
 have h41 : (a3h n ls i).length ≤ 4 := h4.1
 have hb4 := h4.2.2.2.2.1 l (List.mem_of_getElem? hp)
 refine x7x (hK4 _ _ (x2x fun K6 hK6 => ?_))
 refine y0y (exD (x0x 3 rfl rfl ?_))
 refine v0v (j := i) rfl rfl r6r rfl v7v rfl rfl (v2v hp) ?_
 refine p8p rfl v7v rfl hp rfl rfl (x0x 4 rfl rfl ?_)
 refine v0v (j := i) rfl rfl r6r rfl v7v rfl rfl (v2v hp) ?_
 refine y1y rfl v7v rfl rfl q2q rfl rfl (a0y rfl q2q rfl hp rfl ?_)
 refine b5h rfl rfl rfl (d1t (n := nl n (a3h n ls i)) rfl rfl rfl (.cl rfl .nil)) (a4v false (nl n (a3h n ls i)) l.proc (e8d h4) (by have := h4.1; omega) h4.2.2.1) (b0l _) ?_
 refine x9x rfl rfl rfl (a9n true true l (r7r (nl n (a3h n ls i)) l.proc)) ?_
 refine x1x rfl ⟨by kernel_rfl, exA 4 rfl rfl ?_⟩
 refine v0v (j := i) rfl rfl r6r rfl v7v rfl rfl (v2v hp) ?_
 refine y1y rfl v7v rfl rfl r8r rfl rfl (a0y rfl r8r rfl hp rfl (z3z rfl r8r rfl (v6v rfl rfl rfl (y4y rfl ?_ ?_))))<;>intro o<;>try simp at o
 ·have hk := d9s (n := n) hp (by show ¬ same l.done (r7r (nl n (a3h n ls i)) l.proc) < l.done.length; omega)
  refine x7x (hK6 _ _ (exG (x4x rfl (p4p rfl rfl rfl (x1x rfl ?_)))))
  exact ⟨i + 1, ⟨by omega, by omega⟩, [], (Cov.cons' (t := 3) rfl (by rw [c5e, hk.2, Bool.or_false]) (Cov.cons' (t := 4) rfl (by rw [u3u (by omega) (by omega)]; rfl) Cov.nil)), cv, (HE.row rfl (by rw [c9r, hk.1]) HE.nil), hv, rfl⟩
 have hk := d9r (n := n) hp (by show same l.done (r7r (nl n (a3h n ls i)) l.proc) < l.done.length; omega)
 refine exD (x0x 6 rfl rfl ?_)
 refine v0v (j := i) rfl rfl r6r rfl v7v rfl rfl (v2v hp) ?_
 refine p8p rfl v7v rfl hp rfl rfl (x4x rfl ?_)
 refine x9x rfl rfl rfl (a3n true l 0 (keep n (a3h n ls i) l) (by omega) (by omega) (by have := e8f n (a3h n ls i) l; omega) (fun p hp => by have := hb4.2 p hp; omega)) ?_
 refine v0v (j := i) rfl rfl r6r rfl v7v rfl rfl (v2v hp) ?_
 refine q0q (el' := a2s l 0 (keep n (a3h n ls i) l)) rfl rfl v7v rfl rfl rfl hp rfl (a0b rfl) rfl rfl ?_
 refine ⟨by kernel_rfl, exG (x1x rfl (hK6 _ _ (exG (x4x rfl (p4p rfl rfl rfl (x1x rfl ?_))))))⟩
 exact ⟨i + 1, ⟨by omega, by omega⟩, [], (Cov.cons' (t := 3) rfl (by rw [c5e, hk.2, Bool.or_true]) (Cov.cons' (t := 4) rfl (by rw [u3u (by omega) (by omega)]; rfl) Cov.nil)), cv, (HE.row rfl (by rw [c9r, hk.1]) HE.nil), hv, rfl⟩
theorem b1y (c : Bool) (n m : Nd) (hn : wk n) (hm : wk m) (hid : n.id = m.id) (hv : 0 ≤ n.version ∧ n.version ≤ 9998) : Meth Tryz.prog 170 3 [0, 1, 2] [.agg (w5w c n), .agg [pI m.id, .pv (.bool m.up), pI m.inc, pI m.g, .ref 0 0, a1m true m.kept, a0p true m.outs, pI m.led, pI m.version, .ref 1 0, .ref 2 0, pI m.round, pI m.low]] [(0, (0, .row 44 5 ((m.lanes).map (a0f true)))), (1, (0, .row 190 3 ((m.views).map (a5d true)))), (2, (0, .row 3 1 (m.known.map a7n)))] (.agg [pI ({ m with version := a6f n m 3 } : Nd).id, .pv (.bool ({ m with version := a6f n m 3 } : Nd).up), pI ({ m with version := a6f n m 3 } : Nd).inc, pI ({ m with version := a6f n m 3 } : Nd).g, .ref 0 0, a1m true ({ m with version := a6f n m 3 } : Nd).kept, a0p true ({ m with version := a6f n m 3 } : Nd).outs, pI ({ m with version := a6f n m 3 } : Nd).led, pI ({ m with version := a6f n m 3 } : Nd).version, .ref 1 0, .ref 2 0, pI ({ m with version := a6f n m 3 } : Nd).round, pI ({ m with version := a6f n m 3 } : Nd).low]) [] := by
 refine mX Tryz.f170 [.agg [pI ({ m with version := a6f n m 3 } : Nd).id, .pv (.bool ({ m with version := a6f n m 3 } : Nd).up), pI ({ m with version := a6f n m 3 } : Nd).inc, pI ({ m with version := a6f n m 3 } : Nd).g, .ref 0 0, a1m true ({ m with version := a6f n m 3 } : Nd).kept, a0p true ({ m with version := a6f n m 3 } : Nd).outs, pI ({ m with version := a6f n m 3 } : Nd).led, pI ({ m with version := a6f n m 3 } : Nd).version, .ref 1 0, .ref 2 0, pI ({ m with version := a6f n m 3 } : Nd).round, pI ({ m with version := a6f n m 3 } : Nd).low]] 3 3 fun γ => ?_
 refine exR (u0u (id := 3) rfl rfl rfl (u0u (id := 4) rfl rfl rfl (y7y (id := 5) y5y s8s rfl (x2x fun K1 hK1 => ?_))))
 refine exR (x1x rfl (y0y ?_))
 refine z2z (ι := Nat) (fun k γ1 => [(5, pI (k : Int))]) (fun k γ1 => [(4, ((0 + 1), .box 65 [pI m.id, .pv (.bool m.up), pI m.inc, pI m.g, .ref 0 (γ 0), a1m true m.kept, a0p true m.outs, pI m.led, pI (a6f n m k), .ref 1 (γ 1), .ref 2 (γ 2), pI m.round, pI m.low]))]) (fun k => k ≤ 3) (fun k => 3 - k) (cK [2, 3, 4] rfl) (hK [0, 1, 2, 3, 5] rfl) 0 (by omega) [] cv (HE.box rfl (by rfl) HE.nil) rfl fun k γ1 hi => ?_
 refine x2x fun K2 hK2 => ?_
 refine exA 2 rfl rfl (y4y rfl ?_ ?_)<;>intro o<;>try simp at o
 ·obtain rfl : k = 3 := by omega
  refine z5z (hK1 _ _ (exR (x5x rfl y5y rfl rfl rfl (x3x rfl rfl y5y rfl rfl rfl rfl (x6x ?_)))))
  exact ⟨.inr rfl, [γ 0, γ 1, γ 2], rfl, rfl, HE.same (id := 0) rfl (y6y 1 rfl (y6y 2 rfl HE.nil))⟩
 refine x7x (hK2 _ _ (x2x fun K4 hK4 => ?_))
 refine y0y (exD (x0x 5 rfl rfl (z8z rfl rfl ?_ ?_)))<;>intro hg5<;>try simp at hg5
 ·have hs : (k : Int) = m.id ∨ a3u n (k : Int) = a3u m (k : Int) := .inl hg5
  refine x0x 8 rfl rfl ⟨by kernel_rfl, x8x rfl (fun hc7 => ?_) (fun hc7 => ?_)⟩
  ·simp at hc7
  try simp at hc7
  refine x7x (hK4 _ _ (exG (x4x rfl (p4p rfl rfl rfl (x1x rfl ?_)))))
  exact ⟨k + 1, ⟨by omega, by omega⟩, [], (Cov.cons' (t := 5) rfl (by rw [u3u (by omega) (by omega)]; rfl) Cov.nil), (y2y 2 rfl (y2y 3 rfl (y2y 4 rfl Cov.nil))), (HE.box rfl (by rw [d9v hid hs]) HE.nil), (y6y 0 rfl (y6y 1 rfl (y6y 2 rfl (y6y 3 rfl (y6y 5 rfl HE.nil))))), rfl⟩
 have hi0 : ¬ (k : Int) = m.id := hg5
 refine x0x 2 rfl rfl (z1z rfl rfl ?_)
 refine x9x rfl rfl rfl (a8o c n k (by omega) hn.2.2.2.1 (by have := d1r hn; omega) (by have := hn.1; omega)) ?_
 refine x0x 2 rfl rfl (z1z rfl rfl ?_)
 refine b5h rfl rfl rfl (d1t (n := ({ m with version := a6f n m k } : Nd)) rfl rfl rfl (.cl rfl .nil)) (a8o false ({ m with version := a6f n m k } : Nd) k (by omega) hm.2.2.2.1 (by have := d1r hm; show (a1l m).length ≤ 5000000; omega) (by have := hm.1; show m.lanes.length ≤ 1048576; omega)) (b0l _) ?_
 refine z1z rfl rfl (x9x rfl rfl rfl (c4f true true (a3u n (k : Int)) (a3u m (k : Int))) ?_)
 refine x0x 2 rfl rfl ⟨by kernel_rfl, y4y rfl ?_ ?_⟩<;>intro hc6<;>try simp at hc6
 ·have hs : (k : Int) = m.id ∨ a3u n (k : Int) = a3u m (k : Int) := .inr hc6
  refine x7x (hK4 _ _ (exG (x4x rfl (p4p rfl rfl rfl (x1x rfl ?_)))))
  exact ⟨k + 1, ⟨by omega, by omega⟩, [], (Cov.cons' (t := 5) rfl (by rw [u3u (by omega) (by omega)]; rfl) Cov.nil), (y2y 2 rfl (y2y 3 rfl (y2y 4 rfl Cov.nil))), (HE.box rfl (by rw [d9v hid hs]) HE.nil), (y6y 0 rfl (y6y 1 rfl (y6y 2 rfl (y6y 3 rfl (y6y 5 rfl HE.nil))))), rfl⟩
 have hd : ¬ a3u n (k : Int) = a3u m (k : Int) := hc6
 refine exG (x0x 2 rfl rfl (a2l (.int .i64 (n.version + 1)) rfl rfl rfl (b2l rfl rfl (by omega) (by omega)) ?_))
 refine y1y rfl y5y rfl rfl q2q rfl rfl (z0z rfl rfl q2q rfl rfl rfl rfl rfl (by simp only [a1k]; rfl) ?_)
 refine hK4 _ _ (exG (x4x rfl (p4p rfl rfl rfl (x1x rfl ?_))))
 exact ⟨k + 1, ⟨by omega, by omega⟩, [], (Cov.cons' (t := 5) rfl (by rw [u3u (by omega) (by omega)]; rfl) Cov.nil), (y2y 2 rfl (y2y 3 rfl (y2y 4 rfl Cov.nil))), (HE.box rfl (by (rw [e8j hid hi0 hd] <;> rfl)) HE.nil), (y6y 0 rfl (y6y 1 rfl (y6y 2 rfl (y6y 3 rfl (y6y 5 rfl HE.nil))))), rfl⟩
end
section
theorem c2y (apps : List Ap) (n : Nd) (q : Int) (hn : ndI n) (hA : a7e apps) : MethE Tryz.prog 321 0 [a6g true apps, .agg (w5w true n), .pv (.int .i64 q)] [] (ι := Nd × Bool) (fun S' => ndI S'.1) (fun S' => []) (fun S' => .tup [.agg (w5w true S'.1), .pv (.bool (S'.2))]) (fun S' => []) := by
 refine mE (ι := Nd × Bool) Tryz.f321 (fun S' => [.agg (w5w true S'.1), .pv (.bool (S'.2))]) 0 10 fun γ => ?_
 have fK := hn.1
 have fS := fK.1
 have fB := q3q fS
 have fb := b8m fS
 have hb : ∀ a ∈ apps, ∀ r ∈ a.rules, r.ops.length ≤ 1048576 := fun a ha r hr => by obtain ⟨i, hi⟩ := List.getElem?_of_mem hr; have := ((hA.2 a ha).2 i r hi).2.1.2.1; omega
 refine exR (u0u (id := 0) rfl rfl rfl (y7y (id := 1) y5y s8s rfl (x1x rfl (x2x fun K1 hK1 => ?_))))
 refine exR (x5x rfl y5y rfl rfl rfl (x9x rfl rfl rfl (q9q true n) (a1w rfl (x8x rfl ?_ ?_))))<;>intro hc2<;>try simp at hc2
 ·exact absurd fK (a0v (by simpa using hc2))
 refine x7x (hK1 _ _ (a0q fun B X0 w0 => ?_))
 refine txR 2 rfl rfl (x0x 2 rfl rfl ?_)
 refine txM [] [] (c4e n q (by omega)) rfl rfl rfl rfl fun j hj => ?_
 refine txR 1 rfl rfl (x1x rfl (v8v rfl (x2x fun K3 hK3 => ?_)))
 refine exD (x0x 4 rfl rfl (z8z rfl rfl ?_ ?_))<;>intro o<;>try simp at o
 ·refine x0x 13 rfl rfl ⟨by kernel_rfl, x8x rfl (fun hc14 => ?_) (fun hc14 => ?_)⟩
  rotate_left
  ·simp at hc14
  try simp at hc14
  refine exR (x5x rfl y5y rfl rfl rfl ?_)
  refine rlM [7, 8, 9] [_, _, _] (z7z true n fb) rfl rfl rfl ?_
  refine x3x rfl rfl y5y rfl rfl rfl rfl (x1x rfl ?_)
  (refine p9p (b := b9i true n.lanes) 1 4 rfl rfl rfl (.ref rfl (Le.ow_map _ (fun _ => rfl) (fun _ => rfl)) .nil) rfl rfl rfl rfl ?_; refine p9p (b := c3l true n.views) 1 9 rfl rfl rfl (.ref rfl (Le.ow_map _ (fun _ => rfl) (fun _ => rfl)) .nil) rfl rfl rfl rfl ?_; refine p9p (b := a6k true n.known) 1 10 rfl rfl rfl (.ref rfl (Le.ow_map _ (fun _ => rfl) (fun _ => rfl)) .nil) rfl rfl rfl rfl ?_)
  refine x6x ?_
  exact ⟨.inr rfl, (n, false), hn, [], rfl, rfl, hv⟩
 refine x4x rfl (z1z rfl rfl (x9x rfl rfl rfl (a9e true apps hb) (x0x 3 rfl rfl (z8z rfl rfl ?_ ?_))))<;>intro o<;>try simp at o
 ·refine x0x 8 rfl rfl ⟨by kernel_rfl, x8x rfl (fun hc13 => ?_) (fun hc13 => ?_)⟩
  rotate_left
  ·simp at hc13
  try simp at hc13
  refine exR (x5x rfl y5y rfl rfl rfl ?_)
  refine rlM [7, 8, 9] [_, _, _] (z7z true n fb) rfl rfl rfl ?_
  refine x3x rfl rfl y5y rfl rfl rfl rfl (x1x rfl ?_)
  (refine p9p (b := b9i true n.lanes) 1 4 rfl rfl rfl (.ref rfl (Le.ow_map _ (fun _ => rfl) (fun _ => rfl)) .nil) rfl rfl rfl rfl ?_; refine p9p (b := c3l true n.views) 1 9 rfl rfl rfl (.ref rfl (Le.ow_map _ (fun _ => rfl) (fun _ => rfl)) .nil) rfl rfl rfl rfl ?_; refine p9p (b := a6k true n.known) 1 10 rfl rfl rfl (.ref rfl (Le.ow_map _ (fun _ => rfl) (fun _ => rfl)) .nil) rfl rfl rfl rfl ?_)
  refine x6x ?_
  exact ⟨.inr rfl, (n, false), hn, [], rfl, rfl, hv⟩
 refine x0x 4 rfl rfl (z8z rfl rfl ?_ ?_)<;>intro o<;>try simp at o
 ·refine x0x 4 rfl rfl ⟨by kernel_rfl, x8x rfl (fun hc12 => ?_) (fun hc12 => ?_)⟩
  rotate_left
  ·simp at hc12
  try simp at hc12
  refine exR (x5x rfl y5y rfl rfl rfl ?_)
  refine rlM [7, 8, 9] [_, _, _] (z7z true n fb) rfl rfl rfl ?_
  refine x3x rfl rfl y5y rfl rfl rfl rfl (x1x rfl ?_)
  (refine p9p (b := b9i true n.lanes) 1 4 rfl rfl rfl (.ref rfl (Le.ow_map _ (fun _ => rfl) (fun _ => rfl)) .nil) rfl rfl rfl rfl ?_; refine p9p (b := c3l true n.views) 1 9 rfl rfl rfl (.ref rfl (Le.ow_map _ (fun _ => rfl) (fun _ => rfl)) .nil) rfl rfl rfl rfl ?_; refine p9p (b := a6k true n.known) 1 10 rfl rfl rfl (.ref rfl (Le.ow_map _ (fun _ => rfl) (fun _ => rfl)) .nil) rfl rfl rfl rfl ?_)
  refine x6x ?_
  exact ⟨.inr rfl, (n, false), hn, [], rfl, rfl, hv⟩
 refine x0x 2 rfl rfl (z1z rfl rfl (x9x rfl rfl rfl (w0w ..) (x0x 2 rfl rfl ⟨by kernel_rfl, x8x rfl ?_ ?_⟩)))<;>intro o<;>try simp at o
 ·refine exR (x5x rfl y5y rfl rfl rfl ?_)
  refine rlM [7, 8, 9] [_, _, _] (z7z true n fb) rfl rfl rfl ?_
  refine x3x rfl rfl y5y rfl rfl rfl rfl (x1x rfl ?_)
  (refine p9p (b := b9i true n.lanes) 1 4 rfl rfl rfl (.ref rfl (Le.ow_map _ (fun _ => rfl) (fun _ => rfl)) .nil) rfl rfl rfl rfl ?_; refine p9p (b := c3l true n.views) 1 9 rfl rfl rfl (.ref rfl (Le.ow_map _ (fun _ => rfl) (fun _ => rfl)) .nil) rfl rfl rfl rfl ?_; refine p9p (b := a6k true n.known) 1 10 rfl rfl rfl (.ref rfl (Le.ow_map _ (fun _ => rfl) (fun _ => rfl)) .nil) rfl rfl rfl rfl ?_)
  refine x6x ?_
  exact ⟨.inr rfl, (n, false), hn, [], rfl, rfl, hv⟩
 have hv9 : n.version < 9999 := by omega
 obtain ⟨i, l, hji, hl, hlp⟩ := hj.resolve_left (by omega)
 subst hji
 have hln := a8k fK hl
 have hp3 := (d0a hln.2.1).1
 obtain ⟨qn, rfl⟩ : ∃ qn : Nat, q = (qn : Int) := ⟨q.toNat, by omega⟩
 have hA4 := hA.1
 obtain ⟨a, ha⟩ := gE apps qn
 have hap := hA.2 a (List.mem_of_getElem? ha)
 have hv0 := fS.1.2.2.2.2.1.1
 refine x7x (hK3 _ _ (d1v 12 (b4m r4r 0 12 rfl rfl ?_)))
 refine x0x 2 rfl rfl (y8y rfl rfl b2j rfl a2b rfl ha ?_)
 refine w3w (out := .agg (b9r true a)) rfl a2b rfl ?_
 refine x0x 3 rfl rfl (y8y rfl rfl r6r rfl v7v rfl hl ?_)
 refine w3w (out := .agg (a0f true l)) rfl v7v rfl ?_
 refine x0x 2 rfl rfl (x9x rfl rfl rfl (a4v true n (qn : Int) (a8d fS) (by omega) fS.2.2.2.2.2.1) ?_)
 refine b4m r4r 16 1 rfl rfl ?_
 refine y7y (id := 2) v7v a8t rfl (b5t c3q (by rfl) [] [] (c2x a l (r7r n (qn : Int)) hap hln.2.1) rfl rfl rfl rfl (by decide) rfl rfl (by repeat (exact InH.nil)) (fun _ => (by (simp only [pI, a3s, a3v, b9z, gl, nx, a7y, Nat.beq]; rfl))) (fun _ => (by (simp only [pI, a3s, a3v, b9z, gl, nx, a7y, Nat.beq]; rfl))) (l, false) (by intro h; simp at h) fun r hr => ?_)
 refine b4n r4r 13 3 rfl rfl ?_
 refine x0x 3 rfl rfl (b4n r4r 17 2 rfl rfl ?_)
 refine x3x rfl rfl v7v rfl rfl rfl rfl (x1x rfl (c2h (by kernel_rfl) ?_))
 refine x2x fun K8 hK8 => ?_
 refine exA 2 rfl rfl (x8x rfl ?_ ?_)<;>intro hc9<;>try simp at hc9
 ·refine exR (x5x rfl y5y rfl rfl rfl ?_)
  refine rlM [7, 8, 9] [_, _, _] (z7z true n fb) rfl rfl rfl ?_
  refine x3x rfl rfl y5y rfl rfl rfl rfl (x1x rfl ?_)
  (refine p9p (b := b9i true n.lanes) 1 4 rfl rfl rfl (.ref rfl (Le.ow_map _ (fun _ => rfl) (fun _ => rfl)) .nil) rfl rfl rfl rfl ?_; refine p9p (b := c3l true n.views) 1 9 rfl rfl rfl (.ref rfl (Le.ow_map _ (fun _ => rfl) (fun _ => rfl)) .nil) rfl rfl rfl rfl ?_; refine p9p (b := a6k true n.known) 1 10 rfl rfl rfl (.ref rfl (Le.ow_map _ (fun _ => rfl) (fun _ => rfl)) .nil) rfl rfl rfl rfl ?_)
  refine x6x ?_
  exact ⟨.inr rfl, (n, false), hn, [], rfl, rfl, hv⟩
 obtain ⟨p, hp1, hroom, hpb⟩ := hr hc9
 rw [hp1]
 have hwM := e4y (e3x fS) hl hroom hpb
 have hoM := e1o hn.2 hl hpb
 have hwA : wk (nl (nl n (n.lanes.set i (a3c l p))) (a0g (nl n (n.lanes.set i (a3c l p))) (nl n (n.lanes.set i (a3c l p))).lanes)) := c7a _ (Nat.le_refl _) hwM
 refine x7x (hK8 _ _ (exR (x5x rfl y5y rfl rfl rfl ?_)))
 refine rlM [4, 5, 6] [_, _, _] (z7z true n fb) rfl rfl rfl ?_
 refine y7y (id := 3) y5y s8s rfl (x3x rfl rfl y5y rfl rfl rfl rfl (exA 4 rfl rfl ?_))
 refine v0v (j := i) rfl rfl r6r rfl v7v rfl rfl (v2v hl) ?_
 refine q0q (el' := a3c l p) rfl rfl v7v rfl rfl rfl hl rfl (a0b rfl) rfl rfl ?_
 refine exD (x0x 2 rfl rfl ?_)
 refine rlM [4, 5, 6] [_, _, _] (b3m (nl n (n.lanes.set i (a3c l p))) hwM) rfl rfl rfl ?_
 refine rlM [4, 5, 6] [_, _, _] (b1y true n (nl (nl n (n.lanes.set i (a3c l p))) (a0g (nl n (n.lanes.set i (a3c l p))) (nl n (n.lanes.set i (a3c l p))).lanes)) (e3x fS) hwA rfl ⟨hv0, by omega⟩) rfl rfl rfl ?_
 refine x3x rfl rfl y5y rfl rfl rfl rfl ⟨by kernel_rfl, x2x fun K10 hK10 => ?_⟩
 refine p9p (b := b9i true (a9k n (nl n (n.lanes.set i (a3c l p)))).lanes) 3 4 rfl rfl rfl (.ref rfl (Le.ow_map _ (fun _ => rfl) (fun _ => rfl)) .nil) rfl rfl rfl rfl ?_
 refine p9p (b := c3l true (a9k n (nl n (n.lanes.set i (a3c l p)))).views) 3 9 rfl rfl rfl (.ref rfl (Le.ow_map _ (fun _ => rfl) (fun _ => rfl)) .nil) rfl rfl rfl rfl ?_
 refine p9p (b := a6k true (a9k n (nl n (n.lanes.set i (a3c l p)))).known) 3 10 rfl rfl rfl (.ref rfl (Le.ow_map _ (fun _ => rfl) (fun _ => rfl)) .nil) rfl rfl rfl rfl ?_
 refine exR (x5x rfl y5y rfl rfl rfl (x9x rfl rfl rfl (q9q true (a9k n (nl n (n.lanes.set i (a3c l p))))) ?_))
 refine a1w rfl (x8x rfl ?_ ?_)<;>intro hc11<;>try simp at hc11
 ·refine exR (x5x rfl y5y rfl rfl rfl ?_)
  refine rlM [7, 8, 9] [_, _, _] (z7z true n fb) rfl rfl rfl ?_
  refine x3x rfl rfl y5y rfl rfl rfl rfl (x1x rfl ?_)
  (refine p9p (b := b9i true n.lanes) 1 4 rfl rfl rfl (.ref rfl (Le.ow_map _ (fun _ => rfl) (fun _ => rfl)) .nil) rfl rfl rfl rfl ?_; refine p9p (b := c3l true n.views) 1 9 rfl rfl rfl (.ref rfl (Le.ow_map _ (fun _ => rfl) (fun _ => rfl)) .nil) rfl rfl rfl rfl ?_; refine p9p (b := a6k true n.known) 1 10 rfl rfl rfl (.ref rfl (Le.ow_map _ (fun _ => rfl) (fun _ => rfl)) .nil) rfl rfl rfl rfl ?_)
  refine x6x ?_
  exact ⟨.inr rfl, (n, false), hn, [], rfl, rfl, hv⟩
 have fK2 : u1u (a9k n (nl n (n.lanes.set i (a3c l p)))) := a1x.1 (by simpa using hc11)
 have fb2 := b8m fK2.1
 refine x7x (hK10 _ _ (exR (x5x rfl y5y rfl rfl rfl ?_)))
 refine rlM [7, 8, 9] [_, _, _] (z7z true (a9k n (nl n (n.lanes.set i (a3c l p)))) fb2) rfl rfl rfl ?_
 refine x3x rfl rfl y5y rfl rfl rfl rfl (x1x rfl ?_)
 (refine p9p (b := b9i true (a9k n (nl n (n.lanes.set i (a3c l p)))).lanes) 1 4 rfl rfl rfl (.ref rfl (Le.ow_map _ (fun _ => rfl) (fun _ => rfl)) .nil) rfl rfl rfl rfl ?_; refine p9p (b := c3l true (a9k n (nl n (n.lanes.set i (a3c l p)))).views) 1 9 rfl rfl rfl (.ref rfl (Le.ow_map _ (fun _ => rfl) (fun _ => rfl)) .nil) rfl rfl rfl rfl ?_; refine p9p (b := a6k true (a9k n (nl n (n.lanes.set i (a3c l p)))).known) 1 10 rfl rfl rfl (.ref rfl (Le.ow_map _ (fun _ => rfl) (fun _ => rfl)) .nil) rfl rfl rfl rfl ?_)
 refine x6x ?_
 exact ⟨.inr rfl, ((a9k n (nl n (n.lanes.set i (a3c l p)))), true), ⟨fK2, c5i hoM⟩, [], rfl, rfl, hv⟩
end
section
theorem b4v (c : Bool) (l : List Int) : a1p Tryz.prog 259 [a6k c l] (.pv (.bool (decide (c4b l)))) := by
 refine pX Tryz.f259 [.pv (.bool (decide (c4b l)))] 0 ?_
 refine r1r 0 rfl fun hlen => ?_
 refine exR (x1x rfl (x2x fun K1 hK1 => ?_))
 refine exR (x4x rfl (z3z rfl q1q rfl (x0x 2 rfl rfl (z8z rfl rfl ?_ ?_))))<;>intro o<;>try simp at o
 ·refine x0x 3 rfl rfl (x8x rfl (fun hc9 => ?_) (fun hc9 => ?_))
  ·simp at hc9
  try simp at hc9
  have hL : l.length = 0 ∨ l.length = 3 := by (simp_all; done)
  refine x7x (hK1 _ _ (x2x fun K10 hK10 => ?_))
  refine exR (x1x rfl (y0y ?_))
  refine z2z (ι := Nat) (fun i γ2 => [(3, pI (i : Int))]) (fun i γ2 => []) (fun i => i ≤ l.length ∧ c7t l (fun _ v => 0 ≤ v ∧ v ≤ 9999) i) (fun i => l.length - i) (y2y 0 rfl Cov.nil) HE.nil 0 ⟨by omega, a2j⟩ [] cv hv rfl fun i γ2 hi => ?_
  obtain ⟨h1, h2⟩ := hi
  refine x2x fun K11 hK11 => ?_
  refine exA 2 rfl rfl (z3z rfl q1q rfl (v6v rfl rfl rfl (y4y rfl ?_ ?_)))<;>intro o<;>try simp at o
  ·have hall := a3t h2 (by omega)
   refine z5z (hK10 _ _ (exR (x1x rfl (x6x ⟨.inr rfl, ?_⟩))))
   refine y9y rfl ?_ rfl
   exact kT ⟨hL, fun v hv => by obtain ⟨i, hi⟩ := List.getElem?_of_mem hv; exact hall i v hi⟩
  obtain ⟨v, hv⟩ := gE l i
  refine x7x (hK11 _ _ (x2x fun K13 hK13 => ?_))
  refine y0y (exD (x0x 2 rfl rfl (y8y rfl rfl q1q rfl q2q rfl hv (w3w rfl q2q rfl (x9x rfl rfl rfl (w0w ..) (x9x rfl rfl rfl (u7u ..) (a1w rfl ⟨by kernel_rfl, y4y rfl ?_ ?_⟩)))))))<;>intro o<;>try simp at o
  ·have hb : 0 ≤ v ∧ v ≤ 9999 := by omega
   refine x7x ?_
   refine hK13 _ _ ?_
   refine exG ?_
   refine x4x rfl ?_
   refine z4z (b := 1) rfl rfl (by omega) ?_
   refine x1x rfl ?_
   exact ⟨i + 1, ⟨⟨by omega, a0l h2 hv hb⟩, by omega⟩, [], (y2y 3 rfl Cov.nil), (y2y 0 rfl Cov.nil), HE.nil, HE.nil, rfl⟩
  have hX2 : ¬ (0 ≤ v ∧ v ≤ 9999) := by omega
  refine exR (x1x rfl (x6x ⟨.inr rfl, ?_⟩))
  refine y9y rfl ?_ rfl
  exact kF (fun h => hX2 (h.2 v (List.mem_of_getElem? hv)))
 refine x4x rfl (z1z rfl rfl (z3z rfl q1q rfl (x0x 2 rfl rfl (x8x rfl ?_ ?_))))<;>intro o<;>try simp at o
 ·have hX : ¬ (l.length = 0 ∨ l.length = 3) := by (rintro (h | h); exact absurd (List.length_eq_zero_iff.1 h) ‹_›; omega)
  refine exR (x1x rfl (x6x ⟨.inr rfl, ?_⟩))
  refine y9y rfl ?_ rfl
  exact kF (fun h => hX h.1)
 have hL : l.length = 0 ∨ l.length = 3 := by omega
 refine x7x (hK1 _ _ (x2x fun K4 hK4 => ?_))
 refine exR (x1x rfl (y0y ?_))
 refine z2z (ι := Nat) (fun i γ1 => [(3, pI (i : Int))]) (fun i γ1 => []) (fun i => i ≤ l.length ∧ c7t l (fun _ v => 0 ≤ v ∧ v ≤ 9999) i) (fun i => l.length - i) (y2y 0 rfl Cov.nil) HE.nil 0 ⟨by omega, a2j⟩ [] cv hv rfl fun i γ1 hi => ?_
 obtain ⟨h1, h2⟩ := hi
 refine x2x fun K5 hK5 => ?_
 refine exA 2 rfl rfl (z3z rfl q1q rfl (v6v rfl rfl rfl (y4y rfl ?_ ?_)))<;>intro o<;>try simp at o
 ·have hall := a3t h2 (by omega)
  refine z5z (hK4 _ _ (exR (x1x rfl (x6x ⟨.inr rfl, ?_⟩))))
  refine y9y rfl ?_ rfl
  exact kT ⟨hL, fun v hv => by obtain ⟨i, hi⟩ := List.getElem?_of_mem hv; exact hall i v hi⟩
 obtain ⟨v, hv⟩ := gE l i
 refine x7x (hK5 _ _ (x2x fun K7 hK7 => ?_))
 refine y0y (exD (x0x 2 rfl rfl (y8y rfl rfl q1q rfl q2q rfl hv (w3w rfl q2q rfl (x9x rfl rfl rfl (w0w ..) (x9x rfl rfl rfl (u7u ..) (a1w rfl ⟨by kernel_rfl, y4y rfl ?_ ?_⟩)))))))<;>intro o<;>try simp at o
 ·have hb : 0 ≤ v ∧ v ≤ 9999 := by omega
  refine x7x ?_
  refine hK7 _ _ ?_
  refine exG ?_
  refine x4x rfl ?_
  refine z4z (b := 1) rfl rfl (by omega) ?_
  refine x1x rfl ?_
  exact ⟨i + 1, ⟨⟨by omega, a0l h2 hv hb⟩, by omega⟩, [], (y2y 3 rfl Cov.nil), (y2y 0 rfl Cov.nil), HE.nil, HE.nil, rfl⟩
 have hX2 : ¬ (0 ≤ v ∧ v ≤ 9999) := by omega
 refine exR (x1x rfl (x6x ⟨.inr rfl, ?_⟩))
 refine y9y rfl ?_ rfl
 exact kF (fun h => hX2 (h.2 v (List.mem_of_getElem? hv)))
theorem b1l (c : Bool) (w : Wo) : a1p Tryz.prog 182 [.agg (p5p c w)] (.pv (.bool (decide (a4l w)))) := by
 refine pX Tryz.f182 [.pv (.bool (decide (a4l w)))] 1 ?_
 refine exR (u0u (id := 0) rfl rfl rfl (x1x rfl (exD (x0x 2 rfl rfl (x9x rfl rfl rfl (u7u ..) (x4x rfl (z8z rfl rfl ?_ ?_)))))))<;>intro o<;>try simp at o
 ·have hX : ¬ a5z w := by unfold a5z; omega
  refine x0x 53 rfl rfl ⟨by kernel_rfl, x6x ⟨.inr rfl, ?_⟩⟩
  refine y9y rfl ?_ rfl
  exact kF (fun h => hX h.1)
 refine x0x 2 rfl rfl (z1z rfl rfl (x9x rfl rfl rfl (u7u ..) (x0x 2 rfl rfl (z8z rfl rfl ?_ ?_))))<;>intro o<;>try simp at o
 ·have hX : ¬ a5z w := by unfold a5z; omega
  refine x0x 48 rfl rfl ⟨by kernel_rfl, x6x ⟨.inr rfl, ?_⟩⟩
  refine y9y rfl ?_ rfl
  exact kF (fun h => hX h.1)
 refine x0x 2 rfl rfl (z1z rfl rfl (x9x rfl rfl rfl (u7u ..) (x0x 2 rfl rfl (z8z rfl rfl ?_ ?_))))<;>intro o<;>try simp at o
 ·have hX : ¬ a5z w := by unfold a5z; omega
  refine x0x 43 rfl rfl ⟨by kernel_rfl, x6x ⟨.inr rfl, ?_⟩⟩
  refine y9y rfl ?_ rfl
  exact kF (fun h => hX h.1)
 refine x0x 2 rfl rfl (z1z rfl rfl (x9x rfl rfl rfl (w0w ..) (z1z rfl rfl (x9x rfl rfl rfl (u7u ..) (x0x 2 rfl rfl (z8z rfl rfl ?_ ?_))))))<;>intro o<;>try simp at o
 ·have hX : ¬ a5z w := by unfold a5z; omega
  refine x0x 37 rfl rfl ⟨by kernel_rfl, x6x ⟨.inr rfl, ?_⟩⟩
  refine y9y rfl ?_ rfl
  exact kF (fun h => hX h.1)
 refine x0x 2 rfl rfl (z1z rfl rfl (x9x rfl rfl rfl (w0w ..) (z1z rfl rfl (x9x rfl rfl rfl (u7u ..) (x0x 2 rfl rfl (z8z rfl rfl ?_ ?_))))))<;>intro o<;>try simp at o
 ·have hX : ¬ a5z w := by unfold a5z; omega
  refine x0x 31 rfl rfl ⟨by kernel_rfl, x6x ⟨.inr rfl, ?_⟩⟩
  refine y9y rfl ?_ rfl
  exact kF (fun h => hX h.1)
 refine x0x 2 rfl rfl (z1z rfl rfl (x9x rfl rfl rfl (w0w ..) (z1z rfl rfl (x9x rfl rfl rfl (u7u ..) (x0x 2 rfl rfl (z8z rfl rfl ?_ ?_))))))<;>intro o<;>try simp at o
 ·have hX : ¬ a5z w := by unfold a5z; omega
  refine x0x 25 rfl rfl ⟨by kernel_rfl, x6x ⟨.inr rfl, ?_⟩⟩
  refine y9y rfl ?_ rfl
  exact kF (fun h => hX h.1)
 refine x0x 2 rfl rfl (z1z rfl rfl (x9x rfl rfl rfl (u7u ..) (x0x 2 rfl rfl (z8z rfl rfl ?_ ?_))))<;>intro o<;>try simp at o
 ·have hX : ¬ a5z w := by unfold a5z; omega
  refine x0x 20 rfl rfl ⟨by kernel_rfl, x6x ⟨.inr rfl, ?_⟩⟩
  refine y9y rfl ?_ rfl
  exact kF (fun h => hX h.1)
 have hN : a5z w := by unfold a5z; omega
 refine x0x 2 rfl rfl (z1z rfl rfl (x9x rfl rfl rfl (b4v ..) (x0x 2 rfl rfl (z8z rfl rfl ?_ ?_))))<;>intro hg8<;>try simp at hg8
 ·have hX1 : ¬ c4b w.incs := hg8
  refine x0x 15 rfl rfl ⟨by kernel_rfl, x6x ⟨.inr rfl, ?_⟩⟩
  refine y9y rfl ?_ rfl
  exact kF (fun h => hX1 h.2.1)
 have hI : c4b w.incs := hg8
 refine x0x 2 rfl rfl (z1z rfl rfl (x9x rfl rfl rfl (b4v ..) (x0x 2 rfl rfl (z8z rfl rfl ?_ ?_))))<;>intro hg9<;>try simp at hg9
 ·have hX2 : ¬ c4b w.versions := hg9
  refine x0x 10 rfl rfl ⟨by kernel_rfl, x6x ⟨.inr rfl, ?_⟩⟩
  refine y9y rfl ?_ rfl
  exact kF (fun h => hX2 h.2.2.1)
 have hV : c4b w.versions := hg9
 refine x0x 2 rfl rfl (z1z rfl rfl (x9x rfl rfl rfl (a4i ..) (z1z rfl rfl (x9x rfl rfl rfl (a4d ..) (x0x 2 rfl rfl (z8z rfl rfl ?_ ?_))))))<;>intro hg10<;>try simp at hg10
 ·have hX3 : ¬ a7r okE a3e w.events 100 = true := by simpa using hg10
  refine x0x 4 rfl rfl ⟨by kernel_rfl, x6x ⟨.inr rfl, ?_⟩⟩
  refine y9y rfl ?_ rfl
  exact kF (fun h => hX3 h.2.2.2.1)
 have hE : a7r okE a3e w.events 100 = true := hg10
 refine x0x 2 rfl rfl (z1z rfl rfl (x9x rfl rfl rfl (a7v ..) (x0x 2 rfl rfl ⟨by kernel_rfl, x6x ⟨.inr rfl, ?_⟩⟩)))
 refine y9y rfl ?_ rfl
 exact congrArg (fun b : Bool => [AV.pv (.bool b)]) (Bool.eq_iff_iff.2 ⟨fun h => decide_eq_true ⟨hN, hI, hV, hE, h⟩, fun h => (of_decide_eq_true h).2.2.2.2⟩)
theorem a4x (c : Bool) (w : Wo) (hb : wob w) : a1p Tryz.prog 331 [.agg (p5p c w)] (.agg (p5p true w)) := by
 refine pX Tryz.f331 [.agg (p5p true w)] 10 ?_
 obtain ⟨b1, b2, b3, b4⟩ := hb
 refine exR (u0u (id := 0) rfl rfl rfl (y7y (id := 1) v3v a9z rfl (exR (z9z (id := 2) q1q rfl q2q rfl (x0x 2 rfl rfl ?_)))))
 refine a2m r4r (zs := (w.incs).map a7n) rfl rfl q1q rfl q2q rfl rfl rfl (w2w (fun _ => rfl) _) rfl (by (simp only [a1f, a0o, a0x, a0z, a2c, a4b, T3]; omega)) (Le.ow_map _ (fun _ => rfl) (fun _ => rfl)) ?_
 refine y1y rfl v3v rfl rfl q1q rfl rfl (z0z rfl rfl q1q rfl rfl rfl rfl rfl (by simp only [a1k]; rfl) ?_)
 refine exR (z9z (id := 4) q1q rfl q2q rfl (x0x 2 rfl rfl ?_))
 refine a2m r4r (zs := (w.versions).map a7n) rfl rfl q1q rfl q2q rfl rfl rfl (w2w (fun _ => rfl) _) rfl (by (simp only [a1f, a0o, a0x, a0z, a2c, a4b, T3]; omega)) (Le.ow_map _ (fun _ => rfl) (fun _ => rfl)) ?_
 refine y1y rfl v3v rfl rfl q1q rfl rfl (z0z rfl rfl q1q rfl rfl rfl rfl rfl (by simp only [a1k]; rfl) ?_)
 refine exR (z9z (id := 6) u8u rfl z6z rfl (x0x 2 rfl rfl ?_))
 refine a2m r4r (zs := (w.events).map v4v) rfl rfl u8u rfl z6z rfl rfl rfl (w2w (fun _ => rfl) _) rfl (by (simp only [a1f, a0o, a0x, a0z, a2c, a4b, T56]; omega)) (Le.ow_map _ (fun _ => rfl) (fun _ => rfl)) ?_
 refine y1y rfl v3v rfl rfl u8u rfl rfl (z0z rfl rfl u8u rfl rfl rfl rfl rfl (by simp only [a1k]; rfl) ?_)
 refine exR (z9z (id := 8) r3r rfl w7w rfl (x0x 2 rfl rfl ?_))
 refine a2m r4r (zs := (w.outs).map a1b) rfl rfl r3r rfl w7w rfl rfl rfl (w2w (fun _ => rfl) _) rfl (by (simp only [a1f, a0o, a0x, a0z, a2c, a4b, T141]; omega)) (Le.ow_map _ (fun _ => rfl) (fun _ => rfl)) ?_
 refine y1y rfl v3v rfl rfl r3r rfl rfl (z0z rfl rfl r3r rfl rfl rfl rfl rfl (by simp only [a1k]; rfl) ?_)
 refine exR (x5x rfl v3v rfl rfl rfl (x3x rfl rfl v3v rfl rfl rfl rfl (x6x ⟨.inr rfl, ?_⟩)))
 exact a9h rfl rfl rfl rfl
theorem a9q (c : Bool) (l : List Wo) (k : Int) : a1p Tryz.prog 333 [q4q c l, .pv (.int .i64 k)] (.pv (.bool (kb (b2e l k ∧ (k = 3 → ∀ w ∈ l, a8v w))))) := by
 refine pX Tryz.f333 [.pv (.bool (kb (b2e l k ∧ (k = 3 → ∀ w ∈ l, a8v w))))] 0 ?_
 refine r1r 0 rfl fun hlen => ?_
 refine exR (x1x rfl (x2x fun K1 hK1 => ?_))
 refine exR (x1x rfl (y0y ?_))
 refine z2z (ι := Nat) (fun i γ1 => [(5, pI (i : Int))]) (fun i γ1 => []) (fun i => i ≤ l.length ∧ c7t l (fun j w => a4l w ∧ w.kind = k ∧ (∀ p, 0 < j → l[j - 1]? = some p → p.from' < w.from') ∧ (k = 3 → a8v w)) i) (fun i => l.length - i) (cK [0, 1] rfl) HE.nil 0 ⟨by omega, a2j⟩ [] cv hv rfl fun i γ1 hi => ?_
 obtain ⟨h1, h2⟩ := hi
 refine x2x fun K2 hK2 => ?_
 refine exA 2 rfl rfl (z3z rfl v5v rfl (v6v rfl rfl rfl (y4y rfl ?_ ?_)))<;>intro o<;>try simp at o
 ·have hall := a3t h2 (by omega)
  refine z5z (hK1 _ _ (exR (x1x rfl (x6x ⟨.inr rfl, ?_⟩))))
  refine y9y rfl ?_ rfl
  exact congrArg (fun b : Bool => [AV.pv (.bool b)]) (d9a ⟨fun j w hw => ⟨(hall j w hw).1, (hall j w hw).2.1, (hall j w hw).2.2.1⟩, fun e w hw => by obtain ⟨j, hj⟩ := List.getElem?_of_mem hw; exact (hall j w hj).2.2.2 e⟩)
 obtain ⟨w, hw⟩ := gE l i
 refine x7x (hK2 _ _ (x2x fun K4 hK4 => ?_))
 refine y0y (x2x fun K5 hK5 => ?_)
 refine exD (x0x 2 rfl rfl (y8y rfl rfl v5v rfl v3v rfl hw ?_))
 refine w3w (out := .agg (p5p c w)) rfl v3v rfl ?_
 refine x9x rfl rfl rfl (b1l ..) (x0x 2 rfl rfl (z8z rfl rfl ?_ ?_))<;>intro hg6<;>try simp at hg6
 ·have hX : ¬ a4l w := hg6
  refine x0x 25 rfl rfl ⟨by kernel_rfl, x8x rfl (fun hc22 => ?_) (fun hc22 => ?_)⟩
  rotate_left
  ·simp at hc22
  try simp at hc22
  try have hXo : ¬ p.from' < w.from' := by omega
  refine exR (x1x rfl (x6x ⟨.inr rfl, ?_⟩))
  refine y9y rfl ?_ rfl
  exact congrArg (fun b : Bool => [AV.pv (.bool b)]) (a5o (fun h => hX (h.1 i w hw).1))
 have hW : a4l w := hg6
 refine x0x 2 rfl rfl (z1z rfl rfl (y8y rfl rfl v5v rfl v3v rfl hw (x0x 6 rfl rfl (z8z rfl rfl ?_ ?_))))<;>intro hg7<;>try simp at hg7
 ·try have hXk : ¬ w.kind = k := hg7
  refine x0x 16 rfl rfl ⟨by kernel_rfl, x8x rfl (fun hc21 => ?_) (fun hc21 => ?_)⟩
  rotate_left
  ·simp at hc21
  try simp at hc21
  try have hXo : ¬ p.from' < w.from' := by omega
  refine exR (x1x rfl (x6x ⟨.inr rfl, ?_⟩))
  refine y9y rfl ?_ rfl
  exact congrArg (fun b : Bool => [AV.pv (.bool b)]) (a5o (fun h => hXk (h.1 i w hw).2.1))
 have hk : w.kind = k := hg7
 refine x0x 3 rfl rfl (z8z rfl rfl ?_ ?_)<;>intro o<;>try simp at o
 ·have hi0 : i = 0 := by omega
  have hO : ∀ p, 0 < i → l[i - 1]? = some p → p.from' < w.from' := fun p h => by omega
  refine x0x 13 rfl rfl ⟨by kernel_rfl, x8x rfl (fun hc15 => ?_) (fun hc15 => ?_)⟩
  ·simp at hc15
  try simp at hc15
  try have hO : ∀ p, 0 < i → l[i - 1]? = some p → p.from' < w.from' := fun p2 _ h => by rw [hp] at h; cases h; omega
  refine x7x (hK5 _ _ (exA 3 rfl rfl (z8z rfl rfl ?_ ?_)))<;>intro o<;>try simp at o
  ·refine x0x 16 rfl rfl (x8x rfl (fun hc20 => ?_) (fun hc20 => ?_))
   ·simp at hc20
   try simp at hc20
   have hF : k = 3 → a8v w := by intro _; exact ⟨by omega, by omega⟩
   refine x7x (hK4 _ _ (exG (x4x rfl (z4z (b := 1) rfl rfl (by omega) (x1x rfl ?_)))))
   exact ⟨i + 1, ⟨⟨by omega, a0l h2 hw ⟨hW, hk, hO, hF⟩⟩, by omega⟩, [], cv, cv, hv, hv, rfl⟩
  refine x0x 2 rfl rfl (z1z rfl rfl (y8y rfl rfl v5v rfl v3v rfl hw (x0x 2 rfl rfl (z1z rfl rfl (z3z rfl q1q rfl (x0x 2 rfl rfl (z8z rfl rfl ?_ ?_)))))))<;>intro o<;>try simp at o
  ·refine x0x 8 rfl rfl (x8x rfl (fun hc19 => ?_) (fun hc19 => ?_))
   rotate_left
   ·simp at hc19
   try simp at hc19
   have hX5 : ¬ (k = 3 → a8v w) := fun h => by have := h (by omega); unfold a8v at this; omega
   refine exR (x1x rfl (x6x ⟨.inr rfl, ?_⟩))
   refine y9y rfl ?_ rfl
   exact congrArg (fun b : Bool => [AV.pv (.bool b)]) (a5o (fun h => hX5 (fun e => h.2 e w (List.mem_of_getElem? hw))))
  refine x0x 2 rfl rfl (z1z rfl rfl (y8y rfl rfl v5v rfl v3v rfl hw (x0x 2 rfl rfl (z1z rfl rfl (z3z rfl q1q rfl (x0x 3 rfl rfl (y4y rfl ?_ ?_)))))))<;>intro o<;>try simp at o
  ·have hF : k = 3 → a8v w := by intro _; exact ⟨by omega, by omega⟩
   refine x7x (hK4 _ _ (exG (x4x rfl (z4z (b := 1) rfl rfl (by omega) (x1x rfl ?_)))))
   exact ⟨i + 1, ⟨⟨by omega, a0l h2 hw ⟨hW, hk, hO, hF⟩⟩, by omega⟩, [], cv, cv, hv, hv, rfl⟩
  have hX5 : ¬ (k = 3 → a8v w) := fun h => by have := h (by omega); unfold a8v at this; omega
  refine exR (x1x rfl (x6x ⟨.inr rfl, ?_⟩))
  refine y9y rfl ?_ rfl
  exact congrArg (fun b : Bool => [AV.pv (.bool b)]) (a5o (fun h => hX5 (fun e => h.2 e w (List.mem_of_getElem? hw))))
 obtain ⟨p, hp⟩ := gE l (i - 1)
 refine x0x 2 rfl rfl (z1z rfl rfl (a0h (b := 1) rfl rfl (by omega) (by omega) (z1z rfl rfl (y8y rfl rfl v5v rfl v3v rfl hp (x0x 4 rfl rfl (z1z rfl rfl (y8y rfl rfl v5v rfl v3v rfl hw (x0x 5 rfl rfl ⟨by kernel_rfl, x8x rfl ?_ ?_⟩))))))))<;>intro o<;>try simp at o
 ·try have hXo : ¬ p.from' < w.from' := by omega
  refine exR (x1x rfl (x6x ⟨.inr rfl, ?_⟩))
  refine y9y rfl ?_ rfl
  exact congrArg (fun b : Bool => [AV.pv (.bool b)]) (a5o (fun h => hXo ((h.1 i w hw).2.2 p (by omega) hp)))
 try have hO : ∀ p, 0 < i → l[i - 1]? = some p → p.from' < w.from' := fun p2 _ h => by rw [hp] at h; cases h; omega
 refine x7x (hK5 _ _ (exA 3 rfl rfl (z8z rfl rfl ?_ ?_)))<;>intro o<;>try simp at o
 ·refine x0x 16 rfl rfl (x8x rfl (fun hc14 => ?_) (fun hc14 => ?_))
  ·simp at hc14
  try simp at hc14
  have hF : k = 3 → a8v w := by intro _; exact ⟨by omega, by omega⟩
  refine x7x (hK4 _ _ (exG (x4x rfl (z4z (b := 1) rfl rfl (by omega) (x1x rfl ?_)))))
  exact ⟨i + 1, ⟨⟨by omega, a0l h2 hw ⟨hW, hk, hO, hF⟩⟩, by omega⟩, [], cv, cv, hv, hv, rfl⟩
 refine x0x 2 rfl rfl (z1z rfl rfl (y8y rfl rfl v5v rfl v3v rfl hw (x0x 2 rfl rfl (z1z rfl rfl (z3z rfl q1q rfl (x0x 2 rfl rfl (z8z rfl rfl ?_ ?_)))))))<;>intro o<;>try simp at o
 ·refine x0x 8 rfl rfl (x8x rfl (fun hc13 => ?_) (fun hc13 => ?_))
  rotate_left
  ·simp at hc13
  try simp at hc13
  have hX5 : ¬ (k = 3 → a8v w) := fun h => by have := h (by omega); unfold a8v at this; omega
  refine exR (x1x rfl (x6x ⟨.inr rfl, ?_⟩))
  refine y9y rfl ?_ rfl
  exact congrArg (fun b : Bool => [AV.pv (.bool b)]) (a5o (fun h => hX5 (fun e => h.2 e w (List.mem_of_getElem? hw))))
 refine x0x 2 rfl rfl (z1z rfl rfl (y8y rfl rfl v5v rfl v3v rfl hw (x0x 2 rfl rfl (z1z rfl rfl (z3z rfl q1q rfl (x0x 3 rfl rfl (y4y rfl ?_ ?_)))))))<;>intro o<;>try simp at o
 ·have hF : k = 3 → a8v w := by intro _; exact ⟨by omega, by omega⟩
  refine x7x (hK4 _ _ (exG (x4x rfl (z4z (b := 1) rfl rfl (by omega) (x1x rfl ?_)))))
  exact ⟨i + 1, ⟨⟨by omega, a0l h2 hw ⟨hW, hk, hO, hF⟩⟩, by omega⟩, [], cv, cv, hv, hv, rfl⟩
 have hX5 : ¬ (k = 3 → a8v w) := fun h => by have := h (by omega); unfold a8v at this; omega
 refine exR (x1x rfl (x6x ⟨.inr rfl, ?_⟩))
 refine y9y rfl ?_ rfl
 exact congrArg (fun b : Bool => [AV.pv (.bool b)]) (a5o (fun h => hX5 (fun e => h.2 e w (List.mem_of_getElem? hw))))
theorem a9f (c : Bool) (h : Hb) : a1p Tryz.prog 323 [.agg (a8w c h)] (.pv (.bool (kb (a0w h)))) := by
 refine pX Tryz.f323 [.pv (.bool (kb (a0w h)))] 1 ?_
 refine exR (u0u (id := 0) rfl rfl rfl (x1x rfl (exD (x0x 2 rfl rfl (x9x rfl rfl rfl (w0w ..) (x9x rfl rfl rfl (u7u ..) (x4x rfl (z8z rfl rfl ?_ ?_))))))))<;>intro o<;>try simp at o
 ·have hX : ¬ (0 ≤ h.round ∧ h.round ≤ 9999) := by omega
  refine x0x 14 rfl rfl ⟨by kernel_rfl, x6x ⟨.inr rfl, ?_⟩⟩
  refine y9y rfl ?_ rfl
  exact congrArg (fun b : Bool => [AV.pv (.bool b)]) (a5o (fun h => hX h.1))
 have hR : 0 ≤ h.round ∧ h.round ≤ 9999 := by omega
 refine x0x 2 rfl rfl (z1z rfl rfl (x9x rfl rfl rfl (a9q ..) (x0x 2 rfl rfl (z8z rfl rfl ?_ ?_))))<;>intro hg2<;>try simp at hg2
 ·have hX1 : ¬ (b2e h.ones 3 ∧ ((3 : Int) = 3 → ∀ w ∈ h.ones, a8v w)) := a0v (by simpa using hg2)
  refine x0x 9 rfl rfl ⟨by kernel_rfl, x6x ⟨.inr rfl, ?_⟩⟩
  refine y9y rfl ?_ rfl
  exact congrArg (fun b : Bool => [AV.pv (.bool b)]) (a5o (fun h => hX1 ⟨h.2.1, fun _ => h.2.2.2.2⟩))
 have h1 : b2e h.ones 3 ∧ ((3 : Int) = 3 → ∀ w ∈ h.ones, a8v w) := a1x.1 (by simpa using hg2)
 refine x0x 2 rfl rfl (z1z rfl rfl (x9x rfl rfl rfl (a9q ..) (x0x 2 rfl rfl (z8z rfl rfl ?_ ?_))))<;>intro hg3<;>try simp at hg3
 ·have hX2 : ¬ (b2e h.twos 5 ∧ ((5 : Int) = 3 → ∀ w ∈ h.twos, a8v w)) := a0v (by simpa using hg3)
  refine x0x 4 rfl rfl ⟨by kernel_rfl, x6x ⟨.inr rfl, ?_⟩⟩
  refine y9y rfl ?_ rfl
  exact congrArg (fun b : Bool => [AV.pv (.bool b)]) (a5o (fun h => hX2 ⟨h.2.2.1, fun e => by omega⟩))
 have h2 : b2e h.twos 5 ∧ ((5 : Int) = 3 → ∀ w ∈ h.twos, a8v w) := a1x.1 (by simpa using hg3)
 refine x0x 2 rfl rfl (z1z rfl rfl (x9x rfl rfl rfl (a9q ..) (x0x 2 rfl rfl ⟨by kernel_rfl, x6x ⟨.inr rfl, ?_⟩⟩)))
 refine y9y rfl ?_ rfl
 exact congrArg (fun b : Bool => [AV.pv (.bool b)]) (congrArg kb (propext ⟨fun h => ⟨hR, h1.1, h2.1, h.1, h1.2 rfl⟩, fun h => ⟨h.2.2.2.1, fun e => by omega⟩⟩))
end
section
theorem a8p (c : Bool) (l : List Wo) (hb : ∀ w ∈ l, wob w) (hl : l.length ≤ 1000000) : a1p Tryz.prog 334 [q4q c l] (q4q true l) := by
 refine pX Tryz.f334 [q4q true l] 3 ?_
 refine exR (x1x rfl (exR (z9z (id := 0) v5v rfl v3v rfl (x1x rfl (x2x fun K1 hK1 => ?_)))))
 refine exR (x1x rfl (y0y ?_))
 refine z2z (ι := Nat) (fun i γ1 => [(3, .ref 0 (γ1 0)), (4, pI (i : Int))]) (fun i γ1 => [(0, ((γ1 0), .row 79 11 ((l.take i).map (p5p true)))), (1, ((γ1 1), .dead)), (2, ((γ1 2), .dead))]) (fun i => i ≤ l.length) (fun i => l.length - i) (y2y 0 rfl Cov.nil) HE.nil 0 (by omega) [_, _, _] cv (HE.row rfl (by rw [List.take_zero]; rfl) (HE.kill rfl (HE.kill rfl HE.nil))) rfl fun i γ1 hi => ?_
 refine x2x fun K2 hK2 => ?_
 refine exA 2 rfl rfl (z3z rfl v5v rfl (v6v rfl rfl rfl (y4y rfl ?_ ?_)))<;>intro u<;>try simp at u
 ·obtain rfl : i = l.length := by omega
  refine z5z (hK1 _ _ (exA 2 rfl rfl (x6x ⟨.inr rfl, ?_⟩)))
  refine a5b rfl rfl (fun _ => rfl) ?_
  rw [List.take_length]
 obtain ⟨w, hw⟩ := gE l i
 have hwb := hb w (List.mem_of_getElem? hw)
 refine x7x (hK2 _ _ (x2x fun K4 hK4 => ?_))
 refine y0y (exG (x0x 3 rfl rfl (y8y rfl rfl v5v rfl v3v rfl hw ?_)))
 refine w3w (out := .agg (p5p c w)) rfl v3v rfl ?_
 refine x9x rfl rfl rfl (a4x c w hwb) (u4u (id := 1) v5v rfl v3v rfl rfl rfl rfl rfl rfl ?_)
 refine u6u (zs := (l.take i ++ [w]).map (p5p true)) rfl rfl v5v rfl v3v rfl rfl rfl rfl (by rfl) (w4w _ _ _) (by (simp only [a1f, a0o, a0x, a0z, a2c, a4b, T79]; omega)) ?_
 refine x1x rfl (hK4 _ _ (exG (x4x rfl (p4p rfl rfl rfl (x1x rfl ?_)))))
 exact ⟨i + 1, ⟨by omega, by omega⟩, [_, _, _], (y2y 3 rfl (Cov.cons' (t := 4) rfl (by rw [u3u (by omega) (by omega)]; rfl) Cov.nil)), cv, (HE.row rfl (by rw [w1w hw]) (HE.kill rfl (HE.kill rfl HE.nil))), hv, rfl⟩
theorem a3o (c : Bool) (h : Hb) (hk : a0w h) : a1p Tryz.prog 324 [.agg (a8w c h)] (.agg (a8w true h)) := by
 refine pX Tryz.f324 [.agg (a8w true h)] 2 ?_
 have e1 := b5w hk.2.1
 have e2 := b5w hk.2.2.1
 have e3 := b5w hk.2.2.2.1
 refine exR (u0u (id := 0) rfl rfl rfl (y7y (id := 1) q7q b5e rfl (exD (x0x 4 rfl rfl (x9x rfl rfl rfl (a8p c h.ones (d2e hk.2.1) (by omega)) ?_)))))
 refine x0x 2 rfl rfl (x9x rfl rfl rfl (a8p c h.twos (d2e hk.2.2.1) (by omega)) ?_)
 refine x0x 2 rfl rfl (x9x rfl rfl rfl (a8p c h.outs (d2e hk.2.2.2.1) (by omega)) ?_)
 refine rlB q7q b5e ?_
 refine x3x rfl rfl q7q rfl rfl rfl rfl ⟨by kernel_rfl, x6x ⟨.inr rfl, ?_⟩⟩
 exact a9h rfl rfl rfl rfl
theorem a7w (l : List Wo) (w : Wo) (ag : Bool) (hl : l.length ≤ 1000000) : a1p Tryz.prog 330 [q4q true l, .agg (p5p true w), .pv (.bool (ag))] (q4q true (a7f w ag l false)) := by
 refine pX Tryz.f330 [q4q true (a7f w ag l false)] 10 ?_
 refine exR (u0u (id := 0) rfl rfl rfl (x1x rfl (exR (z9z (id := 1) v5v rfl v3v rfl (x1x rfl (exR (x1x rfl (x2x fun K1 hK1 => ?_))))))))
 refine exR (x1x rfl (y0y ?_))
 refine z2z (ι := List Wo × Bool × Nat) (fun p γ1 => [(7, .ref 1 (γ1 1)), (8, .pv (.bool (p.2.1))), (9, pI (p.2.2 : Int))]) (fun p γ1 => [(1, ((γ1 1), .row 79 11 ((p.1).map (p5p true)))), (2, ((γ1 2), .dead)), (3, ((γ1 3), .dead)), (4, ((γ1 4), .dead)), (5, ((γ1 5), .dead)), (6, ((γ1 6), .dead)), (7, ((γ1 7), .dead))]) (fun p => p.2.2 ≤ l.length ∧ p.1.length ≤ 2 * p.2.2 ∧ p.1 ++ a7f w ag (l.drop p.2.2) p.2.1 = a7f w ag l false) (fun p => l.length - p.2.2) (cK [0, 2, 4] rfl) (hK [0, 8, 9] rfl) ([], false, 0) ⟨by show 0 ≤ _; omega, by show 0 ≤ _; omega, rfl⟩ [0, _, _, _, _, _, _, _] cv hv rfl fun p γ1 hi => ?_
 obtain ⟨o, d, i⟩ := p
 obtain ⟨h1, h2, h3⟩ := hi
 dsimp only at h1 h2 h3 ⊢
 refine x2x fun K2 hK2 => ?_
 refine exA 2 rfl rfl (z3z rfl v5v rfl (v6v rfl rfl rfl (y4y rfl ?_ ?_)))<;>intro u<;>try simp at u
 ·obtain rfl : i = l.length := by omega
  rw [List.drop_length] at h3
  refine z5z (hK1 _ _ (x2x fun K14 hK14 => ?_))
  refine exA 2 rfl rfl (y4y rfl ?_ ?_)<;>intro hc15<;>try simp at hc15
  ·obtain rfl : d = true := hc15
   refine x7x (hK14 _ _ (exA 2 rfl rfl (x6x ⟨.inr rfl, ?_⟩)))
   refine a5b rfl rfl (fun _ => rfl) ?_
   (rw [← h3]; exact (List.append_nil _).symm)
  obtain rfl : d = false := hc15
  refine exG (x0x 2 rfl rfl (u4u (id := 8) v5v rfl v3v rfl rfl rfl rfl rfl rfl ?_))
  refine u6u (zs := (o ++ [w]).map (p5p true)) rfl rfl v5v rfl v3v rfl rfl rfl rfl (by rfl) (w4w _ _ _) (by (simp only [a1f, a0o, a0x, a0z, a2c, a4b, T79]; omega)) ?_
  refine x1x rfl (hK14 _ _ (exA 2 rfl rfl (x6x ⟨.inr rfl, ?_⟩)))
  refine a5b rfl rfl (fun _ => rfl) ?_
  exact h3
 obtain ⟨x, hx⟩ := gE l i
 refine x7x (hK2 _ _ (x2x fun K4 hK4 => ?_))
 refine y0y (x2x fun K5 hK5 => ?_)
 refine exD (x0x 2 rfl rfl (y8y rfl rfl v5v rfl v3v rfl hx (x0x 5 rfl rfl ⟨by kernel_rfl, x8x rfl ?_ ?_⟩)))<;>intro hc6<;>try simp at hc6
 ·have hq : x.from' = w.from' := hc6
  refine exR (x1x rfl (exR (x4x rfl (x8x rfl ?_ ?_))))<;>intro hc7<;>try simp at hc7
  ·obtain rfl : ag = true := hc7
   have hN : i + 1 ≤ l.length ∧ (o ++ [w]).length ≤ 2 * (i + 1) ∧ (o ++ [w]) ++ a7f w true (l.drop (i + 1)) true = a7f w true l false := ⟨by omega, by simp only [a0o, a0x, a0z]; omega, b1k h3 (by rw [s2s hx]; exact f1n hq)⟩
   refine exA 2 rfl rfl (u4u (id := 2) v5v rfl v3v rfl rfl rfl rfl rfl rfl ?_)
   refine u6u (zs := (o ++ [w]).map (p5p true)) rfl rfl v5v rfl v3v rfl rfl rfl rfl (by rfl) (w4w _ _ _) (by (simp only [a1f, a0o, a0x, a0z, a2c, a4b, T79]; omega)) ?_
   refine x1x rfl (z5z (hK4 _ _ (exG (x4x rfl (z4z (b := 1) rfl rfl (by omega) (x1x rfl ?_))))))
   exact ⟨(_, _, _), ⟨hN, (by show l.length - (i + 1) < l.length - i; omega)⟩, [0, _, _, _, _, _, _, _], cv, cv, hv, hv, rfl⟩
  obtain rfl : ag = false := hc7
  have hN : i + 1 ≤ l.length ∧ (o ++ [x]).length ≤ 2 * (i + 1) ∧ (o ++ [x]) ++ a7f w false (l.drop (i + 1)) true = a7f w false l false := ⟨by omega, by simp only [a0o, a0x, a0z]; omega, b1k h3 (by rw [s2s hx]; exact f1o hq)⟩
  refine x7x (hK5 _ _ (x2x fun K8 hK8 => ?_))
  refine exD (x0x 12 rfl rfl ⟨by kernel_rfl, x8x rfl (fun hc9 => ?_) (fun hc9 => ?_)⟩)
  ·simp at hc9
  try simp at hc9
  try have hN : i + 1 ≤ l.length ∧ (o ++ [x]).length ≤ 2 * (i + 1) ∧ (o ++ [x]) ++ a7f w ag (l.drop (i + 1)) false = a7f w ag l false := ⟨by omega, by simp only [a0o, a0x, a0z]; omega, b1k h3 (by rw [s2s hx]; exact d4m hq (by rintro ⟨_, h⟩; omega))⟩
  refine x7x (hK8 _ _ (exG (x0x 3 rfl rfl (y8y rfl rfl v5v rfl v3v rfl hx ?_))))
  refine w3w (out := .agg (p5p true x)) rfl v3v rfl ?_
  refine u4u (id := 6) v5v rfl v3v rfl rfl rfl rfl rfl rfl ?_
  refine u6u (zs := (o ++ [x]).map (p5p true)) rfl rfl v5v rfl v3v rfl rfl rfl rfl (by rfl) (w4w _ _ _) (by (simp only [a1f, a0o, a0x, a0z, a2c, a4b, T79]; omega)) ?_
  refine x1x rfl (hK4 _ _ (exG (x4x rfl (z4z (b := 1) rfl rfl (by omega) (x1x rfl ?_)))))
  exact ⟨(_, _, _), ⟨hN, (by show l.length - (i + 1) < l.length - i; omega)⟩, [0, _, _, _, _, _, _, _], cv, cv, hv, hv, rfl⟩
 have hq : ¬ x.from' = w.from' := hc6
 refine x7x (hK5 _ _ (x2x fun K10 hK10 => ?_))
 refine exD (x0x 3 rfl rfl (z8z rfl rfl ?_ ?_))<;>intro hg11<;>try simp at hg11
 ·obtain rfl : d = true := hg11
  have hN : i + 1 ≤ l.length ∧ (o ++ [x]).length ≤ 2 * (i + 1) ∧ (o ++ [x]) ++ a7f w ag (l.drop (i + 1)) true = a7f w ag l false := ⟨by omega, by simp only [a0o, a0x, a0z]; omega, b1k h3 (by rw [s2s hx]; exact d4m hq (by simp))⟩
  refine x0x 8 rfl rfl ⟨by kernel_rfl, x8x rfl (fun hc13 => ?_) (fun hc13 => ?_)⟩
  ·simp at hc13
  try simp at hc13
  try have hN : i + 1 ≤ l.length ∧ (o ++ [x]).length ≤ 2 * (i + 1) ∧ (o ++ [x]) ++ a7f w ag (l.drop (i + 1)) false = a7f w ag l false := ⟨by omega, by simp only [a0o, a0x, a0z]; omega, b1k h3 (by rw [s2s hx]; exact d4m hq (by rintro ⟨_, h⟩; omega))⟩
  refine x7x (hK10 _ _ (exG (x0x 3 rfl rfl (y8y rfl rfl v5v rfl v3v rfl hx ?_))))
  refine w3w (out := .agg (p5p true x)) rfl v3v rfl ?_
  refine u4u (id := 6) v5v rfl v3v rfl rfl rfl rfl rfl rfl ?_
  refine u6u (zs := (o ++ [x]).map (p5p true)) rfl rfl v5v rfl v3v rfl rfl rfl rfl (by rfl) (w4w _ _ _) (by (simp only [a1f, a0o, a0x, a0z, a2c, a4b, T79]; omega)) ?_
  refine x1x rfl (hK4 _ _ (exG (x4x rfl (z4z (b := 1) rfl rfl (by omega) (x1x rfl ?_)))))
  exact ⟨(_, _, _), ⟨hN, (by show l.length - (i + 1) < l.length - i; omega)⟩, [0, _, _, _, _, _, _, _], cv, cv, hv, hv, rfl⟩
 obtain rfl : d = false := hg11
 refine x0x 2 rfl rfl (z1z rfl rfl (y8y rfl rfl v5v rfl v3v rfl hx (x0x 6 rfl rfl ⟨by kernel_rfl, y4y rfl ?_ ?_⟩)))<;>intro u<;>try simp at u
 ·try have hN : i + 1 ≤ l.length ∧ (o ++ [x]).length ≤ 2 * (i + 1) ∧ (o ++ [x]) ++ a7f w ag (l.drop (i + 1)) false = a7f w ag l false := ⟨by omega, by simp only [a0o, a0x, a0z]; omega, b1k h3 (by rw [s2s hx]; exact d4m hq (by rintro ⟨_, h⟩; omega))⟩
  refine x7x (hK10 _ _ (exG (x0x 3 rfl rfl (y8y rfl rfl v5v rfl v3v rfl hx ?_))))
  refine w3w (out := .agg (p5p true x)) rfl v3v rfl ?_
  refine u4u (id := 6) v5v rfl v3v rfl rfl rfl rfl rfl rfl ?_
  refine u6u (zs := (o ++ [x]).map (p5p true)) rfl rfl v5v rfl v3v rfl rfl rfl rfl (by rfl) (w4w _ _ _) (by (simp only [a1f, a0o, a0x, a0z, a2c, a4b, T79]; omega)) ?_
  refine x1x rfl (hK4 _ _ (exG (x4x rfl (z4z (b := 1) rfl rfl (by omega) (x1x rfl ?_)))))
  exact ⟨(_, _, _), ⟨hN, (by show l.length - (i + 1) < l.length - i; omega)⟩, [0, _, _, _, _, _, _, _], cv, cv, hv, hv, rfl⟩
 have hN : i + 1 ≤ l.length ∧ (o ++ [w] ++ [x]).length ≤ 2 * (i + 1) ∧ (o ++ [w] ++ [x]) ++ a7f w ag (l.drop (i + 1)) true = a7f w ag l false := ⟨by omega, by simp only [a0o, a0x, a0z]; omega, by rw [List.append_assoc o]; exact b1k h3 (by rw [s2s hx]; exact f1p hq (by omega))⟩
 refine exA 2 rfl rfl (u4u (id := 4) v5v rfl v3v rfl rfl rfl rfl rfl rfl ?_)
 refine u6u (zs := (o ++ [w]).map (p5p true)) rfl rfl v5v rfl v3v rfl rfl rfl rfl (by rfl) (w4w _ _ _) (by (simp only [a1f, a0o, a0x, a0z, a2c, a4b, T79]; omega)) ?_
 refine x1x rfl (exG (x1x rfl (hK10 _ _ (exG (x0x 3 rfl rfl (y8y rfl rfl v5v rfl v3v rfl hx ?_))))))
 refine w3w (out := .agg (p5p true x)) rfl v3v rfl ?_
 refine u4u (id := 6) v5v rfl v3v rfl rfl rfl rfl rfl rfl ?_
 refine u6u (zs := (o ++ [w] ++ [x]).map (p5p true)) rfl rfl v5v rfl v3v rfl rfl rfl rfl (by rfl) (w4w _ _ _) (by (simp only [a1f, a0o, a0x, a0z, a2c, a4b, T79]; omega)) ?_
 refine x1x rfl (hK4 _ _ (exG (x4x rfl (z4z (b := 1) rfl rfl (by omega) (x1x rfl ?_)))))
 exact ⟨(_, _, _), ⟨hN, (by show l.length - (i + 1) < l.length - i; omega)⟩, [0, _, _, _, _, _, _, _], cv, cv, hv, hv, rfl⟩
theorem b7p (k f t i0 v r g : Int) : a1p Tryz.prog 325 [.agg [pI k, pI f, pI t, pI i0, pI v, pI r, pI g, .pv (.slice none 0 0), .pv (.slice none 0 0), .pv (.slice none 0 0), .pv (.slice none 0 0)]] (q4q true (e2g ⟨k, f, t, i0, v, r, g, [], [], [], []⟩)) := by
 refine pX Tryz.f325 [q4q true (e2g ⟨k, f, t, i0, v, r, g, [], [], [], []⟩)] 4 ?_
 refine exR (u0u (id := 0) rfl rfl rfl (x1x rfl (exR (z9z (id := 1) v5v rfl v3v rfl (x1x rfl (x2x fun K1 hK1 => ?_))))))
 refine exR (x1x rfl (y0y ?_))
 refine z2z (ι := Nat) (fun i γ1 => [(3, .ref 1 (γ1 1)), (4, pI ((i + 1 : Nat) : Int))]) (fun i γ1 => [(1, ((γ1 1), .row 79 11 ((List.range i).map fun (j : Nat) => [pI k, pI f, pI ((j + 1 : Nat) : Int), pI i0, pI v, pI r, pI g, .pv (.slice none 0 0), .pv (.slice none 0 0), .pv (.slice none 0 0), .pv (.slice none 0 0)]))), (0, ((0 + 1), .box 79 [pI k, pI f, pI (if i = 0 then t else ((i : Nat) : Int)), pI i0, pI v, pI r, pI g, .pv (.slice none 0 0), .pv (.slice none 0 0), .pv (.slice none 0 0), .pv (.slice none 0 0)])), (2, ((γ1 2), .dead)), (3, ((γ1 3), .dead))]) (fun i => i ≤ 2) (fun i => 2 - i) (y2y 1 rfl Cov.nil) HE.nil 0 (by omega) [0, _, _, _] cv (HE.row rfl (by rfl) (HE.box rfl (by rfl) (HE.kill rfl (HE.kill rfl HE.nil)))) rfl fun i γ1 hi => ?_
 refine x2x fun K2 hK2 => ?_
 refine exA 2 rfl rfl (y4y rfl ?_ ?_)<;>intro u<;>try simp at u
 ·obtain rfl : i = 2 := by omega
  refine z5z (hK1 _ _ (exA 2 rfl rfl ?_))
  refine c8u (f := fun (j : Nat) => [pI k, pI f, pI ((j + 1 : Nat) : Int), pI i0, pI v, pI r, pI g, .pv (.slice none 0 0), .pv (.slice none 0 0), .pv (.slice none 0 0), .pv (.slice none 0 0)]) (f' := fun (j : Nat) => p5p true ⟨k, f, ((j + 1 : Nat) : Int), i0, v, r, g, [], [], [], []⟩) (l := List.range 2) 1 rfl (fun _ => .same (.same (.same (.same (.same (.same (.same (.le rfl .nil rfl (.le rfl .nil rfl (.le rfl .nil rfl (.le rfl .nil rfl .nil))))))))))) ?_
  refine x6x ⟨.inr rfl, ?_⟩
  exact a5b (l := List.range 2) (l' := List.range 2) (f := fun (j : Nat) => p5p true ⟨k, f, ((j + 1 : Nat) : Int), i0, v, r, g, [], [], [], []⟩) rfl rfl (fun _ => rfl) rfl
 refine x7x (hK2 _ _ (x2x fun K4 hK4 => ?_))
 refine y0y (exA 2 rfl rfl (z0z rfl rfl q2q rfl rfl rfl rfl rfl (by simp only [a1k]; rfl) ?_))
 refine exG (x0x 2 rfl rfl (u4u (id := 2) v5v rfl v3v rfl rfl rfl rfl rfl rfl ?_))
 refine u6u (zs := ((List.range i).map fun (j : Nat) => [pI k, pI f, pI ((j + 1 : Nat) : Int), pI i0, pI v, pI r, pI g, .pv (.slice none 0 0), .pv (.slice none 0 0), .pv (.slice none 0 0), .pv (.slice none 0 0)]) ++ [[pI k, pI f, pI ((i + 1 : Nat) : Int), pI i0, pI v, pI r, pI g, .pv (.slice none 0 0), .pv (.slice none 0 0), .pv (.slice none 0 0), .pv (.slice none 0 0)]]) rfl rfl v5v rfl v3v rfl rfl rfl rfl (by rfl) rfl (by (simp only [a1f, a0o, a0x, a0z, a2c, a4b, T79]; omega)) ?_
 refine x1x rfl (hK4 _ _ (exG (x4x rfl (z4z (b := 1) rfl rfl (by omega) (x1x rfl ?_)))))
 exact ⟨i + 1, ⟨by omega, by omega⟩, [0, _, _, _], cv, cv, (HE.row rfl (by rw [List.range_succ, List.map_append]; rfl) (HE.box rfl (by rw [if_neg (by omega : ¬ i + 1 = 0)] <;> rfl) (HE.kill rfl (HE.kill rfl HE.nil)))), hv, rfl⟩
theorem c2z (k f t i0 v r g : Int) : Meth Tryz.prog 325 1 [] [.agg [pI k, pI f, pI t, pI i0, pI v, pI r, pI g, .pv (.slice none 0 0), .pv (.slice none 0 0), .pv (.slice none 0 0), .pv (.slice none 0 0)]] [(0, (0, .dead))] (.ref 0 0) [(0, (0, .row 79 11 ((e2g ⟨k, f, t, i0, v, r, g, [], [], [], []⟩).map (p5p true))))] := by
 refine mX Tryz.f325 [.ref 0 0] 1 3 fun γ => ?_
 refine exR (u0u (id := 1) rfl rfl rfl (x1x rfl (exR (z9z (id := 0) v5v rfl v3v rfl (x1x rfl (x2x fun K1 hK1 => ?_))))))
 refine exR (x1x rfl (y0y ?_))
 refine z2z (ι := Nat) (fun i γ1 => [(3, .ref 0 (γ1 0)), (4, pI ((i + 1 : Nat) : Int))]) (fun i γ1 => [(0, ((γ1 0), .row 79 11 ((List.range i).map fun (j : Nat) => [pI k, pI f, pI ((j + 1 : Nat) : Int), pI i0, pI v, pI r, pI g, .pv (.slice none 0 0), .pv (.slice none 0 0), .pv (.slice none 0 0), .pv (.slice none 0 0)]))), (1, ((0 + 1), .box 79 [pI k, pI f, pI (if i = 0 then t else ((i : Nat) : Int)), pI i0, pI v, pI r, pI g, .pv (.slice none 0 0), .pv (.slice none 0 0), .pv (.slice none 0 0), .pv (.slice none 0 0)])), (2, ((γ1 2), .dead)), (3, ((γ1 3), .dead))]) (fun i => i ≤ 2) (fun i => 2 - i) (y2y 1 rfl Cov.nil) HE.nil 0 (by omega) [_, 0, _, _] cv (HE.row rfl (by rfl) (HE.box rfl (by rfl) (HE.kill rfl (HE.kill rfl HE.nil)))) rfl fun i γ1 hi => ?_
 refine x2x fun K2 hK2 => ?_
 refine exA 2 rfl rfl (y4y rfl ?_ ?_)<;>intro u<;>try simp at u
 ·obtain rfl : i = 2 := by omega
  refine z5z (hK1 _ _ (exA 2 rfl rfl ?_))
  refine c8u (f := fun (j : Nat) => [pI k, pI f, pI ((j + 1 : Nat) : Int), pI i0, pI v, pI r, pI g, .pv (.slice none 0 0), .pv (.slice none 0 0), .pv (.slice none 0 0), .pv (.slice none 0 0)]) (f' := fun (j : Nat) => p5p true ⟨k, f, ((j + 1 : Nat) : Int), i0, v, r, g, [], [], [], []⟩) (l := List.range 2) 0 rfl (fun _ => .same (.same (.same (.same (.same (.same (.same (.le rfl .nil rfl (.le rfl .nil rfl (.le rfl .nil rfl (.le rfl .nil rfl .nil))))))))))) ?_
  refine x6x ?_
  exact ⟨.inr rfl, [_], rfl, rfl, hv⟩
 refine x7x (hK2 _ _ (x2x fun K4 hK4 => ?_))
 refine y0y (exA 2 rfl rfl (z0z rfl rfl q2q rfl rfl rfl rfl rfl (by simp only [a1k]; rfl) ?_))
 refine exG (x0x 2 rfl rfl (u4u (id := 2) v5v rfl v3v rfl rfl rfl rfl rfl rfl ?_))
 refine u6u (zs := ((List.range i).map fun (j : Nat) => [pI k, pI f, pI ((j + 1 : Nat) : Int), pI i0, pI v, pI r, pI g, .pv (.slice none 0 0), .pv (.slice none 0 0), .pv (.slice none 0 0), .pv (.slice none 0 0)]) ++ [[pI k, pI f, pI ((i + 1 : Nat) : Int), pI i0, pI v, pI r, pI g, .pv (.slice none 0 0), .pv (.slice none 0 0), .pv (.slice none 0 0), .pv (.slice none 0 0)]]) rfl rfl v5v rfl v3v rfl rfl rfl rfl (by rfl) rfl (by (simp only [a1f, a0o, a0x, a0z, a2c, a4b, T79]; omega)) ?_
 refine x1x rfl (hK4 _ _ (exG (x4x rfl (z4z (b := 1) rfl rfl (by omega) (x1x rfl ?_)))))
 exact ⟨i + 1, ⟨by omega, by omega⟩, [_, 0, _, _], cv, cv, (HE.row rfl (by rw [List.range_succ, List.map_append]; rfl) (HE.box rfl (by rw [if_neg (by omega : ¬ i + 1 = 0)] <;> rfl) (HE.kill rfl (HE.kill rfl HE.nil)))), hv, rfl⟩
theorem c7q (l : List Wo) (f : Int) : a1p Tryz.prog 329 [q4q true l, .pv (.int .i64 f)] (.tup [.agg (p5p true (e9w f l)), .pv (.bool (b5x f l).isSome)]) := by
 refine pX Tryz.f329 [.agg (p5p true (e9w f l)), .pv (.bool (b5x f l).isSome)] 1 ?_
 refine r1r 0 rfl fun hlen => ?_
 refine exR (y7y (id := 0) v3v a9z rfl (x1x rfl (x2x fun K1 hK1 => ?_)))
 refine exR (x1x rfl (y0y ?_))
 refine z2z (ι := Nat) (fun i γ1 => [(6, pI (i : Int))]) (fun i γ1 => []) (fun i => i ≤ l.length ∧ c7t l (fun _ w => ¬ w.from' = f) i) (fun i => l.length - i) (cK [0, 1, 4] rfl) (y6y 0 rfl HE.nil) 0 ⟨by omega, a2j⟩ [] cv hv rfl fun i γ1 hi => ?_
 obtain ⟨h1, h2⟩ := hi
 refine x2x fun K2 hK2 => ?_
 refine exA 2 rfl rfl (z3z rfl v5v rfl (v6v rfl rfl rfl (y4y rfl ?_ ?_)))<;>intro u<;>try simp at u
 ·have hno := e4v (a3t h2 (by omega))
  refine z5z (hK1 _ _ (exR (rlB v3v a9z ?_)))
  refine x3x rfl rfl v3v rfl rfl rfl rfl (x1x rfl (x6x ⟨.inr rfl, ?_⟩))
  (rw [e9w, hno]; exact ⟨_, _, rfl, c7d (.cl rfl .nil)⟩)
 obtain ⟨w, hw⟩ := gE l i
 refine x7x (hK2 _ _ (x2x fun K4 hK4 => ?_))
 refine y0y (exA 2 rfl rfl (y8y rfl rfl v5v rfl v3v rfl hw (x0x 4 rfl rfl (y4y rfl ?_ ?_))))<;>intro hc5<;>try simp at hc5
 ·have hne : ¬ w.from' = f := hc5
  refine x7x (hK4 _ _ (exG (x4x rfl (z4z (b := 1) rfl rfl (by omega) (x1x rfl ?_)))))
  exact ⟨i + 1, ⟨⟨by omega, a0l h2 hw hne⟩, by omega⟩, [], cv, cv, hv, hv, rfl⟩
 have hat := d4n h2 hw hc5
 refine exA 2 rfl rfl (y8y rfl rfl v5v rfl v3v rfl hw ?_)
 refine w3w (out := .agg (p5p true w)) rfl v3v rfl ?_
 refine x3x rfl rfl v3v rfl rfl rfl rfl (x1x rfl (x6x ⟨.inr rfl, ?_⟩))
 (rw [e9w, hat]; exact ⟨_, _, rfl, .agg rfl (.cl rfl (.cl rfl (.cl rfl (.cl rfl (.cl rfl (.cl rfl (.cl rfl (.cl rfl (.cl rfl (.cl rfl (.cl rfl (.nil)))))))))))) (.cl rfl .nil)⟩)
theorem c3a (c : Bool) (h : Hb) : a1p Tryz.prog 332 [.agg (a8w c h)] (.tup [.pv (.int .i64 (s4s h).1), .pv (.bool (s4s h).2)]) := by
 refine pX Tryz.f332 [.pv (.int .i64 (s4s h).1), .pv (.bool ((s4s h).2))] 1 ?_
 refine exR (u0u (id := 0) rfl rfl rfl (x0x 2 rfl rfl (x2x fun K1 hK1 => ?_)))
 refine exR (x5x rfl q7q rfl rfl rfl (x9x rfl rfl rfl (a9f ..) (x0x 2 rfl rfl (z8z rfl rfl ?_ ?_))))<;>intro hg2<;>try simp at hg2
 ·have hX : ¬ a7m h := fun q => a0v (by simpa using hg2) q.1
  refine x0x 10 rfl rfl (x8x rfl (fun hc21 => ?_) (fun hc21 => ?_))
  rotate_left
  ·simp at hc21
  try simp at hc21
  try have hX : ¬ a7m h := fun q => by have := q.2.1; have := q.2.2.1; omega
  refine exA 2 rfl rfl (x6x ⟨.inr rfl, ?_⟩)
  (rw [b5y hX]; exact ⟨_, _, rfl, .cl rfl (.cl rfl .nil)⟩)
 have hK : a0w h := a1x.1 (by simpa using hg2)
 refine x0x 2 rfl rfl (z1z rfl rfl (z3z rfl v5v rfl (x0x 3 rfl rfl (z8z rfl rfl ?_ ?_))))<;>intro u<;>try simp at u
 ·refine x0x 4 rfl rfl (x8x rfl (fun hc20 => ?_) (fun hc20 => ?_))
  rotate_left
  ·simp at hc20
  try simp at hc20
  try have hX : ¬ a7m h := fun q => by have := q.2.1; have := q.2.2.1; omega
  refine exA 2 rfl rfl (x6x ⟨.inr rfl, ?_⟩)
  (rw [b5y hX]; exact ⟨_, _, rfl, .cl rfl (.cl rfl .nil)⟩)
 refine x0x 2 rfl rfl (z1z rfl rfl (z3z rfl v5v rfl (x0x 2 rfl rfl (x8x rfl ?_ ?_))))<;>intro u<;>try simp at u
 ·try have hX : ¬ a7m h := fun q => by have := q.2.1; have := q.2.2.1; omega
  refine exA 2 rfl rfl (x6x ⟨.inr rfl, ?_⟩)
  (rw [b5y hX]; exact ⟨_, _, rfl, .cl rfl (.cl rfl .nil)⟩)
 have e1 : h.ones.length = 3 := by omega
 have e2 : h.twos.length = 3 := by omega
 refine x7x (hK1 _ _ (exR (x1x rfl (x2x fun K5 hK5 => ?_))))
 refine exR (x1x rfl (y0y ?_))
 refine z2z (ι := Nat) (fun i γ1 => [(4, pI (a2d 41 (h.ones.take i))), (5, pI (i : Int))]) (fun i γ1 => []) (fun i => i ≤ 3 ∧ ∀ j, j < i → e0t h j) (fun i => 3 - i) (y2y 1 rfl Cov.nil) (y6y 0 rfl HE.nil) 0 ⟨by omega, fun j hj => by omega⟩ [] (Cov.cons' (t := 4) rfl (rfl) (y2y 5 rfl Cov.nil)) hv rfl fun i γ1 hi => ?_
 obtain ⟨h1, h1b⟩ := hi
 refine x2x fun K6 hK6 => ?_
 refine exA 2 rfl rfl (y4y rfl ?_ ?_)<;>intro u<;>try simp at u
 ·obtain rfl : i = 3 := by omega
  have hT : a7m h := ⟨hK, e1, e2, fun j hj => h1b j hj⟩
  have e3 : a2d 41 (h.ones.take 3) = a2d 41 h.ones := by rw [List.take_of_length_le (by omega)]
  refine z5z (hK5 _ _ (exA 3 rfl rfl (x6x ⟨.inr rfl, ?_⟩)))
  (rw [e8y hT, ← e3]; exact ⟨_, _, rfl, .cl rfl (.cl rfl .nil)⟩)
 obtain ⟨a, ha⟩ := gE h.ones i
 obtain ⟨b, hb⟩ := gE h.twos i
 refine x7x (hK6 _ _ (x2x fun K8 hK8 => ?_))
 refine y0y (x2x fun K9 hK9 => ?_)
 refine exD (x0x 3 rfl rfl (y8y rfl rfl v5v rfl v3v rfl ha (x0x 5 rfl rfl (y8y rfl rfl v5v rfl v3v rfl hb (x0x 3 rfl rfl ⟨by kernel_rfl, x8x rfl ?_ ?_⟩)))))<;>intro hc10<;>try simp at hc10
 ·have hX : ¬ a7m h := fun q => by have := (q.2.2.2 i (by omega) a b ha hb).1; omega
  refine exA 2 rfl rfl (x6x ⟨.inr rfl, ?_⟩)
  (rw [b5y hX]; exact ⟨_, _, rfl, .cl rfl (.cl rfl .nil)⟩)
 have hI : a.inc = b.inc := hc10
 refine x7x (hK9 _ _ ?_)
 refine a0c (ι := Unit) (fun _i γ2 => [(4, pI (a2d 41 (h.ones.take (i + 1))))]) (fun _i γ2 => []) (fun _i => True) (cK [1, 5] rfl) (y6y 0 rfl HE.nil) ?_ fun _i γ2 hi => ?_
 ·refine exA 3 rfl rfl (y8y rfl rfl v5v rfl v3v rfl ha (x0x 4 rfl rfl (y4y rfl ?_ ?_)))<;>intro u<;>try simp at u
  ·have hlt : ¬ a.g < a2d 41 (h.ones.take i) := by omega
   refine x7x ?_
   exact ⟨(), trivial, [], (Cov.cons' (t := 4) rfl (congrArg (fun v : Int => AV.pv (.int .i64 v)) (d4p ha hlt)) Cov.nil), cv, hv, hv, rfl⟩
  have hlt : a.g < a2d 41 (h.ones.take i) := by omega
  refine exG (x0x 3 rfl rfl (y8y rfl rfl v5v rfl v3v rfl ha (x0x 3 rfl rfl ?_)))
  exact ⟨(), trivial, [], (Cov.cons' (t := 4) rfl (congrArg (fun v : Int => AV.pv (.int .i64 v)) (d4o ha hlt)) Cov.nil), cv, hv, hv, rfl⟩
 ·try dsimp only [b2z, b3a]
  refine exR (x1x rfl (y0y ?_))
  refine z2z (ι := Nat) (fun k γ3 => [(6, pI (k : Int))]) (fun k γ3 => []) (fun k => k ≤ 3 ∧ ∀ (q : Nat) x, q < k → q ≠ i → h.ones[q]? = some x → x.incs.getD i 0 = b.inc ∧ x.versions.getD i 0 = b.version) (fun k => 3 - k) (cK [1, 4, 5] rfl) (y6y 0 rfl HE.nil) 0 ⟨by omega, fun q x hq => by omega⟩ [] cv hv rfl fun k γ3 hi => ?_
  obtain ⟨h2, h2b⟩ := hi
  refine x2x fun K12 hK12 => ?_
  refine exA 2 rfl rfl (y4y rfl ?_ ?_)<;>intro u<;>try simp at u
  ·have hJ : e0t h i := fun a2 b2 ha2 hb2 => by rw [ha] at ha2; rw [hb] at hb2; cases ha2; cases hb2; exact ⟨hI, fun q x hne hx => h2b q x (by have := (List.getElem?_eq_some_iff.1 hx).1; omega) hne hx⟩
   refine z5z (hK8 _ _ (exG (x4x rfl (z4z (b := 1) rfl rfl (by omega) (x1x rfl ?_)))))
   exact ⟨i + 1, ⟨⟨by omega, fun j hj => by rcases Nat.lt_succ_iff_lt_or_eq.1 hj with q | q; exact h1b j q; subst q; exact hJ⟩, by omega⟩, [], cv, cv, hv, hv, rfl⟩
  obtain ⟨x0, hx0⟩ := gE h.ones k
  have hfu := hK.2.2.2.2 x0 (List.mem_of_getElem? hx0)
  obtain ⟨fu1, fu2⟩ := hfu
  obtain ⟨z, hz⟩ := gE x0.incs i
  obtain ⟨y, hy⟩ := gE x0.versions i
  refine x7x (hK12 _ _ (x2x fun K14 hK14 => ?_))
  refine y0y (exD (x0x 4 rfl rfl (z8z rfl rfl ?_ ?_)))<;>intro u<;>try simp at u
  ·refine x0x 34 rfl rfl ⟨by kernel_rfl, x8x rfl (fun hc19 => ?_) (fun hc19 => ?_)⟩
   ·simp at hc19
   try simp at hc19
   have hS : k ≠ i → x0.incs.getD i 0 = b.inc ∧ x0.versions.getD i 0 = b.version := fun hne => by rw [b3k hz, b3k hy]; omega
   refine x7x (hK14 _ _ (exG (x4x rfl (z4z (b := 1) rfl rfl (by omega) (x1x rfl ?_)))))
   exact ⟨k + 1, ⟨⟨by omega, fun q x hq hne hx => by rcases Nat.lt_succ_iff_lt_or_eq.1 hq with q1 | q1; exact h2b q x q1 hne hx; subst q1; rw [hx0] at hx; cases hx; exact hS hne⟩, by omega⟩, [], cv, cv, hv, hv, rfl⟩
  refine x0x 3 rfl rfl (z1z rfl rfl (y8y rfl rfl v5v rfl v3v rfl hx0 (x0x 3 rfl rfl (z1z rfl rfl (y8y rfl rfl q1q rfl q2q rfl hz (x0x 4 rfl rfl (z1z rfl rfl (y8y rfl rfl v5v rfl v3v rfl hb (x0x 4 rfl rfl (z8z rfl rfl ?_ ?_))))))))))<;>intro u<;>try simp at u
  ·refine x0x 17 rfl rfl ⟨by kernel_rfl, x8x rfl (fun hc18 => ?_) (fun hc18 => ?_)⟩
   rotate_left
   ·simp at hc18
   try simp at hc18
   have hX : ¬ a7m h := fun q => by have := (q.2.2.2 i (by omega) a b ha hb).2 k x0 (by omega) hx0; rw [b3k hz, b3k hy] at this; omega
   refine exA 2 rfl rfl (x6x ⟨.inr rfl, ?_⟩)
   (rw [b5y hX]; exact ⟨_, _, rfl, .cl rfl (.cl rfl .nil)⟩)
  refine x0x 3 rfl rfl (z1z rfl rfl (y8y rfl rfl v5v rfl v3v rfl hx0 (x0x 3 rfl rfl (z1z rfl rfl (y8y rfl rfl q1q rfl q2q rfl hy (x0x 4 rfl rfl (z1z rfl rfl (y8y rfl rfl v5v rfl v3v rfl hb (x0x 5 rfl rfl ⟨by kernel_rfl, x8x rfl ?_ ?_⟩)))))))))<;>intro u<;>try simp at u
  ·have hX : ¬ a7m h := fun q => by have := (q.2.2.2 i (by omega) a b ha hb).2 k x0 (by omega) hx0; rw [b3k hz, b3k hy] at this; omega
   refine exA 2 rfl rfl (x6x ⟨.inr rfl, ?_⟩)
   (rw [b5y hX]; exact ⟨_, _, rfl, .cl rfl (.cl rfl .nil)⟩)
  have hS : k ≠ i → x0.incs.getD i 0 = b.inc ∧ x0.versions.getD i 0 = b.version := fun hne => by rw [b3k hz, b3k hy]; omega
  refine x7x (hK14 _ _ (exG (x4x rfl (z4z (b := 1) rfl rfl (by omega) (x1x rfl ?_)))))
  exact ⟨k + 1, ⟨⟨by omega, fun q x hq hne hx => by rcases Nat.lt_succ_iff_lt_or_eq.1 hq with q1 | q1; exact h2b q x q1 hne hx; subst q1; rw [hx0] at hx; cases hx; exact hS hne⟩, by omega⟩, [], cv, cv, hv, hv, rfl⟩
end
end Go.Proofs.YtlgknoapdbpojaaGreat.Am
