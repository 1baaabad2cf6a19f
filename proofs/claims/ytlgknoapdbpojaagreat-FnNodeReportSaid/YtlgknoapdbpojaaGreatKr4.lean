/- Part 4 of the texts that the proof of LawFnNodeReport leans on, merged by program. -/
import Derived.Test.YtlgknoapdbpojaaGreatKr3
set_option linter.unusedVariables false
set_option linter.unusedSimpArgs false
set_option maxHeartbeats 4000000
set_option autoImplicit true
set_option relaxedAutoImplicit true
namespace Go.Proofs.YtlgknoapdbpojaaGreat.Am
open Go Go.RowKit
section
theorem a1e (c : Bool) (l : List Ev) (hl : l.length ≤ 10000000) : a0g Tryz.prog 111 [a0t c l] (a0t true (v1v l)) := by
 refine pX Tryz.f111 [a0t true (v1v l)] 3 ?_
 refine dv 3 ?_
 refine y1y (id := 0) v8v rfl z4z rfl (dv 5 fun K K' => ?_)
 refine x6x (ι := Nat) (fun i γ1 => [(3, .ref 0 (γ1 0)), (4, pI (i : Int))]) (fun i γ1 => [(0, ((γ1 0), .row 56 7 ((v1v (l.take i)).map z2z))), (1, ((γ1 1), .dead)), (2, ((γ1 2), .dead))]) (fun i => i ≤ l.length) (fun i => l.length - i) (y0y 0 rfl Cov.nil) HE.nil 0 (by omega) [_, _, _] x7x (HE.row rfl (by rw [List.take_zero]; rfl) (HE.kill rfl (HE.kill rfl HE.nil))) rfl fun i γ1 hi => ?_
 refine dc 6 (fun K K' => aS ?_ ?_)<;>intro o<;>try simp at o
 ·obtain rfl : i = l.length := by omega
  refine dv 5 ?_
  refine a4j rfl rfl (fun _ => rfl) ?_
  rw [List.take_length]
 obtain ⟨x, hx⟩ := gE l i
 have hol : (v1v (l.take i)).length ≤ 10000000 := Nat.le_trans (b0e _) (by rw [List.length_take]; omega)
 have hss := b7p (l.take i)
 refine dv 7 fun K K' => ?_
 refine r0r (ι := Nat) (fun k γ2 => [(5, pI (k : Int))]) (fun k γ2 => []) (fun k => k ≤ (v1v (l.take i)).length ∧ (∀ (j : Nat) y, k ≤ j → (v1v (l.take i))[j]? = some y → a2i x y = true) ∧ (∀ y, 0 < k → (v1v (l.take i))[k - 1]? = some y → a2i x y = false)) (r7r [0, 3, 4] rfl) (a1m [0, 1, 2] rfl) ?_ fun k γ2 hi => ?_
 ·refine dv 1 ?_
  refine x6x (ι := Nat) (fun k γ3 => [(5, pI (k : Int))]) (fun k γ3 => []) (fun k => k ≤ (v1v (l.take i)).length ∧ (∀ (j : Nat) y, k ≤ j → (v1v (l.take i))[j]? = some y → a2i x y = true)) (fun k => k) (r7r [0, 3, 4] rfl) (a1m [0, 1, 2] rfl) (v1v (l.take i)).length ⟨Nat.le_refl _, fun j y hj hy => by have := (List.getElem?_eq_some_iff.1 hy).1; omega⟩ [] x7x x5x rfl fun k γ3 hi => ?_
  obtain ⟨k1, k2⟩ := hi
  refine dc 5 (fun K K' => aS ?_ ?_)<;>intro o<;>try simp at o
  ·have k0 : k = 0 := by omega
   refine dv 12 ?_
   exact ⟨k, ⟨k1, k2, fun y2 h0 h2 => by omega⟩, [], x7x, x7x, x5x, x5x, rfl⟩
  have k0 : 0 < k := by omega
  obtain ⟨y, hy⟩ := gE (v1v (l.take i)) (k - 1)
  refine dv 6 ?_
  refine r6r (b := 1) rfl rfl (by omega) (by omega) (dv 0 ?_)
  refine z1z (j := k - 1) rfl rfl v8v rfl z4z rfl rfl (by omega) ?_
  refine dv 1 ?_
  refine x0x rfl rfl rfl (a7b ..) (dc 1 (aS ?_ ?_))<;>intro hc7<;>try simp at hc7
  ·try have hlt := hc7
   refine dv 1 ?_
   exact ⟨k, ⟨k1, k2, fun y2 h0 h2 => by (rw [hy] at h2; cases h2; exact hlt)⟩, [], x7x, x7x, x5x, x5x, rfl⟩
  try have hlt := hc7
  refine dv 4 ?_
  refine r6r (b := 1) rfl rfl (by omega) (by omega) (dv 1 ?_)
  exact ⟨k - 1, ⟨⟨by omega, fun j y2 hj hy2 => by by_cases hjk : j = k - 1; (subst hjk; rw [hy] at hy2; cases hy2; exact hlt); exact k2 j y2 (by omega) hy2⟩, by omega⟩, [], x7x, x7x, x5x, x5x, rfl⟩
 ·try dsimp only [b3d, b3e]
  obtain ⟨c1, c2, c3⟩ := hi
  refine dc 5 (fun K K' => aS ?_ ?_)<;>intro o<;>try simp at o
  ·have k0 : k = 0 := by omega
   refine dv 11 ?_
   have hin : v1v (l.take (i + 1)) = (v1v (l.take i)).take k ++ x :: (v1v (l.take i)).drop k := by rw [b5x hx]; exact e0t d0a hss c2 (fun y2 h0 h2 => ⟨c3 y2 h0 h2, by omega⟩) c1
   refine dv 7 ?_
   refine y6y (id := 1) v8v rfl z4z rfl rfl rfl rfl rfl rfl ?_
   refine y7y (zs := (v1v (l.take i) ++ [x]).map z2z) rfl rfl v8v rfl z4z rfl rfl rfl rfl (by rfl) (z8z _ _ _) (by have hb56 : T56.bytes = 56 := rfl; rw [List.length_map, hb56]; simp only [r5r, s1s, s3s]; omega) ?_
   refine dv 5 fun K K' => ?_
   refine r6r (b := 1) rfl rfl (by (simp; done)) (by (simp; omega)) ?_
   refine dv 2 ?_
   refine x6x (ι := Nat × Ev) (fun q γ5 => [(6, pI (q.1 : Int))]) (fun q γ5 => [(0, ((γ1 0 + 1), .row 56 7 (((v1v (l.take i)).take q.1 ++ q.2 :: (v1v (l.take i)).drop q.1).map z2z)))]) (fun q => k ≤ q.1 ∧ q.1 ≤ (v1v (l.take i)).length) (fun q => q.1) (r7r [0, 3, 4, 5] rfl) (a1m [1, 2] rfl) ((v1v (l.take i)).length, x) ⟨c1, Nat.le_refl _⟩ [] (Cov.cons' (t := 6) rfl (by simp) Cov.nil) (HE.row rfl (by rw [List.take_length, List.drop_length]) HE.nil) rfl fun q γ5 hi => ?_
   obtain ⟨m, u⟩ := q
   obtain ⟨m1, m2⟩ := hi
   dsimp only at m1 m2 ⊢
   refine dc 5 (fun K K' => aS ?_ ?_)<;>intro o<;>try simp at o
   ·obtain rfl : k = m := by omega
    refine b2h (hkL (by assumption) ?_)
    refine exG (v7v rfl (v7v rfl (v7v rfl (v7v rfl (b0t rfl rfl v8v rfl z4z rfl hx (b2i rfl z4z rfl rfl ?_))))))
    refine z1z (j := k) rfl rfl v8v rfl z4z rfl rfl (z3z (d0k c1)) ?_
    refine v6v (el' := x) rfl rfl z4z rfl rfl rfl (d0k c1) rfl (a5v _) rfl rfl ?_
    refine dv 2 ?_
    refine x8x (b := 1) rfl rfl (by omega) (dv 1 ?_)
    exact ⟨i + 1, ⟨by omega, by omega⟩, [_, _, _], x7x, x7x, (HE.row rfl (by rw [hin, e0u c1]) (HE.kill rfl (HE.kill rfl HE.nil))), x5x, rfl⟩
   obtain ⟨z, hz⟩ := gE (v1v (l.take i)) (m - 1)
   refine dv 8 fun K K' => ?_
   refine r6r (b := 1) rfl rfl (by omega) (by omega) ?_
   refine z1z (j := m - 1) rfl rfl v8v rfl z4z rfl rfl (z3z (d4w m2 (by omega) hz)) ?_
   refine a0d rfl z4z rfl (d4w m2 (by omega) hz) rfl rfl ?_
   refine z1z (j := m) rfl rfl v8v rfl z4z rfl rfl (z3z (d0k m2)) ?_
   refine v6v (el' := z) rfl rfl z4z rfl rfl rfl (d0k m2) rfl (a5v _) rfl rfl ?_
   refine dv 2 ?_
   refine r6r (b := 1) rfl rfl (by omega) (by omega) (dv 1 ?_)
   exact ⟨(m - 1, z), ⟨⟨by dsimp only; omega, by dsimp only; omega⟩, (by dsimp only; omega)⟩, [], x7x, x7x, (HE.row rfl (by rw [e7t m2 (by omega) hz]) HE.nil), x5x, rfl⟩
  have k0 : 0 < k := by omega
  obtain ⟨y, hy⟩ := gE (v1v (l.take i)) (k - 1)
  refine dv 2 ?_
  refine r6r (b := 1) rfl rfl (by omega) (by omega) (dv 0 ?_)
  refine z1z (j := k - 1) rfl rfl v8v rfl z4z rfl rfl (by omega) ?_
  refine dv 5 ?_
  refine a9c rfl rfl (by intro a c h; cases h) (.inl rfl) (f0l _ _ _ _) ?_
  refine dc 1 (aI ?_ ?_)<;>intro hc11<;>try simp at hc11
  ·have hyx : y = x := by simpa [a2j] using hc11
   have hsk : v1v (l.take (i + 1)) = v1v (l.take i) := by rw [b5x hx]; exact e9u d0a hss (List.mem_of_getElem? (hyx ▸ hy))
   refine dv 3 ?_
   refine x8x (b := 1) rfl rfl (by omega) (dv 1 ?_)
   exact ⟨i + 1, ⟨by omega, by omega⟩, [_, _, _], x7x, x7x, (HE.row rfl (by rw [hsk]) (HE.kill rfl (HE.kill rfl HE.nil))), x5x, rfl⟩
  try have hyx : ¬ y = x := by simpa [a2j] using hc11
  have hin : v1v (l.take (i + 1)) = (v1v (l.take i)).take k ++ x :: (v1v (l.take i)).drop k := by rw [b5x hx]; exact e0t d0a hss c2 (fun y2 h0 h2 => ⟨c3 y2 h0 h2, by (rw [hy] at h2; cases h2; exact hyx)⟩) c1
  refine dv 7 ?_
  refine y6y (id := 1) v8v rfl z4z rfl rfl rfl rfl rfl rfl ?_
  refine y7y (zs := (v1v (l.take i) ++ [x]).map z2z) rfl rfl v8v rfl z4z rfl rfl rfl rfl (by rfl) (z8z _ _ _) (by have hb56 : T56.bytes = 56 := rfl; rw [List.length_map, hb56]; simp only [r5r, s1s, s3s]; omega) ?_
  refine dv 5 fun K K' => ?_
  refine r6r (b := 1) rfl rfl (by (simp; done)) (by (simp; omega)) ?_
  refine dv 2 ?_
  refine x6x (ι := Nat × Ev) (fun q γ4 => [(6, pI (q.1 : Int))]) (fun q γ4 => [(0, ((γ1 0 + 1), .row 56 7 (((v1v (l.take i)).take q.1 ++ q.2 :: (v1v (l.take i)).drop q.1).map z2z)))]) (fun q => k ≤ q.1 ∧ q.1 ≤ (v1v (l.take i)).length) (fun q => q.1) (r7r [0, 3, 4, 5] rfl) (a1m [1, 2] rfl) ((v1v (l.take i)).length, x) ⟨c1, Nat.le_refl _⟩ [] (Cov.cons' (t := 6) rfl (by simp) Cov.nil) (HE.row rfl (by rw [List.take_length, List.drop_length]) HE.nil) rfl fun q γ4 hi => ?_
  obtain ⟨m, u⟩ := q
  obtain ⟨m1, m2⟩ := hi
  dsimp only at m1 m2 ⊢
  refine dc 5 (fun K K' => aS ?_ ?_)<;>intro o<;>try simp at o
  ·obtain rfl : k = m := by omega
   refine b2h (hkL (by assumption) ?_)
   refine exG (v7v rfl (v7v rfl (v7v rfl (v7v rfl (b0t rfl rfl v8v rfl z4z rfl hx (b2i rfl z4z rfl rfl ?_))))))
   refine z1z (j := k) rfl rfl v8v rfl z4z rfl rfl (z3z (d0k c1)) ?_
   refine v6v (el' := x) rfl rfl z4z rfl rfl rfl (d0k c1) rfl (a5v _) rfl rfl ?_
   refine dv 2 ?_
   refine x8x (b := 1) rfl rfl (by omega) (dv 1 ?_)
   exact ⟨i + 1, ⟨by omega, by omega⟩, [_, _, _], x7x, x7x, (HE.row rfl (by rw [hin, e0u c1]) (HE.kill rfl (HE.kill rfl HE.nil))), x5x, rfl⟩
  obtain ⟨z, hz⟩ := gE (v1v (l.take i)) (m - 1)
  refine dv 8 fun K K' => ?_
  refine r6r (b := 1) rfl rfl (by omega) (by omega) ?_
  refine z1z (j := m - 1) rfl rfl v8v rfl z4z rfl rfl (z3z (d4w m2 (by omega) hz)) ?_
  refine a0d rfl z4z rfl (d4w m2 (by omega) hz) rfl rfl ?_
  refine z1z (j := m) rfl rfl v8v rfl z4z rfl rfl (z3z (d0k m2)) ?_
  refine v6v (el' := z) rfl rfl z4z rfl rfl rfl (d0k m2) rfl (a5v _) rfl rfl ?_
  refine dv 2 ?_
  refine r6r (b := 1) rfl rfl (by omega) (by omega) (dv 1 ?_)
  exact ⟨(m - 1, z), ⟨⟨by dsimp only; omega, by dsimp only; omega⟩, (by dsimp only; omega)⟩, [], x7x, x7x, (HE.row rfl (by rw [e7t m2 (by omega) hz]) HE.nil), x5x, rfl⟩
end
section
theorem a2t (c : Bool) (l : La) (f t : Nat) (hlen : l.done.length ≤ 1000000) (hf : f ≤ 1000000) (ht : t ≤ 1000000) (hb : ∀ p ∈ l.done, p.sends.length ≤ 1000000 ∧ p.outs.length ≤ 1000000) : a0g Tryz.prog 110 [.agg (q2q c l), .pv (.int .i64 (f : Int)), .pv (.int .i64 (t : Int))] (.agg (q2q true (a1s l f t))) := by
 refine pX Tryz.f110 [.agg (q2q true (a1s l f t))] 11 ?_
 refine dv 1 ?_
 refine x9x (id := 0) rfl rfl rfl (x3x (id := 1) a0c a6u rfl (dv 5 ?_))
 refine rlB a0c a6u ?_
 refine x3x (id := 2) a0c a6u rfl (dv 6 fun K K' => ?_)
 refine w1w 2 4 10 58 12 rfl rfl rfl rfl rfl ?_
 refine x6x (ι := Nat) (fun i γ1 => [(8, pI (i : Int))]) (fun i γ1 => [(10, ((γ1 10), .row 58 12 (((l.done.take i).drop f).map (a1l true)))), (2, ((0 + 1), .box 44 [pI l.proc, pI l.base.x, pI l.base.y, pI l.base.count, .ref 10 (γ1 10)])), (3, ((γ1 3), .dead)), (4, ((γ1 4), .dead)), (5, ((γ1 5), .dead)), (6, ((γ1 6), .dead)), (7, ((γ1 7), .dead)), (8, ((γ1 8), .dead)), (9, ((γ1 9), .dead))]) (fun i => f ≤ i ∧ (i = f ∨ (i ≤ t ∧ i ≤ l.done.length))) (fun i => l.done.length - i) (r7r [2, 3, 6, 7] rfl) (a1m [0, 1] rfl) f ⟨Nat.le_refl _, .inl rfl⟩ [0, 0, 0, _, _, _, _, _, _, _, _] x7x (HE.row rfl (by rw [List.drop_of_length_le (by rw [List.length_take]; omega)]; rfl) (HE.box rfl rfl (HE.kill rfl (HE.kill rfl (HE.kill rfl (HE.kill rfl (HE.kill rfl (HE.kill rfl (HE.kill rfl HE.nil))))))))) rfl fun i γ1 hi => ?_
 obtain ⟨k1, k2⟩ := hi
 refine dc 6 (fun K K' => aS ?_ ?_)<;>intro h<;>try simp at h
 ·refine dv 6 ?_
  have hfin : (l.done.take i).drop f = (l.done.take t).drop f := c7n k1 k2 (by omega)
  refine dv 5 ?_
  rw [a1s, ← hfin]
  exact ⟨_, _, rfl, .agg rfl (.cl rfl (.cl rfl (.cl rfl (.cl rfl (.ref rfl (Le.ow_map _ (fun _ => rfl) (fun _ => rfl)) .nil))))) .nil⟩
 refine dc 6 (aS ?_ ?_)<;>intro h<;>try simp at h
 ·have hfin : (l.done.take i).drop f = (l.done.take t).drop f := c7n k1 k2 (by omega)
  refine dv 5 ?_
  rw [a1s, ← hfin]
  exact ⟨_, _, rfl, .agg rfl (.cl rfl (.cl rfl (.cl rfl (.cl rfl (.ref rfl (Le.ow_map _ (fun _ => rfl) (fun _ => rfl)) .nil))))) .nil⟩
 obtain ⟨p, hp⟩ := gE l.done i
 have g1 : i < t := by omega
 obtain ⟨hps, hpo⟩ := hb p (List.mem_of_getElem? hp)
 refine dv 9 fun K K' => ?_
 refine x3x (id := 3) a4h b9y rfl (dv 5 ?_)
 refine y8y (out := .agg (z2z p.ev)) rfl z4z rfl rfl ?_
 refine dv 1 ?_
 refine y8y (out := .agg (a0s p.after)) rfl a4s rfl rfl ?_
 refine y1y (id := 4) v8v rfl z4z rfl (dv 2 ?_)
 refine a1h v9v (zs := (p.sends).map z2z) rfl rfl v8v rfl z4z rfl rfl rfl (z9z (fun _ => rfl) _) rfl (by (simp only [s2s, r5r, s1s, s3s, a0l, a2z, b3c, T56]; omega)) (Le.ow_map _ (fun _ => rfl) (fun _ => rfl)) ?_
 refine y1y (id := 6) a0h rfl w4w rfl (dv 2 ?_)
 refine a1h v9v (zs := (p.outs).map p9p) rfl rfl a0h rfl w4w rfl rfl rfl (z9z (fun _ => rfl) _) rfl (by (simp only [s2s, r5r, s1s, s3s, a0l, a2z, b3c, T141]; omega)) (Le.ow_map _ (fun _ => rfl) (fun _ => rfl)) ?_
 refine rlB a4h b9y ?_
 refine y6y (id := 8) a8l rfl a4h rfl rfl rfl rfl rfl rfl ?_
 refine y7y (zs := ((l.done.take i).drop f ++ [p]).map (a1l true)) rfl rfl a8l rfl a4h rfl rfl rfl rfl (by rfl) (z8z _ _ _) (by (simp only [s2s, r5r, s1s, s3s, a0l, a2z, b3c, T58]; omega)) ?_
 refine dv 4 ?_
 refine x8x (b := 1) rfl rfl (by omega) (dv 1 ?_)
 exact ⟨i + 1, ⟨⟨by omega, .inr ⟨by omega, by omega⟩⟩, by omega⟩, [0, 0, 0, _, _, _, _, _, _, _, _], x7x, x7x, (HE.row rfl (by rw [z5z hp, List.drop_append_of_le_length (by rw [List.length_take]; omega)]) (HE.box rfl rfl (HE.kill rfl (HE.kill rfl (HE.kill rfl (HE.kill rfl (HE.kill rfl (HE.kill rfl (HE.kill rfl HE.nil))))))))), x5x, rfl⟩
theorem a5q (c : Bool) (n : Nd) (hl : n.lanes.length ≤ 1000000) (hk : n.kept.length ≤ 1000000) (ho : n.outs.length ≤ 1000000) (hd : ∀ l ∈ n.lanes, lb l) : Meth Tryz.prog 155 3 [] [.agg (u1u c n)] [(0, (0, .dead)), (1, (0, .dead)), (2, (0, .dead))] (.agg [pI n.id, .pv (.bool n.up), pI n.inc, pI n.g, .ref 0 0, a0t true n.kept, r9r true n.outs, pI n.led, pI 0, .ref 1 0, .ref 2 0, pI 0, pI 41]) [(0, (0, .row 44 5 ((n.lanes.map q1q).map (q2q true)))), (1, (0, .row 190 3 ([vi0, vi0, vi0].map (a3g true)))), (2, (0, .row 3 1 ([0, 0, 0].map a3u)))] := by
 refine mX Tryz.f155 [.agg [pI n.id, .pv (.bool n.up), pI n.inc, pI n.g, .ref 0 0, a0t true n.kept, r9r true n.outs, pI n.led, pI 0, .ref 1 0, .ref 2 0, pI 0, pI 41]] 3 13 fun γ => ?_
 refine dv 1 ?_
 refine x9x (id := 3) rfl rfl rfl (x3x (id := 4) u3u p5p rfl (dv 9 ?_))
 refine y1y (id := 5) v8v rfl z4z rfl (dv 2 ?_)
 refine a1h v9v (zs := (n.kept).map z2z) rfl rfl v8v rfl z4z rfl rfl rfl (z9z (fun _ => rfl) _) rfl (by (simp only [s2s, r5r, s1s, s3s, a0l, a2z, b3c, T56]; omega)) (Le.ow_map _ (fun _ => rfl) (fun _ => rfl)) ?_
 refine y1y (id := 7) a0h rfl w4w rfl (dv 2 ?_)
 refine a1h v9v (zs := (n.outs).map p9p) rfl rfl a0h rfl w4w rfl rfl rfl (z9z (fun _ => rfl) _) rfl (by (simp only [s2s, r5r, s1s, s3s, a0l, a2z, b3c, T141]; omega)) (Le.ow_map _ (fun _ => rfl) (fun _ => rfl)) ?_
 refine dv 2 ?_
 refine rlB u3u p5p ?_
 refine x3x (id := 9) u3u p5p rfl (dv 5 fun K K' => ?_)
 refine w1w 9 4 0 44 5 rfl rfl rfl rfl rfl ?_
 refine x6x (ι := Nat) (fun i γ1 => [(4, pI (i : Int))]) (fun i γ1 => [(0, ((γ1 0), .row 44 5 (((n.lanes.take i).map q1q).map (q2q true)))), (9, ((0 + 1), .box 65 [pI n.id, .pv (.bool n.up), pI n.inc, pI n.g, .ref 0 (γ1 0), a0t true n.kept, r9r true n.outs, pI n.led, pI 0, .pv (.slice none 0 0), .pv (.slice none 0 0), pI 0, pI 41])), (10, ((γ1 10), .dead)), (11, ((γ1 11), .dead))]) (fun i => i ≤ n.lanes.length) (fun i => n.lanes.length - i) (r7r [1, 2, 3] rfl) (a1m [1, 2, 3, 4, 5, 6, 7, 8, 12, 13, 14, 15] rfl) 0 (by omega) [_, 0, 0, 0, 0, 0, 0, 0, 0, 0, _, _] x7x (HE.row rfl (by rw [List.take_zero]; rfl) (HE.box rfl rfl (HE.kill rfl (HE.kill rfl HE.nil)))) rfl fun i γ1 hi => ?_
 refine dc 7 (fun K K' => aI ?_ ?_)<;>intro h<;>try simp at h
 ·obtain ⟨a, ha⟩ := gE n.lanes i
  have had := hd a (List.mem_of_getElem? ha)
  refine dv 11 fun K K' => ?_
  refine x0x rfl rfl rfl (a2t c a 0 0 had.1 (by omega) (by omega) had.2) ?_
  refine y6y (id := 10) a7t rfl a0c rfl rfl rfl rfl rfl rfl ?_
  refine y7y (zs := ((n.lanes.take i).map q1q ++ [q1q a]).map (q2q true)) rfl rfl a7t rfl a0c rfl rfl rfl rfl (by rfl) (z8z _ _ _) (by (simp only [s2s, r5r, s1s, s3s, a0l, a2z, b3c, T44]; omega)) ?_
  refine dv 4 ?_
  refine v0v rfl rfl rfl (dv 1 ?_)
  exact ⟨i + 1, ⟨by omega, by omega⟩, [_, 0, 0, 0, 0, 0, 0, 0, 0, 0, _, _], (Cov.cons' (t := 4) rfl (by rw [y4y (by omega) (by omega)]; rfl) Cov.nil), x7x, (HE.row rfl (by simp only [z5z ha, List.map_append, List.map_cons, List.map_nil]) (HE.box rfl rfl (HE.kill rfl (HE.kill rfl HE.nil)))), x5x, rfl⟩
 obtain rfl : i = n.lanes.length := by omega
 refine dv 5 fun K K' => ?_
 refine w1w 9 9 1 190 3 rfl rfl rfl rfl rfl (w1w 9 10 2 3 1 rfl rfl rfl rfl rfl ?_)
 refine x6x (ι := Nat) (fun i γ2 => [(5, pI (i : Int))]) (fun i γ2 => [(1, ((γ2 1), .row 190 3 ((List.range i).map fun _ => b1q))), (2, ((γ2 2), .row 3 1 ((List.range i).map fun _ => a3u 0))), (9, ((0 + 1), .box 65 [pI n.id, .pv (.bool n.up), pI n.inc, pI n.g, .ref 0 (γ1 0), a0t true n.kept, r9r true n.outs, pI n.led, pI 0, .ref 1 (γ2 1), .ref 2 (γ2 2), pI 0, pI 41])), (12, ((γ2 12), .dead)), (13, ((γ2 13), .dead)), (14, ((γ2 14), .dead)), (15, ((γ2 15), .dead))]) (fun i => i ≤ 3) (fun i => 3 - i) (r7r [2, 3] rfl) (a1m [0, 3, 4, 5, 6, 7, 8, 10, 11] rfl) 0 (by omega) [0, _, _, 0, 0, 0, 0, 0, 0, 0, 0, 0, _, _, _, _] x7x x5x rfl fun i γ2 hi => ?_
 refine dc 4 (fun K K' => aS ?_ ?_)<;>intro h<;>try simp at h
 ·obtain rfl : i = 3 := by omega
  rw [List.take_length]
  refine dv 4 ?_
  refine c9u (f := fun _ => b1q) (f' := fun _ => a3g true vi0) (l := List.range 3) 1 rfl (fun _ => .same (.same (.le rfl .nil rfl .nil))) ?_
  refine dv 1 ?_
  exact ⟨[_, _, _], rfl, rfl, x5x⟩
 refine dv 6 fun K K' => ?_
 refine rlB r8r a6e ?_
 refine y6y (id := 12) a9w rfl r8r rfl rfl rfl rfl rfl rfl ?_
 refine y7y (zs := (List.range i).map (fun _ => b1q) ++ [b1q]) rfl rfl a9w rfl r8r rfl rfl rfl rfl (by rfl) rfl (by (simp only [s2s, r5r, s1s, s3s, a0l, a2z, b3c, T190]; omega)) ?_
 refine dv 5 ?_
 refine a6g (id := 14) s4s rfl r1r rfl rfl rfl rfl rfl ?_
 refine y7y (zs := (List.range i).map (fun _ => a3u 0) ++ [a3u 0]) rfl rfl s4s rfl r1r rfl rfl rfl rfl (by rfl) rfl (by (simp only [s2s, r5r, s1s, s3s, a0l, a2z, b3c, T3]; omega)) ?_
 refine dv 4 ?_
 refine v0v rfl rfl rfl (dv 1 ?_)
 exact ⟨i + 1, ⟨by omega, by omega⟩, [0, _, _, 0, 0, 0, 0, 0, 0, 0, 0, 0, _, _, _, _], (Cov.cons' (t := 5) rfl (by rw [y4y (by omega) (by omega)]; rfl) Cov.nil), x7x, (HE.row rfl (by rw [List.range_succ, List.map_append]; rfl) (HE.row rfl (by rw [List.range_succ, List.map_append]; rfl) (HE.box rfl rfl (HE.kill rfl (HE.kill rfl (HE.kill rfl (HE.kill rfl HE.nil))))))), x5x, rfl⟩
end
section
theorem a5i (c : Bool) (l : La) (h : lb l) : a0g Tryz.prog 110 [.agg (q2q c l), .pv (.int .i64 ((0 : Nat) : Int)), .pv (.int .i64 (l.done.length : Int))] (.agg (q2q true l)) := by
 have := a2t c l 0 l.done.length h.1 (by omega) h.1 h.2
 rw [b5y] at this
 exact this
theorem y2y (c : Bool) (n : Nd) (h : nb n) : Meth Tryz.prog 161 3 [] [.agg (u1u c n)] [(0, (0, .dead)), (1, (0, .dead)), (2, (0, .dead))] (.agg [pI n.id, .pv (.bool n.up), pI n.inc, pI n.g, .ref 0 0, a0t true n.kept, r9r true n.outs, pI n.led, pI n.version, .ref 1 0, .ref 2 0, pI n.round, pI n.low]) [(0, (0, .row 44 5 ((n.lanes).map (q2q true)))), (1, (0, .row 190 3 ((n.views).map (a3g true)))), (2, (0, .row 3 1 (n.known.map a3u)))] := by
 refine mX Tryz.f161 [.agg [pI n.id, .pv (.bool n.up), pI n.inc, pI n.g, .ref 0 0, a0t true n.kept, r9r true n.outs, pI n.led, pI n.version, .ref 1 0, .ref 2 0, pI n.round, pI n.low]] 3 10 fun γ => ?_
 obtain ⟨b1, b2, b3, b4, b5, b6, b7⟩ := h
 refine dv 1 ?_
 refine x9x (id := 3) rfl rfl rfl (x3x (id := 4) u3u p5p rfl (dv 2 ?_))
 refine rlM [0, 11, 12] [_, _, _] (a5q c n b1 b2 b3 b4) rfl rfl rfl ?_
 refine x3x (id := 5) u3u p5p rfl (dv 5 fun K K' => ?_)
 refine x6x (ι := Nat) (fun i γ1 => [(4, pI (i : Int))]) (fun i γ1 => [(0, ((γ 0 + 1), .row 44 5 ((n.lanes.take i ++ (n.lanes.drop i).map q1q).map (q2q true))))]) (fun i => i ≤ n.lanes.length) (fun i => n.lanes.length - i) (r7r [1, 2, 3] rfl) (a1m [1, 2, 3, 4, 5, 6, 7, 8, 9, 10, 11, 12] rfl) 0 (by omega) [] x7x (HE.row rfl (by rw [List.take_zero, List.drop_zero]; rfl) HE.nil) rfl fun i γ1 hi => ?_
 refine dc 7 (fun K K' => aI ?_ ?_)<;>intro o<;>try simp at o
 ·obtain ⟨p, hp⟩ := gE n.lanes i
  have hpl := b4 p (List.mem_of_getElem? hp)
  have hAl : ((n.lanes.take i).map (q2q true)).length = i := by rw [List.length_map, List.length_take]; omega
  rw [p1p hp, List.map_cons, List.map_append, List.map_cons]
  refine dv 19 fun K K' => ?_
  refine x0x rfl rfl rfl (a5i c p hpl) (b2l rfl rfl a7t rfl a0c rfl rfl hAl (a9x hAl rfl rfl a0c rfl rfl rfl rfl (q8q rfl) rfl ?_))
  refine dv 2 ?_
  refine v0v rfl rfl rfl (dv 1 ?_)
  exact ⟨i + 1, ⟨by omega, by omega⟩, [], (Cov.cons' (t := 4) rfl (by rw [y4y (by omega) (by omega)]; rfl) Cov.nil), x7x, (HE.row rfl (by simp only [z5z hp, List.map_append, List.append_assoc]; rfl) HE.nil), x5x, rfl⟩
 obtain rfl : i = n.lanes.length := by omega
 rw [List.take_length, List.drop_length, List.map_nil, List.append_nil]
 refine dv 17 ?_
 refine y1y (id := 1) a9w rfl r8r rfl (dv 6 fun K K' => ?_)
 refine x6x (ι := Nat) (fun j γ2 => [(5, pI (j : Int))]) (fun j γ2 => [(1, ((γ2 1), .row 190 3 ((n.views.take j).map (a3g true)))), (5, ((0 + 1), .box 65 [pI n.id, .pv (.bool n.up), pI n.inc, pI n.g, .ref 0 (γ 0 + 1), a0t true n.kept, r9r true n.outs, pI n.led, pI n.version, .ref 1 (γ2 1), .ref 12 (0 + 1), pI n.round, pI n.low])), (6, ((γ2 6), .dead)), (7, ((γ2 7), .dead)), (8, ((γ2 8), .dead)), (9, ((γ2 9), .dead))]) (fun j => j ≤ n.views.length) (fun j => n.views.length - j) (r7r [1, 2, 3] rfl) (a1m [0, 2, 3, 4, 10, 11, 12] rfl) 0 (by omega) [0, _, 0, 0, 0, 0, _, _, _, _] x7x (HE.row rfl (by rw [List.take_zero]; rfl) (HE.box rfl rfl (HE.kill rfl (HE.kill rfl (HE.kill rfl (HE.kill rfl HE.nil)))))) rfl fun j γ2 hi => ?_
 refine dc 7 (fun K K' => aS ?_ ?_)<;>intro o<;>try simp at o
 ·obtain rfl : j = n.views.length := by omega
  rw [List.take_length]
  refine dv 2 ?_
  refine y1y (id := 2) s4s rfl r1r rfl (dv 2 ?_)
  refine p0p (zs := n.known.map a3u) rfl rfl s4s rfl r1r rfl rfl rfl (z9z (fun _ => rfl) _) rfl (by (simp only [s2s, r5r, s1s, s3s, a0l, a2z, b3c, T3]; omega)) ?_
  refine dv 6 ?_
  exact ⟨[_, _, _], rfl, rfl, x5x⟩
 obtain ⟨v, hv⟩ := gE n.views j
 have hve := b6 v (List.mem_of_getElem? hv)
 refine dv 18 fun K K' => ?_
 refine y1y (id := 6) v8v rfl z4z rfl (dv 6 ?_)
 refine a1h v9v (zs := (v.events).map z2z) rfl rfl v8v rfl z4z rfl rfl rfl (z9z (fun _ => rfl) _) rfl (by (simp only [s2s, r5r, s1s, s3s, a0l, a2z, b3c, T56]; omega)) (Le.ow_map _ (fun _ => rfl) (fun _ => rfl)) ?_
 refine rlB r8r a6e ?_
 refine y6y (id := 8) a9w rfl r8r rfl rfl rfl rfl rfl rfl ?_
 refine y7y (zs := (n.views.take j ++ [v]).map (a3g true)) rfl rfl a9w rfl r8r rfl rfl rfl rfl (by rfl) (z8z _ _ _) (by (simp only [s2s, r5r, s1s, s3s, a0l, a2z, b3c, T190]; omega)) ?_
 refine dv 4 ?_
 refine v0v rfl rfl rfl (dv 1 ?_)
 exact ⟨j + 1, ⟨by omega, by omega⟩, [0, _, 0, 0, 0, 0, _, _, _, _], (Cov.cons' (t := 5) rfl (by rw [y4y (by omega) (by omega)]; rfl) Cov.nil), x7x, (HE.row rfl (by rw [z5z hv]) (HE.box rfl rfl (HE.kill rfl (HE.kill rfl (HE.kill rfl (HE.kill rfl HE.nil)))))), x5x, rfl⟩
end
section
theorem a9j (c c' : Bool) (l : La) (s : List Ev) : a0g Tryz.prog 148 [.agg (q2q c l), a0t c' s] (.pv (.int .i64 (same l.done s : Int))) := by
 refine pX Tryz.f148 [.pv (.int .i64 (same l.done s : Int))] 1 ?_
 refine u2u 1 rfl fun hlen => ?_
 refine dv 1 ?_
 refine x9x (id := 0) rfl rfl rfl (dv 5 fun K K' => ?_)
 refine x6x (ι := Nat) (fun i γ1 => [(5, pI (i : Int))]) (fun i γ1 => []) (fun i => i ≤ l.done.length ∧ i ≤ s.length ∧ same l.done s = i + same (l.done.drop i) (s.drop i)) (fun i => l.done.length - i) (r7r [1, 2] rfl) (p6p 0 rfl HE.nil) 0 ⟨by omega, by omega, by rw [List.drop_zero, List.drop_zero, Nat.zero_add]⟩ [] x7x x5x rfl fun i γ1 hi => ?_
 obtain ⟨h1, h2, h3⟩ := hi
 refine dc 8 (fun K K' => aS ?_ ?_)<;>intro o<;>try simp at o
 ·have g1 : l.done.length ≤ i := by omega
  refine dv 23 ?_
  refine x2x rfl ?_ rfl
  exact congrArg (fun v : Nat => [AV.pv (.int .i64 (v : Int))]) (h3.trans (by rw [d0h g1]; rfl)).symm
 have g1 : i < l.done.length := by omega
 obtain ⟨p, hp⟩ := gE l.done i
 refine dc 6 (aS ?_ ?_)<;>intro o<;>try simp at o
 ·have g2 : s.length ≤ i := by omega
  refine dv 17 ?_
  refine x2x rfl ?_ rfl
  exact congrArg (fun v : Nat => [AV.pv (.int .i64 (v : Int))]) (h3.trans (by rw [d0i g2]; rfl)).symm
 have g2 : i < s.length := by omega
 obtain ⟨e, he⟩ := gE s i
 refine dv 5 ?_
 refine u4u (out := .agg (z2z p.ev)) rfl z4z rfl ?_
 refine dv 3 ?_
 refine u4u (out := .agg (z2z e)) rfl z4z rfl ?_
 refine dv 0 ?_
 refine a9c rfl rfl (by intro a c h; cases h) (.inl rfl) (f0l _ _ _ _) ?_
 refine dc 1 (aI ?_ ?_)<;>intro hc5<;>try simp at hc5
 ·try have heq : p.ev = e := by simpa [a2j] using hc5
  refine dv 4 ?_
  refine x8x (b := 1) rfl rfl (by omega) (dv 1 ?_)
  exact ⟨i + 1, ⟨⟨by omega, by omega, by rw [h3, d0f hp he heq]; omega⟩, by omega⟩, [], x7x, x7x, x5x, x5x, rfl⟩
 try have heq : ¬ p.ev = e := by simpa [a2j] using hc5
 refine dv 5 ?_
 refine x2x rfl ?_ rfl
 exact congrArg (fun v : Nat => [AV.pv (.int .i64 (v : Int))]) (h3.trans (by rw [d0g hp he heq]; rfl)).symm
theorem b4z (c : Bool) (n : Nd) (hs : (a0x n).length ≤ 5000000) (hlen : n.lanes.length ≤ 1048576) : Meth Tryz.prog 228 1 [] [.agg (u1u c n)] [(0, (0, .dead))] (.ref 0 0) [(0, (0, .row 56 7 ((a0x n).map z2z)))] := by
 refine mX Tryz.f228 [.ref 0 0] 1 3 fun γ => ?_
 have hkl : n.kept.length ≤ 5000000 := by simp only [a0x, r5r] at hs; omega
 refine dv 1 ?_
 refine x9x (id := 1) rfl rfl rfl (dv 2 ?_)
 refine y1y (id := 0) v8v rfl z4z rfl (dv 2 ?_)
 refine p0p (zs := n.kept.map z2z) rfl rfl v8v rfl z4z rfl rfl rfl (z9z (fun _ => rfl) _) rfl (by have hb56 : T56.bytes = 56 := rfl; rw [List.length_map, hb56]; omega) ?_
 refine dv 5 fun K K' => ?_
 refine x6x (ι := Nat) (fun i γ1 => [(3, .ref 0 (γ1 0)), (4, pI (i : Int))]) (fun i γ1 => [(0, ((γ1 0), .row 56 7 ((n.kept ++ (n.lanes.take i).flatMap b0d).map z2z))), (3, ((γ1 3), .dead))]) (fun i => i ≤ n.lanes.length) (fun i => n.lanes.length - i) (y0y 1 rfl Cov.nil) (a1m [1, 2] rfl) 0 (by omega) [_, 0, 0, _] x7x (HE.row rfl (by simp) (HE.kill rfl HE.nil)) rfl fun i γ1 hi => ?_
 refine dc 7 (fun K K' => aS ?_ ?_)<;>intro o<;>try simp at o
 ·obtain rfl : i = n.lanes.length := by omega
  refine dv 5 ?_
  exact ⟨[_], rfl, rfl, HE.row rfl (by rw [List.take_length]; rfl) HE.nil⟩
 obtain ⟨p, hp⟩ := gE n.lanes i
 refine dv 6 fun K K' => ?_
 refine x6x (ι := Nat) (fun j γ2 => [(3, .ref 0 (γ2 0)), (5, pI (j : Int))]) (fun j γ2 => [(0, ((γ2 0), .row 56 7 ((n.kept ++ (n.lanes.take i).flatMap b0d ++ (p.done.take j).flatMap Pa.sends).map z2z))), (3, ((γ2 3), .dead))]) (fun j => j ≤ p.done.length) (fun j => p.done.length - j) (r7r [1, 4] rfl) (a1m [1, 2] rfl) 0 (by omega) [_, 0, 0, _] x7x (HE.row rfl (by simp) (HE.kill rfl HE.nil)) rfl fun j γ2 hi => ?_
 refine dc 11 (fun K K' => aS ?_ ?_)<;>intro o<;>try simp at o
 ·obtain rfl : j = p.done.length := by omega
  refine dv 3 ?_
  refine v0v rfl rfl rfl (dv 1 ?_)
  exact ⟨i + 1, ⟨by omega, by omega⟩, [_, 0, 0, _], (y0y 3 rfl (Cov.cons' (t := 4) rfl (by rw [y4y (by omega) (by omega)]; rfl) Cov.nil)), x7x, (HE.row rfl (by simp only [a5g hp, List.append_assoc, b0d, List.take_length]) (HE.kill rfl HE.nil)), x5x, rfl⟩
 obtain ⟨q, hq⟩ := gE p.done j
 have hsp := d0c hp hq
 refine dv 15 fun K K' => ?_
 refine p0p (zs := (n.kept ++ (n.lanes.take i).flatMap b0d ++ (p.done.take j).flatMap Pa.sends ++ q.sends).map z2z) rfl rfl v8v rfl z4z rfl rfl rfl (z9z (fun _ => rfl) _) (a9d _ _ _) (by have hb56 : T56.bytes = 56 := rfl; rw [List.length_map, hb56]; omega) ?_
 refine dv 1 ?_
 refine u2u 23 rfl fun hlen2 => ?_
 refine dv 2 ?_
 refine v0v rfl rfl rfl (dv 1 ?_)
 exact ⟨j + 1, ⟨by omega, by omega⟩, [_, 0, 0, _], (y0y 3 rfl (Cov.cons' (t := 5) rfl (by rw [y4y (by omega) (by omega)]; rfl) Cov.nil)), x7x, (HE.row rfl (by simp only [a5g hq, List.append_assoc]) (HE.kill rfl HE.nil)), x5x, rfl⟩
end
section
theorem c4m (c c' : Bool) (l : La) (s : List Ev) : a0g Tryz.prog 291 [.agg (q2q c l), a0t c' s] (.pv (.bool (kb (b2s l s)))) := by
 refine pX Tryz.f291 [.pv (.bool (kb (b2s l s)))] 1 ?_
 refine dv 1 ?_
 refine x9x (id := 0) rfl rfl rfl (dv 4 fun K K' => ?_)
 refine x0x rfl rfl rfl (a3n ..) (x0x rfl rfl rfl (a3j ..) (dc 1 (aI ?_ ?_)))<;>intro hc2<;>try simp at hc2
 ·try have hX : ¬ a7w okE a2i s 100 = true := by simpa using hc2
  refine dv 3 ?_
  refine x2x rfl ?_ rfl
  exact congrArg (fun b : Bool => [AV.pv (.bool b)]) (a4v (fun h => hX h.1))
 have hA : a7w okE a2i s 100 = true := hc2
 refine dv 5 fun K K' => ?_
 refine u2u 1 rfl fun hlen => ?_
 refine x6x (ι := Nat) (fun i γ1 => [(5, pI (i : Int))]) (fun i γ1 => []) (fun i => i ≤ s.length ∧ c8t s (fun _ e => e.to = l.proc) i) (fun i => s.length - i) (r7r [1, 2] rfl) (p6p 0 rfl HE.nil) 0 ⟨by omega, a1f⟩ [] x7x x5x rfl fun i γ1 hi => ?_
 obtain ⟨h1, h2⟩ := hi
 refine dc 6 (fun K K' => aS ?_ ?_)<;>intro j<;>try simp at j
 ·have hall := a2x h2 (by omega)
  refine dv 4 ?_
  refine x2x rfl ?_ rfl
  exact congrArg (fun b : Bool => [AV.pv (.bool b)]) (e3w ⟨hA, fun e he => by obtain ⟨i, hi⟩ := List.getElem?_of_mem he; exact hall i e hi⟩)
 obtain ⟨e, he⟩ := gE s i
 refine dc 12 (fun K K' => aS ?_ ?_)<;>intro j<;>try simp at j
 ·have hto : e.to = l.proc := by omega
  refine dv 3 ?_
  refine x8x (b := 1) rfl rfl (by omega) (dv 1 ?_)
  exact ⟨i + 1, ⟨⟨by omega, s0s h2 he hto⟩, by omega⟩, [], x7x, x7x, x5x, x5x, rfl⟩
 have hX : ¬ e.to = l.proc := by omega
 refine dv 3 ?_
 refine x2x rfl ?_ rfl
 exact congrArg (fun b : Bool => [AV.pv (.bool b)]) (a4v (fun h => hX (h.2 e (List.mem_of_getElem? he))))
theorem b3j (c c' : Bool) (l : La) (s : List Ev) : a0g Tryz.prog 241 [.agg (q2q c l), a0t c' s] (.tup [.agg (z2z (b1z l s).1), .pv (.bool (b1z l s).2)]) := by
 refine pX Tryz.f241 [.agg (z2z (b1z l s).1), .pv (.bool (b1z l s).2)] 2 ?_
 have hsm := c0p l.done s
 refine dv 1 ?_
 refine x9x (id := 0) rfl rfl rfl (x3x (id := 1) z4z a6v rfl (dv 4 fun K K' => ?_))
 refine x0x rfl rfl rfl (a3o ..) (dc 2 (aS ?_ ?_))<;>intro hg2<;>try simp at hg2
 ·have fX : ¬ (a6r l = true ∧ b2s l s) := fun h => by have := h.1; simp_all
  refine dv 6 ?_
  refine rlB z4z a6v ?_
  refine dv 3 ?_
  (rw [d2s fX]; exact ⟨_, _, rfl, .agg rfl (.cl rfl (.cl rfl (.cl rfl (.cl rfl (.cl rfl (.cl rfl (.cl rfl .nil))))))) (.cl rfl .nil)⟩)
 have fL : a6r l = true := hg2
 refine dv 2 ?_
 refine x0x rfl rfl rfl (c4m ..) (dc 2 (aI ?_ ?_))<;>intro hc3<;>try simp at hc3
 ·have fX : ¬ (a6r l = true ∧ b2s l s) := fun h => a0w (by simpa using hc3) h.2
  refine dv 1 ?_
  refine rlB z4z a6v ?_
  refine dv 3 ?_
  (rw [d2s fX]; exact ⟨_, _, rfl, .agg rfl (.cl rfl (.cl rfl (.cl rfl (.cl rfl (.cl rfl (.cl rfl (.cl rfl .nil))))))) (.cl rfl .nil)⟩)
 have fF : a6r l = true ∧ b2s l s := ⟨fL, a0o.1 (by simpa using hc3)⟩
 refine dv 4 ?_
 refine x0x rfl rfl rfl (a9j ..) (dv 2 fun K K' => ?_)
 refine u2u 1 rfl fun hlen => ?_
 refine dc 7 (aS ?_ ?_)<;>intro j<;>try simp at j
 ·refine dv 6 ?_
  refine rlB z4z a6v ?_
  refine dv 3 ?_
  (rw [c2i fF, e0z (by omega)]; exact ⟨_, _, rfl, .agg rfl (.cl rfl (.cl rfl (.cl rfl (.cl rfl (.cl rfl (.cl rfl (.cl rfl .nil))))))) (.cl rfl .nil)⟩)
 refine dc 5 (aI ?_ ?_)<;>intro j<;>try simp at j
 ·refine dv 1 ?_
  refine rlB z4z a6v ?_
  refine dv 3 ?_
  (rw [c2i fF, e1a (by omega)]; exact ⟨_, _, rfl, .agg rfl (.cl rfl (.cl rfl (.cl rfl (.cl rfl (.cl rfl (.cl rfl (.cl rfl .nil))))))) (.cl rfl .nil)⟩)
 have hlt : same l.done s < s.length := by omega
 obtain ⟨e, he⟩ : ∃ e, s[same l.done s]? = some e := ⟨_, List.getElem?_eq_getElem hlt⟩
 refine dv 5 ?_
 refine u4u (out := .agg (z2z e)) rfl z4z rfl ?_
 refine dv 3 ?_
 (rw [c2i fF, e1b (by omega) he]; exact ⟨_, _, rfl, .agg rfl (.cl rfl (.cl rfl (.cl rfl (.cl rfl (.cl rfl (.cl rfl (.cl rfl .nil))))))) (.cl rfl .nil)⟩)
end
section
theorem a4b (c : Bool) (l : List Ou) (hl : l.length ≤ 1000000) : a0g Tryz.prog 112 [r9r c l] (r9r true (a0n l)) := by
 refine pX Tryz.f112 [r9r true (a0n l)] 6 ?_
 refine dv 3 ?_
 refine y1y (id := 0) a0h rfl w4w rfl (dv 5 fun K K' => ?_)
 refine s7s (l := ([] : List Ou)) (f := p9p) 3 rfl rfl (fun _ => rfl) ?_
 refine x6x (ι := Nat) (fun i γ1 => [(3, r9r true (a0n (l.take i))), (4, pI (i : Int))]) (fun i γ1 => [(1, ((γ1 1), .dead)), (2, ((γ1 2), .dead)), (3, ((γ1 3), .dead)), (4, ((γ1 4), .dead)), (5, ((γ1 5), .dead))]) (fun i => i ≤ l.length) (fun i => l.length - i) (y0y 0 rfl Cov.nil) (p6p 0 rfl HE.nil) 0 (by omega) [0, _, _, _, _, _] (Cov.cons' (t := 3) rfl (by rw [List.take_zero]; rfl) (y0y 4 rfl Cov.nil)) x5x rfl fun i γ1 hi => ?_
 refine dc 6 (fun K K' => aS ?_ ?_)<;>intro h<;>try simp at h
 ·obtain rfl : i = l.length := by omega
  refine dv 5 ?_
  refine x2x rfl ?_ rfl
  exact congrArg (fun l : List Ou => [r9r true l]) (by rw [List.take_length])
 obtain ⟨x, hx⟩ := gE l i
 have hol : (a0n (l.take i)).length ≤ 1000000 := by rw [b3z, List.length_take]; omega
 refine dv 7 fun K K' => ?_
 refine r0r (ι := Nat) (fun k γ2 => [(5, pI (k : Int))]) (fun k γ2 => []) (fun k => k ≤ (a0n (l.take i)).length ∧ (∀ (j : Nat) y, k ≤ j → (a0n (l.take i))[j]? = some y → b1x x y = true) ∧ (∀ y, 0 < k → (a0n (l.take i))[k - 1]? = some y → b1x x y = false)) (r7r [0, 3, 4] rfl) (a1m [0, 1, 2, 3, 4, 5] rfl) ?_ fun k γ2 hi => ?_
 ·refine dv 1 ?_
  refine x6x (ι := Nat) (fun k γ3 => [(5, pI (k : Int))]) (fun k γ3 => []) (fun k => k ≤ (a0n (l.take i)).length ∧ (∀ (j : Nat) y, k ≤ j → (a0n (l.take i))[j]? = some y → b1x x y = true)) (fun k => k) (r7r [0, 3, 4] rfl) (a1m [0, 1, 2, 3, 4, 5] rfl) (a0n (l.take i)).length ⟨Nat.le_refl _, fun j y hj hy => by have := (List.getElem?_eq_some_iff.1 hy).1; omega⟩ [] x7x x5x rfl fun k γ3 hi => ?_
  obtain ⟨k1, k2⟩ := hi
  refine dc 5 (fun K K' => aS ?_ ?_)<;>intro h<;>try simp at h
  ·have k0 : k = 0 := by omega
   refine dv 12 ?_
   exact ⟨k, ⟨k1, k2, fun y2 h0 h2 => by omega⟩, [], x7x, x7x, x5x, x5x, rfl⟩
  have k0 : 0 < k := by omega
  obtain ⟨y, hy⟩ := gE (a0n (l.take i)) (k - 1)
  refine dv 6 ?_
  refine r6r (b := 1) rfl rfl (by omega) (by omega) (dv 2 ?_)
  refine x0x rfl rfl rfl (b4y ..) (dc 1 (aS ?_ ?_))<;>intro hc7<;>try simp at hc7
  ·try have hlt := hc7
   refine dv 1 ?_
   exact ⟨k, ⟨k1, k2, fun y2 h0 h2 => by (rw [hy] at h2; cases h2; exact hlt)⟩, [], x7x, x7x, x5x, x5x, rfl⟩
  try have hlt := hc7
  refine dv 4 ?_
  refine r6r (b := 1) rfl rfl (by omega) (by omega) (dv 1 ?_)
  exact ⟨k - 1, ⟨⟨by omega, fun j y2 hj hy2 => by by_cases hjk : j = k - 1; (subst hjk; rw [hy] at hy2; cases hy2; exact hlt); exact k2 j y2 (by omega) hy2⟩, by omega⟩, [], x7x, x7x, x5x, x5x, rfl⟩
 ·try dsimp only [b3d, b3e]
  obtain ⟨c1, c2, c3⟩ := hi
  have hin := (d2u hx).trans (f0a f3a (e1d _) c2 c3 c1)
  refine dv 1 ?_
  refine y1y (id := 1) a0h rfl w4w rfl (dv 2 ?_)
  refine c0m rfl a0h rfl w4w rfl rfl rfl (by omega) (by omega) (by omega) ?_
  refine p0p (zs := ((a0n (l.take i)).take k).map p9p) rfl rfl a0h rfl w4w rfl rfl rfl (z9z (fun _ => rfl) _) (by simp) (by (simp only [s2s, r5r, s1s, s3s, a0l, b3c, T141]; omega)) ?_
  refine dv 4 ?_
  refine y6y (id := 3) a0h rfl w4w rfl rfl rfl rfl rfl rfl ?_
  refine y7y (zs := ((a0n (l.take i)).take k ++ [x]).map p9p) rfl rfl a0h rfl w4w rfl rfl rfl rfl (by rfl) (z8z _ _ _) (by (simp only [s2s, r5r, s1s, s3s, a0l, b3c, T141]; omega)) ?_
  refine dv 2 ?_
  refine c0m rfl a0h rfl w4w rfl rfl rfl (by omega) (by (rw [List.length_map]; omega)) (by (rw [List.length_map]; omega)) ?_
  refine a1h v9v (zs := ((a0n (l.take i)).take k ++ x :: (a0n (l.take i)).drop k).map p9p) rfl rfl a0h rfl w4w rfl rfl rfl (z9z (fun _ => rfl) _) (by simp) (by (simp only [s2s, r5r, s1s, s3s, a0l, b3c, T141]; omega)) (Le.ow_map _ (fun _ => rfl) (fun _ => rfl)) ?_
  refine dv 3 ?_
  refine x8x (b := 1) rfl rfl (by omega) (dv 1 ?_)
  exact ⟨i + 1, ⟨by omega, by omega⟩, [0, _, _, _, _, _], (Cov.cons' (t := 3) rfl (by rw [hin]; rfl) (y0y 4 rfl Cov.nil)), x7x, x5x, x5x, rfl⟩
end
section
theorem c4n (c : Bool) (l : La) : a0g Tryz.prog 31 [.agg (q2q c l)] (.agg (a0s (e8d l))) := by
 refine pX Tryz.f31 [.agg (a0s (e8d l))] 2 ?_
 refine dv 1 ?_
 refine x9x (id := 0) rfl rfl rfl (x3x (id := 1) a4s c9g rfl (dv 3 fun K K' => ?_))
 refine x0x rfl rfl rfl (a3o ..) (dc 1 (aI ?_ ?_))<;>intro hc2<;>try simp at hc2
 ·have fX : ¬ a6r l = true := by simpa using hc2
  refine dv 1 ?_
  refine rlB a4s c9g ?_
  refine dv 2 ?_
  (rw [f3w fX]; exact a9e rfl rfl rfl rfl)
 have fL : a6r l = true := hc2
 have hl1 := (a2s fL).1
 refine dc 7 (fun K K' => aI ?_ ?_)<;>intro hc4<;>try simp at hc4
 ·have h0 : l.done.length = 0 := by (rw [hc4]; rfl)
  refine dv 2 ?_
  refine y8y (out := .agg (a0s l.base)) rfl a4s rfl rfl ?_
  refine dv 2 ?_
  (rw [f3x fL h0]; exact a9e rfl rfl rfl rfl)
 have h1 : 0 < l.done.length := List.length_pos_iff.2 hc4
 obtain ⟨p, hp⟩ := gE l.done (l.done.length - 1)
 refine dv 7 ?_
 refine r6r (b := 1) rfl rfl (by omega) (by omega) (dv 2 ?_)
 refine u4u (out := .agg (a0s p.after)) rfl a4s rfl ?_
 refine dv 2 ?_
 (rw [f3y fL hp]; exact a9e rfl rfl rfl rfl)
theorem b1s (c : Bool) (l : La) (f t : Nat) (hlen : l.done.length ≤ 1000000) (hf : f ≤ 1000000) (ht : t ≤ 1000000) (hb : ∀ p ∈ l.done, p.sends.length ≤ 1000000 ∧ p.outs.length ≤ 1000000) : Meth Tryz.prog 110 1 [] [.agg (q2q c l), .pv (.int .i64 (f : Int)), .pv (.int .i64 (t : Int))] [(0, (0, .dead))] (.agg [pI l.proc, pI l.base.x, pI l.base.y, pI l.base.count, .ref 0 0]) [(0, (0, .row 58 12 (((a1s l f t).done).map (a1l true))))] := by
 refine mX Tryz.f110 [.agg [pI l.proc, pI l.base.x, pI l.base.y, pI l.base.count, .ref 0 0]] 1 10 fun γ => ?_
 refine dv 1 ?_
 refine x9x (id := 1) rfl rfl rfl (x3x (id := 2) a0c a6u rfl (dv 5 ?_))
 refine rlB a0c a6u ?_
 refine x3x (id := 3) a0c a6u rfl (dv 6 fun K K' => ?_)
 refine w1w 3 4 0 58 12 rfl rfl rfl rfl rfl ?_
 refine x6x (ι := Nat) (fun i γ1 => [(8, pI (i : Int))]) (fun i γ1 => [(0, ((γ1 0), .row 58 12 (((l.done.take i).drop f).map (a1l true)))), (3, ((0 + 1), .box 44 [pI l.proc, pI l.base.x, pI l.base.y, pI l.base.count, .ref 0 (γ1 0)])), (4, ((γ1 4), .dead)), (5, ((γ1 5), .dead)), (6, ((γ1 6), .dead)), (7, ((γ1 7), .dead)), (8, ((γ1 8), .dead)), (9, ((γ1 9), .dead)), (10, ((γ1 10), .dead))]) (fun i => f ≤ i ∧ (i = f ∨ (i ≤ t ∧ i ≤ l.done.length))) (fun i => l.done.length - i) (r7r [2, 3, 6, 7] rfl) (a1m [1, 2] rfl) f ⟨Nat.le_refl _, .inl rfl⟩ [_, 0, 0, 0, _, _, _, _, _, _, _] x7x (HE.row rfl (by rw [List.drop_of_length_le (by rw [List.length_take]; omega)]; rfl) (HE.box rfl rfl (HE.kill rfl (HE.kill rfl (HE.kill rfl (HE.kill rfl (HE.kill rfl (HE.kill rfl (HE.kill rfl HE.nil))))))))) rfl fun i γ1 hi => ?_
 obtain ⟨k1, k2⟩ := hi
 refine dc 6 (fun K K' => aS ?_ ?_)<;>intro j<;>try simp at j
 ·refine dv 6 ?_
  have hfin : (l.done.take i).drop f = (l.done.take t).drop f := c7n k1 k2 (by omega)
  refine dv 5 ?_
  exact ⟨[_], rfl, rfl, HE.row rfl (by rw [hfin]; rfl) HE.nil⟩
 refine dc 6 (aS ?_ ?_)<;>intro j<;>try simp at j
 ·have hfin : (l.done.take i).drop f = (l.done.take t).drop f := c7n k1 k2 (by omega)
  refine dv 5 ?_
  exact ⟨[_], rfl, rfl, HE.row rfl (by rw [hfin]; rfl) HE.nil⟩
 obtain ⟨p, hp⟩ := gE l.done i
 have g1 : i < t := by omega
 obtain ⟨hps, hpo⟩ := hb p (List.mem_of_getElem? hp)
 refine dv 9 fun K K' => ?_
 refine x3x (id := 4) a4h b9y rfl (dv 5 ?_)
 refine y8y (out := .agg (z2z p.ev)) rfl z4z rfl rfl ?_
 refine dv 1 ?_
 refine y8y (out := .agg (a0s p.after)) rfl a4s rfl rfl ?_
 refine y1y (id := 5) v8v rfl z4z rfl (dv 2 ?_)
 refine a1h v9v (zs := (p.sends).map z2z) rfl rfl v8v rfl z4z rfl rfl rfl (z9z (fun _ => rfl) _) rfl (by (simp only [s2s, r5r, s1s, s3s, a0l, a2z, b3c, T56]; omega)) (Le.ow_map _ (fun _ => rfl) (fun _ => rfl)) ?_
 refine y1y (id := 7) a0h rfl w4w rfl (dv 2 ?_)
 refine a1h v9v (zs := (p.outs).map p9p) rfl rfl a0h rfl w4w rfl rfl rfl (z9z (fun _ => rfl) _) rfl (by (simp only [s2s, r5r, s1s, s3s, a0l, a2z, b3c, T141]; omega)) (Le.ow_map _ (fun _ => rfl) (fun _ => rfl)) ?_
 refine rlB a4h b9y ?_
 refine y6y (id := 9) a8l rfl a4h rfl rfl rfl rfl rfl rfl ?_
 refine y7y (zs := ((l.done.take i).drop f ++ [p]).map (a1l true)) rfl rfl a8l rfl a4h rfl rfl rfl rfl (by rfl) (z8z _ _ _) (by (simp only [s2s, r5r, s1s, s3s, a0l, a2z, b3c, T58]; omega)) ?_
 refine dv 4 ?_
 refine x8x (b := 1) rfl rfl (by omega) (dv 1 ?_)
 exact ⟨i + 1, ⟨⟨by omega, .inr ⟨by omega, by omega⟩⟩, by omega⟩, [_, 0, 0, 0, _, _, _, _, _, _, _], x7x, x7x, (HE.row rfl (by rw [z5z hp, List.drop_append_of_le_length (by rw [List.length_take]; omega)]) (HE.box rfl rfl (HE.kill rfl (HE.kill rfl (HE.kill rfl (HE.kill rfl (HE.kill rfl (HE.kill rfl (HE.kill rfl HE.nil))))))))), x5x, rfl⟩
theorem c3f (a : Ap) (l : La) (s : List Ev) (hA : e2f a) (hL : a6r l = true) : MethE Tryz.prog 328 0 [.agg (b7x true a), .agg (q2q true l), a0t true s] [] (ι := La × Bool) (fun S' => S'.2 = true → ∃ p, S'.1 = a2f l p ∧ l.done.length < 100 ∧ paB p) (fun S' => []) (fun S' => .tup [.agg (q2q true S'.1), .pv (.bool (S'.2))]) (fun S' => []) := by
 refine mE (ι := La × Bool) Tryz.f328 (fun S' => [.agg (q2q true S'.1), .pv (.bool (S'.2))]) 0 10 fun γ => ?_
 have hb : ∀ r ∈ a.rules, r.ops.length ≤ 1048576 := fun r hr => by obtain ⟨i, hi⟩ := List.getElem?_of_mem hr; have := (hA.2 i r hi).2.1.2.1; omega
 have hlb := e9w hL
 refine dv 1 ?_
 refine x9x (id := 0) rfl rfl rfl (x9x (id := 1) rfl rfl rfl (x3x (id := 2) a0c a6u rfl (dv 4 ?_)))
 refine x0x rfl rfl rfl (b3j true true l s) (dv 3 ?_)
 refine x3x (id := 3) z4z a6v rfl (dc 7 (fun K K' => aS ?_ ?_))<;>intro hg2<;>try simp at hg2
 ·refine dv 11 fun K K' => ?_
  refine x0x rfl rfl rfl (a3o ..) (dc 1 (aI ?_ ?_))<;>intro hc8<;>try simp at hc8
  ·exact absurd hL (by simpa using hc8)
  refine dv 6 ?_
  refine x0x rfl rfl rfl (a5i true l hlb) (dv 2 ?_)
  skip
  refine dv 1 ?_
  exact ⟨(l, false), (by intro h; simp at h), [], rfl, rfl, x5x⟩
 have hok : (b1z l s).2 = true := hg2
 refine dv 1 ?_
 refine rlB a5c b4l ?_
 refine dv 0 ?_
 refine rlB a5c b4l ?_
 refine dv 0 ?_
 refine rlB a5c b4l ?_
 refine dv 0 ?_
 refine r2r (id := 4) c6k rfl a5c rfl rfl rfl rfl (.val rfl rfl (.val rfl rfl (.val rfl rfl (.val rfl rfl .nil)))) rfl (s8s rfl) (s8s rfl) (s8s rfl) rfl rfl ?_
 refine dv 0 ?_
 refine b5s rfl rfl rfl (.ref rfl (e3h a) .nil) (a8y false (f1x a) (by intro x hx; simp only [f1x, List.mem_cons, List.not_mem_nil, or_false] at hx; rcases hx with rfl | rfl | rfl | rfl <;> first | exact hb | (intro r hr; cases hr))) (.pv _) ?_
 refine dc 2 (aI ?_ ?_)<;>intro j<;>try simp at j
 ·refine dv 3 fun K K' => ?_
  refine x0x rfl rfl rfl (a3o ..) (dc 1 (aI ?_ ?_))<;>intro hc5<;>try simp at hc5
  ·exact absurd hL (by simpa using hc5)
  refine dv 6 ?_
  refine x0x rfl rfl rfl (a5i true l hlb) (dv 2 ?_)
  skip
  refine dv 1 ?_
  exact ⟨(l, false), (by intro h; simp at h), [], rfl, rfl, x5x⟩
 have hroom := e3g hok
 refine dv 1 ?_
 refine d3e 4 (b4t v9v 0 4 rfl rfl ?_)
 refine dv 2 ?_
 refine x0x rfl rfl rfl (c4n true l) (dv 1 ?_)
 refine b4t v9v 9 1 rfl rfl ?_
 refine x3x (id := 5) a4s c9g rfl (b6f c1k (by rfl) [] [] (c8j a (e8d l) (b1z l s).1 hb) rfl rfl rfl rfl (by decide) rfl rfl (by repeat (exact InH.nil)) (fun _ => (by (simp only [pI, a2d, a2e, b9u, gl, nx, a7d, Nat.beq]; rfl))) (fun _ => (by (simp only [pI, a2d, a2e, b9u, gl, nx, a7d, Nat.beq]; rfl))) ⟨⟨0, 0, 0⟩, [], []⟩ ⟨Nat.zero_le _, Nat.zero_le _, fun q h => by cases h⟩ fun r hr => ?_)
 obtain ⟨r1, r2, r3⟩ := hr
 refine b4u v9v 5 4 rfl rfl ?_
 refine dv 4 ?_
 refine b4u v9v 10 3 rfl rfl ?_
 refine dv 3 ?_
 refine c2x (by kernel_rfl) ?_
 refine dv 5 ?_
 refine rlM [9] [_] (b1s true l 0 l.done.length hlb.1 (by omega) hlb.1 hlb.2) rfl rfl rfl ?_
 refine x3x (id := 6) a0c a6u rfl (dv 1 ?_)
 rw [b5y]
 refine dv 6 ?_
 refine x0x rfl rfl rfl (a1e true r.sends (by omega)) ?_
 refine dv 1 ?_
 refine x0x rfl rfl rfl (a4b true r.outs (by omega)) ?_
 refine rlB a4h b9y ?_
 refine y6y (id := 7) a8l rfl a4h rfl rfl rfl rfl rfl rfl ?_
 refine y7y (zs := (l.done ++ [(⟨(b1z l s).1, r.s, v1v r.sends, a0n r.outs⟩ : Pa)]).map (a1l true)) rfl rfl a8l rfl a4h rfl rfl rfl rfl (by rfl) (z8z (a1l true) l.done (⟨(b1z l s).1, r.s, v1v r.sends, a0n r.outs⟩ : Pa)) (by (simp only [s2s, r5r, s1s, s3s, a0l, a2z, b3c, T58]; omega)) ?_
 refine dv 6 ?_
 refine u6u (b := b1p true (l.done ++ [(⟨(b1z l s).1, r.s, v1v r.sends, a0n r.outs⟩ : Pa)])) 2 4 rfl rfl rfl (.ref rfl (Le.ow_map _ (fun _ => rfl) (fun _ => rfl)) .nil) rfl rfl rfl rfl ?_
 refine dv 1 ?_
 exact ⟨(a2f l (⟨(b1z l s).1, r.s, v1v r.sends, a0n r.outs⟩ : Pa), true), (fun _ => ⟨(⟨(b1z l s).1, r.s, v1v r.sends, a0n r.outs⟩ : Pa), rfl, hroom, f1m r1 r2 r3⟩), [], rfl, rfl, x5x⟩
theorem c4o (n : Nd) (q : Int) (hl4 : n.lanes.length ≤ 1000000) : MethE Tryz.prog 327 0 [.agg (u1u true n), .pv (.int .i64 q)] [] (ι := Int) (fun S' => S' = -1 ∨ ∃ (i : Nat) (l : La), S' = (i : Int) ∧ n.lanes[i]? = some l ∧ l.proc = q) (fun S' => []) (fun S' => .pv (.int .i64 S')) (fun S' => []) := by
 refine mE (ι := Int) Tryz.f327 (fun S' => [.pv (.int .i64 S')]) 0 1 fun γ => ?_
 refine dv 1 ?_
 refine x9x (id := 0) rfl rfl rfl (dv 5 fun K K' => ?_)
 refine x6x (ι := Nat) (fun i γ1 => [(5, pI (i : Int))]) (fun i γ1 => []) (fun i => i ≤ n.lanes.length) (fun i => n.lanes.length - i) (r7r [1, 2] rfl) (p6p 0 rfl HE.nil) 0 (by omega) [] x7x x5x rfl fun i γ1 hi => ?_
 refine dc 7 (fun K K' => aS ?_ ?_)<;>intro j<;>try simp at j
 ·refine dv 4 ?_
  exact ⟨-1, .inl rfl, [], rfl, rfl, x5x⟩
 obtain ⟨l, hl⟩ := gE n.lanes i
 refine dc 12 (fun K K' => aI ?_ ?_)<;>intro hc5<;>try simp at hc5
 ·have hq : l.proc = q := hc5
  refine dv 4 ?_
  exact ⟨(i : Int), .inr ⟨i, l, rfl, hl, hq⟩, [], rfl, rfl, x5x⟩
 refine dv 3 ?_
 refine x8x (b := 1) rfl rfl (by omega) (dv 1 ?_)
 exact ⟨i + 1, ⟨by omega, by omega⟩, [], x7x, x7x, x5x, x5x, rfl⟩
end
section
theorem b3k (id : Int) : a0g Tryz.prog 147 [.pv (.int .i64 id)] (.row (.rd true) 44 5 ((p8p id 4).map fun p => q2q true (b2o p))) := by
 refine pX Tryz.f147 [.row (.rd true) 44 5 ((p8p id 4).map fun p => q2q true (b2o p))] 3 ?_
 have hpl := fun k => a5f id k
 refine dv 3 ?_
 refine y1y (id := 0) a7t rfl a0c rfl (dv 5 fun K K' => ?_)
 refine x6x (ι := Nat) (fun i γ1 => [(3, .ref 0 (γ1 0)), (4, pI (i : Int))]) (fun i γ1 => [(0, ((γ1 0), .row 44 5 ((p8p id i).map e1t))), (1, ((γ1 1), .dead)), (2, ((γ1 2), .dead))]) (fun i => i ≤ 4) (fun i => 4 - i) (y0y 0 rfl Cov.nil) HE.nil 0 (by omega) [_, _, _] x7x x5x rfl fun i γ1 hi => ?_
 refine dc 4 (fun K K' => aS ?_ ?_)<;>intro h<;>try simp at h
 ·refine dv 5 ?_
  refine e4l rfl rfl e1u ?_
  have : i = 4 := by omega
  rw [this]
 refine dv 5 fun K K' => ?_
 refine x0x rfl rfl rfl (a1g ..) (dc 2 (aS ?_ ?_))<;>intro h<;>try simp at h
 ·refine dv 3 ?_
  refine v0v rfl rfl rfl (dv 1 ?_)
  exact ⟨i + 1, ⟨by omega, by omega⟩, [_, _, _], (y0y 3 rfl (Cov.cons' (t := 4) rfl (by rw [y4y (by omega) (by omega)]; rfl) Cov.nil)), x7x, (HE.row rfl (by simp only [a7q]; rw [if_neg (by assumption)]) (HE.kill rfl (HE.kill rfl HE.nil))), x5x, rfl⟩
 refine dv 3 ?_
 refine rlB a0c a6u ?_
 refine y6y (id := 1) a7t rfl a0c rfl rfl rfl rfl rfl rfl ?_
 have := hpl i
 refine y7y (zs := (p8p id i ++ [(i : Int)]).map e1t) rfl rfl a7t rfl a0c rfl rfl rfl rfl (by rfl) (z8z _ _ _) (by (simp only [s2s, r5r, s1s, s3s, a0l, a2z, T44]; omega)) ?_
 refine dv 3 ?_
 refine v0v rfl rfl rfl (dv 1 ?_)
 exact ⟨i + 1, ⟨by omega, by omega⟩, [_, _, _], (y0y 3 rfl (Cov.cons' (t := 4) rfl (by rw [y4y (by omega) (by omega)]; rfl) Cov.nil)), x7x, (HE.row rfl (by simp only [a7q]; rw [if_pos (by assumption)]) (HE.kill rfl (HE.kill rfl HE.nil))), x5x, rfl⟩
theorem b6k (c : Bool) (l : La) : a0g Tryz.prog 110 [.agg (q2q c l), .pv (.int .i64 0), .pv (.int .i64 0)] (.agg (q2q true (q1q l))) := by
 refine pX Tryz.f110 [.agg (q2q true (q1q l))] 10 ?_
 refine dv 1 ?_
 refine x9x (id := 0) rfl rfl rfl (x3x (id := 1) a0c a6u rfl (dv 5 ?_))
 refine rlB a0c a6u ?_
 refine x3x (id := 2) a0c a6u rfl (dv 6 fun K K' => ?_)
 refine x6x (ι := Nat) (fun i γ1 => [(8, pI 0)]) (fun i γ1 => [(3, ((γ1 3), .dead)), (4, ((γ1 4), .dead)), (5, ((γ1 5), .dead)), (6, ((γ1 6), .dead)), (7, ((γ1 7), .dead)), (8, ((γ1 8), .dead)), (9, ((γ1 9), .dead))]) (fun i => True) (fun i => 0) (r7r [2, 3, 6, 7] rfl) (a1m [0, 1, 2] rfl) 0 trivial [0, 0, 0, _, _, _, _, _, _, _] x7x x5x rfl fun i γ1 hi => ?_
 refine dv 6 fun K K' => ?_
 refine d2f rfl rfl (fun hg3 => ?_) (fun hg3 => ?_)
 ·simp at hg3
 try simp at hg3
 refine dv 11 ?_
 exact ⟨_, _, rfl, .agg rfl (.cl rfl (.cl rfl (.cl rfl (.cl rfl (.le rfl .nil .nil))))) .nil⟩
theorem c3g (c : Bool) (n : Nd) (hl : n.lanes.length ≤ 1000000000) (hk : n.kept.length ≤ 1000000000) (ho : n.outs.length ≤ 1000000000) : a0g Tryz.prog 155 [.agg (u1u c n)] (.agg (u1u true (a1r n))) := by
 refine pX Tryz.f155 [.agg (u1u true (a1r n))] 16 ?_
 refine dv 1 ?_
 refine x9x (id := 0) rfl rfl rfl (x3x (id := 1) u3u p5p rfl (dv 9 ?_))
 refine y1y (id := 2) v8v rfl z4z rfl (dv 2 ?_)
 refine p0p (zs := n.kept.map z2z) rfl rfl v8v rfl z4z rfl rfl rfl (z9z (fun _ => rfl) _) rfl (by (simp only [s2s, r5r, s1s, s3s, a0l, a2z, T56]; omega)) ?_
 refine y1y (id := 4) a0h rfl w4w rfl (dv 2 ?_)
 refine p0p (zs := n.outs.map p9p) rfl rfl a0h rfl w4w rfl rfl rfl (z9z (fun _ => rfl) _) rfl (by (simp only [s2s, r5r, s1s, s3s, a0l, a2z, T141]; omega)) ?_
 refine dv 2 ?_
 refine rlB u3u p5p ?_
 refine x3x (id := 6) u3u p5p rfl (dv 5 fun K K' => ?_)
 refine w1w 6 4 13 44 5 rfl rfl rfl rfl rfl ?_
 refine x6x (ι := Nat) (fun i γ1 => [(4, pI (i : Int))]) (fun i γ1 => [(13, ((γ1 13), .row 44 5 (((n.lanes.take i).map q1q).map (q2q true)))), (6, ((0 + 1), .box 65 [pI n.id, .pv (.bool n.up), pI n.inc, pI n.g, .ref 13 (γ1 13), .ref 2 2, .ref 4 2, pI n.led, pI 0, .pv (.slice none 0 0), .pv (.slice none 0 0), pI 0, pI 41])), (7, ((γ1 7), .dead)), (8, ((γ1 8), .dead))]) (fun i => i ≤ n.lanes.length) (fun i => n.lanes.length - i) (r7r [1, 2, 3] rfl) (a1m [0, 1, 2, 3, 4, 5, 9, 10, 11, 12, 14, 15] rfl) 0 (by omega) [0, 0, 0, 0, 0, 0, 0, _, _, 0, 0, 0, 0, _] x7x (HE.row rfl (by rw [List.take_zero]; rfl) (HE.box rfl rfl (HE.kill rfl (HE.kill rfl HE.nil)))) rfl fun i γ1 hi => ?_
 refine dc 7 (fun K K' => aI ?_ ?_)<;>intro h<;>try simp at h
 ·refine dv 9 fun K K' => ?_
  obtain ⟨a, ha⟩ := gE n.lanes i
  refine dv 2 ?_
  refine x0x rfl rfl rfl (b6k c a) (y6y (id := 7) a7t rfl a0c rfl rfl rfl rfl rfl rfl ?_)
  refine y7y (zs := ((n.lanes.take i).map q1q ++ [q1q a]).map (q2q true)) rfl rfl a7t rfl a0c rfl rfl rfl rfl (by rfl) (z8z _ _ _) (by (simp only [s2s, r5r, s1s, s3s, a0l, a2z, T44]; omega)) ?_
  refine dv 4 ?_
  refine v0v rfl rfl rfl (dv 1 ?_)
  exact ⟨i + 1, ⟨by omega, by omega⟩, [0, 0, 0, 0, 0, 0, 0, _, _, 0, 0, 0, 0, _], (Cov.cons' (t := 4) rfl (by rw [y4y (by omega) (by omega)]; rfl) Cov.nil), x7x, (HE.row rfl (by simp only [z5z ha, List.map_append, List.map_cons, List.map_nil]) (HE.box rfl rfl (HE.kill rfl (HE.kill rfl HE.nil)))), x5x, rfl⟩
 obtain rfl : i = n.lanes.length := by omega
 refine dv 5 fun K K' => ?_
 refine w1w 6 9 14 190 3 rfl rfl rfl rfl rfl (w1w 6 10 15 3 1 rfl rfl rfl rfl rfl ?_)
 refine x6x (ι := Nat) (fun i γ2 => [(5, pI (i : Int))]) (fun i γ2 => [(14, ((γ2 14), .row 190 3 ((List.range i).map fun _ => b1q))), (15, ((γ2 15), .row 3 1 ((List.range i).map fun _ => a3u 0))), (6, ((0 + 1), .box 65 [pI n.id, .pv (.bool n.up), pI n.inc, pI n.g, .ref 13 (γ1 13), .ref 2 2, .ref 4 2, pI n.led, pI 0, .ref 14 (γ2 14), .ref 15 (γ2 15), pI 0, pI 41])), (9, ((γ2 9), .dead)), (10, ((γ2 10), .dead)), (11, ((γ2 11), .dead)), (12, ((γ2 12), .dead))]) (fun i => i ≤ 3) (fun i => 3 - i) (r7r [2, 3] rfl) (a1m [0, 1, 2, 3, 4, 5, 7, 8, 13] rfl) 0 (by omega) [0, 0, 0, 0, 0, 0, 0, 0, 0, _, _, _, _, 0, _, _] x7x x5x rfl fun i γ2 hi => ?_
 refine dc 4 (fun K K' => aS ?_ ?_)<;>intro h<;>try simp at h
 ·obtain rfl : i = 3 := by omega
  rw [List.take_length]
  refine dv 5 ?_
  exact ⟨_, _, rfl, .agg rfl (.cl rfl (.cl rfl (.cl rfl (.cl rfl (.ref rfl (Le.ow_map _ (fun _ => rfl) (fun _ => rfl)) (.ref rfl (Le.ow_map _ (fun _ => rfl) (fun _ => rfl)) (.ref rfl (Le.ow_map _ (fun _ => rfl) (fun _ => rfl)) (.cl rfl (.cl rfl (.ref rfl (Le.ow_map2 (f := fun _ => b1q) (f' := fun _ => a3g true vi0) (List.range 3) (fun _ => rfl) (fun _ => .cons (.cl rfl) (.cons (.cl rfl) (.cons .nil .nil)))) (.ref rfl (Le.ow_map (f := fun _ => a3u 0) (List.range 3) (fun _ => rfl) (fun _ => rfl)) (.cl rfl (.cl rfl .nil))))))))))))) .nil⟩
 refine dv 6 fun K K' => ?_
 refine rlB r8r a6e ?_
 refine y6y (id := 9) a9w rfl r8r rfl rfl rfl rfl rfl rfl ?_
 refine y7y (zs := (List.range i).map (fun _ => b1q) ++ [b1q]) rfl rfl a9w rfl r8r rfl rfl rfl rfl (by rfl) rfl (by (simp only [s2s, r5r, s1s, s3s, a0l, a2z, T190]; omega)) ?_
 refine dv 5 ?_
 refine a6g (id := 11) s4s rfl r1r rfl rfl rfl rfl rfl ?_
 refine y7y (zs := (List.range i).map (fun _ => a3u 0) ++ [a3u 0]) rfl rfl s4s rfl r1r rfl rfl rfl rfl (by rfl) rfl (by (simp only [s2s, r5r, s1s, s3s, a0l, a2z, T3]; omega)) ?_
 refine dv 4 ?_
 refine v0v rfl rfl rfl (dv 1 ?_)
 exact ⟨i + 1, ⟨by omega, by omega⟩, [0, 0, 0, 0, 0, 0, 0, 0, 0, _, _, _, _, 0, _, _], (Cov.cons' (t := 5) rfl (by rw [y4y (by omega) (by omega)]; rfl) Cov.nil), x7x, (HE.row rfl (by rw [List.range_succ, List.map_append]; rfl) (HE.row rfl (by rw [List.range_succ, List.map_append]; rfl) (HE.box rfl rfl (HE.kill rfl (HE.kill rfl (HE.kill rfl (HE.kill rfl HE.nil))))))), x5x, rfl⟩
theorem c0d (id : Int) : a0g Tryz.prog 89 [.pv (.int .i64 id)] (.agg (u1u true (a1q id))) := by
 refine pX Tryz.f89 [.agg (u1u true (a1q id))] 5 ?_
 have hpl := a5f id 4
 refine dv 1 ?_
 refine x3x (id := 0) u3u p5p rfl (dv 3 fun K K' => ?_)
 refine x0x rfl rfl rfl (y9y ..) (dc 1 (aI ?_ ?_))<;>intro hc2<;>try simp at hc2
 ·have hns : a1q id = nd0 := if_neg (by omega)
  refine dv 1 ?_
  refine rlB u3u p5p ?_
  refine dv 2 ?_
  exact ⟨_, _, rfl, .agg rfl (by rw [hns]; exact .cl rfl (.cl rfl (.cl rfl (.cl rfl (.le rfl .nil (.le rfl .nil (.le rfl .nil (.cl rfl (.cl rfl (.le rfl .nil (.le rfl .nil (.cl rfl (.cl rfl .nil))))))))))))) .nil⟩
 have hin : 0 ≤ id ∧ id ≤ 2 := hc2
 have hns : a1q id = ⟨id, true, 1, 0, (p8p id 4).map b2o, v1v ((p8p id 4).map a0z), [], 0, 1, [vi0, vi0, vi0], [0, 0, 0], 0, 41⟩ := if_pos hin
 have hnb : ({ a1r ⟨id, true, 1, 0, (p8p id 4).map b2o, (p8p id 4).map a0z, [], 0, 0, [], [], 0, 0⟩ with version := 1 } : Nd) = a1q id := by rw [hns, c2b hin]; simp only [a1r, List.map_map]; rfl
 refine dv 4 ?_
 refine x0x rfl rfl rfl (b3k ..) (rlB u3u p5p ?_)
 refine x3x (id := 1) u3u p5p rfl (dv 5 fun K K' => ?_)
 refine w1w 1 5 4 56 7 rfl rfl rfl rfl rfl ?_
 refine x6x (ι := Nat) (fun i γ1 => [(4, pI (i : Int))]) (fun i γ1 => [(4, ((γ1 4), .row 56 7 ((((p8p id 4).take i).map a0z).map z2z))), (1, ((0 + 1), .box 65 [pI id, .pv (.bool true), pI 1, pI 0, .row (.rd true) 44 5 ((p8p id 4).map fun p => q2q true (b2o p)), .ref 4 (γ1 4), .pv (.slice none 0 0), pI 0, pI 0, .pv (.slice none 0 0), .pv (.slice none 0 0), pI 0, pI 0])), (2, ((γ1 2), .dead)), (3, ((γ1 3), .dead))]) (fun i => i ≤ (p8p id 4).length) (fun i => (p8p id 4).length - i) (r7r [2, 3] rfl) (p6p 0 rfl HE.nil) 0 (by omega) [0, 0, _, _, _] x7x (HE.row rfl (by rw [List.take_zero]; rfl) (HE.box rfl rfl (HE.kill rfl (HE.kill rfl HE.nil)))) rfl fun i γ1 hi => ?_
 refine dc 7 (fun K K' => aS ?_ ?_)<;>intro h<;>try simp at h
 ·obtain rfl : i = (p8p id 4).length := by omega
  rw [List.take_length]
  refine dv 1 ?_
  refine u6u (b := a0t true ((p8p id 4).map a0z)) 1 5 rfl rfl rfl (.ref rfl (Le.ow_map _ (fun _ => rfl) (fun _ => rfl)) .nil) rfl rfl rfl rfl ?_
  refine u6u (b := r9r true []) 1 6 rfl rfl rfl (.le rfl .nil .nil) rfl rfl rfl rfl ?_
  refine u6u (b := b9w true []) 1 9 rfl rfl rfl (.le rfl .nil .nil) rfl rfl rfl rfl ?_
  refine u6u (b := a3f true []) 1 10 rfl rfl rfl (.le rfl .nil .nil) rfl rfl rfl rfl ?_
  rw [show (AV.row (.rd true) 44 5 ((p8p id 4).map fun p => q2q true (b2o p))) = b8l true ((p8p id 4).map b2o) from by rw [b8l, List.map_map]; rfl]
  refine dv 2 ?_
  refine x0x rfl rfl rfl (c3g true ⟨id, true, 1, 0, (p8p id 4).map b2o, (p8p id 4).map a0z, [], 0, 0, [], [], 0, 0⟩ (by rw [List.length_map]; omega) (by rw [List.length_map]; omega) (by simp)) ?_
  refine dv 8 ?_
  exact a9e (cs := u1u true { a1r ⟨id, true, 1, 0, (p8p id 4).map b2o, (p8p id 4).map a0z, [], 0, 0, [], [], 0, 0⟩ with version := 1 }) rfl (by rw [hnb]) rfl rfl
 obtain ⟨p, hp⟩ := gE (p8p id 4) i
 refine dv 12 fun K K' => ?_
 refine x0x rfl rfl rfl (c3d ..) (y6y (id := 2) v8v rfl z4z rfl rfl rfl rfl rfl rfl ?_)
 refine y7y (zs := (((p8p id 4).take i).map a0z ++ [a0z p]).map z2z) rfl rfl v8v rfl z4z rfl rfl rfl rfl (by rfl) (z8z _ _ _) (by (simp only [s2s, r5r, s1s, s3s, a0l, a2z, T56]; omega)) ?_
 refine dv 4 ?_
 refine v0v rfl rfl rfl (dv 1 ?_)
 exact ⟨i + 1, ⟨by omega, by omega⟩, [0, 0, _, _, _], (Cov.cons' (t := 4) rfl (by rw [y4y (by omega) (by omega)]; rfl) Cov.nil), x7x, (HE.row rfl (by simp only [z5z hp, List.map_append, List.map_cons, List.map_nil]) (HE.box rfl rfl (HE.kill rfl (HE.kill rfl HE.nil)))), x5x, rfl⟩
end
section
theorem c0e (c : Bool) (n : Nd) : a0g Tryz.prog 233 [.agg (u1u c n)] (.pv (.bool (decide (a7x n)))) := by
 refine pX Tryz.f233 [.pv (.bool (decide (a7x n)))] 1 ?_
 refine dv 1 ?_
 refine x9x (id := 0) rfl rfl rfl (dv 4 ?_)
 refine x0x rfl rfl rfl (c8f ..) (dc 1 (aS ?_ ?_))<;>intro u<;>try simp at u
 ·refine dv 30 ?_
  refine x2x rfl ?_ rfl
  exact kF (by unfold a7x; omega)
 refine dv 2 ?_
 refine x0x rfl rfl rfl (u5u ..) (dc 2 (aS ?_ ?_))<;>intro u<;>try simp at u
 ·refine dv 25 ?_
  refine x2x rfl ?_ rfl
  exact kF (by unfold a7x; omega)
 refine dv 2 ?_
 refine x0x rfl rfl rfl (u5u ..) (dc 2 (aS ?_ ?_))<;>intro u<;>try simp at u
 ·refine dv 20 ?_
  refine x2x rfl ?_ rfl
  exact kF (by unfold a7x; omega)
 refine dv 2 ?_
 refine x0x rfl rfl rfl (u5u ..) (dc 2 (aS ?_ ?_))<;>intro u<;>try simp at u
 ·refine dv 15 ?_
  refine x2x rfl ?_ rfl
  exact kF (by unfold a7x; omega)
 refine dv 2 ?_
 refine x0x rfl rfl rfl (u5u ..) (dc 2 (aS ?_ ?_))<;>intro u<;>try simp at u
 ·refine dv 10 ?_
  refine x2x rfl ?_ rfl
  exact kF (by unfold a7x; omega)
 refine dv 2 ?_
 refine x0x rfl rfl rfl (u5u ..) (dc 2 (aS ?_ ?_))<;>intro u<;>try simp at u
 ·refine dv 5 ?_
  refine x2x rfl ?_ rfl
  exact kF (by unfold a7x; omega)
 refine dv 2 ?_
 refine x0x rfl rfl rfl (u5u ..) (dv 3 ?_)
 refine x2x rfl ?_ rfl
 exact congrArg (fun b : Bool => [AV.pv (.bool b)]) (decide_eq_decide.2 (by unfold a7x; omega))
theorem u0u  : a0g Tryz.prog 143 [] (.pv (.int .i64 9999)) := by
 refine pX Tryz.f143 [.pv (.int .i64 9999)] 0 ?_
 refine dv 5 ?_
 exact x2x rfl rfl rfl
theorem b1t (c : Bool) (v : Vi) : a0g Tryz.prog 168 [.agg (a3g c v)] (.pv (.bool (kb (d4v v)))) := by
 refine pX Tryz.f168 [.pv (.bool (kb (d4v v)))] 1 ?_
 refine dv 1 ?_
 refine x9x (id := 0) rfl rfl rfl (dv 4 ?_)
 refine x0x rfl rfl rfl (u0u ..) (x0x rfl rfl rfl (y9y ..) (dc 1 (aS ?_ ?_)))<;>intro u<;>try simp at u
 ·refine dv 12 ?_
  refine x2x rfl ?_ rfl
  exact congrArg (fun b : Bool => [AV.pv (.bool b)]) (a4v (fun h => by obtain ⟨q1, q2, q3⟩ := h; omega))
 refine dv 2 ?_
 refine x0x rfl rfl rfl (u0u ..) (dv 0 ?_)
 refine x0x rfl rfl rfl (y9y ..) (dc 2 (aS ?_ ?_))<;>intro u<;>try simp at u
 ·refine dv 6 ?_
  refine x2x rfl ?_ rfl
  exact congrArg (fun b : Bool => [AV.pv (.bool b)]) (a4v (fun h => by obtain ⟨q1, q2, q3⟩ := h; omega))
 refine dv 2 ?_
 refine x0x rfl rfl rfl (a3n ..) (dv 0 ?_)
 refine x0x rfl rfl rfl (a3j ..) (dv 3 ?_)
 refine x2x rfl ?_ rfl
 exact congrArg (fun b : Bool => [AV.pv (.bool b)]) (e9t ⟨fun h => ⟨by omega, by omega, h⟩, fun h => h.2.2⟩)
theorem c3h (c : Bool) (n : Nd) : a0g Tryz.prog 146 [.agg (u1u c n)] (.pv (.bool (kb (c7k n)))) := by
 refine pX Tryz.f146 [.pv (.bool (kb (c7k n)))] 1 ?_
 refine dv 1 ?_
 refine x9x (id := 0) rfl rfl rfl (dc 8 (fun K K' => aS ?_ ?_))<;>intro u<;>try simp at u
 ·refine dv 28 ?_
  refine x2x rfl ?_ rfl
  exact congrArg (fun b : Bool => [AV.pv (.bool b)]) (a4v (fun h => by obtain ⟨q1, q2, q3, q4, q5, q6⟩ := h; omega))
 refine dc 6 (aS ?_ ?_)<;>intro u<;>try simp at u
 ·refine dv 22 ?_
  refine x2x rfl ?_ rfl
  exact congrArg (fun b : Bool => [AV.pv (.bool b)]) (a4v (fun h => by obtain ⟨q1, q2, q3, q4, q5, q6⟩ := h; omega))
 refine dv 2 ?_
 refine x0x rfl rfl rfl (u0u ..) (dv 0 ?_)
 refine x0x rfl rfl rfl (y9y ..) (dc 3 (aS ?_ ?_))<;>intro u<;>try simp at u
 ·refine dv 15 ?_
  refine x2x rfl ?_ rfl
  exact congrArg (fun b : Bool => [AV.pv (.bool b)]) (a4v (fun h => by obtain ⟨q1, q2, q3, q4, q5, q6⟩ := h; omega))
 refine dv 2 ?_
 refine x0x rfl rfl rfl (u0u ..) (dv 0 ?_)
 refine x0x rfl rfl rfl (y9y ..) (dc 3 (aS ?_ ?_))<;>intro u<;>try simp at u
 ·refine dv 8 ?_
  refine x2x rfl ?_ rfl
  exact congrArg (fun b : Bool => [AV.pv (.bool b)]) (a4v (fun h => by obtain ⟨q1, q2, q3, q4, q5, q6⟩ := h; omega))
 refine dv 2 ?_
 refine x0x rfl rfl rfl (y9y ..) (dc 2 (aI ?_ ?_))<;>intro u<;>try simp at u
 ·refine dv 3 ?_
  refine x2x rfl ?_ rfl
  exact congrArg (fun b : Bool => [AV.pv (.bool b)]) (a4v (fun h => by obtain ⟨q1, q2, q3, q4, q5, q6⟩ := h; omega))
 have hL : n.views.length = 3 ∧ n.known.length = 3 ∧ (0 ≤ n.version ∧ n.version ≤ 9999) ∧ (0 ≤ n.round ∧ n.round ≤ 9999) ∧ (0 ≤ n.low ∧ n.low ≤ 41) := by omega
 refine dv 5 fun K K' => ?_
 refine x6x (ι := Nat) (fun i γ1 => [(3, pI (i : Int))]) (fun i γ1 => []) (fun i => i ≤ 3 ∧ c8t n.views (fun j v => ∀ k, n.known[j]? = some k → d4v v ∧ 0 ≤ k ∧ k ≤ 41) i) (fun i => 3 - i) (y0y 1 rfl Cov.nil) (p6p 0 rfl HE.nil) 0 ⟨by omega, a1f⟩ [] x7x x5x rfl fun i γ1 hi => ?_
 obtain ⟨h1, h2⟩ := hi
 refine dc 4 (fun K K' => aS ?_ ?_)<;>intro u<;>try simp at u
 ·obtain rfl : i = 3 := by omega
  refine dv 4 ?_
  refine x2x rfl ?_ rfl
  exact congrArg (fun b : Bool => [AV.pv (.bool b)]) (e3w ⟨hL.1, hL.2.1, hL.2.2.1, hL.2.2.2.1, hL.2.2.2.2, fun i v k a b => a2x h2 (by omega) i v a k b⟩)
 obtain ⟨v, hv⟩ := gE n.views i
 obtain ⟨k, hk⟩ := gE n.known i
 refine dv 9 fun K K' => ?_
 refine x0x rfl rfl rfl (b1t ..) (dc 2 (aS ?_ ?_))<;>intro hg11<;>try simp at hg11
 ·have hbad : ¬ d4v v := a0w (by simpa using hg11)
  refine dv 11 ?_
  refine x2x rfl ?_ rfl
  exact congrArg (fun b : Bool => [AV.pv (.bool b)]) (a4v (fun h => hbad (h.2.2.2.2.2 _ _ _ hv hk).1))
 have hvo : d4v v := a0o.1 (by simpa using hg11)
 refine dv 5 ?_
 refine x0x rfl rfl rfl (y9y ..) (dc 2 (aS ?_ ?_))<;>intro u<;>try simp at u
 ·refine dv 3 ?_
  refine x8x (b := 1) rfl rfl (by omega) (dv 1 ?_)
  exact ⟨i + 1, ⟨⟨by omega, s0s h2 hv (fun k2 hk2 => by rw [hk] at hk2; cases hk2; exact ⟨hvo, by omega⟩)⟩, by omega⟩, [], x7x, x7x, x5x, x5x, rfl⟩
 refine dv 3 ?_
 refine x2x rfl ?_ rfl
 exact congrArg (fun b : Bool => [AV.pv (.bool b)]) (a4v (fun h => by have := (h.2.2.2.2.2 _ _ _ hv hk).2; omega))
theorem c4p (c : Bool) (n : Nd) : a0g Tryz.prog 129 [.agg (u1u c n)] (.pv (.bool (kb (a1i n)))) := by
 refine pX Tryz.f129 [.pv (.bool (kb (a1i n)))] 4 ?_
 refine dv 1 ?_
 refine x9x (id := 0) rfl rfl rfl (dv 4 fun K K' => ?_)
 refine x0x rfl rfl rfl (c0e ..) (dc 2 (aS ?_ ?_))<;>intro hg2<;>try simp at hg2
 ·have hX : ¬ a7x n := hg2
  refine dv 14 ?_
  refine x2x rfl ?_ rfl
  exact congrArg (fun b : Bool => [AV.pv (.bool b)]) (a4v (fun h => by obtain ⟨q1, q2, q3, q4, q5, q6, q7, q8, q9⟩ := h; exact hX q1))
 have hA1 : a7x n := hg2
 refine dv 2 ?_
 refine x0x rfl rfl rfl (a8c ..) (dc 3 (aS ?_ ?_))<;>intro hg3<;>try simp at hg3
 ·have hX : ¬ a7w okE a2i n.kept 100 = true := by simpa using hg3
  refine dv 8 ?_
  refine x2x rfl ?_ rfl
  exact congrArg (fun b : Bool => [AV.pv (.bool b)]) (a4v (fun h => by obtain ⟨q1, q2, q3, q4, q5, q6, q7, q8, q9⟩ := h; exact hX q2))
 have hA2 : a7w okE a2i n.kept 100 = true := hg3
 refine dv 2 ?_
 refine x0x rfl rfl rfl (b7z ..) (dc 2 (aI ?_ ?_))<;>intro hc4<;>try simp at hc4
 ·try have hX : ¬ a7w okO b1x n.outs 96 = true := by simpa using hc4
  refine dv 3 ?_
  refine x2x rfl ?_ rfl
  exact congrArg (fun b : Bool => [AV.pv (.bool b)]) (a4v (fun h => by obtain ⟨q1, q2, q3, q4, q5, q6, q7, q8, q9⟩ := h; exact hX q3))
 have hA3 : a7w okO b1x n.outs 96 = true := hc4
 refine dv 8 fun K K' => ?_
 refine u2u 27 rfl fun hlen0 => ?_
 refine x6x (ι := Nat) (fun i γ1 => [(29, pI (i : Int))]) (fun i γ1 => [(1, ((γ1 1), .dead))]) (fun i => i ≤ n.outs.length ∧ c8t n.outs (fun _ o => o.time < n.g) i) (fun i => n.outs.length - i) (r7r [1, 27, 28] rfl) (a1m [0, 2, 3] rfl) 0 ⟨by omega, a1f⟩ [0, _] x7x x5x rfl fun i γ1 hi => ?_
 obtain ⟨a1, a2⟩ := hi
 refine dc 3 (fun K K' => aI ?_ ?_)<;>intro u<;>try simp at u
 ·obtain ⟨o, ho⟩ := gE n.outs i
  refine dv 6 fun K K' => ?_
  refine x3x (id := 1) w4w c5m rfl (dc 7 (aS ?_ ?_))<;>intro u<;>try simp at u
  ·have hlt : o.time < n.g := by omega
   refine dv 2 ?_
   refine x8x (b := 1) rfl rfl (by omega) (dv 1 ?_)
   exact ⟨i + 1, ⟨⟨by omega, s0s a2 ho hlt⟩, by omega⟩, [0, _], x7x, x7x, x5x, x5x, rfl⟩
  have hX : ¬ o.time < n.g := by omega
  refine dv 3 ?_
  refine x2x rfl ?_ rfl
  exact congrArg (fun b : Bool => [AV.pv (.bool b)]) (a4v (fun h => by obtain ⟨q1, q2, q3, q4, q5, q6, q7, q8, q9⟩ := h; exact hX (q4 _ _ ho)))
 have hO : ∀ (i : Nat) o, n.outs[i]? = some o → o.time < n.g := a2x a2 (by omega)
 refine dv 4 ?_
 refine x0x rfl rfl rfl (a5y ..) (dc 10 (fun K K' => aS ?_ ?_))<;>intro u<;>try simp at u
 ·refine dv 14 ?_
  refine x2x rfl ?_ rfl
  exact congrArg (fun b : Bool => [AV.pv (.bool b)]) (a4v (fun h => by obtain ⟨q1, q2, q3, q4, q5, q6, q7, q8, q9⟩ := h; omega))
 refine dc 6 (aS ?_ ?_)<;>intro u<;>try simp at u
 ·refine dv 8 ?_
  refine x2x rfl ?_ rfl
  exact congrArg (fun b : Bool => [AV.pv (.bool b)]) (a4v (fun h => by obtain ⟨q1, q2, q3, q4, q5, q6, q7, q8, q9⟩ := h; omega))
 refine dc 5 (aI ?_ ?_)<;>intro u<;>try simp at u
 ·refine dv 3 ?_
  refine x2x rfl ?_ rfl
  exact congrArg (fun b : Bool => [AV.pv (.bool b)]) (a4v (fun h => by obtain ⟨q1, q2, q3, q4, q5, q6, q7, q8, q9⟩ := h; omega))
 have hL : n.lanes.length = (p8p n.id 4).length ∧ n.views.length = 3 ∧ n.known.length = 3 := by omega
 refine dv 8 fun K K' => ?_
 refine u2u 61 rfl fun hlen1 => ?_
 refine x6x (ι := Nat) (fun j γ2 => [(63, pI (j : Int))]) (fun j γ2 => [(2, ((γ2 2), .dead))]) (fun j => j ≤ n.lanes.length ∧ c8t n.lanes (fun j l => (p8p n.id 4)[j]? = some l.proc ∧ a6r l = true) j) (fun j => n.lanes.length - j) (r7r [1, 5, 61, 62] rfl) (a1m [0, 1, 3] rfl) 0 ⟨by omega, a1f⟩ [0, 0, _] x7x x5x rfl fun j γ2 hi => ?_
 obtain ⟨b1, b2⟩ := hi
 refine dc 3 (fun K K' => aI ?_ ?_)<;>intro u<;>try simp at u
 ·obtain ⟨l, hl⟩ := gE n.lanes j
  obtain ⟨q, hq⟩ := gE (p8p n.id 4) j
  refine dv 7 fun K K' => ?_
  refine x3x (id := 2) a0c a6u rfl (dc 11 (aS ?_ ?_))<;>intro hg18<;>try simp at hg18
  ·have hX : ¬ l.proc = q := hg18
   refine dv 7 ?_
   refine x2x rfl ?_ rfl
   exact congrArg (fun b : Bool => [AV.pv (.bool b)]) (a4v (fun h => by obtain ⟨q1, q2, q3, q4, q5, q6, q7, q8, q9⟩ := h; have := (q8 _ _ hl).1; rw [hq] at this; exact hX (Option.some.inj this).symm))
  have hpe : l.proc = q := hg18
  refine dv 1 ?_
  refine x0x rfl rfl rfl (c8l ..) (dc 2 (aS ?_ ?_))<;>intro hc19<;>try simp at hc19
  ·have hlo : a6r l = true := hc19
   refine dv 2 ?_
   refine x8x (b := 1) rfl rfl (by omega) (dv 1 ?_)
   exact ⟨j + 1, ⟨⟨by omega, s0s b2 hl ⟨by rw [hq, hpe], hlo⟩⟩, by omega⟩, [0, 0, _], x7x, x7x, x5x, x5x, rfl⟩
  try have hX : ¬ a6r l = true := by simpa using hc19
  refine dv 3 ?_
  refine x2x rfl ?_ rfl
  exact congrArg (fun b : Bool => [AV.pv (.bool b)]) (a4v (fun h => by obtain ⟨q1, q2, q3, q4, q5, q6, q7, q8, q9⟩ := h; exact hX (q8 _ _ hl).2))
 have hN : e5b n := a2x b2 (by omega)
 refine dv 8 fun K K' => ?_
 refine u2u 82 rfl fun hlen2 => ?_
 refine x6x (ι := Nat) (fun k γ3 => [(84, pI (k : Int))]) (fun k γ3 => [(3, ((γ3 3), .dead))]) (fun k => k ≤ n.views.length ∧ c8t n.views (fun j v => ∀ k, n.known[j]? = some k → d4v v ∧ 0 ≤ k ∧ k ≤ 41) k) (fun k => n.views.length - k) (r7r [1, 82, 83] rfl) (a1m [0, 1, 2] rfl) 0 ⟨by omega, a1f⟩ [0, 0, 0, _] x7x x5x rfl fun k γ3 hi => ?_
 obtain ⟨c1, c2⟩ := hi
 refine dc 3 (fun K K' => aS ?_ ?_)<;>intro u<;>try simp at u
 ·have hV : e0s n := fun i v k0 a b => a2x c2 (by omega) i v a k0 b
  refine dv 4 ?_
  refine x2x rfl ?_ rfl
  exact congrArg (fun b : Bool => [AV.pv (.bool b)]) (e3w ⟨hA1, hA2, hA3, hO, hL.1, hL.2.1, hL.2.2, hN, hV⟩)
 obtain ⟨v, hv⟩ := gE n.views k
 obtain ⟨k0, hk⟩ := gE n.known k
 refine dv 7 fun K K' => ?_
 refine x3x (id := 3) r8r a6e rfl (dv 2 ?_)
 refine r0r (ι := Unit) (fun _i γ4 => [(10, .pv (.bool (kb (d4v v))))]) (fun _i γ4 => []) (fun _i => True) (r7r [1, 8, 82, 83, 84] rfl) (a1m [0, 1, 2, 3] rfl) ?_ fun _i γ4 hi => ?_
 ·refine dv 3 ?_
  refine x0x rfl rfl rfl (u5u ..) (dc 1 (aS ?_ ?_))<;>intro u<;>try simp at u
  ·refine dv 9 ?_
   exact ⟨(), trivial, [], (Cov.cons' (t := 10) rfl (by exact congrArg (fun b : Bool => AV.pv (.bool b)) (a4v (fun h => by obtain ⟨q1, q2, q3⟩ := h; omega))) Cov.nil), x7x, x5x, x5x, rfl⟩
  refine dv 2 ?_
  refine x0x rfl rfl rfl (u5u ..) (dc 2 (aS ?_ ?_))<;>intro u<;>try simp at u
  ·refine dv 4 ?_
   exact ⟨(), trivial, [], (Cov.cons' (t := 10) rfl (by exact congrArg (fun b : Bool => AV.pv (.bool b)) (a4v (fun h => by obtain ⟨q1, q2, q3⟩ := h; omega))) Cov.nil), x7x, x5x, x5x, rfl⟩
  refine dv 2 ?_
  refine x0x rfl rfl rfl (a8c ..) (dv 2 ?_)
  exact ⟨(), trivial, [], (Cov.cons' (t := 10) rfl (congrArg (fun b : Bool => AV.pv (.bool b)) (e9t ⟨fun h => ⟨by omega, by omega, h⟩, fun h => h.2.2⟩)) Cov.nil), x7x, x5x, x5x, rfl⟩
 ·try dsimp only [b3d, b3e]
  refine dc 4 (aS ?_ ?_)<;>intro hg27<;>try simp at hg27
  ·have hX : ¬ d4v v := a0w (by simpa using hg27)
   refine dv 11 ?_
   refine x2x rfl ?_ rfl
   exact congrArg (fun b : Bool => [AV.pv (.bool b)]) (a4v (fun h => by obtain ⟨q1, q2, q3, q4, q5, q6, q7, q8, q9⟩ := h; exact hX (q9 _ _ _ hv hk).1))
  have hvo : d4v v := a0o.1 (by simpa using hg27)
  refine dv 5 ?_
  refine x0x rfl rfl rfl (u5u ..) (dc 2 (aS ?_ ?_))<;>intro u<;>try simp at u
  ·refine dv 2 ?_
   refine x8x (b := 1) rfl rfl (by omega) (dv 1 ?_)
   exact ⟨k + 1, ⟨⟨by omega, s0s c2 hv (fun k2 hk2 => by rw [hk] at hk2; cases hk2; exact ⟨hvo, by omega⟩)⟩, by omega⟩, [0, 0, 0, _], x7x, x7x, x5x, x5x, rfl⟩
  refine dv 3 ?_
  refine x2x rfl ?_ rfl
  exact congrArg (fun b : Bool => [AV.pv (.bool b)]) (a4v (fun h => by obtain ⟨q1, q2, q3, q4, q5, q6, q7, q8, q9⟩ := h; have := (q9 _ _ _ hv hk).2; omega))
end
section
theorem a4c (c : Bool) (n : Nd) (proc : Int) (hs : (a0x n).length + (s9s n 3).length ≤ 5000000) (hlen : n.lanes.length ≤ 1048576) (hv3 : n.views.length = 3) : a0g Tryz.prog 124 [.agg (u1u c n), .pv (.int .i64 proc)] (a0t true (a0i n proc)) := by
 refine pX Tryz.f124 [a0t true (a0i n proc)] 6 ?_
 have hla : (a0x n ++ s9s n 3).length = (a0x n).length + (s9s n 3).length := List.length_append
 refine dv 1 ?_
 refine x9x (id := 0) rfl rfl rfl (dv 3 ?_)
 refine rlM [5] [_] (b4z c n (by omega) hlen) rfl rfl rfl ?_
 refine dv 5 fun K K' => ?_
 refine x6x (ι := Nat) (fun i γ1 => [(5, .ref 5 (γ1 5)), (6, pI (i : Int))]) (fun i γ1 => [(5, ((γ1 5), .row 56 7 ((a0x n ++ s9s n i).map z2z))), (1, ((γ1 1), .dead))]) (fun i => i ≤ 3) (fun i => 3 - i) (r7r [1, 2] rfl) (a1m [0, 2, 3, 4] rfl) 0 (by omega) [0, _, 0, 0, 0, _] x7x (HE.row rfl (by simp [s9s]) (HE.kill rfl HE.nil)) rfl fun i γ1 hi => ?_
 refine dc 7 (fun K K' => aI ?_ ?_)<;>intro h<;>try simp at h
 ·obtain ⟨v, hv⟩ := gE n.views i
  have hg : n.views.getD i vi0 = v := by rw [List.getD_eq_getElem?_getD, hv]; rfl
  have hol := d0e n (i := i + 1) (by omega)
  rw [a2h] at hol
  refine dc 8 (fun K K' => aS ?_ ?_)<;>intro hc5<;>try simp at hc5
  ·have hve : b2q n i = [] := by rw [b2q, if_pos hc5]
   refine dv 3 ?_
   refine v0v rfl rfl rfl (dv 1 ?_)
   exact ⟨i + 1, ⟨by omega, by omega⟩, [0, _, 0, 0, 0, _], (y0y 5 rfl (Cov.cons' (t := 6) rfl (by rw [y4y (by omega) (by omega)]; rfl) Cov.nil)), x7x, (HE.row rfl (by rw [a2h, hve]; simp) (HE.kill rfl HE.nil)), x5x, rfl⟩
  have hve : b2q n i = v.events := by rw [b2q, if_neg hc5, hg]
  rw [hve] at hol
  simp only [r5r] at hol
  refine dv 8 ?_
  refine p0p (zs := (a0x n ++ s9s n i ++ v.events).map z2z) rfl rfl v8v rfl z4z rfl rfl rfl (z9z (fun _ => rfl) _) (a9d _ _ _) (by have hb56 : T56.bytes = 56 := rfl; rw [List.length_map, hb56]; simp only [r5r, s1s, s3s]; omega) ?_
  refine dv 3 ?_
  refine v0v rfl rfl rfl (dv 1 ?_)
  exact ⟨i + 1, ⟨by omega, by omega⟩, [0, _, 0, 0, 0, _], (y0y 5 rfl (Cov.cons' (t := 6) rfl (by rw [y4y (by omega) (by omega)]; rfl) Cov.nil)), x7x, (HE.row rfl (by rw [a2h, hve]; simp) (HE.kill rfl HE.nil)), x5x, rfl⟩
 obtain rfl : i = 3 := by omega
 have hall : (a0x n ++ s9s n 3).length ≤ 5000000 := by rw [List.length_append]; omega
 refine dv 1 ?_
 refine s7s 5 rfl rfl (fun _ => rfl) ?_
 refine dv 1 ?_
 refine y1y (id := 2) v8v rfl z4z rfl (dv 5 fun K K' => ?_)
 refine x6x (ι := Nat) (fun j γ2 => [(7, .ref 2 (γ2 2)), (8, pI (j : Int))]) (fun j γ2 => [(2, ((γ2 2), .row 56 7 ((((a0x n ++ s9s n 3).take j).filter (a7y proc n.g)).map z2z))), (3, ((γ2 3), .dead)), (4, ((γ2 4), .dead))]) (fun j => j ≤ (a0x n ++ s9s n 3).length) (fun j => (a0x n ++ s9s n 3).length - j) (r7r [1, 2, 5] rfl) (a1m [0, 1, 5] rfl) 0 (by omega) [0, 0, _, _, _] x7x (HE.row rfl (by rw [List.take_zero]; rfl) (HE.kill rfl (HE.kill rfl HE.nil))) rfl fun j γ2 hi => ?_
 refine dc 6 (fun K K' => aS ?_ ?_)<;>intro h<;>try simp at h
 ·obtain rfl : j = (a0x n ++ s9s n 3).length := by omega
  rw [List.take_length]
  refine dv 1 ?_
  refine s7s 7 rfl rfl (fun _ => rfl) ?_
  refine dv 2 ?_
  refine x0x rfl rfl rfl (a1e true ((a0x n ++ s9s n 3).filter (a7y proc n.g)) (Nat.le_trans (List.length_filter_le _ _) (by rw [List.length_append]; omega))) ?_
  refine dv 2 ?_
  refine x2x rfl rfl rfl
 obtain ⟨p, hp⟩ := gE (a0x n ++ s9s n 3) j
 have hfl : (((a0x n ++ s9s n 3).take j).filter (a7y proc n.g)).length ≤ 5000000 := Nat.le_trans (List.length_filter_le _ _) (by rw [List.length_take]; omega)
 refine dc 12 (fun K K' => aS ?_ ?_)<;>intro hg10<;>try simp at hg10
 ·have hw : ¬ a7y proc n.g p = true := by simp only [a7y, decide_eq_true_eq]; omega
  refine dv 9 ?_
  try have hw : ¬ a7y proc n.g p = true := by simp only [a7y, decide_eq_true_eq]; omega
  refine dv 3 ?_
  refine v0v rfl rfl rfl (dv 1 ?_)
  exact ⟨j + 1, ⟨by omega, by omega⟩, [0, 0, _, _, _], (y0y 7 rfl (Cov.cons' (t := 8) rfl (by rw [y4y (by omega) (by omega)]; rfl) Cov.nil)), x7x, (HE.row rfl (by rw [a0j hp]; rw [if_neg hw, List.append_nil]) (HE.kill rfl (HE.kill rfl HE.nil))), x5x, rfl⟩
 have hw1 : p.to = proc := hg10
 refine dc 9 (aS ?_ ?_)<;>intro h<;>try simp at h
 ·try have hw : ¬ a7y proc n.g p = true := by simp only [a7y, decide_eq_true_eq]; omega
  refine dv 3 ?_
  refine v0v rfl rfl rfl (dv 1 ?_)
  exact ⟨j + 1, ⟨by omega, by omega⟩, [0, 0, _, _, _], (y0y 7 rfl (Cov.cons' (t := 8) rfl (by rw [y4y (by omega) (by omega)]; rfl) Cov.nil)), x7x, (HE.row rfl (by rw [a0j hp]; rw [if_neg hw, List.append_nil]) (HE.kill rfl (HE.kill rfl HE.nil))), x5x, rfl⟩
 have hw : a7y proc n.g p = true := by simp only [a7y, decide_eq_true_eq]; omega
 refine dv 6 ?_
 refine y6y (id := 3) v8v rfl z4z rfl rfl rfl rfl rfl rfl ?_
 refine y7y (zs := (((a0x n ++ s9s n 3).take j).filter (a7y proc n.g) ++ [p]).map z2z) rfl rfl v8v rfl z4z rfl rfl rfl rfl (by rfl) (z8z _ _ _) (by have hb56 : T56.bytes = 56 := rfl; rw [List.length_map, hb56]; simp only [r5r, s1s, s3s]; omega) ?_
 refine dv 3 ?_
 refine v0v rfl rfl rfl (dv 1 ?_)
 exact ⟨j + 1, ⟨by omega, by omega⟩, [0, 0, _, _, _], (y0y 7 rfl (Cov.cons' (t := 8) rfl (by rw [y4y (by omega) (by omega)]; rfl) Cov.nil)), x7x, (HE.row rfl (by rw [a0j hp]; rw [if_pos hw]) (HE.kill rfl (HE.kill rfl HE.nil))), x5x, rfl⟩
end
section
theorem w5w (c : Bool) (n : Nd) : a0g Tryz.prog 46 [.agg (u1u c n)] (.pv (.bool (kb (y3y n)))) := by
 refine pX Tryz.f46 [.pv (.bool (kb (y3y n)))] 1 ?_
 have hpl := a5f n.id 4
 refine dv 1 ?_
 refine x9x (id := 0) rfl rfl rfl (dv 5 fun K K' => ?_)
 refine x0x rfl rfl rfl (y9y ..) (dc 2 (aS ?_ ?_))<;>intro hg2<;>try simp at hg2
 ·have hX : ¬ (0 ≤ n.id ∧ n.id ≤ 2) := by omega
  refine dv 40 ?_
  refine x2x rfl ?_ rfl
  exact congrArg (fun b : Bool => [AV.pv (.bool b)]) (a4v (fun h => by obtain ⟨⟨q1, q2, q3, q4, q5, q6, q7, q8, q9⟩, q0⟩ := h; exact hX q1.1))
 have f1 : 0 ≤ n.id ∧ n.id ≤ 2 := hg2
 refine dv 2 ?_
 refine x0x rfl rfl rfl (u0u ..) (dv 0 ?_)
 refine x0x rfl rfl rfl (y9y ..) (dc 3 (aS ?_ ?_))<;>intro hg3<;>try simp at hg3
 ·have hX : ¬ (1 ≤ n.inc ∧ n.inc ≤ 9999) := by omega
  refine dv 33 ?_
  refine x2x rfl ?_ rfl
  exact congrArg (fun b : Bool => [AV.pv (.bool b)]) (a4v (fun h => by obtain ⟨⟨q1, q2, q3, q4, q5, q6, q7, q8, q9⟩, q0⟩ := h; exact hX q1.2.1))
 have f2 : 1 ≤ n.inc ∧ n.inc ≤ 9999 := hg3
 refine dv 2 ?_
 refine x0x rfl rfl rfl (y9y ..) (dc 3 (aS ?_ ?_))<;>intro hg4<;>try simp at hg4
 ·have hX : ¬ (0 ≤ n.g ∧ n.g ≤ 41) := by omega
  refine dv 27 ?_
  refine x2x rfl ?_ rfl
  exact congrArg (fun b : Bool => [AV.pv (.bool b)]) (a4v (fun h => by obtain ⟨⟨q1, q2, q3, q4, q5, q6, q7, q8, q9⟩, q0⟩ := h; exact hX q1.2.2.1))
 have f3 : 0 ≤ n.g ∧ n.g ≤ 41 := hg4
 refine dv 2 ?_
 refine x0x rfl rfl rfl (u0u ..) (dv 0 ?_)
 refine x0x rfl rfl rfl (y9y ..) (dc 3 (aS ?_ ?_))<;>intro hg5<;>try simp at hg5
 ·have hX : ¬ (0 ≤ n.led ∧ n.led ≤ 9999) := by omega
  refine dv 20 ?_
  refine x2x rfl ?_ rfl
  exact congrArg (fun b : Bool => [AV.pv (.bool b)]) (a4v (fun h => by obtain ⟨⟨q1, q2, q3, q4, q5, q6, q7, q8, q9⟩, q0⟩ := h; exact hX q1.2.2.2.1))
 have f4 : 0 ≤ n.led ∧ n.led ≤ 9999 := hg5
 refine dv 2 ?_
 refine x0x rfl rfl rfl (a3n ..) (dv 0 ?_)
 refine x0x rfl rfl rfl (a3j ..) (dc 3 (aS ?_ ?_))<;>intro hg6<;>try simp at hg6
 ·have hX : ¬ a7w okE a2i n.kept 100 = true := by simpa using hg6
  refine dv 13 ?_
  refine x2x rfl ?_ rfl
  exact congrArg (fun b : Bool => [AV.pv (.bool b)]) (a4v (fun h => by obtain ⟨⟨q1, q2, q3, q4, q5, q6, q7, q8, q9⟩, q0⟩ := h; exact hX q2))
 have f5 : a7w okE a2i n.kept 100 = true := hg6
 refine dv 2 ?_
 refine x0x rfl rfl rfl (a7m ..) (dc 3 (aS ?_ ?_))<;>intro hg7<;>try simp at hg7
 ·have hX : ¬ a7w okO b1x n.outs 96 = true := by simpa using hg7
  refine dv 7 ?_
  refine x2x rfl ?_ rfl
  exact congrArg (fun b : Bool => [AV.pv (.bool b)]) (a4v (fun h => by obtain ⟨⟨q1, q2, q3, q4, q5, q6, q7, q8, q9⟩, q0⟩ := h; exact hX q3))
 have f6 : a7w okO b1x n.outs 96 = true := hg7
 refine dv 1 ?_
 refine x0x rfl rfl rfl (c3h ..) (dc 2 (aI ?_ ?_))<;>intro hc8<;>try simp at hc8
 ·try have hX : ¬ c7k n := a0w (by simpa using hc8)
  refine dv 3 ?_
  refine x2x rfl ?_ rfl
  exact congrArg (fun b : Bool => [AV.pv (.bool b)]) (a4v (fun h => by obtain ⟨⟨q1, q2, q3, q4, q5, q6, q7, q8, q9⟩, q0⟩ := h; exact hX ⟨q6, q7, q1.2.2.2.2.1, q1.2.2.2.2.2.1, q1.2.2.2.2.2.2, q9⟩))
 have fF : c7k n := a0o.1 (by simpa using hc8)
 have fo96 := (q6q f6).1
 refine dv 1 ?_
 refine r0r (ι := Unit) (fun _i γ1 => []) (fun _i γ1 => []) (fun _i => ∀ (i : Nat) a, n.outs[i]? = some a → a.time < n.g) (y0y 1 rfl Cov.nil) (p6p 0 rfl HE.nil) ?_ fun _i γ1 hi => ?_
 ·refine dc 6 (aS ?_ ?_)<;>intro hg9<;>try simp at hg9
  ·have g0 : n.outs.length = 0 := by (rw [hg9]; rfl)
   have fO : ∀ (i : Nat) a, n.outs[i]? = some a → a.time < n.g := fun i a ha => by have := (List.getElem?_eq_some_iff.1 ha).1; omega
   refine dv 13 ?_
   try have fO : ∀ (i : Nat) a, n.outs[i]? = some a → a.time < n.g := d0l f6 ho (by omega)
   refine dv 1 ?_
   exact ⟨(), fO, [], x7x, x7x, x5x, x5x, rfl⟩
  have g0 : 0 < n.outs.length := by omega
  obtain ⟨o, ho⟩ := gE n.outs (n.outs.length - 1)
  refine dv 5 ?_
  refine r6r (b := 1) rfl rfl (by omega) (by omega) (dc 7 (aS ?_ ?_))<;>intro u<;>try simp at u
  ·try have fO : ∀ (i : Nat) a, n.outs[i]? = some a → a.time < n.g := d0l f6 ho (by omega)
   refine dv 1 ?_
   exact ⟨(), fO, [], x7x, x7x, x5x, x5x, rfl⟩
  have hX : ¬ o.time < n.g := by omega
  refine dv 3 ?_
  refine x2x rfl ?_ rfl
  exact congrArg (fun b : Bool => [AV.pv (.bool b)]) (a4v (fun h => by obtain ⟨⟨q1, q2, q3, q4, q5, q6, q7, q8, q9⟩, q0⟩ := h; exact hX (q4 _ _ ho)))
 ·try dsimp only [b3d, b3e]
  have fO := hi
  refine dv 3 ?_
  refine x0x rfl rfl rfl (b3k ..) (dc 9 (fun K K' => aI ?_ ?_))<;>intro u<;>try simp at u
  ·refine dv 3 ?_
   refine x2x rfl ?_ rfl
   exact congrArg (fun b : Bool => [AV.pv (.bool b)]) (a4v (fun h => by obtain ⟨⟨q1, q2, q3, q4, q5, q6, q7, q8, q9⟩, q0⟩ := h; omega))
  have fL : n.lanes.length = (p8p n.id 4).length := by omega
  refine dv 5 fun K K' => ?_
  refine x6x (ι := Nat) (fun i γ2 => [(4, pI (i : Int))]) (fun i γ2 => []) (fun i => i ≤ (p8p n.id 4).length ∧ c8t n.lanes (fun j l => (p8p n.id 4)[j]? = some l.proc ∧ a6r l = true) i) (fun i => (p8p n.id 4).length - i) (r7r [1, 3] rfl) (p6p 0 rfl HE.nil) 0 ⟨by omega, a1f⟩ [] x7x x5x rfl fun i γ2 hi => ?_
  obtain ⟨b1, b2⟩ := hi
  refine dc 6 (fun K K' => aI ?_ ?_)<;>intro u<;>try simp at u
  ·obtain ⟨l, hl⟩ := gE n.lanes i
   obtain ⟨p, hp⟩ := gE (p8p n.id 4) i
   refine dv 9 fun K K' => ?_
   refine x0x rfl rfl rfl (a3o ..) (dc 2 (aS ?_ ?_))<;>intro hg18<;>try simp at hg18
   ·have hX : ¬ a6r l = true := by simpa using hg18
    refine dv 16 ?_
    refine x2x rfl ?_ rfl
    exact congrArg (fun b : Bool => [AV.pv (.bool b)]) (a4v (fun h => by obtain ⟨⟨q1, q2, q3, q4, q5, q6, q7, q8, q9⟩, q0⟩ := h; exact hX (q8 _ _ hl).2))
   have hlo : a6r l = true := hg18
   refine dc 13 (aS ?_ ?_)<;>intro hc19<;>try simp at hc19
   ·have hpe : l.proc = p := hc19
    refine dv 3 ?_
    refine x8x (b := 1) rfl rfl (by omega) (dv 1 ?_)
    exact ⟨i + 1, ⟨⟨by omega, s0s b2 hl ⟨by rw [hp, hpe], hlo⟩⟩, by omega⟩, [], x7x, x7x, x5x, x5x, rfl⟩
   try have hX : ¬ l.proc = p := hc19
   refine dv 3 ?_
   refine x2x rfl ?_ rfl
   exact congrArg (fun b : Bool => [AV.pv (.bool b)]) (a4v (fun h => by obtain ⟨⟨q1, q2, q3, q4, q5, q6, q7, q8, q9⟩, q0⟩ := h; have := (q8 _ _ hl).1; rw [hp] at this; exact hX (Option.some.inj this).symm))
  have fN : e5b n := a2x b2 (by omega)
  refine dv 5 fun K K' => ?_
  refine x6x (ι := Nat) (fun j γ3 => [(5, pI (j : Int))]) (fun j γ3 => []) (fun j => j ≤ (p8p n.id 4).length ∧ c8t n.lanes (fun j l => ∀ p, (p8p n.id 4)[j]? = some p → l.done.length ≤ same l.done (a0i n p) ∧ (a0i n p).length ≤ 100) j) (fun j => (p8p n.id 4).length - j) (r7r [1, 3] rfl) (p6p 0 rfl HE.nil) 0 ⟨by omega, a1f⟩ [] x7x x5x rfl fun j γ3 hi => ?_
  obtain ⟨d1, d2⟩ := hi
  refine dc 6 (fun K K' => aS ?_ ?_)<;>intro u<;>try simp at u
  ·have fC := fun (i : Nat) p l (a : (p8p n.id 4)[i]? = some p) (b : n.lanes[i]? = some l) => a2x d2 (by omega) i l b p a
   refine dv 4 ?_
   refine x2x rfl ?_ rfl
   exact congrArg (fun b : Bool => [AV.pv (.bool b)]) (e3w ⟨⟨⟨f1, f2, f3, f4, fF.2.2.1, fF.2.2.2.1, fF.2.2.2.2.1⟩, f5, f6, fO, fL, fF.1, fF.2.1, fN, fF.2.2.2.2.2⟩, fC⟩)
  obtain ⟨l, hl⟩ := gE n.lanes j
  obtain ⟨p, hp⟩ := gE (p8p n.id 4) j
  obtain ⟨hdl, _⟩ := a2s (fN j l hl).2
  refine dv 15 fun K K' => ?_
  refine x0x rfl rfl rfl (a4c c n p (by have := c7l f5 (by omega) fN; have := c7m fF.1 fF.2.1 fF.2.2.2.2.2; omega) (by omega) fF.1) ?_
  refine x0x rfl rfl rfl (a9j ..) (dc 9 (aS ?_ ?_))<;>intro u<;>try simp at u
  ·refine dv 14 ?_
   refine x2x rfl ?_ rfl
   exact congrArg (fun b : Bool => [AV.pv (.bool b)]) (a4v (fun h => by obtain ⟨⟨q1, q2, q3, q4, q5, q6, q7, q8, q9⟩, q0⟩ := h; have := q0 _ _ _ hp hl; omega))
  refine dv 6 ?_
  refine x0x rfl rfl rfl (a4c c n p (by have := c7l f5 (by omega) fN; have := c7m fF.1 fF.2.1 fF.2.2.2.2.2; omega) (by omega) fF.1) ?_
  refine dv 1 ?_
  refine x0x rfl rfl rfl (a3n ..) (dc 2 (aS ?_ ?_))<;>intro u<;>try simp at u
  ·refine dv 3 ?_
   refine x8x (b := 1) rfl rfl (by omega) (dv 1 ?_)
   exact ⟨j + 1, ⟨⟨by omega, s0s d2 hl (fun p2 hp2 => by rw [hp] at hp2; cases hp2; omega)⟩, by omega⟩, [], x7x, x7x, x5x, x5x, rfl⟩
  refine dv 3 ?_
  refine x2x rfl ?_ rfl
  exact congrArg (fun b : Bool => [AV.pv (.bool b)]) (a4v (fun h => by obtain ⟨⟨q1, q2, q3, q4, q5, q6, q7, q8, q9⟩, q0⟩ := h; have := q0 _ _ _ hp hl; omega))
end
section
theorem a8d (c : Bool) (n : Nd) (t : Nat) (ht : t < 3) (hk3 : n.known.length = 3) (hs : (a0x n).length ≤ 5000000) (hlen : n.lanes.length ≤ 1048576) : a0g Tryz.prog 135 [.agg (u1u c n), .pv (.int .i64 (t : Int))] (a0t true (a2y n (t : Int))) := by
 refine pX Tryz.f135 [a0t true (a2y n (t : Int))] 5 ?_
 obtain ⟨kn, hkn⟩ := gE n.known t
 rw [e0v hkn]
 refine dv 1 ?_
 refine x9x (id := 0) rfl rfl rfl (dv 3 ?_)
 refine rlM [4] [_] (b4z c n (by omega) hlen) rfl rfl rfl ?_
 refine dv 1 ?_
 refine s7s 5 rfl rfl (fun _ => rfl) ?_
 refine dv 1 ?_
 refine y1y (id := 1) v8v rfl z4z rfl (dv 5 fun K K' => ?_)
 refine x6x (ι := Nat) (fun j γ1 => [(6, .ref 1 (γ1 1)), (7, pI (j : Int))]) (fun j γ1 => [(1, ((γ1 1), .row 56 7 ((((a0x n).take j).filter (b5z (t : Int) kn)).map z2z))), (2, ((γ1 2), .dead)), (3, ((γ1 3), .dead))]) (fun j => j ≤ (a0x n).length) (fun j => (a0x n).length - j) (r7r [1, 2, 5] rfl) (a1m [0, 4] rfl) 0 (by omega) [0, _, _, _] x7x (HE.row rfl (by rw [List.take_zero]; rfl) (HE.kill rfl (HE.kill rfl HE.nil))) rfl fun j γ1 hi => ?_
 refine dc 6 (fun K K' => aS ?_ ?_)<;>intro h<;>try simp at h
 ·obtain rfl : j = (a0x n).length := by omega
  rw [List.take_length]
  refine dv 1 ?_
  refine s7s 6 rfl rfl (fun _ => rfl) ?_
  refine dv 2 ?_
  refine x0x rfl rfl rfl (a1e true ((a0x n).filter (b5z (t : Int) kn)) (Nat.le_trans (List.length_filter_le _ _) (by omega))) ?_
  refine dv 2 ?_
  refine x2x rfl rfl rfl
 obtain ⟨p, hp⟩ := gE (a0x n) j
 have hfl : (((a0x n).take j).filter (b5z (t : Int) kn)).length ≤ 5000000 := Nat.le_trans (List.length_filter_le _ _) (by rw [List.length_take]; omega)
 refine dv 9 fun K K' => ?_
 refine x0x rfl rfl rfl (a1g ..) (dc 3 (aS ?_ ?_))<;>intro hg5<;>try simp at hg5
 ·have hw : ¬ b5z (t : Int) kn p = true := by simp only [b5z, decide_eq_true_eq]; omega
  refine dv 12 ?_
  try have hw : ¬ b5z (t : Int) kn p = true := by simp only [b5z, decide_eq_true_eq]; omega
  refine dv 3 ?_
  refine v0v rfl rfl rfl (dv 1 ?_)
  exact ⟨j + 1, ⟨by omega, by omega⟩, [0, _, _, _], (y0y 6 rfl (Cov.cons' (t := 7) rfl (by rw [y4y (by omega) (by omega)]; rfl) Cov.nil)), x7x, (HE.row rfl (by rw [a0j hp]; rw [if_neg hw, List.append_nil]) (HE.kill rfl (HE.kill rfl HE.nil))), x5x, rfl⟩
 have hw1 : a0e p.to = (t : Int) := hg5
 refine dc 12 (aS ?_ ?_)<;>intro h<;>try simp at h
 ·try have hw : ¬ b5z (t : Int) kn p = true := by simp only [b5z, decide_eq_true_eq]; omega
  refine dv 3 ?_
  refine v0v rfl rfl rfl (dv 1 ?_)
  exact ⟨j + 1, ⟨by omega, by omega⟩, [0, _, _, _], (y0y 6 rfl (Cov.cons' (t := 7) rfl (by rw [y4y (by omega) (by omega)]; rfl) Cov.nil)), x7x, (HE.row rfl (by rw [a0j hp]; rw [if_neg hw, List.append_nil]) (HE.kill rfl (HE.kill rfl HE.nil))), x5x, rfl⟩
 have hw : b5z (t : Int) kn p = true := by simp only [b5z, decide_eq_true_eq]; omega
 refine dv 6 ?_
 refine y6y (id := 2) v8v rfl z4z rfl rfl rfl rfl rfl rfl ?_
 refine y7y (zs := (((a0x n).take j).filter (b5z (t : Int) kn) ++ [p]).map z2z) rfl rfl v8v rfl z4z rfl rfl rfl rfl (by rfl) (z8z _ _ _) (by (simp only [s2s, r5r, s1s, s3s, a0l, a2z, T56] at *; omega)) ?_
 refine dv 3 ?_
 refine v0v rfl rfl rfl (dv 1 ?_)
 exact ⟨j + 1, ⟨by omega, by omega⟩, [0, _, _, _], (y0y 6 rfl (Cov.cons' (t := 7) rfl (by rw [y4y (by omega) (by omega)]; rfl) Cov.nil)), x7x, (HE.row rfl (by rw [a0j hp]; rw [if_pos hw]) (HE.kill rfl (HE.kill rfl HE.nil))), x5x, rfl⟩
end
section
theorem c4q (c c' : Bool) (l l' : List Ev) : a0g Tryz.prog 251 [a0t c l, a0t c' l'] (.pv (.bool (decide (l = l')))) := by
 refine pX Tryz.f251 [.pv (.bool (decide (l = l')))] 0 ?_
 refine u2u 0 rfl fun hlen => ?_
 refine dc 9 (fun K K' => aI ?_ ?_)<;>intro o<;>try simp at o
 ·refine dv 3 ?_
  refine x2x rfl ?_ rfl
  exact f0m (by omega)
 refine dv 5 fun K K' => ?_
 refine x6x (ι := Nat) (fun i γ1 => [(5, pI (i : Int))]) (fun i γ1 => []) (fun i => i ≤ l.length ∧ l.length = l'.length ∧ l.take i = l'.take i) (fun i => l.length - i) (r7r [0, 1] rfl) HE.nil 0 ⟨by omega, by omega, rfl⟩ [] x7x x5x rfl fun i γ1 hi => ?_
 obtain ⟨h1, h2, h3⟩ := hi
 refine dc 6 (fun K K' => aS ?_ ?_)<;>intro o<;>try simp at o
 ·refine dv 4 ?_
  refine x2x rfl ?_ rfl
  exact eqT h3 (by omega) (by omega)
 refine dv 6 fun K K' => ?_
 obtain ⟨x, hx⟩ := gE l i
 refine dv 4 ?_
 obtain ⟨y, hy⟩ := gE l' i
 refine dv 2 ?_
 refine a9c rfl rfl (by intro p q h; cases h) (.inr rfl) (f0l _ _ _ _) ?_
 refine dc 0 (aS ?_ ?_)<;>intro hc7<;>try simp at hc7
 ·have hxy : x = y := by simpa [a2j] using hc7
  refine dv 3 ?_
  refine q9q (.int .i64 ((i + 1 : Nat) : Int)) rfl rfl rfl (a6i rfl (by omega) (by omega) (by have := hlen; omega)) ?_
  refine dv 1 ?_
  exact ⟨i + 1, ⟨⟨by omega, h2, a6m h3 hx hy (by assumption)⟩, by omega⟩, [], x7x, x7x, x5x, x5x, rfl⟩
 have hxy : ¬ x = y := by simpa [a2j] using hc7
 refine dv 3 ?_
 refine x2x rfl ?_ rfl
 exact d7y hx hy (by assumption)
theorem b1u (c : Bool) (a b : List Ev) (g : Int) : a0g Tryz.prog 169 [a0t c a, a0t c b, .pv (.int .i64 g)] (.pv (.int .i64 (chg g a (chg g b 41 a) b))) := by
 refine pX Tryz.f169 [.pv (.int .i64 (chg g a (chg g b 41 a) b))] 0 ?_
 refine dv 8 fun K K' => ?_
 refine x6x (ι := Nat) (fun k γ1 => [(0, a0t c (swK a b k)), (1, a0t c (swK b a k)), (7, pI (e7v g a b k)), (8, pI (k : Int))]) (fun k γ1 => []) (fun k => k ≤ 2) (fun k => 2 - k) (y0y 2 rfl Cov.nil) HE.nil 0 (by omega) [] (Cov.cons' (t := 0) rfl (rfl) (Cov.cons' (t := 1) rfl (rfl) (Cov.cons' (t := 7) rfl (rfl) (y0y 8 rfl Cov.nil)))) x5x rfl fun k γ1 hi => ?_
 refine dc 4 (fun K K' => aS ?_ ?_)<;>intro o<;>try simp at o
 ·obtain rfl : k = 2 := by omega
  refine dv 5 ?_
  exact x2x rfl rfl rfl
 refine dv 7 fun K K' K K' => ?_
 refine u2u 0 rfl fun hlen0 => ?_
 refine x6x (ι := Nat) (fun i γ2 => [(7, pI (chg g (swK b a k) (e7v g a b k) ((swK a b k).take i))), (9, pI (i : Int))]) (fun i γ2 => []) (fun i => i ≤ (swK a b k).length) (fun i => (swK a b k).length - i) (r7r [0, 1, 2, 8] rfl) HE.nil 0 (by omega) [] (Cov.cons' (t := 7) rfl (by rw [List.take_zero]; rfl) (y0y 9 rfl Cov.nil)) x5x rfl fun i γ2 hi => ?_
 refine dc 6 (fun K K' => aS ?_ ?_)<;>intro o<;>try simp at o
 ·obtain rfl : i = (swK a b k).length := by omega
  refine dv 12 ?_
  refine x8x (b := 1) rfl rfl (by omega) (dv 1 ?_)
  exact ⟨k + 1, ⟨by omega, by omega⟩, [], (Cov.cons' (t := 0) rfl (by rw [d5g (by omega)]) (Cov.cons' (t := 1) rfl (by rw [d5g (by omega)]) (Cov.cons' (t := 7) rfl (by rw [e1p (by omega), List.take_length]) (y0y 8 rfl Cov.nil)))), x7x, x5x, x5x, rfl⟩
 obtain ⟨x, hx⟩ := gE (swK a b k) i
 refine dv 9 fun K K' K K' => ?_
 refine u2u 1 rfl fun hlen1 => ?_
 refine x6x (ι := Nat) (fun j γ3 => [(10, .pv (.bool (decide (x ∈ (swK b a k).take j)))), (11, pI (j : Int))]) (fun j γ3 => []) (fun j => j ≤ (swK b a k).length) (fun j => (swK b a k).length - j) (r7r [0, 1, 2, 7, 8, 9] rfl) HE.nil 0 (by omega) [] (Cov.cons' (t := 10) rfl (by simp) (y0y 11 rfl Cov.nil)) x5x rfl fun j γ3 hi => ?_
 refine dc 6 (fun K K' => aI ?_ ?_)<;>intro o<;>try simp at o
 ·obtain ⟨z, hz⟩ := gE (swK b a k) j
  refine dc 6 (fun K K' => aS ?_ ?_)<;>intro hg13<;>try simp at hg13
  ·have hin : x ∈ (swK b a k).take j := by simpa using hg13
   refine dv 12 ?_
   refine x8x (b := 1) rfl rfl (by omega) (dv 1 ?_)
   exact ⟨j + 1, ⟨by omega, by omega⟩, [], (Cov.cons' (t := 10) rfl (by rw [z5z hz]; (simp [hin]; done)) (y0y 11 rfl Cov.nil)), x7x, x5x, x5x, rfl⟩
  have hin : ¬ x ∈ (swK b a k).take j := by simpa using hg13
  refine dv 8 ?_
  refine a9c rfl rfl (by intro a c h; cases h) (.inl rfl) (f0l _ _ _ _) ?_
  refine dv 4 ?_
  refine x8x (b := 1) rfl rfl (by omega) (dv 1 ?_)
  exact ⟨j + 1, ⟨by omega, by omega⟩, [], (Cov.cons' (t := 10) rfl (by rw [z5z hz]; (simp [hin]; rfl)) (y0y 11 rfl Cov.nil)), x7x, x5x, x5x, rfl⟩
 obtain rfl : j = (swK b a k).length := by omega
 rw [List.take_length]
 refine dc 5 (aS ?_ ?_)<;>intro hg14<;>try simp at hg14
 ·have hn : ¬ (g ≤ x.time ∧ x.time < chg g (swK b a k) (e7v g a b k) ((swK a b k).take i) ∧ ¬ x ∈ swK b a k) := fun q => q.2.2 (by simpa using hg14)
  refine dv 20 ?_
  refine x8x (b := 1) rfl rfl (by omega) (dv 1 ?_)
  exact ⟨i + 1, ⟨by omega, by omega⟩, [], (Cov.cons' (t := 7) rfl (by rw [b7u hx, if_neg hn]) (y0y 9 rfl Cov.nil)), x7x, x5x, x5x, rfl⟩
 have hm : ¬ x ∈ swK b a k := by simpa using hg14
 refine dc 9 (aS ?_ ?_)<;>intro o<;>try simp at o
 ·have hn : ¬ (g ≤ x.time ∧ x.time < chg g (swK b a k) (e7v g a b k) ((swK a b k).take i) ∧ ¬ x ∈ swK b a k) := fun q => (by have := q.1; omega)
  refine dv 11 ?_
  refine x8x (b := 1) rfl rfl (by omega) (dv 1 ?_)
  exact ⟨i + 1, ⟨by omega, by omega⟩, [], (Cov.cons' (t := 7) rfl (by rw [b7u hx, if_neg hn]) (y0y 9 rfl Cov.nil)), x7x, x5x, x5x, rfl⟩
 refine dc 8 (aS ?_ ?_)<;>intro o<;>try simp at o
 ·have hn : ¬ (g ≤ x.time ∧ x.time < chg g (swK b a k) (e7v g a b k) ((swK a b k).take i) ∧ ¬ x ∈ swK b a k) := by exact fun q => (by have := q.2.1; omega)
  refine dv 3 ?_
  refine x8x (b := 1) rfl rfl (by omega) (dv 1 ?_)
  exact ⟨i + 1, ⟨by omega, by omega⟩, [], (Cov.cons' (t := 7) rfl (by rw [b7u hx, if_neg hn]) (y0y 9 rfl Cov.nil)), x7x, x5x, x5x, rfl⟩
 have hy : g ≤ x.time ∧ x.time < chg g (swK b a k) (e7v g a b k) ((swK a b k).take i) ∧ ¬ x ∈ swK b a k := ⟨by omega, by omega, hm⟩
 refine dv 9 ?_
 refine x8x (b := 1) rfl rfl (by omega) (dv 1 ?_)
 exact ⟨i + 1, ⟨by omega, by omega⟩, [], (Cov.cons' (t := 7) rfl (by (rw [b7u hx, if_pos hy] <;> rfl)) (y0y 9 rfl Cov.nil)), x7x, x5x, x5x, rfl⟩
theorem b3l (n : Nd) (hw : wk n) : Meth Tryz.prog 171 3 [0, 1, 2] [.agg [pI n.id, .pv (.bool n.up), pI n.inc, pI n.g, .ref 0 0, a0t true n.kept, r9r true n.outs, pI n.led, pI n.version, .ref 1 0, .ref 2 0, pI n.round, pI n.low]] [(0, (0, .row 44 5 ((n.lanes).map (q2q true)))), (1, (0, .row 190 3 ((n.views).map (a3g true)))), (2, (0, .row 3 1 (n.known.map a3u)))] (.agg [pI (nl n (r4r n n.lanes)).id, .pv (.bool (nl n (r4r n n.lanes)).up), pI (nl n (r4r n n.lanes)).inc, pI (nl n (r4r n n.lanes)).g, .ref 0 0, a0t true (nl n (r4r n n.lanes)).kept, r9r true (nl n (r4r n n.lanes)).outs, pI (nl n (r4r n n.lanes)).led, pI (nl n (r4r n n.lanes)).version, .ref 1 0, .ref 2 0, pI (nl n (r4r n n.lanes)).round, pI (nl n (r4r n n.lanes)).low]) [(0, (0, .row 44 5 ((r4r n n.lanes).map (q2q true))))] := by
 refine mX Tryz.f171 [.agg [pI (nl n (r4r n n.lanes)).id, .pv (.bool (nl n (r4r n n.lanes)).up), pI (nl n (r4r n n.lanes)).inc, pI (nl n (r4r n n.lanes)).g, .ref 0 0, a0t true (nl n (r4r n n.lanes)).kept, r9r true (nl n (r4r n n.lanes)).outs, pI (nl n (r4r n n.lanes)).led, pI (nl n (r4r n n.lanes)).version, .ref 1 0, .ref 2 0, pI (nl n (r4r n n.lanes)).round, pI (nl n (r4r n n.lanes)).low]] 3 2 fun γ => ?_
 refine dv 1 ?_
 refine x9x (id := 3) rfl rfl rfl (x3x (id := 4) u3u p5p rfl (dv 4 fun K K' => ?_))
 refine x6x (ι := List La × Bool) (fun p γ1 => [(3, .pv (.bool (p.2)))]) (fun p γ1 => [(0, ((γ 0), .row 44 5 ((p.1).map (q2q true))))]) (fun p => (p.2 = true → r4r n p.1 = r4r n n.lanes) ∧ (p.2 = false → p.1 = r4r n n.lanes) ∧ wk (nl n p.1)) (fun p => 2 * c7r p.1 + p.2.toNat) (r7r [1, 2] rfl) (a1m [1, 2, 3, 4] rfl) (n.lanes, true) ⟨fun _ => rfl, fun h => (by cases h), hw⟩ [] x7x x5x rfl fun p γ1 hi => ?_
 obtain ⟨ls, q⟩ := p
 obtain ⟨h1, h2, h3⟩ := hi
 dsimp only at h1 h2 h3 ⊢
 refine dc 3 (fun K K' => aS ?_ ?_)<;>intro hc3<;>try simp at hc3
 ·have hq : q = false := by simpa using hc3
  subst hq
  have hfin : ls = r4r n n.lanes := h2 rfl
  refine dv 4 ?_
  subst hfin
  refine dv 1 ?_
  exact ⟨[γ 0, γ 1, γ 2], rfl, rfl, x5x⟩
 have hq : q = true := hc3
 subst hq
 refine dv 7 ?_
 refine x6x (ι := Nat) (fun i γ2 => [(3, .pv (.bool (b1a n ls i))), (4, pI (i : Int))]) (fun i γ2 => [(0, ((γ 0), .row 44 5 ((a2o n ls i).map (q2q true))))]) (fun i => i ≤ ls.length) (fun i => ls.length - i) (r7r [1, 2] rfl) (a1m [1, 2, 3, 4] rfl) 0 (by omega) [] (Cov.cons' (t := 3) rfl (rfl) (y0y 4 rfl Cov.nil)) x5x rfl fun i γ2 hi => ?_
 refine dc 7 (fun K K' => aS ?_ ?_)<;>intro o<;>try simp at o
 ·have hpl : (a2o n ls i).length = ls.length := c7s n ls i
  obtain rfl : i = ls.length := by omega
  refine dv 1 ?_
  exact ⟨(a2o n ls ls.length, b1a n ls ls.length), ⟨⟨fun h => (c7t h).trans (h1 rfl), fun h => (c0r h).trans (h1 rfl), c2s h3 _⟩, (f0e n ls ls.length)⟩, [], x7x, x7x, x5x, x5x, rfl⟩
 have hpl : (a2o n ls i).length = ls.length := c7s n ls i
 obtain ⟨l, hp⟩ := gE (a2o n ls i) i
 have h4 := c2s h3 i
 have h41 : (a2o n ls i).length ≤ 4 := h4.1
 have hb4 := h4.2.2.2.2.1 l (List.mem_of_getElem? hp)
 refine dv 7 fun K K' => ?_
 refine z1z (j := i) rfl rfl a7t rfl a0c rfl rfl (z3z hp) ?_
 refine dv 5 ?_
 refine z1z (j := i) rfl rfl a7t rfl a0c rfl rfl (z3z hp) ?_
 refine dv 2 ?_
 refine b5s rfl rfl rfl (d3a (n := nl n (a2o n ls i)) rfl rfl rfl (.cl rfl .nil)) (a4c false (nl n (a2o n ls i)) l.proc (f0b h4) (by have := h4.1; omega) h4.2.2.1) (b0i _) ?_
 refine x0x rfl rfl rfl (a9j true true l (a0i (nl n (a2o n ls i)) l.proc)) ?_
 refine dv 6 ?_
 refine z1z (j := i) rfl rfl a7t rfl a0c rfl rfl (z3z hp) ?_
 refine dc 4 (aS ?_ ?_)<;>intro o<;>try simp at o
 ·have hk := e1k (n := n) hp (by show ¬ same l.done (a0i (nl n (a2o n ls i)) l.proc) < l.done.length; omega)
  refine dv 3 ?_
  refine v0v rfl rfl rfl (dv 1 ?_)
  exact ⟨i + 1, ⟨by omega, by omega⟩, [], (Cov.cons' (t := 3) rfl (by rw [c5u, hk.2, Bool.or_false]) (Cov.cons' (t := 4) rfl (by rw [y4y (by omega) (by omega)]; rfl) Cov.nil)), x7x, (HE.row rfl (by rw [d0t, hk.1]) HE.nil), x5x, rfl⟩
 have hk := e1j (n := n) hp (by show same l.done (a0i (nl n (a2o n ls i)) l.proc) < l.done.length; omega)
 refine dv 7 ?_
 refine z1z (j := i) rfl rfl a7t rfl a0c rfl rfl (z3z hp) ?_
 refine dv 2 ?_
 refine x0x rfl rfl rfl (a2t true l 0 (keep n (a2o n ls i) l) (by omega) (by omega) (by have := f0c n (a2o n ls i) l; omega) (fun p hp => by have := hb4.2 p hp; omega)) ?_
 refine z1z (j := i) rfl rfl a7t rfl a0c rfl rfl (z3z hp) ?_
 refine v6v (el' := a1s l 0 (keep n (a2o n ls i) l)) rfl rfl a0c rfl rfl rfl hp rfl (q8q rfl) rfl rfl ?_
 refine dv 4 ?_
 refine v0v rfl rfl rfl (dv 1 ?_)
 exact ⟨i + 1, ⟨by omega, by omega⟩, [], (Cov.cons' (t := 3) rfl (by rw [c5u, hk.2, Bool.or_true]) (Cov.cons' (t := 4) rfl (by rw [y4y (by omega) (by omega)]; rfl) Cov.nil)), x7x, (HE.row rfl (by rw [d0t, hk.1]) HE.nil), x5x, rfl⟩
theorem b1v (c : Bool) (n m : Nd) (hn : wk n) (hm : wk m) (hid : n.id = m.id) (hv : 0 ≤ n.version ∧ n.version ≤ 9998) : Meth Tryz.prog 170 3 [0, 1, 2] [.agg (u1u c n), .agg [pI m.id, .pv (.bool m.up), pI m.inc, pI m.g, .ref 0 0, a0t true m.kept, r9r true m.outs, pI m.led, pI m.version, .ref 1 0, .ref 2 0, pI m.round, pI m.low]] [(0, (0, .row 44 5 ((m.lanes).map (q2q true)))), (1, (0, .row 190 3 ((m.views).map (a3g true)))), (2, (0, .row 3 1 (m.known.map a3u)))] (.agg [pI ({ m with version := a5m n m 3 } : Nd).id, .pv (.bool ({ m with version := a5m n m 3 } : Nd).up), pI ({ m with version := a5m n m 3 } : Nd).inc, pI ({ m with version := a5m n m 3 } : Nd).g, .ref 0 0, a0t true ({ m with version := a5m n m 3 } : Nd).kept, r9r true ({ m with version := a5m n m 3 } : Nd).outs, pI ({ m with version := a5m n m 3 } : Nd).led, pI ({ m with version := a5m n m 3 } : Nd).version, .ref 1 0, .ref 2 0, pI ({ m with version := a5m n m 3 } : Nd).round, pI ({ m with version := a5m n m 3 } : Nd).low]) [] := by
 refine mX Tryz.f170 [.agg [pI ({ m with version := a5m n m 3 } : Nd).id, .pv (.bool ({ m with version := a5m n m 3 } : Nd).up), pI ({ m with version := a5m n m 3 } : Nd).inc, pI ({ m with version := a5m n m 3 } : Nd).g, .ref 0 0, a0t true ({ m with version := a5m n m 3 } : Nd).kept, r9r true ({ m with version := a5m n m 3 } : Nd).outs, pI ({ m with version := a5m n m 3 } : Nd).led, pI ({ m with version := a5m n m 3 } : Nd).version, .ref 1 0, .ref 2 0, pI ({ m with version := a5m n m 3 } : Nd).round, pI ({ m with version := a5m n m 3 } : Nd).low]] 3 3 fun γ => ?_
 refine dv 1 ?_
 refine x9x (id := 3) rfl rfl rfl (x9x (id := 4) rfl rfl rfl (x3x (id := 5) u3u p5p rfl (dv 4 fun K K' => ?_)))
 refine x6x (ι := Nat) (fun k γ1 => [(5, pI (k : Int))]) (fun k γ1 => [(4, ((0 + 1), .box 65 [pI m.id, .pv (.bool m.up), pI m.inc, pI m.g, .ref 0 (γ 0), a0t true m.kept, r9r true m.outs, pI m.led, pI (a5m n m k), .ref 1 (γ 1), .ref 2 (γ 2), pI m.round, pI m.low]))]) (fun k => k ≤ 3) (fun k => 3 - k) (r7r [2, 3, 4] rfl) (a1m [0, 1, 2, 3, 5] rfl) 0 (by omega) [] x7x (HE.box rfl (by rfl) HE.nil) rfl fun k γ1 hi => ?_
 refine dc 4 (fun K K' => aS ?_ ?_)<;>intro o<;>try simp at o
 ·obtain rfl : k = 3 := by omega
  refine dv 5 ?_
  exact ⟨[γ 0, γ 1, γ 2], rfl, rfl, x5x⟩
 refine dc 9 (fun K K' => aS ?_ ?_)<;>intro hg5<;>try simp at hg5
 ·have hs : (k : Int) = m.id ∨ a2y n (k : Int) = a2y m (k : Int) := .inl hg5
  refine dv 12 ?_
  refine v0v rfl rfl rfl (dv 1 ?_)
  exact ⟨k + 1, ⟨by omega, by omega⟩, [], (Cov.cons' (t := 5) rfl (by rw [y4y (by omega) (by omega)]; rfl) Cov.nil), x7x, (HE.box rfl (by rw [e1n hid hs]) HE.nil), x5x, rfl⟩
 have hi0 : ¬ (k : Int) = m.id := hg5
 refine dv 2 ?_
 refine x0x rfl rfl rfl (a8d c n k (by omega) hn.2.2.2.1 (by have := d2y hn; omega) (by have := hn.1; omega)) ?_
 refine dv 2 ?_
 refine b5s rfl rfl rfl (d3a (n := ({ m with version := a5m n m k } : Nd)) rfl rfl rfl (.cl rfl .nil)) (a8d false ({ m with version := a5m n m k } : Nd) k (by omega) hm.2.2.2.1 (by have := d2y hm; show (a0x m).length ≤ 5000000; omega) (by have := hm.1; show m.lanes.length ≤ 1048576; omega)) (b0i _) ?_
 refine dv 0 ?_
 refine x0x rfl rfl rfl (c4q true true (a2y n (k : Int)) (a2y m (k : Int))) ?_
 refine dc 2 (aS ?_ ?_)<;>intro hc6<;>try simp at hc6
 ·have hs : (k : Int) = m.id ∨ a2y n (k : Int) = a2y m (k : Int) := .inr hc6
  refine dv 3 ?_
  refine v0v rfl rfl rfl (dv 1 ?_)
  exact ⟨k + 1, ⟨by omega, by omega⟩, [], (Cov.cons' (t := 5) rfl (by rw [y4y (by omega) (by omega)]; rfl) Cov.nil), x7x, (HE.box rfl (by rw [e1n hid hs]) HE.nil), x5x, rfl⟩
 have hd : ¬ a2y n (k : Int) = a2y m (k : Int) := hc6
 refine dv 3 ?_
 refine q9q (.int .i64 (n.version + 1)) rfl rfl rfl (a6i rfl rfl (by omega) (by omega)) ?_
 refine dv 4 ?_
 refine v0v rfl rfl rfl (dv 1 ?_)
 exact ⟨k + 1, ⟨by omega, by omega⟩, [], (Cov.cons' (t := 5) rfl (by rw [y4y (by omega) (by omega)]; rfl) Cov.nil), x7x, (HE.box rfl (by (rw [f0h hid hi0 hd] <;> rfl)) HE.nil), x5x, rfl⟩
end
section
theorem c3i (apps : List Ap) (n : Nd) (q : Int) (hn : ndI n) (hA : a6n apps) : MethE Tryz.prog 321 0 [a4w true apps, .agg (u1u true n), .pv (.int .i64 q)] [] (ι := Nd × Bool) (fun S' => ndI S'.1) (fun S' => []) (fun S' => .tup [.agg (u1u true S'.1), .pv (.bool (S'.2))]) (fun S' => []) := by
 refine mE (ι := Nd × Bool) Tryz.f321 (fun S' => [.agg (u1u true S'.1), .pv (.bool (S'.2))]) 0 10 fun γ => ?_
 have fK := hn.1
 have fS := fK.1
 have fB := w2w fS
 have fb := b7r fS
 have hb : ∀ a ∈ apps, ∀ r ∈ a.rules, r.ops.length ≤ 1048576 := fun a ha r hr => by obtain ⟨i, hi⟩ := List.getElem?_of_mem hr; have := ((hA.2 a ha).2 i r hi).2.1.2.1; omega
 refine dv 1 ?_
 refine x9x (id := 0) rfl rfl rfl (x3x (id := 1) u3u p5p rfl (dv 4 fun K K' => ?_))
 refine x0x rfl rfl rfl (w5w true n) (dc 1 (aI ?_ ?_))<;>intro hc2<;>try simp at hc2
 ·exact absurd fK (a0w (by simpa using hc2))
 refine dv 1 ?_
 refine s6s fun B X0 w0 => ?_
 refine txR 2 rfl rfl (dv 2 ?_)
 refine txM [] [] (c4o n q (by omega)) rfl rfl rfl rfl fun j hj => ?_
 refine txR 1 rfl rfl (dv 1 ?_)
 refine z7z rfl (dc 6 (fun K K' => aS ?_ ?_))<;>intro o<;>try simp at o
 ·refine dv 16 ?_
  refine rlM [7, 8, 9] [_, _, _] (y2y true n fb) rfl rfl rfl ?_
  refine dv 2 ?_
  (refine u6u (b := b8l true n.lanes) 1 4 rfl rfl rfl (.ref rfl (Le.ow_map _ (fun _ => rfl) (fun _ => rfl)) .nil) rfl rfl rfl rfl ?_; refine u6u (b := b9w true n.views) 1 9 rfl rfl rfl (.ref rfl (Le.ow_map _ (fun _ => rfl) (fun _ => rfl)) .nil) rfl rfl rfl rfl ?_; refine u6u (b := a3f true n.known) 1 10 rfl rfl rfl (.ref rfl (Le.ow_map _ (fun _ => rfl) (fun _ => rfl)) .nil) rfl rfl rfl rfl ?_)
  refine dv 1 ?_
  exact ⟨(n, false), hn, [], rfl, rfl, x5x⟩
 refine dv 1 ?_
 refine x0x rfl rfl rfl (a8y true apps hb) (dc 3 (aS ?_ ?_))<;>intro o<;>try simp at o
 ·refine dv 11 ?_
  refine rlM [7, 8, 9] [_, _, _] (y2y true n fb) rfl rfl rfl ?_
  refine dv 2 ?_
  (refine u6u (b := b8l true n.lanes) 1 4 rfl rfl rfl (.ref rfl (Le.ow_map _ (fun _ => rfl) (fun _ => rfl)) .nil) rfl rfl rfl rfl ?_; refine u6u (b := b9w true n.views) 1 9 rfl rfl rfl (.ref rfl (Le.ow_map _ (fun _ => rfl) (fun _ => rfl)) .nil) rfl rfl rfl rfl ?_; refine u6u (b := a3f true n.known) 1 10 rfl rfl rfl (.ref rfl (Le.ow_map _ (fun _ => rfl) (fun _ => rfl)) .nil) rfl rfl rfl rfl ?_)
  refine dv 1 ?_
  exact ⟨(n, false), hn, [], rfl, rfl, x5x⟩
 refine dc 4 (aS ?_ ?_)<;>intro o<;>try simp at o
 ·refine dv 7 ?_
  refine rlM [7, 8, 9] [_, _, _] (y2y true n fb) rfl rfl rfl ?_
  refine dv 2 ?_
  (refine u6u (b := b8l true n.lanes) 1 4 rfl rfl rfl (.ref rfl (Le.ow_map _ (fun _ => rfl) (fun _ => rfl)) .nil) rfl rfl rfl rfl ?_; refine u6u (b := b9w true n.views) 1 9 rfl rfl rfl (.ref rfl (Le.ow_map _ (fun _ => rfl) (fun _ => rfl)) .nil) rfl rfl rfl rfl ?_; refine u6u (b := a3f true n.known) 1 10 rfl rfl rfl (.ref rfl (Le.ow_map _ (fun _ => rfl) (fun _ => rfl)) .nil) rfl rfl rfl rfl ?_)
  refine dv 1 ?_
  exact ⟨(n, false), hn, [], rfl, rfl, x5x⟩
 refine dv 2 ?_
 refine x0x rfl rfl rfl (u0u ..) (dc 2 (aI ?_ ?_))<;>intro o<;>try simp at o
 ·refine dv 2 ?_
  refine rlM [7, 8, 9] [_, _, _] (y2y true n fb) rfl rfl rfl ?_
  refine dv 2 ?_
  (refine u6u (b := b8l true n.lanes) 1 4 rfl rfl rfl (.ref rfl (Le.ow_map _ (fun _ => rfl) (fun _ => rfl)) .nil) rfl rfl rfl rfl ?_; refine u6u (b := b9w true n.views) 1 9 rfl rfl rfl (.ref rfl (Le.ow_map _ (fun _ => rfl) (fun _ => rfl)) .nil) rfl rfl rfl rfl ?_; refine u6u (b := a3f true n.known) 1 10 rfl rfl rfl (.ref rfl (Le.ow_map _ (fun _ => rfl) (fun _ => rfl)) .nil) rfl rfl rfl rfl ?_)
  refine dv 1 ?_
  exact ⟨(n, false), hn, [], rfl, rfl, x5x⟩
 have hv9 : n.version < 9999 := by omega
 obtain ⟨i, l, hji, hl, hlp⟩ := hj.resolve_left (by omega)
 subst hji
 have hln := b7s fK hl
 have hp3 := (d1a hln.2.1).1
 obtain ⟨qn, rfl⟩ : ∃ qn : Nat, q = (qn : Int) := ⟨q.toNat, by omega⟩
 have hA4 := hA.1
 obtain ⟨a, ha⟩ := gE apps qn
 have hap := hA.2 a (List.mem_of_getElem? ha)
 have hv0 := fS.1.2.2.2.2.1.1
 refine dv 1 ?_
 refine d3e 12 (b4t v9v 0 12 rfl rfl ?_)
 refine dv 3 ?_
 refine u4u (out := .agg (b7x true a)) rfl a5c rfl ?_
 refine dv 4 ?_
 refine u4u (out := .agg (q2q true l)) rfl a0c rfl ?_
 refine dv 2 ?_
 refine x0x rfl rfl rfl (a4c true n (qn : Int) (b0f fS) (by omega) fS.2.2.2.2.2.1) ?_
 refine b4t v9v 16 1 rfl rfl ?_
 refine x3x (id := 2) a0c a6u rfl (b6f c1k (by rfl) [] [] (c3f a l (a0i n (qn : Int)) hap hln.2.1) rfl rfl rfl rfl (by decide) rfl rfl (by repeat (exact InH.nil)) (fun _ => (by (simp only [pI, a2d, a2e, b9u, gl, nx, a7d, Nat.beq]; rfl))) (fun _ => (by (simp only [pI, a2d, a2e, b9u, gl, nx, a7d, Nat.beq]; rfl))) (l, false) (by intro h; simp at h) fun r hr => ?_)
 refine b4u v9v 13 3 rfl rfl ?_
 refine dv 3 ?_
 refine b4u v9v 17 2 rfl rfl ?_
 refine dv 2 ?_
 refine c2x (by kernel_rfl) ?_
 refine dc 4 (fun K K' => aI ?_ ?_)<;>intro hc9<;>try simp at hc9
 ·refine dv 2 ?_
  refine rlM [7, 8, 9] [_, _, _] (y2y true n fb) rfl rfl rfl ?_
  refine dv 2 ?_
  (refine u6u (b := b8l true n.lanes) 1 4 rfl rfl rfl (.ref rfl (Le.ow_map _ (fun _ => rfl) (fun _ => rfl)) .nil) rfl rfl rfl rfl ?_; refine u6u (b := b9w true n.views) 1 9 rfl rfl rfl (.ref rfl (Le.ow_map _ (fun _ => rfl) (fun _ => rfl)) .nil) rfl rfl rfl rfl ?_; refine u6u (b := a3f true n.known) 1 10 rfl rfl rfl (.ref rfl (Le.ow_map _ (fun _ => rfl) (fun _ => rfl)) .nil) rfl rfl rfl rfl ?_)
  refine dv 1 ?_
  exact ⟨(n, false), hn, [], rfl, rfl, x5x⟩
 obtain ⟨p, hp1, hroom, hpb⟩ := hr hc9
 rw [hp1]
 have hwM := e6k (e5n fS) hl hroom hpb
 have hoM := e3f hn.2 hl hpb
 have hwA : wk (nl (nl n (n.lanes.set i (a2f l p))) (r4r (nl n (n.lanes.set i (a2f l p))) (nl n (n.lanes.set i (a2f l p))).lanes)) := c7u _ (Nat.le_refl _) hwM
 refine dv 3 ?_
 refine rlM [4, 5, 6] [_, _, _] (y2y true n fb) rfl rfl rfl ?_
 refine x3x (id := 3) u3u p5p rfl (dv 6 ?_)
 refine z1z (j := i) rfl rfl a7t rfl a0c rfl rfl (z3z hl) ?_
 refine v6v (el' := a2f l p) rfl rfl a0c rfl rfl rfl hl rfl (q8q rfl) rfl rfl ?_
 refine dv 3 ?_
 refine rlM [4, 5, 6] [_, _, _] (b3l (nl n (n.lanes.set i (a2f l p))) hwM) rfl rfl rfl ?_
 refine rlM [4, 5, 6] [_, _, _] (b1v true n (nl (nl n (n.lanes.set i (a2f l p))) (r4r (nl n (n.lanes.set i (a2f l p))) (nl n (n.lanes.set i (a2f l p))).lanes)) (e5n fS) hwA rfl ⟨hv0, by omega⟩) rfl rfl rfl ?_
 refine dv 2 fun K K' => ?_
 refine u6u (b := b8l true (a9g n (nl n (n.lanes.set i (a2f l p)))).lanes) 3 4 rfl rfl rfl (.ref rfl (Le.ow_map _ (fun _ => rfl) (fun _ => rfl)) .nil) rfl rfl rfl rfl ?_
 refine u6u (b := b9w true (a9g n (nl n (n.lanes.set i (a2f l p)))).views) 3 9 rfl rfl rfl (.ref rfl (Le.ow_map _ (fun _ => rfl) (fun _ => rfl)) .nil) rfl rfl rfl rfl ?_
 refine u6u (b := a3f true (a9g n (nl n (n.lanes.set i (a2f l p)))).known) 3 10 rfl rfl rfl (.ref rfl (Le.ow_map _ (fun _ => rfl) (fun _ => rfl)) .nil) rfl rfl rfl rfl ?_
 refine dv 2 ?_
 refine x0x rfl rfl rfl (w5w true (a9g n (nl n (n.lanes.set i (a2f l p))))) ?_
 refine dc 1 (aI ?_ ?_)<;>intro hc11<;>try simp at hc11
 ·refine dv 2 ?_
  refine rlM [7, 8, 9] [_, _, _] (y2y true n fb) rfl rfl rfl ?_
  refine dv 2 ?_
  (refine u6u (b := b8l true n.lanes) 1 4 rfl rfl rfl (.ref rfl (Le.ow_map _ (fun _ => rfl) (fun _ => rfl)) .nil) rfl rfl rfl rfl ?_; refine u6u (b := b9w true n.views) 1 9 rfl rfl rfl (.ref rfl (Le.ow_map _ (fun _ => rfl) (fun _ => rfl)) .nil) rfl rfl rfl rfl ?_; refine u6u (b := a3f true n.known) 1 10 rfl rfl rfl (.ref rfl (Le.ow_map _ (fun _ => rfl) (fun _ => rfl)) .nil) rfl rfl rfl rfl ?_)
  refine dv 1 ?_
  exact ⟨(n, false), hn, [], rfl, rfl, x5x⟩
 have fK2 : y3y (a9g n (nl n (n.lanes.set i (a2f l p)))) := a0o.1 (by simpa using hc11)
 have fb2 := b7r fK2.1
 refine dv 3 ?_
 refine rlM [7, 8, 9] [_, _, _] (y2y true (a9g n (nl n (n.lanes.set i (a2f l p)))) fb2) rfl rfl rfl ?_
 refine dv 2 ?_
 (refine u6u (b := b8l true (a9g n (nl n (n.lanes.set i (a2f l p)))).lanes) 1 4 rfl rfl rfl (.ref rfl (Le.ow_map _ (fun _ => rfl) (fun _ => rfl)) .nil) rfl rfl rfl rfl ?_; refine u6u (b := b9w true (a9g n (nl n (n.lanes.set i (a2f l p)))).views) 1 9 rfl rfl rfl (.ref rfl (Le.ow_map _ (fun _ => rfl) (fun _ => rfl)) .nil) rfl rfl rfl rfl ?_; refine u6u (b := a3f true (a9g n (nl n (n.lanes.set i (a2f l p)))).known) 1 10 rfl rfl rfl (.ref rfl (Le.ow_map _ (fun _ => rfl) (fun _ => rfl)) .nil) rfl rfl rfl rfl ?_)
 refine dv 1 ?_
 exact ⟨((a9g n (nl n (n.lanes.set i (a2f l p)))), true), ⟨fK2, c5y hoM⟩, [], rfl, rfl, x5x⟩
end
section
theorem b5a (c : Bool) (l : List Int) : a0g Tryz.prog 259 [a3f c l] (.pv (.bool (decide (c4k l)))) := by
 refine pX Tryz.f259 [.pv (.bool (decide (c4k l)))] 0 ?_
 refine u2u 0 rfl fun hlen => ?_
 refine dc 8 (fun K K' => aS ?_ ?_)<;>intro o<;>try simp at o
 ·refine dv 4 ?_
  have hL : l.length = 0 ∨ l.length = 3 := by (simp_all; done)
  refine dv 5 fun K K' => ?_
  refine x6x (ι := Nat) (fun i γ2 => [(3, pI (i : Int))]) (fun i γ2 => []) (fun i => i ≤ l.length ∧ c8t l (fun _ v => 0 ≤ v ∧ v ≤ 9999) i) (fun i => l.length - i) (y0y 0 rfl Cov.nil) HE.nil 0 ⟨by omega, a1f⟩ [] x7x x5x rfl fun i γ2 hi => ?_
  obtain ⟨h1, h2⟩ := hi
  refine dc 6 (fun K K' => aS ?_ ?_)<;>intro o<;>try simp at o
  ·have hall := a2x h2 (by omega)
   refine dv 4 ?_
   refine x2x rfl ?_ rfl
   exact kT ⟨hL, fun v hv => by obtain ⟨i, hi⟩ := List.getElem?_of_mem hv; exact hall i v hi⟩
  obtain ⟨v, hv⟩ := gE l i
  refine dv 8 fun K K' => ?_
  refine x0x rfl rfl rfl (u0u ..) (x0x rfl rfl rfl (y9y ..) (dc 1 (aS ?_ ?_)))<;>intro o<;>try simp at o
  ·have hb : 0 ≤ v ∧ v ≤ 9999 := by omega
   refine dv 3 ?_
   refine x8x (b := 1) rfl rfl (by omega) (dv 1 ?_)
   exact ⟨i + 1, ⟨⟨by omega, s0s h2 hv hb⟩, by omega⟩, [], x7x, x7x, x5x, x5x, rfl⟩
  have hX2 : ¬ (0 ≤ v ∧ v ≤ 9999) := by omega
  refine dv 3 ?_
  refine x2x rfl ?_ rfl
  exact kF (fun h => hX2 (h.2 v (List.mem_of_getElem? hv)))
 refine dc 4 (aI ?_ ?_)<;>intro o<;>try simp at o
 ·have hX : ¬ (l.length = 0 ∨ l.length = 3) := by (rintro (h | h); exact absurd (List.length_eq_zero_iff.1 h) ‹_›; omega)
  refine dv 3 ?_
  refine x2x rfl ?_ rfl
  exact kF (fun h => hX h.1)
 have hL : l.length = 0 ∨ l.length = 3 := by omega
 refine dv 5 fun K K' => ?_
 refine x6x (ι := Nat) (fun i γ1 => [(3, pI (i : Int))]) (fun i γ1 => []) (fun i => i ≤ l.length ∧ c8t l (fun _ v => 0 ≤ v ∧ v ≤ 9999) i) (fun i => l.length - i) (y0y 0 rfl Cov.nil) HE.nil 0 ⟨by omega, a1f⟩ [] x7x x5x rfl fun i γ1 hi => ?_
 obtain ⟨h1, h2⟩ := hi
 refine dc 6 (fun K K' => aS ?_ ?_)<;>intro o<;>try simp at o
 ·have hall := a2x h2 (by omega)
  refine dv 4 ?_
  refine x2x rfl ?_ rfl
  exact kT ⟨hL, fun v hv => by obtain ⟨i, hi⟩ := List.getElem?_of_mem hv; exact hall i v hi⟩
 obtain ⟨v, hv⟩ := gE l i
 refine dv 8 fun K K' => ?_
 refine x0x rfl rfl rfl (u0u ..) (x0x rfl rfl rfl (y9y ..) (dc 1 (aS ?_ ?_)))<;>intro o<;>try simp at o
 ·have hb : 0 ≤ v ∧ v ≤ 9999 := by omega
  refine dv 3 ?_
  refine x8x (b := 1) rfl rfl (by omega) (dv 1 ?_)
  exact ⟨i + 1, ⟨⟨by omega, s0s h2 hv hb⟩, by omega⟩, [], x7x, x7x, x5x, x5x, rfl⟩
 have hX2 : ¬ (0 ≤ v ∧ v ≤ 9999) := by omega
 refine dv 3 ?_
 refine x2x rfl ?_ rfl
 exact kF (fun h => hX2 (h.2 v (List.mem_of_getElem? hv)))
theorem b1h (c : Bool) (w : Wo) : a0g Tryz.prog 182 [.agg (u9u c w)] (.pv (.bool (decide (a3q w)))) := by
 refine pX Tryz.f182 [.pv (.bool (decide (a3q w)))] 1 ?_
 refine dv 1 ?_
 refine x9x (id := 0) rfl rfl rfl (dv 4 ?_)
 refine x0x rfl rfl rfl (y9y ..) (dc 1 (aS ?_ ?_))<;>intro o<;>try simp at o
 ·have hX : ¬ a5h w := by unfold a5h; omega
  refine dv 54 ?_
  refine x2x rfl ?_ rfl
  exact kF (fun h => hX h.1)
 refine dv 2 ?_
 refine x0x rfl rfl rfl (y9y ..) (dc 2 (aS ?_ ?_))<;>intro o<;>try simp at o
 ·have hX : ¬ a5h w := by unfold a5h; omega
  refine dv 49 ?_
  refine x2x rfl ?_ rfl
  exact kF (fun h => hX h.1)
 refine dv 2 ?_
 refine x0x rfl rfl rfl (y9y ..) (dc 2 (aS ?_ ?_))<;>intro o<;>try simp at o
 ·have hX : ¬ a5h w := by unfold a5h; omega
  refine dv 44 ?_
  refine x2x rfl ?_ rfl
  exact kF (fun h => hX h.1)
 refine dv 2 ?_
 refine x0x rfl rfl rfl (u0u ..) (dv 0 ?_)
 refine x0x rfl rfl rfl (y9y ..) (dc 2 (aS ?_ ?_))<;>intro o<;>try simp at o
 ·have hX : ¬ a5h w := by unfold a5h; omega
  refine dv 38 ?_
  refine x2x rfl ?_ rfl
  exact kF (fun h => hX h.1)
 refine dv 2 ?_
 refine x0x rfl rfl rfl (u0u ..) (dv 0 ?_)
 refine x0x rfl rfl rfl (y9y ..) (dc 2 (aS ?_ ?_))<;>intro o<;>try simp at o
 ·have hX : ¬ a5h w := by unfold a5h; omega
  refine dv 32 ?_
  refine x2x rfl ?_ rfl
  exact kF (fun h => hX h.1)
 refine dv 2 ?_
 refine x0x rfl rfl rfl (u0u ..) (dv 0 ?_)
 refine x0x rfl rfl rfl (y9y ..) (dc 2 (aS ?_ ?_))<;>intro o<;>try simp at o
 ·have hX : ¬ a5h w := by unfold a5h; omega
  refine dv 26 ?_
  refine x2x rfl ?_ rfl
  exact kF (fun h => hX h.1)
 refine dv 2 ?_
 refine x0x rfl rfl rfl (y9y ..) (dc 2 (aS ?_ ?_))<;>intro o<;>try simp at o
 ·have hX : ¬ a5h w := by unfold a5h; omega
  refine dv 21 ?_
  refine x2x rfl ?_ rfl
  exact kF (fun h => hX h.1)
 have hN : a5h w := by unfold a5h; omega
 refine dv 2 ?_
 refine x0x rfl rfl rfl (b5a ..) (dc 2 (aS ?_ ?_))<;>intro hg8<;>try simp at hg8
 ·have hX1 : ¬ c4k w.incs := hg8
  refine dv 16 ?_
  refine x2x rfl ?_ rfl
  exact kF (fun h => hX1 h.2.1)
 have hI : c4k w.incs := hg8
 refine dv 2 ?_
 refine x0x rfl rfl rfl (b5a ..) (dc 2 (aS ?_ ?_))<;>intro hg9<;>try simp at hg9
 ·have hX2 : ¬ c4k w.versions := hg9
  refine dv 11 ?_
  refine x2x rfl ?_ rfl
  exact kF (fun h => hX2 h.2.2.1)
 have hV : c4k w.versions := hg9
 refine dv 2 ?_
 refine x0x rfl rfl rfl (a3n ..) (dv 0 ?_)
 refine x0x rfl rfl rfl (a3j ..) (dc 2 (aS ?_ ?_))<;>intro hg10<;>try simp at hg10
 ·have hX3 : ¬ a7w okE a2i w.events 100 = true := by simpa using hg10
  refine dv 5 ?_
  refine x2x rfl ?_ rfl
  exact kF (fun h => hX3 h.2.2.2.1)
 have hE : a7w okE a2i w.events 100 = true := hg10
 refine dv 2 ?_
 refine x0x rfl rfl rfl (a7m ..) (dv 3 ?_)
 refine x2x rfl ?_ rfl
 exact congrArg (fun b : Bool => [AV.pv (.bool b)]) (Bool.eq_iff_iff.2 ⟨fun h => decide_eq_true ⟨hN, hI, hV, hE, h⟩, fun h => (of_decide_eq_true h).2.2.2.2⟩)
theorem a4d (c : Bool) (w : Wo) (hb : wob w) : a0g Tryz.prog 331 [.agg (u9u c w)] (.agg (u9u true w)) := by
 refine pX Tryz.f331 [.agg (u9u true w)] 10 ?_
 obtain ⟨b1, b2, b3, b4⟩ := hb
 refine dv 1 ?_
 refine x9x (id := 0) rfl rfl rfl (x3x (id := 1) v4v a4t rfl (dv 1 ?_))
 refine y1y (id := 2) s4s rfl r1r rfl (dv 2 ?_)
 refine a1h v9v (zs := (w.incs).map a3u) rfl rfl s4s rfl r1r rfl rfl rfl (z9z (fun _ => rfl) _) rfl (by (simp only [s2s, r5r, s1s, s3s, a0l, a2z, T3]; omega)) (Le.ow_map _ (fun _ => rfl) (fun _ => rfl)) ?_
 refine dv 3 ?_
 refine y1y (id := 4) s4s rfl r1r rfl (dv 2 ?_)
 refine a1h v9v (zs := (w.versions).map a3u) rfl rfl s4s rfl r1r rfl rfl rfl (z9z (fun _ => rfl) _) rfl (by (simp only [s2s, r5r, s1s, s3s, a0l, a2z, T3]; omega)) (Le.ow_map _ (fun _ => rfl) (fun _ => rfl)) ?_
 refine dv 3 ?_
 refine y1y (id := 6) v8v rfl z4z rfl (dv 2 ?_)
 refine a1h v9v (zs := (w.events).map z2z) rfl rfl v8v rfl z4z rfl rfl rfl (z9z (fun _ => rfl) _) rfl (by (simp only [s2s, r5r, s1s, s3s, a0l, a2z, T56]; omega)) (Le.ow_map _ (fun _ => rfl) (fun _ => rfl)) ?_
 refine dv 3 ?_
 refine y1y (id := 8) a0h rfl w4w rfl (dv 2 ?_)
 refine a1h v9v (zs := (w.outs).map p9p) rfl rfl a0h rfl w4w rfl rfl rfl (z9z (fun _ => rfl) _) rfl (by (simp only [s2s, r5r, s1s, s3s, a0l, a2z, T141]; omega)) (Le.ow_map _ (fun _ => rfl) (fun _ => rfl)) ?_
 refine dv 6 ?_
 exact a9e rfl rfl rfl rfl
theorem a9k (c : Bool) (l : List Wo) (k : Int) : a0g Tryz.prog 333 [w0w c l, .pv (.int .i64 k)] (.pv (.bool (kb (b2c l k ∧ (k = 3 → ∀ w ∈ l, a8p w))))) := by
 refine pX Tryz.f333 [.pv (.bool (kb (b2c l k ∧ (k = 3 → ∀ w ∈ l, a8p w))))] 0 ?_
 refine u2u 0 rfl fun hlen => ?_
 refine dv 6 fun K K' => ?_
 refine x6x (ι := Nat) (fun i γ1 => [(5, pI (i : Int))]) (fun i γ1 => []) (fun i => i ≤ l.length ∧ c8t l (fun j w => a3q w ∧ w.kind = k ∧ (∀ p, 0 < j → l[j - 1]? = some p → p.from' < w.from') ∧ (k = 3 → a8p w)) i) (fun i => l.length - i) (r7r [0, 1] rfl) HE.nil 0 ⟨by omega, a1f⟩ [] x7x x5x rfl fun i γ1 hi => ?_
 obtain ⟨h1, h2⟩ := hi
 refine dc 6 (fun K K' => aS ?_ ?_)<;>intro o<;>try simp at o
 ·have hall := a2x h2 (by omega)
  refine dv 4 ?_
  refine x2x rfl ?_ rfl
  exact congrArg (fun b : Bool => [AV.pv (.bool b)]) (e3w ⟨fun j w hw => ⟨(hall j w hw).1, (hall j w hw).2.1, (hall j w hw).2.2.1⟩, fun e w hw => by obtain ⟨j, hj⟩ := List.getElem?_of_mem hw; exact (hall j w hj).2.2.2 e⟩)
 obtain ⟨w, hw⟩ := gE l i
 refine dv 8 fun K K' K K' => ?_
 refine u4u (out := .agg (u9u c w)) rfl v4v rfl ?_
 refine x0x rfl rfl rfl (b1h ..) (dc 2 (aS ?_ ?_))<;>intro hg6<;>try simp at hg6
 ·have hX : ¬ a3q w := hg6
  refine dv 26 ?_
  try have hXo : ¬ p.from' < w.from' := by omega
  refine dv 3 ?_
  refine x2x rfl ?_ rfl
  exact congrArg (fun b : Bool => [AV.pv (.bool b)]) (a4v (fun h => hX (h.1 i w hw).1))
 have hW : a3q w := hg6
 refine dc 9 (aS ?_ ?_)<;>intro hg7<;>try simp at hg7
 ·try have hXk : ¬ w.kind = k := hg7
  refine dv 17 ?_
  try have hXo : ¬ p.from' < w.from' := by omega
  refine dv 3 ?_
  refine x2x rfl ?_ rfl
  exact congrArg (fun b : Bool => [AV.pv (.bool b)]) (a4v (fun h => hXk (h.1 i w hw).2.1))
 have hk : w.kind = k := hg7
 refine dc 3 (aS ?_ ?_)<;>intro o<;>try simp at o
 ·have hi0 : i = 0 := by omega
  have hO : ∀ p, 0 < i → l[i - 1]? = some p → p.from' < w.from' := fun p h => by omega
  refine dv 14 ?_
  try have hO : ∀ p, 0 < i → l[i - 1]? = some p → p.from' < w.from' := fun p2 _ h => by rw [hp] at h; cases h; omega
  refine dc 5 (aS ?_ ?_)<;>intro o<;>try simp at o
  ·refine dv 17 ?_
   have hF : k = 3 → a8p w := by intro _; exact ⟨by omega, by omega⟩
   refine dv 3 ?_
   refine x8x (b := 1) rfl rfl (by omega) (dv 1 ?_)
   exact ⟨i + 1, ⟨⟨by omega, s0s h2 hw ⟨hW, hk, hO, hF⟩⟩, by omega⟩, [], x7x, x7x, x5x, x5x, rfl⟩
  refine dc 8 (aS ?_ ?_)<;>intro o<;>try simp at o
  ·refine dv 9 ?_
   have hX5 : ¬ (k = 3 → a8p w) := fun h => by have := h (by omega); unfold a8p at this; omega
   refine dv 3 ?_
   refine x2x rfl ?_ rfl
   exact congrArg (fun b : Bool => [AV.pv (.bool b)]) (a4v (fun h => hX5 (fun e => h.2 e w (List.mem_of_getElem? hw))))
  refine dc 9 (aS ?_ ?_)<;>intro o<;>try simp at o
  ·have hF : k = 3 → a8p w := by intro _; exact ⟨by omega, by omega⟩
   refine dv 3 ?_
   refine x8x (b := 1) rfl rfl (by omega) (dv 1 ?_)
   exact ⟨i + 1, ⟨⟨by omega, s0s h2 hw ⟨hW, hk, hO, hF⟩⟩, by omega⟩, [], x7x, x7x, x5x, x5x, rfl⟩
  have hX5 : ¬ (k = 3 → a8p w) := fun h => by have := h (by omega); unfold a8p at this; omega
  refine dv 3 ?_
  refine x2x rfl ?_ rfl
  exact congrArg (fun b : Bool => [AV.pv (.bool b)]) (a4v (fun h => hX5 (fun e => h.2 e w (List.mem_of_getElem? hw))))
 obtain ⟨p, hp⟩ := gE l (i - 1)
 refine dv 2 ?_
 refine r6r (b := 1) rfl rfl (by omega) (by omega) (dc 11 (aI ?_ ?_))<;>intro o<;>try simp at o
 ·try have hXo : ¬ p.from' < w.from' := by omega
  refine dv 3 ?_
  refine x2x rfl ?_ rfl
  exact congrArg (fun b : Bool => [AV.pv (.bool b)]) (a4v (fun h => hXo ((h.1 i w hw).2.2 p (by omega) hp)))
 try have hO : ∀ p, 0 < i → l[i - 1]? = some p → p.from' < w.from' := fun p2 _ h => by rw [hp] at h; cases h; omega
 refine dc 5 (aS ?_ ?_)<;>intro o<;>try simp at o
 ·refine dv 17 ?_
  have hF : k = 3 → a8p w := by intro _; exact ⟨by omega, by omega⟩
  refine dv 3 ?_
  refine x8x (b := 1) rfl rfl (by omega) (dv 1 ?_)
  exact ⟨i + 1, ⟨⟨by omega, s0s h2 hw ⟨hW, hk, hO, hF⟩⟩, by omega⟩, [], x7x, x7x, x5x, x5x, rfl⟩
 refine dc 8 (aS ?_ ?_)<;>intro o<;>try simp at o
 ·refine dv 9 ?_
  have hX5 : ¬ (k = 3 → a8p w) := fun h => by have := h (by omega); unfold a8p at this; omega
  refine dv 3 ?_
  refine x2x rfl ?_ rfl
  exact congrArg (fun b : Bool => [AV.pv (.bool b)]) (a4v (fun h => hX5 (fun e => h.2 e w (List.mem_of_getElem? hw))))
 refine dc 9 (aS ?_ ?_)<;>intro o<;>try simp at o
 ·have hF : k = 3 → a8p w := by intro _; exact ⟨by omega, by omega⟩
  refine dv 3 ?_
  refine x8x (b := 1) rfl rfl (by omega) (dv 1 ?_)
  exact ⟨i + 1, ⟨⟨by omega, s0s h2 hw ⟨hW, hk, hO, hF⟩⟩, by omega⟩, [], x7x, x7x, x5x, x5x, rfl⟩
 have hX5 : ¬ (k = 3 → a8p w) := fun h => by have := h (by omega); unfold a8p at this; omega
 refine dv 3 ?_
 refine x2x rfl ?_ rfl
 exact congrArg (fun b : Bool => [AV.pv (.bool b)]) (a4v (fun h => hX5 (fun e => h.2 e w (List.mem_of_getElem? hw))))
theorem a8z (c : Bool) (h : Hb) : a0g Tryz.prog 323 [.agg (a7k c h)] (.pv (.bool (kb (a0f h)))) := by
 refine pX Tryz.f323 [.pv (.bool (kb (a0f h)))] 1 ?_
 refine dv 1 ?_
 refine x9x (id := 0) rfl rfl rfl (dv 4 ?_)
 refine x0x rfl rfl rfl (u0u ..) (x0x rfl rfl rfl (y9y ..) (dc 1 (aS ?_ ?_)))<;>intro o<;>try simp at o
 ·have hX : ¬ (0 ≤ h.round ∧ h.round ≤ 9999) := by omega
  refine dv 15 ?_
  refine x2x rfl ?_ rfl
  exact congrArg (fun b : Bool => [AV.pv (.bool b)]) (a4v (fun h => hX h.1))
 have hR : 0 ≤ h.round ∧ h.round ≤ 9999 := by omega
 refine dv 2 ?_
 refine x0x rfl rfl rfl (a9k ..) (dc 2 (aS ?_ ?_))<;>intro hg2<;>try simp at hg2
 ·have hX1 : ¬ (b2c h.ones 3 ∧ ((3 : Int) = 3 → ∀ w ∈ h.ones, a8p w)) := a0w (by simpa using hg2)
  refine dv 10 ?_
  refine x2x rfl ?_ rfl
  exact congrArg (fun b : Bool => [AV.pv (.bool b)]) (a4v (fun h => hX1 ⟨h.2.1, fun _ => h.2.2.2.2⟩))
 have h1 : b2c h.ones 3 ∧ ((3 : Int) = 3 → ∀ w ∈ h.ones, a8p w) := a0o.1 (by simpa using hg2)
 refine dv 2 ?_
 refine x0x rfl rfl rfl (a9k ..) (dc 2 (aS ?_ ?_))<;>intro hg3<;>try simp at hg3
 ·have hX2 : ¬ (b2c h.twos 5 ∧ ((5 : Int) = 3 → ∀ w ∈ h.twos, a8p w)) := a0w (by simpa using hg3)
  refine dv 5 ?_
  refine x2x rfl ?_ rfl
  exact congrArg (fun b : Bool => [AV.pv (.bool b)]) (a4v (fun h => hX2 ⟨h.2.2.1, fun e => by omega⟩))
 have h2 : b2c h.twos 5 ∧ ((5 : Int) = 3 → ∀ w ∈ h.twos, a8p w) := a0o.1 (by simpa using hg3)
 refine dv 2 ?_
 refine x0x rfl rfl rfl (a9k ..) (dv 3 ?_)
 refine x2x rfl ?_ rfl
 exact congrArg (fun b : Bool => [AV.pv (.bool b)]) (congrArg kb (propext ⟨fun h => ⟨hR, h1.1, h2.1, h.1, h1.2 rfl⟩, fun h => ⟨h.2.2.2.1, fun e => by omega⟩⟩))
end
section
theorem a8e (c : Bool) (l : List Wo) (hb : ∀ w ∈ l, wob w) (hl : l.length ≤ 1000000) : a0g Tryz.prog 334 [w0w c l] (w0w true l) := by
 refine pX Tryz.f334 [w0w true l] 3 ?_
 refine dv 3 ?_
 refine y1y (id := 0) q4q rfl v4v rfl (dv 5 fun K K' => ?_)
 refine x6x (ι := Nat) (fun i γ1 => [(3, .ref 0 (γ1 0)), (4, pI (i : Int))]) (fun i γ1 => [(0, ((γ1 0), .row 79 11 ((l.take i).map (u9u true)))), (1, ((γ1 1), .dead)), (2, ((γ1 2), .dead))]) (fun i => i ≤ l.length) (fun i => l.length - i) (y0y 0 rfl Cov.nil) HE.nil 0 (by omega) [_, _, _] x7x (HE.row rfl (by rw [List.take_zero]; rfl) (HE.kill rfl (HE.kill rfl HE.nil))) rfl fun i γ1 hi => ?_
 refine dc 6 (fun K K' => aS ?_ ?_)<;>intro u<;>try simp at u
 ·obtain rfl : i = l.length := by omega
  refine dv 5 ?_
  refine a4j rfl rfl (fun _ => rfl) ?_
  rw [List.take_length]
 obtain ⟨w, hw⟩ := gE l i
 have hwb := hb w (List.mem_of_getElem? hw)
 refine dv 8 fun K K' => ?_
 refine u4u (out := .agg (u9u c w)) rfl v4v rfl ?_
 refine x0x rfl rfl rfl (a4d c w hwb) (y6y (id := 1) q4q rfl v4v rfl rfl rfl rfl rfl rfl ?_)
 refine y7y (zs := (l.take i ++ [w]).map (u9u true)) rfl rfl q4q rfl v4v rfl rfl rfl rfl (by rfl) (z8z _ _ _) (by (simp only [s2s, r5r, s1s, s3s, a0l, a2z, T79]; omega)) ?_
 refine dv 3 ?_
 refine v0v rfl rfl rfl (dv 1 ?_)
 exact ⟨i + 1, ⟨by omega, by omega⟩, [_, _, _], (y0y 3 rfl (Cov.cons' (t := 4) rfl (by rw [y4y (by omega) (by omega)]; rfl) Cov.nil)), x7x, (HE.row rfl (by rw [z5z hw]) (HE.kill rfl (HE.kill rfl HE.nil))), x5x, rfl⟩
theorem a2u (c : Bool) (h : Hb) (hk : a0f h) : a0g Tryz.prog 324 [.agg (a7k c h)] (.agg (a7k true h)) := by
 refine pX Tryz.f324 [.agg (a7k true h)] 2 ?_
 have e1 := b6g hk.2.1
 have e2 := b6g hk.2.2.1
 have e3 := b6g hk.2.2.2.1
 refine dv 1 ?_
 refine x9x (id := 0) rfl rfl rfl (x3x (id := 1) a6d b5p rfl (dv 5 ?_))
 refine x0x rfl rfl rfl (a8e c h.ones (d3i hk.2.1) (by omega)) ?_
 refine dv 2 ?_
 refine x0x rfl rfl rfl (a8e c h.twos (d3i hk.2.2.1) (by omega)) ?_
 refine dv 2 ?_
 refine x0x rfl rfl rfl (a8e c h.outs (d3i hk.2.2.2.1) (by omega)) ?_
 refine rlB a6d b5p ?_
 refine dv 2 ?_
 exact a9e rfl rfl rfl rfl
theorem a7n (l : List Wo) (w : Wo) (ag : Bool) (hl : l.length ≤ 1000000) : a0g Tryz.prog 330 [w0w true l, .agg (u9u true w), .pv (.bool (ag))] (w0w true (a6o w ag l false)) := by
 refine pX Tryz.f330 [w0w true (a6o w ag l false)] 10 ?_
 refine dv 1 ?_
 refine x9x (id := 0) rfl rfl rfl (dv 2 ?_)
 refine y1y (id := 1) q4q rfl v4v rfl (dv 7 fun K K' => ?_)
 refine x6x (ι := List Wo × Bool × Nat) (fun p γ1 => [(7, .ref 1 (γ1 1)), (8, .pv (.bool (p.2.1))), (9, pI (p.2.2 : Int))]) (fun p γ1 => [(1, ((γ1 1), .row 79 11 ((p.1).map (u9u true)))), (2, ((γ1 2), .dead)), (3, ((γ1 3), .dead)), (4, ((γ1 4), .dead)), (5, ((γ1 5), .dead)), (6, ((γ1 6), .dead)), (7, ((γ1 7), .dead))]) (fun p => p.2.2 ≤ l.length ∧ p.1.length ≤ 2 * p.2.2 ∧ p.1 ++ a6o w ag (l.drop p.2.2) p.2.1 = a6o w ag l false) (fun p => l.length - p.2.2) (r7r [0, 2, 4] rfl) (a1m [0, 8, 9] rfl) ([], false, 0) ⟨by show 0 ≤ _; omega, by show 0 ≤ _; omega, rfl⟩ [0, _, _, _, _, _, _, _] x7x x5x rfl fun p γ1 hi => ?_
 obtain ⟨o, d, i⟩ := p
 obtain ⟨h1, h2, h3⟩ := hi
 dsimp only at h1 h2 h3 ⊢
 refine dc 6 (fun K K' => aS ?_ ?_)<;>intro u<;>try simp at u
 ·obtain rfl : i = l.length := by omega
  rw [List.drop_length] at h3
  refine dc 5 (fun K K' => aS ?_ ?_)<;>intro hc15<;>try simp at hc15
  ·obtain rfl : d = true := hc15
   refine dv 5 ?_
   refine a4j rfl rfl (fun _ => rfl) ?_
   (rw [← h3]; exact (List.append_nil _).symm)
  obtain rfl : d = false := hc15
  refine dv 3 ?_
  refine y6y (id := 8) q4q rfl v4v rfl rfl rfl rfl rfl rfl ?_
  refine y7y (zs := (o ++ [w]).map (u9u true)) rfl rfl q4q rfl v4v rfl rfl rfl rfl (by rfl) (z8z _ _ _) (by (simp only [s2s, r5r, s1s, s3s, a0l, a2z, T79]; omega)) ?_
  refine dv 5 ?_
  refine a4j rfl rfl (fun _ => rfl) ?_
  exact h3
 obtain ⟨x, hx⟩ := gE l i
 refine dc 13 (fun K K' K K' => aI ?_ ?_)<;>intro hc6<;>try simp at hc6
 ·have hq : x.from' = w.from' := hc6
  refine dc 4 (aI ?_ ?_)<;>intro hc7<;>try simp at hc7
  ·obtain rfl : ag = true := hc7
   have hN : i + 1 ≤ l.length ∧ (o ++ [w]).length ≤ 2 * (i + 1) ∧ (o ++ [w]) ++ a6o w true (l.drop (i + 1)) true = a6o w true l false := ⟨by omega, by simp only [r5r, s1s, s3s]; omega, b1g h3 (by rw [p1p hx]; exact f3n hq)⟩
   refine dv 3 ?_
   refine y6y (id := 2) q4q rfl v4v rfl rfl rfl rfl rfl rfl ?_
   refine y7y (zs := (o ++ [w]).map (u9u true)) rfl rfl q4q rfl v4v rfl rfl rfl rfl (by rfl) (z8z _ _ _) (by (simp only [s2s, r5r, s1s, s3s, a0l, a2z, T79]; omega)) ?_
   refine dv 4 ?_
   refine x8x (b := 1) rfl rfl (by omega) (dv 1 ?_)
   exact ⟨(_, _, _), ⟨hN, (by show l.length - (i + 1) < l.length - i; omega)⟩, [0, _, _, _, _, _, _, _], x7x, x7x, x5x, x5x, rfl⟩
  obtain rfl : ag = false := hc7
  have hN : i + 1 ≤ l.length ∧ (o ++ [x]).length ≤ 2 * (i + 1) ∧ (o ++ [x]) ++ a6o w false (l.drop (i + 1)) true = a6o w false l false := ⟨by omega, by simp only [r5r, s1s, s3s]; omega, b1g h3 (by rw [p1p hx]; exact f3o hq)⟩
  refine dv 16 fun K K' => ?_
  try have hN : i + 1 ≤ l.length ∧ (o ++ [x]).length ≤ 2 * (i + 1) ∧ (o ++ [x]) ++ a6o w ag (l.drop (i + 1)) false = a6o w ag l false := ⟨by omega, by simp only [r5r, s1s, s3s]; omega, b1g h3 (by rw [p1p hx]; exact d5s hq (by rintro ⟨_, h⟩; omega))⟩
  refine dv 6 ?_
  refine u4u (out := .agg (u9u true x)) rfl v4v rfl ?_
  refine y6y (id := 6) q4q rfl v4v rfl rfl rfl rfl rfl rfl ?_
  refine y7y (zs := (o ++ [x]).map (u9u true)) rfl rfl q4q rfl v4v rfl rfl rfl rfl (by rfl) (z8z _ _ _) (by (simp only [s2s, r5r, s1s, s3s, a0l, a2z, T79]; omega)) ?_
  refine dv 3 ?_
  refine x8x (b := 1) rfl rfl (by omega) (dv 1 ?_)
  exact ⟨(_, _, _), ⟨hN, (by show l.length - (i + 1) < l.length - i; omega)⟩, [0, _, _, _, _, _, _, _], x7x, x7x, x5x, x5x, rfl⟩
 have hq : ¬ x.from' = w.from' := hc6
 refine dc 6 (fun K K' => aS ?_ ?_)<;>intro hg11<;>try simp at hg11
 ·obtain rfl : d = true := hg11
  have hN : i + 1 ≤ l.length ∧ (o ++ [x]).length ≤ 2 * (i + 1) ∧ (o ++ [x]) ++ a6o w ag (l.drop (i + 1)) true = a6o w ag l false := ⟨by omega, by simp only [r5r, s1s, s3s]; omega, b1g h3 (by rw [p1p hx]; exact d5s hq (by simp))⟩
  refine dv 9 ?_
  try have hN : i + 1 ≤ l.length ∧ (o ++ [x]).length ≤ 2 * (i + 1) ∧ (o ++ [x]) ++ a6o w ag (l.drop (i + 1)) false = a6o w ag l false := ⟨by omega, by simp only [r5r, s1s, s3s]; omega, b1g h3 (by rw [p1p hx]; exact d5s hq (by rintro ⟨_, h⟩; omega))⟩
  refine dv 6 ?_
  refine u4u (out := .agg (u9u true x)) rfl v4v rfl ?_
  refine y6y (id := 6) q4q rfl v4v rfl rfl rfl rfl rfl rfl ?_
  refine y7y (zs := (o ++ [x]).map (u9u true)) rfl rfl q4q rfl v4v rfl rfl rfl rfl (by rfl) (z8z _ _ _) (by (simp only [s2s, r5r, s1s, s3s, a0l, a2z, T79]; omega)) ?_
  refine dv 3 ?_
  refine x8x (b := 1) rfl rfl (by omega) (dv 1 ?_)
  exact ⟨(_, _, _), ⟨hN, (by show l.length - (i + 1) < l.length - i; omega)⟩, [0, _, _, _, _, _, _, _], x7x, x7x, x5x, x5x, rfl⟩
 obtain rfl : d = false := hg11
 refine dc 9 (aS ?_ ?_)<;>intro u<;>try simp at u
 ·try have hN : i + 1 ≤ l.length ∧ (o ++ [x]).length ≤ 2 * (i + 1) ∧ (o ++ [x]) ++ a6o w ag (l.drop (i + 1)) false = a6o w ag l false := ⟨by omega, by simp only [r5r, s1s, s3s]; omega, b1g h3 (by rw [p1p hx]; exact d5s hq (by rintro ⟨_, h⟩; omega))⟩
  refine dv 6 ?_
  refine u4u (out := .agg (u9u true x)) rfl v4v rfl ?_
  refine y6y (id := 6) q4q rfl v4v rfl rfl rfl rfl rfl rfl ?_
  refine y7y (zs := (o ++ [x]).map (u9u true)) rfl rfl q4q rfl v4v rfl rfl rfl rfl (by rfl) (z8z _ _ _) (by (simp only [s2s, r5r, s1s, s3s, a0l, a2z, T79]; omega)) ?_
  refine dv 3 ?_
  refine x8x (b := 1) rfl rfl (by omega) (dv 1 ?_)
  exact ⟨(_, _, _), ⟨hN, (by show l.length - (i + 1) < l.length - i; omega)⟩, [0, _, _, _, _, _, _, _], x7x, x7x, x5x, x5x, rfl⟩
 have hN : i + 1 ≤ l.length ∧ (o ++ [w] ++ [x]).length ≤ 2 * (i + 1) ∧ (o ++ [w] ++ [x]) ++ a6o w ag (l.drop (i + 1)) true = a6o w ag l false := ⟨by omega, by simp only [r5r, s1s, s3s]; omega, by rw [List.append_assoc o]; exact b1g h3 (by rw [p1p hx]; exact f3p hq (by omega))⟩
 refine dv 3 ?_
 refine y6y (id := 4) q4q rfl v4v rfl rfl rfl rfl rfl rfl ?_
 refine y7y (zs := (o ++ [w]).map (u9u true)) rfl rfl q4q rfl v4v rfl rfl rfl rfl (by rfl) (z8z _ _ _) (by (simp only [s2s, r5r, s1s, s3s, a0l, a2z, T79]; omega)) ?_
 refine dv 8 ?_
 refine u4u (out := .agg (u9u true x)) rfl v4v rfl ?_
 refine y6y (id := 6) q4q rfl v4v rfl rfl rfl rfl rfl rfl ?_
 refine y7y (zs := (o ++ [w] ++ [x]).map (u9u true)) rfl rfl q4q rfl v4v rfl rfl rfl rfl (by rfl) (z8z _ _ _) (by (simp only [s2s, r5r, s1s, s3s, a0l, a2z, T79]; omega)) ?_
 refine dv 3 ?_
 refine x8x (b := 1) rfl rfl (by omega) (dv 1 ?_)
 exact ⟨(_, _, _), ⟨hN, (by show l.length - (i + 1) < l.length - i; omega)⟩, [0, _, _, _, _, _, _, _], x7x, x7x, x5x, x5x, rfl⟩
theorem b8a (k f t i0 v r g : Int) : a0g Tryz.prog 325 [.agg [pI k, pI f, pI t, pI i0, pI v, pI r, pI g, .pv (.slice none 0 0), .pv (.slice none 0 0), .pv (.slice none 0 0), .pv (.slice none 0 0)]] (w0w true (e3y ⟨k, f, t, i0, v, r, g, [], [], [], []⟩)) := by
 refine pX Tryz.f325 [w0w true (e3y ⟨k, f, t, i0, v, r, g, [], [], [], []⟩)] 4 ?_
 refine dv 1 ?_
 refine x9x (id := 0) rfl rfl rfl (dv 2 ?_)
 refine y1y (id := 1) q4q rfl v4v rfl (dv 5 fun K K' => ?_)
 refine x6x (ι := Nat) (fun i γ1 => [(3, .ref 1 (γ1 1)), (4, pI ((i + 1 : Nat) : Int))]) (fun i γ1 => [(1, ((γ1 1), .row 79 11 ((List.range i).map fun (j : Nat) => [pI k, pI f, pI ((j + 1 : Nat) : Int), pI i0, pI v, pI r, pI g, .pv (.slice none 0 0), .pv (.slice none 0 0), .pv (.slice none 0 0), .pv (.slice none 0 0)]))), (0, ((0 + 1), .box 79 [pI k, pI f, pI (if i = 0 then t else ((i : Nat) : Int)), pI i0, pI v, pI r, pI g, .pv (.slice none 0 0), .pv (.slice none 0 0), .pv (.slice none 0 0), .pv (.slice none 0 0)])), (2, ((γ1 2), .dead)), (3, ((γ1 3), .dead))]) (fun i => i ≤ 2) (fun i => 2 - i) (y0y 1 rfl Cov.nil) HE.nil 0 (by omega) [0, _, _, _] x7x (HE.row rfl (by rfl) (HE.box rfl (by rfl) (HE.kill rfl (HE.kill rfl HE.nil)))) rfl fun i γ1 hi => ?_
 refine dc 4 (fun K K' => aS ?_ ?_)<;>intro u<;>try simp at u
 ·obtain rfl : i = 2 := by omega
  refine dv 4 ?_
  refine c9u (f := fun (j : Nat) => [pI k, pI f, pI ((j + 1 : Nat) : Int), pI i0, pI v, pI r, pI g, .pv (.slice none 0 0), .pv (.slice none 0 0), .pv (.slice none 0 0), .pv (.slice none 0 0)]) (f' := fun (j : Nat) => u9u true ⟨k, f, ((j + 1 : Nat) : Int), i0, v, r, g, [], [], [], []⟩) (l := List.range 2) 1 rfl (fun _ => .same (.same (.same (.same (.same (.same (.same (.le rfl .nil rfl (.le rfl .nil rfl (.le rfl .nil rfl (.le rfl .nil rfl .nil))))))))))) ?_
  refine dv 1 ?_
  exact a4j (l := List.range 2) (l' := List.range 2) (f := fun (j : Nat) => u9u true ⟨k, f, ((j + 1 : Nat) : Int), i0, v, r, g, [], [], [], []⟩) rfl rfl (fun _ => rfl) rfl
 refine dv 10 fun K K' => ?_
 refine y6y (id := 2) q4q rfl v4v rfl rfl rfl rfl rfl rfl ?_
 refine y7y (zs := ((List.range i).map fun (j : Nat) => [pI k, pI f, pI ((j + 1 : Nat) : Int), pI i0, pI v, pI r, pI g, .pv (.slice none 0 0), .pv (.slice none 0 0), .pv (.slice none 0 0), .pv (.slice none 0 0)]) ++ [[pI k, pI f, pI ((i + 1 : Nat) : Int), pI i0, pI v, pI r, pI g, .pv (.slice none 0 0), .pv (.slice none 0 0), .pv (.slice none 0 0), .pv (.slice none 0 0)]]) rfl rfl q4q rfl v4v rfl rfl rfl rfl (by rfl) rfl (by (simp only [s2s, r5r, s1s, s3s, a0l, a2z, T79]; omega)) ?_
 refine dv 3 ?_
 refine x8x (b := 1) rfl rfl (by omega) (dv 1 ?_)
 exact ⟨i + 1, ⟨by omega, by omega⟩, [0, _, _, _], x7x, x7x, (HE.row rfl (by rw [List.range_succ, List.map_append]; rfl) (HE.box rfl (by rw [if_neg (by omega : ¬ i + 1 = 0)] <;> rfl) (HE.kill rfl (HE.kill rfl HE.nil)))), x5x, rfl⟩
theorem c3j (k f t i0 v r g : Int) : Meth Tryz.prog 325 1 [] [.agg [pI k, pI f, pI t, pI i0, pI v, pI r, pI g, .pv (.slice none 0 0), .pv (.slice none 0 0), .pv (.slice none 0 0), .pv (.slice none 0 0)]] [(0, (0, .dead))] (.ref 0 0) [(0, (0, .row 79 11 ((e3y ⟨k, f, t, i0, v, r, g, [], [], [], []⟩).map (u9u true))))] := by
 refine mX Tryz.f325 [.ref 0 0] 1 3 fun γ => ?_
 refine dv 1 ?_
 refine x9x (id := 1) rfl rfl rfl (dv 2 ?_)
 refine y1y (id := 0) q4q rfl v4v rfl (dv 5 fun K K' => ?_)
 refine x6x (ι := Nat) (fun i γ1 => [(3, .ref 0 (γ1 0)), (4, pI ((i + 1 : Nat) : Int))]) (fun i γ1 => [(0, ((γ1 0), .row 79 11 ((List.range i).map fun (j : Nat) => [pI k, pI f, pI ((j + 1 : Nat) : Int), pI i0, pI v, pI r, pI g, .pv (.slice none 0 0), .pv (.slice none 0 0), .pv (.slice none 0 0), .pv (.slice none 0 0)]))), (1, ((0 + 1), .box 79 [pI k, pI f, pI (if i = 0 then t else ((i : Nat) : Int)), pI i0, pI v, pI r, pI g, .pv (.slice none 0 0), .pv (.slice none 0 0), .pv (.slice none 0 0), .pv (.slice none 0 0)])), (2, ((γ1 2), .dead)), (3, ((γ1 3), .dead))]) (fun i => i ≤ 2) (fun i => 2 - i) (y0y 1 rfl Cov.nil) HE.nil 0 (by omega) [_, 0, _, _] x7x (HE.row rfl (by rfl) (HE.box rfl (by rfl) (HE.kill rfl (HE.kill rfl HE.nil)))) rfl fun i γ1 hi => ?_
 refine dc 4 (fun K K' => aS ?_ ?_)<;>intro u<;>try simp at u
 ·obtain rfl : i = 2 := by omega
  refine dv 4 ?_
  refine c9u (f := fun (j : Nat) => [pI k, pI f, pI ((j + 1 : Nat) : Int), pI i0, pI v, pI r, pI g, .pv (.slice none 0 0), .pv (.slice none 0 0), .pv (.slice none 0 0), .pv (.slice none 0 0)]) (f' := fun (j : Nat) => u9u true ⟨k, f, ((j + 1 : Nat) : Int), i0, v, r, g, [], [], [], []⟩) (l := List.range 2) 0 rfl (fun _ => .same (.same (.same (.same (.same (.same (.same (.le rfl .nil rfl (.le rfl .nil rfl (.le rfl .nil rfl (.le rfl .nil rfl .nil))))))))))) ?_
  refine dv 1 ?_
  exact ⟨[_], rfl, rfl, x5x⟩
 refine dv 10 fun K K' => ?_
 refine y6y (id := 2) q4q rfl v4v rfl rfl rfl rfl rfl rfl ?_
 refine y7y (zs := ((List.range i).map fun (j : Nat) => [pI k, pI f, pI ((j + 1 : Nat) : Int), pI i0, pI v, pI r, pI g, .pv (.slice none 0 0), .pv (.slice none 0 0), .pv (.slice none 0 0), .pv (.slice none 0 0)]) ++ [[pI k, pI f, pI ((i + 1 : Nat) : Int), pI i0, pI v, pI r, pI g, .pv (.slice none 0 0), .pv (.slice none 0 0), .pv (.slice none 0 0), .pv (.slice none 0 0)]]) rfl rfl q4q rfl v4v rfl rfl rfl rfl (by rfl) rfl (by (simp only [s2s, r5r, s1s, s3s, a0l, a2z, T79]; omega)) ?_
 refine dv 3 ?_
 refine x8x (b := 1) rfl rfl (by omega) (dv 1 ?_)
 exact ⟨i + 1, ⟨by omega, by omega⟩, [_, 0, _, _], x7x, x7x, (HE.row rfl (by rw [List.range_succ, List.map_append]; rfl) (HE.box rfl (by rw [if_neg (by omega : ¬ i + 1 = 0)] <;> rfl) (HE.kill rfl (HE.kill rfl HE.nil)))), x5x, rfl⟩
theorem c8m (l : List Wo) (f : Int) : a0g Tryz.prog 329 [w0w true l, .pv (.int .i64 f)] (.tup [.agg (u9u true (f1w f l)), .pv (.bool (b6h f l).isSome)]) := by
 refine pX Tryz.f329 [.agg (u9u true (f1w f l)), .pv (.bool (b6h f l).isSome)] 1 ?_
 refine u2u 0 rfl fun hlen => ?_
 refine dv 1 ?_
 refine x3x (id := 0) v4v a4t rfl (dv 5 fun K K' => ?_)
 refine x6x (ι := Nat) (fun i γ1 => [(6, pI (i : Int))]) (fun i γ1 => []) (fun i => i ≤ l.length ∧ c8t l (fun _ w => ¬ w.from' = f) i) (fun i => l.length - i) (r7r [0, 1, 4] rfl) (p6p 0 rfl HE.nil) 0 ⟨by omega, a1f⟩ [] x7x x5x rfl fun i γ1 hi => ?_
 obtain ⟨h1, h2⟩ := hi
 refine dc 6 (fun K K' => aS ?_ ?_)<;>intro u<;>try simp at u
 ·have hno := e6h (a2x h2 (by omega))
  refine dv 2 ?_
  refine rlB v4v a4t ?_
  refine dv 3 ?_
  (rw [f1w, hno]; exact ⟨_, _, rfl, c7x (.cl rfl .nil)⟩)
 obtain ⟨w, hw⟩ := gE l i
 refine dc 11 (fun K K' => aS ?_ ?_)<;>intro hc5<;>try simp at hc5
 ·have hne : ¬ w.from' = f := hc5
  refine dv 3 ?_
  refine x8x (b := 1) rfl rfl (by omega) (dv 1 ?_)
  exact ⟨i + 1, ⟨⟨by omega, s0s h2 hw hne⟩, by omega⟩, [], x7x, x7x, x5x, x5x, rfl⟩
 have hat := d5t h2 hw hc5
 refine dv 4 ?_
 refine u4u (out := .agg (u9u true w)) rfl v4v rfl ?_
 refine dv 3 ?_
 (rw [f1w, hat]; exact ⟨_, _, rfl, .agg rfl (.cl rfl (.cl rfl (.cl rfl (.cl rfl (.cl rfl (.cl rfl (.cl rfl (.cl rfl (.cl rfl (.cl rfl (.cl rfl (.nil)))))))))))) (.cl rfl .nil)⟩)
theorem c3k (c : Bool) (h : Hb) : a0g Tryz.prog 332 [.agg (a7k c h)] (.tup [.pv (.int .i64 (q0q h).1), .pv (.bool (q0q h).2)]) := by
 refine pX Tryz.f332 [.pv (.int .i64 (q0q h).1), .pv (.bool ((q0q h).2))] 1 ?_
 refine dv 1 ?_
 refine x9x (id := 0) rfl rfl rfl (dv 5 fun K K' => ?_)
 refine x0x rfl rfl rfl (a8z ..) (dc 2 (aS ?_ ?_))<;>intro hg2<;>try simp at hg2
 ·have hX : ¬ a6x h := fun q => a0w (by simpa using hg2) q.1
  refine dv 11 ?_
  try have hX : ¬ a6x h := fun q => by have := q.2.1; have := q.2.2.1; omega
  refine dv 4 ?_
  (rw [b6i hX]; exact ⟨_, _, rfl, .cl rfl (.cl rfl .nil)⟩)
 have hK : a0f h := a0o.1 (by simpa using hg2)
 refine dc 6 (aS ?_ ?_)<;>intro u<;>try simp at u
 ·refine dv 5 ?_
  try have hX : ¬ a6x h := fun q => by have := q.2.1; have := q.2.2.1; omega
  refine dv 4 ?_
  (rw [b6i hX]; exact ⟨_, _, rfl, .cl rfl (.cl rfl .nil)⟩)
 refine dc 5 (aI ?_ ?_)<;>intro u<;>try simp at u
 ·try have hX : ¬ a6x h := fun q => by have := q.2.1; have := q.2.2.1; omega
  refine dv 4 ?_
  (rw [b6i hX]; exact ⟨_, _, rfl, .cl rfl (.cl rfl .nil)⟩)
 have e1 : h.ones.length = 3 := by omega
 have e2 : h.twos.length = 3 := by omega
 refine dv 7 fun K K' => ?_
 refine x6x (ι := Nat) (fun i γ1 => [(4, pI (a1c 41 (h.ones.take i))), (5, pI (i : Int))]) (fun i γ1 => []) (fun i => i ≤ 3 ∧ ∀ j, j < i → e2k h j) (fun i => 3 - i) (y0y 1 rfl Cov.nil) (p6p 0 rfl HE.nil) 0 ⟨by omega, fun j hj => by omega⟩ [] (Cov.cons' (t := 4) rfl (rfl) (y0y 5 rfl Cov.nil)) x5x rfl fun i γ1 hi => ?_
 obtain ⟨h1, h1b⟩ := hi
 refine dc 4 (fun K K' => aS ?_ ?_)<;>intro u<;>try simp at u
 ·obtain rfl : i = 3 := by omega
  have hT : a6x h := ⟨hK, e1, e2, fun j hj => h1b j hj⟩
  have e3 : a1c 41 (h.ones.take 3) = a1c 41 h.ones := by rw [List.take_of_length_le (by omega)]
  refine dv 6 ?_
  (rw [f0x hT, ← e3]; exact ⟨_, _, rfl, .cl rfl (.cl rfl .nil)⟩)
 obtain ⟨a, ha⟩ := gE h.ones i
 obtain ⟨b, hb⟩ := gE h.twos i
 refine dc 18 (fun K K' K K' => aI ?_ ?_)<;>intro hc10<;>try simp at hc10
 ·have hX : ¬ a6x h := fun q => by have := (q.2.2.2 i (by omega) a b ha hb).1; omega
  refine dv 4 ?_
  (rw [b6i hX]; exact ⟨_, _, rfl, .cl rfl (.cl rfl .nil)⟩)
 have hI : a.inc = b.inc := hc10
 refine dv 1 ?_
 refine r0r (ι := Unit) (fun _i γ2 => [(4, pI (a1c 41 (h.ones.take (i + 1))))]) (fun _i γ2 => []) (fun _i => True) (r7r [1, 5] rfl) (p6p 0 rfl HE.nil) ?_ fun _i γ2 hi => ?_
 ·refine dc 9 (aS ?_ ?_)<;>intro u<;>try simp at u
  ·have hlt : ¬ a.g < a1c 41 (h.ones.take i) := by omega
   refine dv 1 ?_
   exact ⟨(), trivial, [], (Cov.cons' (t := 4) rfl (congrArg (fun v : Int => AV.pv (.int .i64 v)) (d5v ha hlt)) Cov.nil), x7x, x5x, x5x, rfl⟩
  have hlt : a.g < a1c 41 (h.ones.take i) := by omega
  refine dv 8 ?_
  exact ⟨(), trivial, [], (Cov.cons' (t := 4) rfl (congrArg (fun v : Int => AV.pv (.int .i64 v)) (d5u ha hlt)) Cov.nil), x7x, x5x, x5x, rfl⟩
 ·try dsimp only [b3d, b3e]
  refine dv 3 ?_
  refine x6x (ι := Nat) (fun k γ3 => [(6, pI (k : Int))]) (fun k γ3 => []) (fun k => k ≤ 3 ∧ ∀ (q : Nat) x, q < k → q ≠ i → h.ones[q]? = some x → x.incs.getD i 0 = b.inc ∧ x.versions.getD i 0 = b.version) (fun k => 3 - k) (r7r [1, 4, 5] rfl) (p6p 0 rfl HE.nil) 0 ⟨by omega, fun q x hq => by omega⟩ [] x7x x5x rfl fun k γ3 hi => ?_
  obtain ⟨h2, h2b⟩ := hi
  refine dc 4 (fun K K' => aS ?_ ?_)<;>intro u<;>try simp at u
  ·have hJ : e2k h i := fun a2 b2 ha2 hb2 => by rw [ha] at ha2; rw [hb] at hb2; cases ha2; cases hb2; exact ⟨hI, fun q x hne hx => h2b q x (by have := (List.getElem?_eq_some_iff.1 hx).1; omega) hne hx⟩
   refine dv 3 ?_
   refine x8x (b := 1) rfl rfl (by omega) (dv 1 ?_)
   exact ⟨i + 1, ⟨⟨by omega, fun j hj => by rcases Nat.lt_succ_iff_lt_or_eq.1 hj with q | q; exact h1b j q; subst q; exact hJ⟩, by omega⟩, [], x7x, x7x, x5x, x5x, rfl⟩
  obtain ⟨x0, hx0⟩ := gE h.ones k
  have hfu := hK.2.2.2.2 x0 (List.mem_of_getElem? hx0)
  obtain ⟨fu1, fu2⟩ := hfu
  obtain ⟨z, hz⟩ := gE x0.incs i
  obtain ⟨y, hy⟩ := gE x0.versions i
  refine dc 8 (fun K K' => aS ?_ ?_)<;>intro u<;>try simp at u
  ·refine dv 35 ?_
   have hS : k ≠ i → x0.incs.getD i 0 = b.inc ∧ x0.versions.getD i 0 = b.version := fun hne => by rw [b3a hz, b3a hy]; omega
   refine dv 3 ?_
   refine x8x (b := 1) rfl rfl (by omega) (dv 1 ?_)
   exact ⟨k + 1, ⟨⟨by omega, fun q x hq hne hx => by rcases Nat.lt_succ_iff_lt_or_eq.1 hq with q1 | q1; exact h2b q x q1 hne hx; subst q1; rw [hx0] at hx; cases hx; exact hS hne⟩, by omega⟩, [], x7x, x7x, x5x, x5x, rfl⟩
  refine dc 17 (aS ?_ ?_)<;>intro u<;>try simp at u
  ·refine dv 18 ?_
   have hX : ¬ a6x h := fun q => by have := (q.2.2.2 i (by omega) a b ha hb).2 k x0 (by omega) hx0; rw [b3a hz, b3a hy] at this; omega
   refine dv 4 ?_
   (rw [b6i hX]; exact ⟨_, _, rfl, .cl rfl (.cl rfl .nil)⟩)
  refine dc 18 (aI ?_ ?_)<;>intro u<;>try simp at u
  ·have hX : ¬ a6x h := fun q => by have := (q.2.2.2 i (by omega) a b ha hb).2 k x0 (by omega) hx0; rw [b3a hz, b3a hy] at this; omega
   refine dv 4 ?_
   (rw [b6i hX]; exact ⟨_, _, rfl, .cl rfl (.cl rfl .nil)⟩)
  have hS : k ≠ i → x0.incs.getD i 0 = b.inc ∧ x0.versions.getD i 0 = b.version := fun hne => by rw [b3a hz, b3a hy]; omega
  refine dv 3 ?_
  refine x8x (b := 1) rfl rfl (by omega) (dv 1 ?_)
  exact ⟨k + 1, ⟨⟨by omega, fun q x hq hne hx => by rcases Nat.lt_succ_iff_lt_or_eq.1 hq with q1 | q1; exact h2b q x q1 hne hx; subst q1; rw [hx0] at hx; cases hx; exact hS hne⟩, by omega⟩, [], x7x, x7x, x5x, x5x, rfl⟩
end
section
theorem c4r (c : Bool) (n : Nd) (fS : a1i n) (i : Nat) (l : La) (hl : n.lanes[i]? = some l) : a0g Tryz.prog 141 [.agg (u1u c n), .pv (.int .i64 (i : Int))] (.tup [.agg (z2z (b1z l (a0i n l.proc)).1), .pv (.bool (b1z l (a0i n l.proc)).2)]) := by
 refine pX Tryz.f141 [.agg (z2z (b1z l (a0i n l.proc)).1), .pv (.bool (b1z l (a0i n l.proc)).2)] 2 ?_
 have fB := w2w fS
 refine dv 1 ?_
 refine x9x (id := 0) rfl rfl rfl (x3x (id := 1) z4z a6v rfl (dv 14 ?_))
 refine x0x rfl rfl rfl (a4c c n l.proc (b0f fS) (by omega) fS.2.2.2.2.2.1) ?_
 refine x0x rfl rfl rfl (b3j c true l (a0i n l.proc)) ?_
 refine dv 5 ?_
 exact ⟨_, _, rfl, .agg rfl (.cl rfl (.cl rfl (.cl rfl (.cl rfl (.cl rfl (.cl rfl (.cl rfl .nil))))))) (.cl rfl .nil)⟩
theorem b5c (c : Bool) (n : Nd) : a0g Tryz.prog 44 [.agg (u1u c n)] (.pv (.int .i64 (b0w n))) := by
 refine pX Tryz.f44 [.pv (.int .i64 (b0w n))] 2 ?_
 refine dv 1 ?_
 refine x9x (id := 0) rfl rfl rfl (dv 6 fun K K' => ?_)
 refine x0x rfl rfl rfl (w5w ..) (dc 1 (aI ?_ ?_))<;>intro hc2<;>try simp at hc2
 ·have fX : ¬ y3y n := a0w (by simpa using hc2)
  refine dv 3 ?_
  refine x2x rfl ?_ rfl
  exact congrArg (fun v : Int => [AV.pv (.int .i64 v)]) (d0n fX).symm
 have fK : y3y n := a0o.1 (by simpa using hc2)
 have fS := fK.1
 have fB := w2w fS
 refine dv 5 fun K K' => ?_
 refine x6x (ι := Nat) (fun i γ1 => [(3, pI (a8o n i)), (4, pI (i : Int))]) (fun i γ1 => [(1, ((γ1 1), .dead))]) (fun i => i ≤ n.lanes.length) (fun i => n.lanes.length - i) (y0y 1 rfl Cov.nil) (p6p 0 rfl HE.nil) 0 (by omega) [0, _] x7x x5x rfl fun i γ1 hi => ?_
 refine dc 7 (fun K K' => aS ?_ ?_)<;>intro j<;>try simp at j
 ·obtain rfl : i = n.lanes.length := by omega
  refine dv 5 ?_
  refine x2x rfl ?_ rfl
  exact congrArg (fun v : Int => [AV.pv (.int .i64 v)]) (b2t fK).symm
 obtain ⟨l, hl⟩ := gE n.lanes i
 have hnc := b7s fK hl
 refine dv 6 fun K K' => ?_
 refine x0x rfl rfl rfl (c4r c n fS i l hl) (dv 3 ?_)
 refine x3x (id := 1) z4z a6v rfl (dv 2 ?_)
 rw [c2i ⟨hnc.2.1, hnc.2.2.1⟩]
 refine dc 3 (aS ?_ ?_)<;>intro hg7<;>try simp at hg7
 ·have hno : ¬ ((a2n l (a0i n l.proc)).2 = true ∧ (a2n l (a0i n l.proc)).1.time < a8o n i) := fun h => by have := h.1; simp_all
  refine dv 8 ?_
  refine x8x (b := 1) rfl rfl (by omega) (dv 1 ?_)
  exact ⟨i + 1, ⟨by omega, by omega⟩, [0, _], (Cov.cons' (t := 3) rfl (congrArg (fun v : Int => AV.pv (.int .i64 v)) (c2j hl hno).symm) (y0y 4 rfl Cov.nil)), x7x, x5x, x5x, rfl⟩
 have h2 : (a2n l (a0i n l.proc)).2 = true := hg7
 refine dc 5 (aS ?_ ?_)<;>intro j<;>try simp at j
 ·have hno : ¬ ((a2n l (a0i n l.proc)).2 = true ∧ (a2n l (a0i n l.proc)).1.time < a8o n i) := by (intro h; omega)
  refine dv 3 ?_
  refine x8x (b := 1) rfl rfl (by omega) (dv 1 ?_)
  exact ⟨i + 1, ⟨by omega, by omega⟩, [0, _], (Cov.cons' (t := 3) rfl (congrArg (fun v : Int => AV.pv (.int .i64 v)) (c2j hl hno).symm) (y0y 4 rfl Cov.nil)), x7x, x5x, x5x, rfl⟩
 have h3 : (a2n l (a0i n l.proc)).1.time < a8o n i := by omega
 refine dv 6 ?_
 refine x8x (b := 1) rfl rfl (by omega) (dv 1 ?_)
 exact ⟨i + 1, ⟨by omega, by omega⟩, [0, _], (Cov.cons' (t := 3) rfl (congrArg (fun v : Int => AV.pv (.int .i64 v)) (d2t hl ⟨h2, h3⟩).symm) (y0y 4 rfl Cov.nil)), x7x, x5x, x5x, rfl⟩
end
section
theorem a5r (c : Bool) (n : Nd) (r : Int) : a0g Tryz.prog 61 [.agg (u1u c n), .pv (.int .i64 r)] (.tup [.agg (u1u true (x4x n r).1), .agg (u9u true (x4x n r).2.1), .pv (.bool (x4x n r).2.2)]) := by
 refine pX Tryz.f61 [.agg (u1u true (x4x n r).1), .agg (u9u true (x4x n r).2.1), .pv (.bool (x4x n r).2.2)] 14 ?_
 refine dv 1 ?_
 refine x9x (id := 0) rfl rfl rfl (x3x (id := 1) u3u p5p rfl (x3x (id := 2) v4v a4t rfl (dv 4 fun K K' => ?_)))
 refine x0x rfl rfl rfl (w5w ..) (dc 1 (aI ?_ ?_))<;>intro hc2<;>try simp at hc2
 ·have fX : ¬ y3y n := a0w (by simpa using hc2)
  refine dv 1 ?_
  refine rlB u3u p5p ?_
  refine rlB v4v a4t ?_
  refine dv 4 ?_
  (rw [c0q fX]; exact ⟨_, _, rfl, b6d (c7x (.cl rfl .nil))⟩)
 have fK : y3y n := a0o.1 (by simpa using hc2)
 have fS := fK.1
 have fB := w2w fS
 have fV := fS.2.2.2.2.2.1
 have fb := b7r fS
 refine dv 3 ?_
 refine rlM [9, 10, 11] [_, _, _] (y2y c n fb) rfl rfl rfl ?_
 refine x3x (id := 3) u3u p5p rfl (dc 7 (fun K K' => aS ?_ ?_))<;>intro hg4<;>try simp at hg4
 ·have fU : ¬ (n.up = true ∧ n.round + 1 ≤ r ∧ r ≤ 9999) := fun h => by have := h.1; simp_all
  refine dv 10 ?_
  refine rlB v4v a4t ?_
  refine dv 4 ?_
  (rw [b0x fK fU]; exact ⟨_, _, rfl, q3q rfl rfl rfl (c7x (.cl rfl .nil))⟩)
 have fUp : n.up = true := hg4
 refine dv 3 ?_
 refine q9q (.int .i64 (n.round + 1)) rfl rfl rfl (a6i rfl rfl (by have := fS.1.2.2.2.2.2.1; omega) (by have := fS.1.2.2.2.2.2.1; omega)) ?_
 refine dv 0 ?_
 refine x0x rfl rfl rfl (u0u ..) (dv 0 ?_)
 refine x0x rfl rfl rfl (y9y ..) (dc 2 (aI ?_ ?_))<;>intro j<;>try simp at j
 ·have fU : ¬ (n.up = true ∧ n.round + 1 ≤ r ∧ r ≤ 9999) := by (intro h; omega)
  refine dv 2 ?_
  refine rlB v4v a4t ?_
  refine dv 4 ?_
  (rw [b0x fK fU]; exact ⟨_, _, rfl, q3q rfl rfl rfl (c7x (.cl rfl .nil))⟩)
 have fU : n.up = true ∧ n.round + 1 ≤ r ∧ r ≤ 9999 := ⟨fUp, by omega⟩
 refine dv 15 ?_
 refine x0x rfl rfl rfl (b5c ..) (rlB v4v a4t ?_)
 refine x3x (id := 4) v4v a4t rfl (dv 5 fun K K' => ?_)
 refine w1w 4 7 12 3 1 rfl rfl rfl rfl rfl (w1w 4 8 13 3 1 rfl rfl rfl rfl rfl ?_)
 refine x6x (ι := Nat) (fun i γ1 => [(9, pI (i : Int))]) (fun i γ1 => [(12, ((γ1 12), .row 3 1 (((n.views.take i).map Vi.inc).map a3u))), (13, ((γ1 13), .row 3 1 (((n.views.take i).map Vi.version).map a3u))), (4, ((0 + 1), .box 79 [pI 3, pI n.id, pI 0, pI n.inc, pI 0, pI r, pI (b0w n), .ref 12 (γ1 12), .ref 13 (γ1 13), .pv (.slice none 0 0), .pv (.slice none 0 0)])), (5, ((γ1 5), .dead)), (6, ((γ1 6), .dead)), (7, ((γ1 7), .dead)), (8, ((γ1 8), .dead))]) (fun i => i ≤ 3) (fun i => 3 - i) (r7r [2, 4, 5, 7, 8] rfl) (a1m [0, 1, 2, 3, 9, 10, 11] rfl) 0 (by omega) [0, 0, 0, 0, 0, _, _, _, _, 0, 0, 0, _, _] x7x (HE.row rfl (by rw [List.take_zero]; rfl) (HE.row rfl (by rw [List.take_zero]; rfl) (HE.box rfl rfl (HE.kill rfl (HE.kill rfl (HE.kill rfl (HE.kill rfl HE.nil))))))) rfl fun i γ1 hi => ?_
 refine dc 4 (fun K K' => aS ?_ ?_)<;>intro j<;>try simp at j
 ·obtain rfl : i = n.views.length := by omega
  rw [List.take_length]
  refine dv 8 ?_
  (rw [a7i fK fU, show e1c n r = { e1c n r with g := b0w n } from by rw [b2t fK]; rfl]; exact ⟨_, _, rfl, q3q (n := { n with round := r, low := 41 }) rfl rfl rfl (.agg rfl (.cl rfl (.cl rfl (.cl rfl (.cl rfl (.cl rfl (.cl rfl (.cl rfl (.ref rfl (Le.ow_map _ (fun _ => rfl) (fun _ => rfl)) (.ref rfl (Le.ow_map _ (fun _ => rfl) (fun _ => rfl)) (.le rfl .nil (.le rfl .nil .nil))))))))))) (.cl rfl .nil))⟩)
 obtain ⟨v, hv⟩ := gE n.views i
 refine dv 12 fun K K' => ?_
 refine a6g (id := 5) s4s rfl r1r rfl rfl rfl rfl rfl ?_
 refine y7y (zs := ((n.views.take i).map Vi.inc ++ [v.inc]).map a3u) rfl rfl s4s rfl r1r rfl rfl rfl rfl (by rfl) (z8z _ _ _) (by (simp only [s2s, r5r, s1s, s3s, a0l, T3]; omega)) ?_
 refine dv 11 ?_
 refine a6g (id := 7) s4s rfl r1r rfl rfl rfl rfl rfl ?_
 refine y7y (zs := ((n.views.take i).map Vi.version ++ [v.version]).map a3u) rfl rfl s4s rfl r1r rfl rfl rfl rfl (by rfl) (z8z _ _ _) (by (simp only [s2s, r5r, s1s, s3s, a0l, T3]; omega)) ?_
 refine dv 4 ?_
 refine v0v rfl rfl rfl (dv 1 ?_)
 exact ⟨i + 1, ⟨by omega, by omega⟩, [0, 0, 0, 0, 0, _, _, _, _, 0, 0, 0, _, _], (Cov.cons' (t := 9) rfl (by rw [y4y (by omega) (by omega)]; rfl) Cov.nil), x7x, (HE.row rfl (by simp only [z5z hv, List.map_append, List.map_cons, List.map_nil]) (HE.row rfl (by simp only [z5z hv, List.map_append, List.map_cons, List.map_nil]) (HE.box rfl rfl (HE.kill rfl (HE.kill rfl (HE.kill rfl (HE.kill rfl HE.nil))))))), x5x, rfl⟩
end
section
theorem b9k (c : Bool) (l : La) (u : Int) (hok : a6r l = true) : a0g Tryz.prog 25 [.agg (q2q c l), .pv (.int .i64 u)] (.tup [.agg (q2q true (c2m u l)), a0t true (c2n u l), r9r true (c7o u l)]) := by
 refine pX Tryz.f25 [.agg (q2q true (c2m u l)), a0t true (c2n u l), r9r true (c7o u l)] 8 ?_
 obtain ⟨h1, h2⟩ := a2s hok
 have hlb := e9w hok
 refine dv 1 ?_
 refine x9x (id := 0) rfl rfl rfl (x3x (id := 1) a0c a6u rfl (dv 3 ?_))
 refine y1y (id := 2) v8v rfl z4z rfl (dv 2 ?_)
 refine y1y (id := 3) a0h rfl w4w rfl (dv 4 fun K K' => ?_)
 refine x0x rfl rfl rfl (a3o ..) (dv 1 ?_)
 refine a1o rfl (fun hc2 => ?_) (fun hc2 => ?_)
 ·simp [hok] at hc2
 try simp at hc2
 refine dv 6 ?_
 refine x3x (id := 4) a4s c9g rfl (dv 3 fun K K' => ?_)
 refine x6x (ι := Nat) (fun i γ1 => [(7, .ref 2 (γ1 2)), (8, .ref 3 (γ1 3)), (9, pI (i : Int))]) (fun i γ1 => [(2, ((γ1 2), .row 56 7 (((l.done.take i).flatMap Pa.sends).map z2z))), (3, ((γ1 3), .row 141 5 (((l.done.take i).flatMap Pa.outs).map p9p))), (4, ((0 + 1), .box 41 [pI (b4p l i).x, pI (b4p l i).y, pI (b4p l i).count])), (5, ((γ1 5), .dead)), (6, ((γ1 6), .dead))]) (fun i => i ≤ l.done.length ∧ (∀ (j : Nat) p, j < i → l.done[j]? = some p → p.ev.time < u)) (fun i => l.done.length - i) (r7r [1, 2, 4, 10] rfl) (a1m [0, 1, 7] rfl) 0 ⟨by omega, fun j p hj => by omega⟩ [0, 0, _, _, 0, _, _] x7x (HE.row rfl (by rfl) (HE.row rfl (by rfl) (HE.box rfl rfl (HE.kill rfl (HE.kill rfl HE.nil))))) rfl fun i γ1 hi => ?_
 obtain ⟨k1, k2⟩ := hi
 refine dc 8 (fun K K' => aS ?_ ?_)<;>intro h<;>try simp at h
 ·have hcut : d0o u l.done = i := d2v k1 k2 (fun q hq => by rw [List.getElem?_eq_none (by omega)] at hq; cases hq)
  refine dv 9 ?_
  refine a1o rfl (fun hc7 => ?_) (fun hc7 => ?_)
  ·simp [hok] at hc7
  try simp at hc7
  have hfs := b2u (f := Pa.sends) (m := 2) k1 fun p hp => (h2 p hp).1
  have hfo := b2u (f := Pa.outs) (m := 2) k1 fun p hp => (h2 p hp).2
  refine dv 7 ?_
  refine x0x rfl rfl rfl (a2t c l i l.done.length hlb.1 (by omega) hlb.1 hlb.2) ?_
  refine x3x (id := 7) a0c a6u rfl (dv 4 ?_)
  refine a0m rfl rfl a4s rfl rfl rfl rfl (s8s rfl) rfl ?_
  refine s7s 7 rfl rfl (fun _ => rfl) ?_
  refine s7s 8 rfl rfl (fun _ => rfl) ?_
  refine dv 3 ?_
  refine x0x rfl rfl rfl (a1e true _ (by omega)) ?_
  refine dv 1 ?_
  refine x0x rfl rfl rfl (a4b true _ (by omega)) ?_
  refine dv 4 ?_
  subst hcut
  rw [show c2m u l = ⟨l.proc, b4p l (d0o u l.done), (l.done.take l.done.length).drop (d0o u l.done)⟩ from by rw [List.take_length]; rfl]
  exact ⟨_, _, rfl, .agg rfl (.cl rfl (.cl rfl (.cl rfl (.cl rfl (.cl rfl .nil))))) (.cl rfl (.cl rfl .nil))⟩
 obtain ⟨p, hp⟩ := gE l.done i
 have hpb := h2 p (List.mem_of_getElem? hp)
 refine dc 10 (aS ?_ ?_)<;>intro hc6<;>try simp at hc6
 ·have hcut : d0o u l.done = i := by exact d2v k1 k2 (fun q hq => by rw [hp] at hq; cases hq; omega)
  have hfs := b2u (f := Pa.sends) (m := 2) k1 fun p hp => (h2 p hp).1
  have hfo := b2u (f := Pa.outs) (m := 2) k1 fun p hp => (h2 p hp).2
  refine dv 7 ?_
  refine x0x rfl rfl rfl (a2t c l i l.done.length hlb.1 (by omega) hlb.1 hlb.2) ?_
  refine x3x (id := 7) a0c a6u rfl (dv 4 ?_)
  refine a0m rfl rfl a4s rfl rfl rfl rfl (s8s rfl) rfl ?_
  refine s7s 7 rfl rfl (fun _ => rfl) ?_
  refine s7s 8 rfl rfl (fun _ => rfl) ?_
  refine dv 3 ?_
  refine x0x rfl rfl rfl (a1e true _ (by omega)) ?_
  refine dv 1 ?_
  refine x0x rfl rfl rfl (a4b true _ (by omega)) ?_
  refine dv 4 ?_
  subst hcut
  rw [show c2m u l = ⟨l.proc, b4p l (d0o u l.done), (l.done.take l.done.length).drop (d0o u l.done)⟩ from by rw [List.take_length]; rfl]
  exact ⟨_, _, rfl, .agg rfl (.cl rfl (.cl rfl (.cl rfl (.cl rfl (.cl rfl .nil))))) (.cl rfl (.cl rfl .nil))⟩
 have hlt : p.ev.time < u := hc6
 have hfs := b2u (f := Pa.sends) (m := 2) (show i ≤ l.done.length by omega) fun p hp => (h2 p hp).1
 have hfo := b2u (f := Pa.outs) (m := 2) (show i ≤ l.done.length by omega) fun p hp => (h2 p hp).2
 refine dv 8 ?_
 refine u4u (out := .agg (a0s p.after)) rfl a4s rfl ?_
 refine dv 9 ?_
 refine p0p (zs := ((l.done.take i).flatMap Pa.sends ++ p.sends).map z2z) rfl rfl v8v rfl z4z rfl rfl rfl (z9z (fun _ => rfl) _) (a9d _ _ _) (by (simp only [s2s, r5r, s1s, s3s, a0l, b3c, T56]; omega)) ?_
 refine dv 9 ?_
 refine p0p (zs := ((l.done.take i).flatMap Pa.outs ++ p.outs).map p9p) rfl rfl a0h rfl w4w rfl rfl rfl (z9z (fun _ => rfl) _) (a9d _ _ _) (by (simp only [s2s, r5r, s1s, s3s, a0l, b3c, T141]; omega)) ?_
 refine dv 3 ?_
 refine x8x (b := 1) rfl rfl (by omega) (dv 1 ?_)
 exact ⟨i + 1, ⟨⟨by omega, fun j q hj hq => by by_cases e : j = i; (subst e; rw [hp] at hq; cases hq; exact hlt); exact k2 j q (by omega) hq⟩, by omega⟩, [0, 0, _, _, 0, _, _], x7x, x7x, (HE.row rfl (by rw [a5g hp]) (HE.row rfl (by rw [a5g hp]) (HE.box rfl (by rw [c2l hp]; rfl) (HE.kill rfl (HE.kill rfl HE.nil))))), x5x, rfl⟩
end
section
theorem b0m (c : Bool) (n : Nd) (r g : Int) : a0g Tryz.prog 67 [.agg (u1u c n), .pv (.int .i64 r), .pv (.int .i64 g)] (.tup [.agg (u1u true (q7q n r g).1), .pv (.bool (q7q n r g).2)]) := by
 refine pX Tryz.f67 [.agg (u1u true (q7q n r g).1), .pv (.bool (q7q n r g).2)] 19 ?_
 refine dv 1 ?_
 refine x9x (id := 0) rfl rfl rfl (x3x (id := 1) u3u p5p rfl (dv 4 fun K K' => ?_))
 refine x0x rfl rfl rfl (w5w c n) (dc 1 (aI ?_ ?_))<;>intro hc2<;>try simp at hc2
 ·have fX : ¬ y3y n := a0w (by simpa using hc2)
  refine dv 1 ?_
  refine rlB u3u p5p ?_
  refine dv 3 ?_
  (rw [e5m fX]; exact ⟨_, _, rfl, b6d (.cl rfl .nil)⟩)
 have fK : y3y n := a0o.1 (by simpa using hc2)
 have fS := fK.1
 have fB := w2w fS
 have fV := fS.2.2.2.2.2.1
 have fb := b7r fS
 have fM0 := b2t fK
 have fL := c7p fS
 have fG := fS.1.2.2.1
 refine dv 3 ?_
 refine rlM [13, 14, 15] [_, _, _] (y2y c n fb) rfl rfl rfl ?_
 refine x3x (id := 2) u3u p5p rfl (dc 7 (fun K K' => aS ?_ ?_))<;>intro hg4<;>try simp at hg4
 ·have fU : ¬ b2v n r g := by (rintro ⟨m1, m2, m3, m4, m5, m6, m7, m8⟩; (simp_all; done))
  refine dv 40 ?_
  (rw [b0z fK fU]; exact ⟨_, _, rfl, q3q (n := n) rfl rfl rfl (.cl rfl .nil)⟩)
 have fUp : n.up = true := hg4
 refine dc 4 (aS ?_ ?_)<;>intro h<;>try simp at h
 ·have fU : ¬ b2v n r g := by (rintro ⟨m1, m2, m3, m4, m5, m6, m7, m8⟩; omega)
  refine dv 36 ?_
  (rw [b0z fK fU]; exact ⟨_, _, rfl, q3q (n := n) rfl rfl rfl (.cl rfl .nil)⟩)
 refine dc 6 (aS ?_ ?_)<;>intro h<;>try simp at h
 ·have fU : ¬ b2v n r g := by (rintro ⟨m1, m2, m3, m4, m5, m6, m7, m8⟩; omega)
  refine dv 30 ?_
  (rw [b0z fK fU]; exact ⟨_, _, rfl, q3q (n := n) rfl rfl rfl (.cl rfl .nil)⟩)
 refine dv 3 ?_
 refine q9q (.int .i64 (n.g + 1)) rfl rfl rfl (a6i rfl rfl (by omega) (by omega)) ?_
 refine dv 0 ?_
 refine x0x rfl rfl rfl (y9y ..) (dc 3 (aS ?_ ?_))<;>intro h<;>try simp at h
 ·have fU : ¬ b2v n r g := by (rintro ⟨m1, m2, m3, m4, m5, m6, m7, m8⟩; omega)
  refine dv 22 ?_
  (rw [b0z fK fU]; exact ⟨_, _, rfl, q3q (n := n) rfl rfl rfl (.cl rfl .nil)⟩)
 refine dc 6 (aS ?_ ?_)<;>intro h<;>try simp at h
 ·have fU : ¬ b2v n r g := by (rintro ⟨m1, m2, m3, m4, m5, m6, m7, m8⟩; omega)
  refine dv 16 ?_
  (rw [b0z fK fU]; exact ⟨_, _, rfl, q3q (n := n) rfl rfl rfl (.cl rfl .nil)⟩)
 refine dv 1 ?_
 refine x0x rfl rfl rfl (b5c c n) (dc 4 (aS ?_ ?_))<;>intro h<;>try simp at h
 ·have fU : ¬ b2v n r g := by (rintro ⟨m1, m2, m3, m4, m5, m6, m7, m8⟩; omega)
  refine dv 10 ?_
  (rw [b0z fK fU]; exact ⟨_, _, rfl, q3q (n := n) rfl rfl rfl (.cl rfl .nil)⟩)
 refine dv 2 ?_
 refine x0x rfl rfl rfl (u0u ..) (dc 2 (aI ?_ ?_))<;>intro h<;>try simp at h
 ·have fU : ¬ b2v n r g := by (rintro ⟨m1, m2, m3, m4, m5, m6, m7, m8⟩; omega)
  refine dv 5 ?_
  (rw [b0z fK fU]; exact ⟨_, _, rfl, q3q (n := n) rfl rfl rfl (.cl rfl .nil)⟩)
 have fM : b2v n r g := ⟨fUp, by omega, by omega, by omega, by omega, by omega, by omega, by omega⟩
 obtain ⟨k, hk, hk3, hkn⟩ := f3d fS
 have hkl := fS.2.2.2.2.2.2.1
 obtain ⟨kn, hkv⟩ := gE n.known k
 have hKk : n.known.set n.id.toNat g = n.known.set k g := by rw [hkn]
 refine dv 13 fun K K' => ?_
 refine x6x (ι := Nat) (fun i γ1 => [(9, a0t c (a3p n g i)), (10, r9r c (b1o n g i)), (11, pI (i : Int))]) (fun i γ1 => [(13, ((0 + 1), .row 44 5 ((b9d g n.lanes i).map (q2q true)))), (3, ((γ1 3), .dead)), (4, ((γ1 4), .dead)), (5, ((γ1 5), .dead)), (6, ((γ1 6), .dead)), (7, ((γ1 7), .dead)), (8, ((γ1 8), .dead)), (9, ((γ1 9), .dead))]) (fun i => i ≤ n.lanes.length) (fun i => n.lanes.length - i) (r7r [2, 3, 6, 8] rfl) (a1m [0, 1, 2, 10, 11, 12, 14, 15, 16, 17, 18] rfl) 0 (by omega) [0, 0, 0, _, _, _, _, _, _, _] (Cov.cons' (t := 9) rfl (by rw [d2w]) (Cov.cons' (t := 10) rfl (by rw [d2x]) (y0y 11 rfl Cov.nil))) (HE.row rfl (by rw [d7b]) (HE.kill rfl (HE.kill rfl (HE.kill rfl (HE.kill rfl (HE.kill rfl (HE.kill rfl (HE.kill rfl HE.nil)))))))) rfl fun i γ1 hi => ?_
 refine dc 7 (fun K K' => aI ?_ ?_)<;>intro h<;>try simp at h
 ·obtain ⟨l, hp⟩ := gE n.lanes i
  have hkt := d0p fS g (i + 1)
  rw [c2o hp, List.length_append] at hkt
  have hot := d0q fS g (i + 1)
  rw [c2p hp, List.length_append] at hot
  have hlt2 : i < (b9d g n.lanes i).length := by rw [e1g _ _ (by omega)]; omega
  have hll := fL l (List.mem_of_getElem? hp)
  refine dv 10 fun K K' => ?_
  refine x0x rfl rfl rfl (b9k c l g hll) (dv 4 ?_)
  refine x3x (id := 3) a0c a6u rfl (dv 8 ?_)
  refine z1z (j := i) rfl rfl a7t rfl a0c rfl rfl hlt2 ?_
  refine v6v (el' := c2m g l) rfl rfl a0c rfl rfl rfl (e5k hp) rfl (q8q rfl) rfl rfl ?_
  refine dv 1 ?_
  refine y1y (id := 4) v8v rfl z4z rfl (dv 1 ?_)
  refine p0p (zs := (a3p n g i).map z2z) rfl rfl v8v rfl z4z rfl rfl rfl (z9z (fun _ => rfl) _) rfl (by (simp only [s2s, r5r, s1s, s3s, a0l, T56]; omega)) ?_
  refine dv 1 ?_
  refine a1h v9v (zs := (a3p n g i ++ c2n g l).map z2z) rfl rfl v8v rfl z4z rfl rfl rfl (z9z (fun _ => rfl) _) (a9d _ _ _) (by (simp only [s2s, r5r, s1s, s3s, a0l, T56]; omega)) (Le.ow_map _ (fun _ => rfl) (fun _ => rfl)) ?_
  refine dv 2 ?_
  refine y1y (id := 7) a0h rfl w4w rfl (dv 1 ?_)
  refine p0p (zs := (b1o n g i).map p9p) rfl rfl a0h rfl w4w rfl rfl rfl (z9z (fun _ => rfl) _) rfl (by (simp only [s2s, r5r, s1s, s3s, a0l, T141]; omega)) ?_
  refine dv 1 ?_
  refine a1h v9v (zs := (b1o n g i ++ c7o g l).map p9p) rfl rfl a0h rfl w4w rfl rfl rfl (z9z (fun _ => rfl) _) (a9d _ _ _) (by (simp only [s2s, r5r, s1s, s3s, a0l, T141]; omega)) (Le.ow_map _ (fun _ => rfl) (fun _ => rfl)) ?_
  refine dv 1 ?_
  refine d9j 9 rfl (.le rfl (Le.low_map (c := c) (l := a3p n g i ++ c2n g l) (f := z2z) fun _ => rfl) .nil) ?_
  refine d9j 10 rfl (.le rfl (Le.low_map (c := c) (l := b1o n g i ++ c7o g l) (f := p9p) fun _ => rfl) .nil) ?_
  refine dv 2 ?_
  refine v0v rfl rfl rfl (dv 1 ?_)
  exact ⟨i + 1, ⟨by omega, by omega⟩, [0, 0, 0, _, _, _, _, _, _, _], (Cov.cons' (t := 9) rfl (by rw [c2o hp]; rfl) (Cov.cons' (t := 10) rfl (by rw [c2p hp]; rfl) (Cov.cons' (t := 11) rfl (by rw [y4y (by omega) (by omega)]; rfl) Cov.nil))), x7x, (HE.row rfl (by rw [e1h hp]) (HE.kill rfl (HE.kill rfl (HE.kill rfl (HE.kill rfl (HE.kill rfl (HE.kill rfl (HE.kill rfl HE.nil)))))))), x5x, rfl⟩
 obtain rfl : i = n.lanes.length := by omega
 have hkt := d0p fS g n.lanes.length
 have hot := d0q fS g n.lanes.length
 have hkq : ∀ e ∈ v1v (a3p n g n.lanes.length), okE e = true := fun e he => e1i fS ((b3v _ _).1 he)
 have hqs := b0e (a3p n g n.lanes.length)
 refine dv 11 ?_
 refine z1z (j := k) rfl (by rw [← hk]; rfl) s4s rfl r1r rfl rfl (z3z hkv) ?_
 refine b3u (el' := g) rfl rfl r1r rfl rfl rfl hkv rfl (by omega) (.val rfl rfl .nil) rfl rfl ?_
 refine dv 1 ?_
 refine y1y (id := 10) v8v rfl z4z rfl (dv 4 ?_)
 refine x0x rfl rfl rfl (a1e c _ (by omega)) ?_
 refine dv 5 fun K K' => ?_
 refine x6x (ι := Nat) (fun j γ2 => [(15, pI (j : Int))]) (fun j γ2 => [(10, ((γ2 10), .row 56 7 ((((v1v (a3p n g n.lanes.length)).take j).filter (d0r (n.known.set k g))).map z2z))), (2, ((0 + 1), .box 65 [pI n.id, .pv (.bool n.up), pI n.inc, pI g, .ref 13 (0 + 1), .ref 10 (γ2 10), r9r true n.outs, pI n.led, pI n.version, .ref 14 (0 + 1), .ref 15 (0 + 1), pI n.round, pI n.low])), (11, ((γ2 11), .dead)), (12, ((γ2 12), .dead))]) (fun j => j ≤ (v1v (a3p n g n.lanes.length)).length) (fun j => (v1v (a3p n g n.lanes.length)).length - j) (r7r [3, 6, 8, 9, 10] rfl) (a1m [0, 1, 3, 4, 5, 6, 7, 8, 9, 13, 14, 15, 16, 17, 18] rfl) 0 (by omega) [0, 0, 0, 0, 0, 0, 0, 0, 0, 0, _, _, _] x7x (HE.row rfl (by rw [List.take_zero]; rfl) (HE.box rfl rfl (HE.kill rfl (HE.kill rfl HE.nil)))) rfl fun j γ2 hi => ?_
 refine dc 6 (fun K K' => aS ?_ ?_)<;>intro h<;>try simp at h
 ·obtain rfl : j = (v1v (a3p n g n.lanes.length)).length := by omega
  refine dv 3 ?_
  refine x0x rfl rfl rfl (a4b c _ (by omega)) ?_
  refine dv 3 fun K K' => ?_
  refine b2m 10 (xs' := (a3t n g).kept.map z2z) rfl (by simp only [a3t, hKk, c7q, List.take_length]) ?_
  refine b2m 13 (xs' := (a3t n g).lanes.map (q2q true)) rfl (by rw [e1f]; rfl) ?_
  refine b2m 15 (xs' := (a3t n g).known.map a3u) rfl (by simp only [a3t, hKk]) ?_
  refine u6u (b := b8l true (a3t n g).lanes) 2 4 rfl rfl rfl (.ref rfl (Le.ow_map _ (fun _ => rfl) (fun _ => rfl)) .nil) rfl rfl rfl rfl ?_
  refine u6u (b := a0t true (a3t n g).kept) 2 5 rfl rfl rfl (.ref rfl (Le.ow_map _ (fun _ => rfl) (fun _ => rfl)) .nil) rfl rfl rfl rfl ?_
  refine u6u (b := b9w true n.views) 2 9 rfl rfl rfl (.ref rfl (Le.ow_map _ (fun _ => rfl) (fun _ => rfl)) .nil) rfl rfl rfl rfl ?_
  refine u6u (b := a3f true (a3t n g).known) 2 10 rfl rfl rfl (.ref rfl (Le.ow_map _ (fun _ => rfl) (fun _ => rfl)) .nil) rfl rfl rfl rfl ?_
  refine dv 2 ?_
  refine x0x rfl rfl rfl (w5w true (a3t n g)) ?_
  refine dc 1 (aI ?_ ?_)<;>intro hc21<;>try simp at hc21
  ·have fX2 : ¬ y3y (a3t n g) := a0w (by simpa using hc21)
   refine dv 2 ?_
   refine rlM [16, 17, 18] [_, _, _] (y2y c n fb) rfl rfl rfl ?_
   refine dv 3 ?_
   (rw [d5c fK fM, c2r fX2]; exact ⟨_, _, rfl, q3q (n := n) rfl rfl rfl (.cl rfl .nil)⟩)
  have fK2 : y3y (a3t n g) := a0o.1 (by simpa using hc21)
  have fb2 := b7r fK2.1
  refine dv 3 ?_
  refine rlM [16, 17, 18] [_, _, _] (y2y true (a3t n g) fb2) rfl rfl rfl ?_
  refine dv 3 ?_
  (rw [d5c fK fM, c2q fK2]; exact ⟨_, _, rfl, q3q (n := a3t n g) rfl rfl rfl (.cl rfl .nil)⟩)
 obtain ⟨e, he⟩ := gE (v1v (a3p n g n.lanes.length)) j
 obtain ⟨k2, v, hk2, hv, hw⟩ := e5l (kn := n.known.set k g) (hkq e (List.mem_of_getElem? he)) (by rw [List.length_set]; exact hkl)
 have hfl : (((v1v (a3p n g n.lanes.length)).take j).filter (d0r (n.known.set k g))).length ≤ 1000000 := Nat.le_trans (List.length_filter_le _ _) (by rw [List.length_take]; omega)
 refine dv 16 fun K K' => ?_
 refine x0x rfl rfl rfl (a1g ..) ?_
 refine z1z (j := k2) rfl (by rw [← hk2]; rfl) s4s rfl r1r rfl rfl (z3z hv) ?_
 refine dc 2 (aS ?_ ?_)<;>intro h<;>try simp at h
 ·have hwf : ¬ d0r (n.known.set k g) e = true := by rw [hw]; simp; omega
  refine dv 3 ?_
  refine v0v rfl rfl rfl (dv 1 ?_)
  exact ⟨j + 1, ⟨by omega, by omega⟩, [0, 0, 0, 0, 0, 0, 0, 0, 0, 0, _, _, _], (Cov.cons' (t := 15) rfl (by rw [y4y (by omega) (by omega)]; rfl) Cov.nil), x7x, (HE.row rfl (by rw [a0j he]; rw [if_neg hwf, List.append_nil]) (HE.box rfl rfl (HE.kill rfl (HE.kill rfl HE.nil)))), x5x, rfl⟩
 have hwt : d0r (n.known.set k g) e = true := by rw [hw]; exact decide_eq_true (by omega)
 refine dv 7 ?_
 refine y6y (id := 11) v8v rfl z4z rfl rfl rfl rfl rfl rfl ?_
 refine y7y (zs := (((v1v (a3p n g n.lanes.length)).take j).filter (d0r (n.known.set k g)) ++ [e]).map z2z) rfl rfl v8v rfl z4z rfl rfl rfl rfl (by rfl) (z8z _ _ _) (by (simp only [s2s, r5r, s1s, s3s, a0l, T56]; omega)) ?_
 refine dv 4 ?_
 refine v0v rfl rfl rfl (dv 1 ?_)
 exact ⟨j + 1, ⟨by omega, by omega⟩, [0, 0, 0, 0, 0, 0, 0, 0, 0, 0, _, _, _], (Cov.cons' (t := 15) rfl (by rw [y4y (by omega) (by omega)]; rfl) Cov.nil), x7x, (HE.row rfl (by rw [a0j he]; rw [if_pos hwt]) (HE.box rfl rfl (HE.kill rfl (HE.kill rfl HE.nil)))), x5x, rfl⟩
end
section
def c4a (c : Bool) (vs : List Vi) : List (Value × AV) := vs.zipIdx.map fun p => (.int .i64 (p.2 : Int), .agg (a3g c p.1))
def c4s (n : Nat) : List Int := (List.range n).map fun (i : Nat) => (i : Int)
variable {c : Bool} {vs : List Vi} {i : Nat} {v : Vi}
theorem f1r (h : vs[i]? = some v) : (c4a c vs)[i]? = some (.int .i64 (i : Int), .agg (a3g c v)) := by
 rw [c4a, List.getElem?_map, List.getElem?_zipIdx, h]; simp
theorem d1k (c : Bool) (vs : List Vi) : (c4a c vs).map (·.1) = (c4s vs.length).map fun n => Value.int .i64 n := by
 apply List.ext_getElem?
 intro i
 simp only [c4a, c4s, List.getElem?_map, List.getElem?_zipIdx, List.getElem?_range]
 by_cases h : i < vs.length
 ·simp [h]
 ·rw [List.getElem?_eq_none (by omega : vs.length ≤ i)]; simp [h]
theorem e6o (h : i < n) : a6w (c4s n) (i : Int) = some i := by
 obtain ⟨j, hj⟩ := c9l (k := (i : Int)) (ks := c4s n) (List.mem_map.2 ⟨i, List.mem_range.2 h, rfl⟩)
 have := b5t hj
 simp only [c4s, List.getElem?_map] at this
 cases hr : (List.range n)[j]? with
 | none => rw [hr] at this; cases this
 | some k =>
  rw [hr] at this
  obtain ⟨q1, q2⟩ := List.getElem?_eq_some_iff.1 hr
  simp only [List.getElem_range] at q2
  simp only [Option.map_some, Option.some.injEq] at this
  have : j = i := by omega
  rw [hj, this]
theorem e6p (n : Nat) : a6w (c4s n) (n : Int) = none := b2k.2 fun h => by
 obtain ⟨k, h1, h2⟩ := List.mem_map.1 h
 rw [List.mem_range] at h1
 omega
theorem e3n (c : Bool) (vs : List Vi) (v : Vi) : c4a c (vs ++ [v]) = c4a c vs ++ [(.int .i64 (vs.length : Int), .agg (a3g c v))] := by
 simp [c4a, List.zipIdx_append]
theorem e3o {tt : TT} {et : TypeId} (h : vs[i]? = some v) : (∃ j kv, a6w (c4s vs.length) (i : Int) = some j ∧ (c4a c vs)[j]? = some (kv, .agg (a3g c v))) ∨ (a6w (c4s vs.length) (i : Int) = none ∧ ∃ S, tt et = some S ∧ AV.agg (a3g c v) = b8u S) :=
 .inl ⟨i, _, e6o (List.getElem?_eq_some_iff.1 h).1, f1r h⟩
theorem a8f (c : Bool) (vs : List Vi) : ∀ p ∈ c4a c vs, p.2.flatA = true := fun p hp => by
 obtain ⟨q, _, rfl⟩ := List.mem_map.1 hp; rfl
end
section
theorem e6q {α : Type} {l : List α} {i : Nat} {a : α} (h : l[i]? = some a) : l.set i a = l := by
 obtain ⟨h1, rfl⟩ := List.getElem?_eq_some_iff.1 h
 exact List.set_getElem_self h1
end
section
theorem c3l (c : Bool) (n : Nd) (f inc ver g : Int) (es : List Ev) : a0g Tryz.prog 70 [.agg (u1u c n), .pv (.int .i64 f), .pv (.int .i64 inc), .pv (.int .i64 ver), .pv (.int .i64 g), a0t c es] (.agg (u1u true (a3k n f inc ver g es))) := by
 refine pX Tryz.f70 [.agg (u1u true (a3k n f inc ver g es))] 12 ?_
 refine dv 1 ?_
 refine x9x (id := 0) rfl rfl rfl (x3x (id := 1) u3u p5p rfl (dv 3 fun K K' => ?_))
 refine x0x rfl rfl rfl (w5w c n) (dc 1 (aI ?_ ?_))<;>intro hc2<;>try simp at hc2
 ·have fX : ¬ y3y n := a0w (by simpa using hc2)
  refine dv 1 ?_
  refine rlB u3u p5p ?_
  refine dv 2 ?_
  (rw [f3g fX]; exact ⟨_, _, rfl, e2a⟩)
 have fK : y3y n := a0o.1 (by simpa using hc2)
 have fS := fK.1
 have fB := w2w fS
 have fV := fS.2.2.2.2.2.1
 have fQ := fS.2.2.2.2.2.2.1
 have fb := b7r fS
 refine dv 3 ?_
 refine rlM [6, 7, 8] [_, _, _] (y2y c n fb) rfl rfl rfl ?_
 refine x3x (id := 2) u3u p5p rfl (dc 7 (fun K K' => aS ?_ ?_))<;>intro hg4<;>try simp at hg4
 ·have fU : ¬ b0h n f inc ver g es := by (rintro ⟨m1, m2, m3, m4, m5, m6, m7, m8, m9⟩; (simp_all; done))
  refine dv 37 ?_
  (rw [b7v fK fU]; exact ⟨_, _, rfl, b6c (n := n) rfl rfl rfl⟩)
 have fUp : n.up = true := hg4
 refine dv 1 ?_
 refine x0x rfl rfl rfl (y9y ..) (dc 3 (aS ?_ ?_))<;>intro h<;>try simp at h
 ·have fU : ¬ b0h n f inc ver g es := by (rintro ⟨m1, m2, m3, m4, m5, m6, m7, m8, m9⟩; omega)
  refine dv 32 ?_
  (rw [b7v fK fU]; exact ⟨_, _, rfl, b6c (n := n) rfl rfl rfl⟩)
 refine dc 6 (aS ?_ ?_)<;>intro hg6<;>try simp at hg6
 ·have fU : ¬ b0h n f inc ver g es := by (rintro ⟨m1, m2, m3, m4, m5, m6, m7, m8, m9⟩; omega)
  refine dv 26 ?_
  (rw [b7v fK fU]; exact ⟨_, _, rfl, b6c (n := n) rfl rfl rfl⟩)
 have f4 : ¬ f = n.id := hg6
 refine dv 3 ?_
 refine rlB r8r a6e ?_
 refine dv 0 ?_
 refine x0x rfl rfl rfl (b1t c ⟨inc, ver, es⟩) ?_
 refine dc 3 (aS ?_ ?_)<;>intro hg7<;>try simp at hg7
 ·have fvi : ¬ d4v ⟨inc, ver, es⟩ := a0w (by simpa using hg7)
  have fU : ¬ b0h n f inc ver g es := by (rintro ⟨m1, m2, m3, m4, m5, m6, m7, m8, m9⟩; exact fvi ⟨⟨by show 0 ≤ inc; omega, m5.2⟩, m6, m8⟩)
  refine dv 18 ?_
  (rw [b7v fK fU]; exact ⟨_, _, rfl, b6c (n := n) rfl rfl rfl⟩)
 have fvi : d4v ⟨inc, ver, es⟩ := a0o.1 (by simpa using hg7)
 have fv1 := fvi.1
 have fv2 := fvi.2.1
 have fv3 : a7w okE a2i es 100 = true := fvi.2.2
 dsimp only at fv1 fv2
 refine dc 4 (aS ?_ ?_)<;>intro h<;>try simp at h
 ·have fU : ¬ b0h n f inc ver g es := by (rintro ⟨m1, m2, m3, m4, m5, m6, m7, m8, m9⟩; omega)
  refine dv 14 ?_
  (rw [b7v fK fU]; exact ⟨_, _, rfl, b6c (n := n) rfl rfl rfl⟩)
 refine dv 1 ?_
 refine x0x rfl rfl rfl (y9y ..) (dc 3 (aS ?_ ?_))<;>intro h<;>try simp at h
 ·have fU : ¬ b0h n f inc ver g es := by (rintro ⟨m1, m2, m3, m4, m5, m6, m7, m8, m9⟩; omega)
  refine dv 9 ?_
  (rw [b7v fK fU]; exact ⟨_, _, rfl, b6c (n := n) rfl rfl rfl⟩)
 refine dv 2 ?_
 refine x0x rfl rfl rfl (u0u ..) (dc 2 (aI ?_ ?_))<;>intro h<;>try simp at h
 ·have fU : ¬ b0h n f inc ver g es := by (rintro ⟨m1, m2, m3, m4, m5, m6, m7, m8, m9⟩; omega)
  refine dv 4 ?_
  (rw [b7v fK fU]; exact ⟨_, _, rfl, b6c (n := n) rfl rfl rfl⟩)
 refine dv 5 fun K K' => ?_
 refine u2u 5 rfl fun hlen => ?_
 refine x6x (ι := Nat) (fun i γ1 => [(14, pI (i : Int))]) (fun i γ1 => []) (fun i => i ≤ es.length ∧ c8t es (fun _ e => a0e e.to = n.id ∧ (e.from' = -1 ∨ a0e e.from' = f)) i) (fun i => es.length - i) (r7r [1, 2, 3, 4, 5, 6, 12, 13] rfl) (a1m [0, 1, 2, 3, 4, 5, 6, 7, 8, 9, 10, 11] rfl) 0 ⟨by omega, a1f⟩ [] x7x x5x rfl fun i γ1 hi => ?_
 obtain ⟨k1, k2⟩ := hi
 refine dc 6 (fun K K' => aI ?_ ?_)<;>intro h<;>try simp at h
 ·obtain ⟨e, he⟩ := gE es i
  have heo : c0a e := of_decide_eq_true ((q6q fv3).2 e (List.mem_of_getElem? he))
  have heb := heo.2.2.1
  refine dv 9 fun K K' => ?_
  refine x0x rfl rfl rfl (a1g ..) (dc 4 (aS ?_ ?_))<;>intro hg15<;>try simp at hg15
  ·have fE : ¬ (a0e e.to = n.id ∧ (e.from' = -1 ∨ a0e e.from' = f)) := fun q => (by have := q.1; omega)
   refine dv 17 ?_
   have fU : ¬ b0h n f inc ver g es := fun q => fE (q.2.2.2.2.2.2.2.2 e (List.mem_of_getElem? he))
   refine dv 4 ?_
   (rw [b7v fK fU]; exact ⟨_, _, rfl, b6c (n := n) rfl rfl rfl⟩)
  have e1 : a0e e.to = n.id := hg15
  refine dc 7 (aS ?_ ?_)<;>intro h<;>try simp at h
  ·have hE : a0e e.to = n.id ∧ (e.from' = -1 ∨ a0e e.from' = f) := ⟨e1, .inl (by omega)⟩
   refine dv 13 ?_
   refine v0v rfl rfl rfl (dv 1 ?_)
   exact ⟨i + 1, ⟨⟨by omega, s0s k2 he hE⟩, by omega⟩, [], (Cov.cons' (t := 14) rfl (by rw [y4y (by omega) (by omega)]; rfl) Cov.nil), x7x, x5x, x5x, rfl⟩
  refine dv 5 ?_
  refine x0x rfl rfl rfl (a1g ..) (dc 4 (aS ?_ ?_))<;>intro hc17<;>try simp at hc17
  ·have hE : a0e e.to = n.id ∧ (e.from' = -1 ∨ a0e e.from' = f) := ⟨e1, .inr hc17⟩
   refine dv 3 ?_
   refine v0v rfl rfl rfl (dv 1 ?_)
   exact ⟨i + 1, ⟨⟨by omega, s0s k2 he hE⟩, by omega⟩, [], (Cov.cons' (t := 14) rfl (by rw [y4y (by omega) (by omega)]; rfl) Cov.nil), x7x, x5x, x5x, rfl⟩
  have fE : ¬ (a0e e.to = n.id ∧ (e.from' = -1 ∨ a0e e.from' = f)) := by (rintro ⟨q1, q2 | q2⟩ <;> omega)
  have fU : ¬ b0h n f inc ver g es := fun q => fE (q.2.2.2.2.2.2.2.2 e (List.mem_of_getElem? he))
  refine dv 4 ?_
  (rw [b7v fK fU]; exact ⟨_, _, rfl, b6c (n := n) rfl rfl rfl⟩)
 have hall := a2x k2 (by omega)
 have fH : b0h n f inc ver g es := ⟨fUp, by omega, by omega, f4, by omega, by omega, by omega, fv3, fun e he => by obtain ⟨i, hi⟩ := List.getElem?_of_mem he; exact hall i e hi⟩
 obtain ⟨k, rfl⟩ : ∃ k : Nat, f = (k : Int) := ⟨f.toNat, by have := fH.2.2.1; omega⟩
 have hk3 : k < 3 := by have := fH.2.2.1; omega
 obtain ⟨kn, hkn⟩ := gE n.known k
 obtain ⟨v, hv⟩ := gE n.views k
 have hes : es.length ≤ 100 := by have := (q6q fH.2.2.2.2.2.2.2.1).1; omega
 obtain ⟨M, hM⟩ : ∃ M, M = b6a n k inc ver g es := ⟨_, rfl⟩
 have hv9 : n.version ≤ 9998 := by have := fH.2.1; omega
 have hv0 := fS.1.2.2.2.2.1.1
 refine dv 1 ?_
 refine r0r (ι := Unit) (fun _i γ2 => []) (fun _i γ2 => [(8, ((0 + 1), .row 3 1 ((n.known.set k (max kn g)).map a3u)))]) (fun _i => True) (r7r [1, 2, 3, 5, 6, 12, 13] rfl) (a1m [0, 1, 2, 3, 4, 5, 6, 7, 9, 10, 11] rfl) ?_ fun _i γ2 hi => ?_
 ·refine dv 5 ?_
  refine z1z (j := k) rfl rfl s4s rfl r1r rfl rfl (z3z hkn) ?_
  refine dc 2 (aS ?_ ?_)<;>intro h<;>try simp at h
  ·have hmx : max kn g = kn := by omega
   refine dv 1 ?_
   exact ⟨(), trivial, [], x7x, x7x, (HE.row rfl (by rw [hmx, e6q hkn]) HE.nil), x5x, rfl⟩
  have hmx : max kn g = g := by omega
  refine dv 5 ?_
  refine z1z (j := k) rfl rfl s4s rfl r1r rfl rfl (z3z hkn) ?_
  refine b3u (el' := g) rfl rfl r1r rfl rfl rfl hkn rfl (by omega) (.val rfl rfl .nil) rfl rfl ?_
  exact ⟨(), trivial, [], x7x, x7x, (HE.row rfl (by (rw [hmx]; done)) HE.nil), x5x, rfl⟩
 ·try dsimp only [b3d, b3e]
  refine dv 6 ?_
  refine x3x (id := 3) r8r a6e rfl (dv 1 ?_)
  refine r0r (ι := Unit) (fun _i γ3 => []) (fun _i γ3 => [(2, ((0 + 1), .box 65 [pI M.id, .pv (.bool M.up), pI M.inc, pI M.g, .ref 6 (0 + 1), a0t true M.kept, r9r true M.outs, pI M.led, pI M.version, .ref 7 (0 + 1), .ref 8 (0 + 1), pI M.round, pI M.low])), (6, ((0 + 1), .row 44 5 ((M.lanes).map (q2q true)))), (7, ((0 + 1), .row 190 3 ((M.views).map (a3g true)))), (8, ((0 + 1), .row 3 1 (M.known.map a3u))), (4, ((γ3 4), .dead)), (5, ((γ3 5), .dead))]) (fun _i => True) (r7r [6, 12, 13] rfl) (a1m [0, 1, 3, 9, 10, 11] rfl) ?_ fun _i γ3 hi => ?_
  ·refine dc 6 (aS ?_ ?_)<;>intro h<;>try simp at h
   ·refine dv 11 ?_
    have hL : c7v v inc ver := .inl (by omega)
    refine dv 6 ?_
    refine x0x rfl rfl rfl (b1u c v.events es n.g) (dc 7 (fun K K' => aS ?_ ?_))<;>intro h<;>try simp at h
    ·have hlow : n.low = M.low := by rw [hM, a1t hv hkn hL]; show _ = chg n.g v.events (chg n.g es n.low v.events) es; rw [c0s n.g v.events es (m := n.low) (by have := fS.1.2.2.2.2.2.2; omega)]; omega
     refine dv 7 ?_
     refine y1y (id := 4) v8v rfl z4z rfl (dv 1 ?_)
     refine a1h v9v (zs := es.map z2z) rfl rfl v8v rfl z4z rfl rfl rfl (z9z (fun _ => rfl) _) rfl (by simp only [s2s, T56]; omega) (Le.ow_map _ (fun _ => rfl) (fun _ => rfl)) ?_
     refine rlB r8r a6e ?_
     refine z1z (j := k) rfl rfl a9w rfl r8r rfl rfl (z3z hv) ?_
     refine v6v (el' := ⟨inc, ver, es⟩) rfl rfl r8r rfl rfl rfl hv rfl (q8q rfl) rfl rfl ?_
     refine dv 0 ?_
     exact ⟨(), trivial, [0, 0, 0, 0, _, _], x7x, x7x, (HE.box rfl (by rw [← hlow]; (rw [hM, a1t hv hkn hL] <;> rfl)) (HE.row rfl (by (rw [hM, a1t hv hkn hL] <;> rfl)) (HE.row rfl (by (rw [hM, a1t hv hkn hL] <;> rfl)) (HE.row rfl (by (rw [hM, a1t hv hkn hL] <;> rfl)) (HE.kill rfl (HE.kill rfl HE.nil)))))), x5x, rfl⟩
    have hlow : chg n.g v.events (chg n.g es 41 v.events) es = M.low := by rw [hM, a1t hv hkn hL]; show _ = chg n.g v.events (chg n.g es n.low v.events) es; rw [c0s n.g v.events es (m := n.low) (by have := fS.1.2.2.2.2.2.2; omega)]; omega
    refine dv 10 ?_
    refine y1y (id := 4) v8v rfl z4z rfl (dv 1 ?_)
    refine a1h v9v (zs := es.map z2z) rfl rfl v8v rfl z4z rfl rfl rfl (z9z (fun _ => rfl) _) rfl (by simp only [s2s, T56]; omega) (Le.ow_map _ (fun _ => rfl) (fun _ => rfl)) ?_
    refine rlB r8r a6e ?_
    refine z1z (j := k) rfl rfl a9w rfl r8r rfl rfl (z3z hv) ?_
    refine v6v (el' := ⟨inc, ver, es⟩) rfl rfl r8r rfl rfl rfl hv rfl (q8q rfl) rfl rfl ?_
    refine dv 0 ?_
    exact ⟨(), trivial, [0, 0, 0, 0, _, _], x7x, x7x, (HE.box rfl (by rw [← hlow]; (rw [hM, a1t hv hkn hL] <;> rfl)) (HE.row rfl (by (rw [hM, a1t hv hkn hL] <;> rfl)) (HE.row rfl (by (rw [hM, a1t hv hkn hL] <;> rfl)) (HE.row rfl (by (rw [hM, a1t hv hkn hL] <;> rfl)) (HE.kill rfl (HE.kill rfl HE.nil)))))), x5x, rfl⟩
   refine dc 5 (aS ?_ ?_)<;>intro h<;>try simp at h
   ·refine dv 6 ?_
    have hL : ¬ c7v v inc ver := by rintro (q | ⟨q1, q2⟩) <;> omega
    have hlow : n.low = M.low := by rw [hM, a9h hv hkn hL]
    refine dv 1 ?_
    exact ⟨(), trivial, [0, 0, 0, 0, _, _], x7x, x7x, (HE.box rfl (by rw [← hlow]; (rw [hM, a9h hv hkn hL] <;> rfl)) (HE.row rfl (by (rw [hM, a9h hv hkn hL] <;> rfl)) (HE.row rfl (by (rw [hM, a9h hv hkn hL] <;> rfl)) (HE.row rfl (by (rw [hM, a9h hv hkn hL] <;> rfl)) (HE.kill rfl (HE.kill rfl HE.nil)))))), x5x, rfl⟩
   refine dc 6 (aS ?_ ?_)<;>intro h<;>try simp at h
   ·have hL : ¬ c7v v inc ver := by rintro (q | ⟨q1, q2⟩) <;> omega
    have hlow : n.low = M.low := by rw [hM, a9h hv hkn hL]
    refine dv 1 ?_
    exact ⟨(), trivial, [0, 0, 0, 0, _, _], x7x, x7x, (HE.box rfl (by rw [← hlow]; (rw [hM, a9h hv hkn hL] <;> rfl)) (HE.row rfl (by (rw [hM, a9h hv hkn hL] <;> rfl)) (HE.row rfl (by (rw [hM, a9h hv hkn hL] <;> rfl)) (HE.row rfl (by (rw [hM, a9h hv hkn hL] <;> rfl)) (HE.kill rfl (HE.kill rfl HE.nil)))))), x5x, rfl⟩
   have hL : c7v v inc ver := .inr ⟨by omega, by omega⟩
   refine dv 6 ?_
   refine x0x rfl rfl rfl (b1u c v.events es n.g) (dc 7 (fun K K' => aS ?_ ?_))<;>intro h<;>try simp at h
   ·have hlow : n.low = M.low := by rw [hM, a1t hv hkn hL]; show _ = chg n.g v.events (chg n.g es n.low v.events) es; rw [c0s n.g v.events es (m := n.low) (by have := fS.1.2.2.2.2.2.2; omega)]; omega
    refine dv 7 ?_
    refine y1y (id := 4) v8v rfl z4z rfl (dv 1 ?_)
    refine a1h v9v (zs := es.map z2z) rfl rfl v8v rfl z4z rfl rfl rfl (z9z (fun _ => rfl) _) rfl (by simp only [s2s, T56]; omega) (Le.ow_map _ (fun _ => rfl) (fun _ => rfl)) ?_
    refine rlB r8r a6e ?_
    refine z1z (j := k) rfl rfl a9w rfl r8r rfl rfl (z3z hv) ?_
    refine v6v (el' := ⟨inc, ver, es⟩) rfl rfl r8r rfl rfl rfl hv rfl (q8q rfl) rfl rfl ?_
    refine dv 0 ?_
    exact ⟨(), trivial, [0, 0, 0, 0, _, _], x7x, x7x, (HE.box rfl (by rw [← hlow]; (rw [hM, a1t hv hkn hL] <;> rfl)) (HE.row rfl (by (rw [hM, a1t hv hkn hL] <;> rfl)) (HE.row rfl (by (rw [hM, a1t hv hkn hL] <;> rfl)) (HE.row rfl (by (rw [hM, a1t hv hkn hL] <;> rfl)) (HE.kill rfl (HE.kill rfl HE.nil)))))), x5x, rfl⟩
   have hlow : chg n.g v.events (chg n.g es 41 v.events) es = M.low := by rw [hM, a1t hv hkn hL]; show _ = chg n.g v.events (chg n.g es n.low v.events) es; rw [c0s n.g v.events es (m := n.low) (by have := fS.1.2.2.2.2.2.2; omega)]; omega
   refine dv 10 ?_
   refine y1y (id := 4) v8v rfl z4z rfl (dv 1 ?_)
   refine a1h v9v (zs := es.map z2z) rfl rfl v8v rfl z4z rfl rfl rfl (z9z (fun _ => rfl) _) rfl (by simp only [s2s, T56]; omega) (Le.ow_map _ (fun _ => rfl) (fun _ => rfl)) ?_
   refine rlB r8r a6e ?_
   refine z1z (j := k) rfl rfl a9w rfl r8r rfl rfl (z3z hv) ?_
   refine v6v (el' := ⟨inc, ver, es⟩) rfl rfl r8r rfl rfl rfl hv rfl (q8q rfl) rfl rfl ?_
   refine dv 0 ?_
   exact ⟨(), trivial, [0, 0, 0, 0, _, _], x7x, x7x, (HE.box rfl (by rw [← hlow]; (rw [hM, a1t hv hkn hL] <;> rfl)) (HE.row rfl (by (rw [hM, a1t hv hkn hL] <;> rfl)) (HE.row rfl (by (rw [hM, a1t hv hkn hL] <;> rfl)) (HE.row rfl (by (rw [hM, a1t hv hkn hL] <;> rfl)) (HE.kill rfl (HE.kill rfl HE.nil)))))), x5x, rfl⟩
  ·try dsimp only [b3d, b3e]
   obtain ⟨w1, w2, w3⟩ := d5h n k inc ver g es
   rw [← hM] at w1 w2 w3
   have hwM : wk M := by rw [hM]; exact e5q (e5n fS) hes
   have hpcM : M.lanes.length = (p8p M.id 4).length := by rw [w1, w3]; exact fS.2.2.2.2.1
   have hwA : wk (nl M (r4r M M.lanes)) := c7u _ (Nat.le_refl _) hwM
   have hLA : (r4r M M.lanes).length ≤ 4 := hwA.1
   refine dv 3 ?_
   refine rlM [6, 7, 8] [_, _, _] (b3l M hwM) rfl rfl rfl ?_
   refine rlM [6, 7, 8] [_, _, _] (b1v c n (nl M (r4r M M.lanes)) (e5n fS) hwA w1.symm ⟨by omega, by omega⟩) rfl rfl rfl ?_
   refine dv 2 fun K K' => ?_
   refine u6u (b := b8l true (a9g n M).lanes) 2 4 rfl rfl rfl (.ref rfl (Le.ow_map _ (fun _ => rfl) (fun _ => rfl)) .nil) rfl rfl rfl rfl ?_
   refine u6u (b := b9w true (a9g n M).views) 2 9 rfl rfl rfl (.ref rfl (Le.ow_map _ (fun _ => rfl) (fun _ => rfl)) .nil) rfl rfl rfl rfl ?_
   refine u6u (b := a3f true (a9g n M).known) 2 10 rfl rfl rfl (.ref rfl (Le.ow_map _ (fun _ => rfl) (fun _ => rfl)) .nil) rfl rfl rfl rfl ?_
   refine dv 2 ?_
   refine x0x rfl rfl rfl (w5w true (a9g n M)) ?_
   refine dc 1 (aI ?_ ?_)<;>intro hc31<;>try simp at hc31
   ·have fX2 : ¬ y3y (a9g n M) := a0w (by simpa using hc31)
    refine dv 2 ?_
    refine rlM [9, 10, 11] [_, _, _] (y2y c n fb) rfl rfl rfl ?_
    refine dv 2 ?_
    (rw [e7w fK fH, ← hM, c2r fX2]; exact ⟨_, _, rfl, b6c (n := n) rfl rfl rfl⟩)
   have fK2 : y3y (a9g n M) := a0o.1 (by simpa using hc31)
   have fb2 := b7r fK2.1
   refine dv 3 ?_
   refine rlM [9, 10, 11] [_, _, _] (y2y true (a9g n M) fb2) rfl rfl rfl ?_
   refine dv 2 ?_
   (rw [e7w fK fH, ← hM, c2q fK2]; exact ⟨_, _, rfl, b6c (n := a9g n M) rfl rfl rfl⟩)
end
section
theorem a8g (c : Bool) (n : Nd) (w : Wo) : a0g Tryz.prog 74 [.agg (u1u c n), .agg (u9u c w)] (.tup [.agg (u1u true (w7w n w).1), w0w true (w7w n w).2]) := by
 refine pX Tryz.f74 [.agg (u1u true (w7w n w).1), w0w true (w7w n w).2] 12 ?_
 refine dv 1 ?_
 refine x9x (id := 0) rfl rfl rfl (x9x (id := 1) rfl rfl rfl (x3x (id := 2) u3u p5p rfl (dv 2 ?_)))
 refine y1y (id := 3) q4q rfl v4v rfl (dv 4 fun K K' => ?_)
 refine x0x rfl rfl rfl (w5w ..) (dc 1 (aI ?_ ?_))<;>intro hc2<;>try simp at hc2
 ·have fX : ¬ y3y n := a0w (by simpa using hc2)
  refine dv 1 ?_
  refine rlB u3u p5p ?_
  refine dv 4 ?_
  (rw [f3m fX]; exact ⟨_, _, rfl, b6d (a1x (l := ([] : List Wo)) rfl .nil)⟩)
 have fK : y3y n := a0o.1 (by simpa using hc2)
 have fS := fK.1
 have fb := b7r fS
 refine dc 7 (fun K K' => aS ?_ ?_)<;>intro hg4<;>try simp at hg4
 ·have fU : ¬ b0j n w := fun h => by have := h.1; simp_all
  refine dv 18 ?_
  try have fU : ¬ b0j n w := fun h => by have := h.2.2.1; have := h.2.2.2; omega
  refine dv 2 ?_
  refine rlM [9, 10, 11] [_, _, _] (y2y c n fb) rfl rfl rfl ?_
  refine dv 4 ?_
  (rw [d5l fK fU]; exact ⟨_, _, rfl, q3q rfl rfl rfl (a1x (l := ([] : List Wo)) rfl .nil)⟩)
 have fUp : n.up = true := hg4
 refine dv 1 ?_
 refine x0x rfl rfl rfl (b1h ..) (dc 3 (aS ?_ ?_))<;>intro hg5<;>try simp at hg5
 ·try have fU : ¬ b0j n w := fun h => absurd h.2.1 hg5
  refine dv 13 ?_
  try have fU : ¬ b0j n w := fun h => by have := h.2.2.1; have := h.2.2.2; omega
  refine dv 2 ?_
  refine rlM [9, 10, 11] [_, _, _] (y2y c n fb) rfl rfl rfl ?_
  refine dv 4 ?_
  (rw [d5l fK fU]; exact ⟨_, _, rfl, q3q rfl rfl rfl (a1x (l := ([] : List Wo)) rfl .nil)⟩)
 have fW : a3q w := hg5
 refine dc 7 (aS ?_ ?_)<;>intro j<;>try simp at j
 ·try have fU : ¬ b0j n w := fun h => by have := h.2.2.1; omega
  refine dv 6 ?_
  try have fU : ¬ b0j n w := fun h => by have := h.2.2.1; have := h.2.2.2; omega
  refine dv 2 ?_
  refine rlM [9, 10, 11] [_, _, _] (y2y c n fb) rfl rfl rfl ?_
  refine dv 4 ?_
  (rw [d5l fK fU]; exact ⟨_, _, rfl, q3q rfl rfl rfl (a1x (l := ([] : List Wo)) rfl .nil)⟩)
 refine dc 6 (aI ?_ ?_)<;>intro j<;>try simp at j
 ·try have fU : ¬ b0j n w := fun h => by have := h.2.2.1; have := h.2.2.2; omega
  refine dv 2 ?_
  refine rlM [9, 10, 11] [_, _, _] (y2y c n fb) rfl rfl rfl ?_
  refine dv 4 ?_
  (rw [d5l fK fU]; exact ⟨_, _, rfl, q3q rfl rfl rfl (a1x (l := ([] : List Wo)) rfl .nil)⟩)
 have fM : b0j n w := ⟨fUp, fW, by omega, by omega⟩
 refine dc 9 (fun K K' => aI ?_ ?_)<;>intro hc9<;>try simp at hc9
 ·have k1 : w.kind = 1 := hc9
  refine dv 12 ?_
  refine x0x rfl rfl rfl (c3l c n w.from' w.inc w.version w.g w.events) ?_
  refine dv 4 ?_
  (rw [b7y fK fM, f0u k1]; exact ⟨_, _, rfl, d1i (a1x (l := ([] : List Wo)) rfl .nil)⟩)
 have n1 : ¬ w.kind = 1 := hc9
 refine dc 3 (aI ?_ ?_)<;>intro hc10<;>try simp at hc10
 ·have k2 : w.kind = 2 := hc10
  refine dv 4 ?_
  refine x0x rfl rfl rfl (a5r ..) (dv 4 ?_)
  refine x3x (id := 4) u3u p5p rfl (x3x (id := 5) v4v a4t rfl (dc 5 (aI ?_ ?_)))<;>intro hc11<;>try simp at hc11
  ·have hr : (x4x n w.round).2.2 = true := hc11
   refine dv 3 ?_
   refine y6y (id := 6) q4q rfl v4v rfl rfl rfl rfl rfl rfl (dv 3 ?_)
   (rw [b7y fK fM, e5v k2 hr]; exact ⟨_, _, rfl, d1i (a1x (l := [(x4x n w.round).2.1]) rfl .nil)⟩)
  have hr : ¬ (x4x n w.round).2.2 = true := by simpa using hc11
  have hE : w7w n w = (n, []) := by rw [b7y fK fM, e5w k2 hr]
  refine dv 3 ?_
  refine rlM [9, 10, 11] [_, _, _] (y2y c n fb) rfl rfl rfl ?_
  refine dv 4 ?_
  (rw [hE]; exact ⟨_, _, rfl, q3q rfl rfl rfl (a1x (l := ([] : List Wo)) rfl .nil)⟩)
 have n2 : ¬ w.kind = 2 := hc10
 refine dc 3 (aS ?_ ?_)<;>intro hc12<;>try simp at hc12
 ·have n4 : ¬ w.kind = 4 := hc12
  refine dc 3 (aS ?_ ?_)<;>intro hc16<;>try simp at hc16
  ·have n6 : ¬ w.kind = 6 := hc16
   have hE : w7w n w = (n, []) := by rw [b7y fK fM, f0v n1 n2 n4 n6]
   refine dv 3 ?_
   refine rlM [9, 10, 11] [_, _, _] (y2y c n fb) rfl rfl rfl ?_
   refine dv 4 ?_
   (rw [hE]; exact ⟨_, _, rfl, q3q rfl rfl rfl (a1x (l := ([] : List Wo)) rfl .nil)⟩)
  have k6 : w.kind = 6 := hc16
  refine dc 6 (aS ?_ ?_)<;>intro hc17<;>try simp at hc17
  ·have h6 : ¬ w.inc = n.inc := hc17
   have hE : w7w n w = (n, []) := by rw [b7y fK fM, e5z k6 h6]
   refine dv 3 ?_
   refine rlM [9, 10, 11] [_, _, _] (y2y c n fb) rfl rfl rfl ?_
   refine dv 4 ?_
   (rw [hE]; exact ⟨_, _, rfl, q3q rfl rfl rfl (a1x (l := ([] : List Wo)) rfl .nil)⟩)
  have h6 : w.inc = n.inc := hc17
  refine dv 6 ?_
  refine x0x rfl rfl rfl (b0m ..) (dv 3 ?_)
  refine x3x (id := 8) u3u p5p rfl (dv 8 ?_)
  (rw [b7y fK fM, e5y k6 h6]; exact ⟨_, _, rfl, d1i (a1x (l := ([] : List Wo)) rfl .nil)⟩)
 have k4 : w.kind = 4 := hc12
 refine dc 7 (aS ?_ ?_)<;>intro j<;>try simp at j
 ·refine dv 4 ?_
  have h4 : ¬ (w.round = n.round ∧ 0 < w.round) := by omega
  have hE : w7w n w = (n, []) := by rw [b7y fK fM, d5m k4 h4]
  refine dv 3 ?_
  refine rlM [9, 10, 11] [_, _, _] (y2y c n fb) rfl rfl rfl ?_
  refine dv 4 ?_
  (rw [hE]; exact ⟨_, _, rfl, q3q rfl rfl rfl (a1x (l := ([] : List Wo)) rfl .nil)⟩)
 refine dc 4 (aS ?_ ?_)<;>intro j<;>try simp at j
 ·have h4 : ¬ (w.round = n.round ∧ 0 < w.round) := by omega
  have hE : w7w n w = (n, []) := by rw [b7y fK fM, d5m k4 h4]
  refine dv 3 ?_
  refine rlM [9, 10, 11] [_, _, _] (y2y c n fb) rfl rfl rfl ?_
  refine dv 4 ?_
  (rw [hE]; exact ⟨_, _, rfl, q3q rfl rfl rfl (a1x (l := ([] : List Wo)) rfl .nil)⟩)
 have h4 : w.round = n.round ∧ 0 < w.round := by omega
 refine dv 2 ?_
 refine rlM [9, 10, 11] [_, _, _] (y2y c n fb) rfl rfl rfl ?_
 refine dv 8 ?_
 refine rlB v4v a4t ?_
 refine y6y (id := 7) q4q rfl v4v rfl rfl rfl rfl rfl rfl (dv 3 ?_)
 (rw [b7y fK fM, e5x k4 h4]; exact ⟨_, _, rfl, q3q rfl rfl rfl (f5p (k := 5) (f := n.id) (t := 0) (i := n.inc) (v := n.version) (r := n.round) (g := 0) rfl .nil)⟩)
theorem c3m (c : Bool) (h : Hb) (n : Nd) : a0g Tryz.prog 311 [.agg (a7k true h), .agg (u1u c n)] (.tup [.agg (a7k true (p4p h n).1), .agg (u1u true (p4p h n).2.1), w0w true (p4p h n).2.2]) := by
 refine pX Tryz.f311 [.agg (a7k true (p4p h n).1), .agg (u1u true (p4p h n).2.1), w0w true (p4p h n).2.2] 17 ?_
 refine dv 1 ?_
 refine x9x (id := 0) rfl rfl rfl (x9x (id := 1) rfl rfl rfl (x3x (id := 2) a6d b5p rfl (x3x (id := 3) u3u p5p rfl (dv 2 ?_))))
 refine y1y (id := 4) q4q rfl v4v rfl (dv 4 fun K K' => ?_)
 refine x0x rfl rfl rfl (a8z ..) (dc 2 (aS ?_ ?_))<;>intro hg2<;>try simp at hg2
 ·have fX : ¬ (a0f h ∧ y3y n) := fun q => a0w (by simpa using hg2) q.1
  refine dv 5 ?_
  refine rlB a6d b5p ?_
  refine rlB u3u p5p ?_
  refine dv 5 ?_
  (rw [e2j fX]; exact ⟨_, _, rfl, d5y (b6d (a1x (l := ([] : List Wo)) rfl .nil))⟩)
 have fH : a0f h := a0o.1 (by simpa using hg2)
 refine dv 1 ?_
 refine x0x rfl rfl rfl (w5w ..) (dc 2 (aI ?_ ?_))<;>intro hc3<;>try simp at hc3
 ·try have fX : ¬ (a0f h ∧ y3y n) := fun q => a0w (by simpa using hc3) q.2
  refine dv 1 ?_
  refine rlB a6d b5p ?_
  refine rlB u3u p5p ?_
  refine dv 5 ?_
  (rw [e2j fX]; exact ⟨_, _, rfl, d5y (b6d (a1x (l := ([] : List Wo)) rfl .nil))⟩)
 have fK : y3y n := a0o.1 (by simpa using hc3)
 have fS := fK.1
 have fb := b7r fS
 refine dv 3 ?_
 refine rlM [11, 12, 13] [_, _, _] (y2y c n fb) rfl rfl rfl ?_
 refine x3x (id := 5) u3u p5p rfl (dv 4 ?_)
 refine q9q (.int .i64 (n.led + 1)) rfl rfl rfl (a6i rfl rfl (by have := fS.1.2.2.2.1; omega) (by have := fS.1.2.2.2.1; omega)) ?_
 refine dc 8 (fun K K' => aS ?_ ?_)<;>intro hg5<;>try simp at hg5
 ·have fU : ¬ a4k n := fun q => by have := q.1; omega
  refine dv 10 ?_
  try have fU : ¬ a4k n := fun q => by have := q.2.2.1; omega
  refine dv 2 ?_
  refine x0x rfl rfl rfl (a2u true h fH) (dv 1 ?_)
  refine rlM [14, 15, 16] [_, _, _] (y2y c n fb) rfl rfl rfl ?_
  refine dv 5 ?_
  (rw [c2y ⟨fH, fK⟩ fU]; exact ⟨_, _, rfl, a8b (q3q rfl rfl rfl (a1x (l := ([] : List Wo)) rfl .nil))⟩)
 have hid : n.id = 0 := hg5
 refine dc 5 (aS ?_ ?_)<;>intro hg6<;>try simp at hg6
 ·try have fU : ¬ a4k n := fun h => by have := h.2.1; simp_all
  refine dv 5 ?_
  try have fU : ¬ a4k n := fun q => by have := q.2.2.1; omega
  refine dv 2 ?_
  refine x0x rfl rfl rfl (a2u true h fH) (dv 1 ?_)
  refine rlM [14, 15, 16] [_, _, _] (y2y c n fb) rfl rfl rfl ?_
  refine dv 5 ?_
  (rw [c2y ⟨fH, fK⟩ fU]; exact ⟨_, _, rfl, a8b (q3q rfl rfl rfl (a1x (l := ([] : List Wo)) rfl .nil))⟩)
 have fUp : n.up = true := hg6
 refine dv 2 ?_
 refine x0x rfl rfl rfl (u0u ..) (dc 2 (aI ?_ ?_))<;>intro j<;>try simp at j
 ·try have fU : ¬ a4k n := fun q => by have := q.2.2.1; omega
  refine dv 2 ?_
  refine x0x rfl rfl rfl (a2u true h fH) (dv 1 ?_)
  refine rlM [14, 15, 16] [_, _, _] (y2y c n fb) rfl rfl rfl ?_
  refine dv 5 ?_
  (rw [c2y ⟨fH, fK⟩ fU]; exact ⟨_, _, rfl, a8b (q3q rfl rfl rfl (a1x (l := ([] : List Wo)) rfl .nil))⟩)
 have hld : n.led < 9999 := by omega
 refine dv 5 ?_
 refine b5s rfl rfl rfl (d3a (n := d0x n) rfl rfl rfl (.cl rfl .nil)) (a5r false (d0x n) (n.led + 1)) (.tup (a2v (e5r _) (a2v (e5s _) (a2v (.pv _) e7x)))) ?_
 refine dv 4 ?_
 refine x3x (id := 6) u3u p5p rfl (x3x (id := 7) v4v a4t rfl (dc 7 (fun K K' => aI ?_ ?_)))<;>intro hc9<;>try simp at hc9
 ·have fU : ¬ a4k n := fun q => by have hb := (d1f fK hld).2 ⟨q.2.1, q.2.2.2⟩; have hx := hc9; simp only [d0x] at hb hx; simp_all
  refine dv 2 ?_
  refine x0x rfl rfl rfl (a2u true h fH) (dv 1 ?_)
  refine rlM [14, 15, 16] [_, _, _] (y2y c n fb) rfl rfl rfl ?_
  refine dv 5 ?_
  (rw [c2y ⟨fH, fK⟩ fU]; exact ⟨_, _, rfl, a8b (q3q rfl rfl rfl (a1x (l := ([] : List Wo)) rfl .nil))⟩)
 have hrb := (d1f fK hld).1 (by have hx := hc9; simp only [d0x] at hx ⊢; exact hx)
 have fM : a4k n := ⟨hid, fUp, hld, hrb.2⟩
 have hEq := e6i (h := h) ⟨fH, fK⟩ fM
 refine dv 3 ?_
 refine x0x rfl rfl rfl (a2u true h fH) (x3x (id := 8) a6d b5p rfl (dv 8 ?_))
 refine y6y (id := 9) q4q rfl v4v rfl rfl rfl rfl rfl rfl (dv 3 ?_)
 refine y1y (id := 10) q4q rfl v4v rfl (dv 7 ?_)
 refine rlB v4v a4t ?_
 refine x0x rfl rfl rfl (b8a 2 0 0 0 0 (n.led + 1) 0) ?_
 refine dv 4 ?_
 (rw [show x4x (d0x n) (n.led + 1) = _ from hEq]; rw [d3f ⟨fH, fK⟩ fM]; exact ⟨_, _, rfl, f4c (a := [e1c (d0x n) (n.led + 1)]) (c := ([] : List Wo)) rfl rfl (d1i (.cl rfl .nil))⟩)
end
section
theorem a9l (c : Bool) (h : Hb) (n : Nd) (w : Wo) : a0g Tryz.prog 322 [.agg (a7k true h), .agg (u1u c n), .agg (u9u c w)] (.tup [.agg (a7k true (v2v h n w).1), .agg (u1u true (v2v h n w).2.1), w0w true (v2v h n w).2.2]) := by
 refine pX Tryz.f322 [.agg (a7k true (v2v h n w).1), .agg (u1u true (v2v h n w).2.1), w0w true (v2v h n w).2.2] 14 ?_
 refine dv 1 ?_
 refine x9x (id := 0) rfl rfl rfl (x9x (id := 1) rfl rfl rfl (x9x (id := 2) rfl rfl rfl (x3x (id := 3) a6d b5p rfl (x3x (id := 4) u3u p5p rfl (dv 2 ?_)))))
 refine y1y (id := 5) q4q rfl v4v rfl (dv 4 fun K K' => ?_)
 refine x0x rfl rfl rfl (a8z ..) (dc 2 (aS ?_ ?_))<;>intro hg2<;>try simp at hg2
 ·have fX : ¬ (a0f h ∧ y3y n) := fun q => a0w (by simpa using hg2) q.1
  refine dv 5 ?_
  refine rlB a6d b5p ?_
  refine rlB u3u p5p ?_
  refine dv 5 ?_
  (rw [f3q fX]; exact ⟨_, _, rfl, d5y (b6d (a1x (l := ([] : List Wo)) rfl .nil))⟩)
 have fH : a0f h := a0o.1 (by simpa using hg2)
 refine dv 1 ?_
 refine x0x rfl rfl rfl (w5w ..) (dc 2 (aI ?_ ?_))<;>intro hc3<;>try simp at hc3
 ·try have fX : ¬ (a0f h ∧ y3y n) := fun q => a0w (by simpa using hc3) q.2
  refine dv 1 ?_
  refine rlB a6d b5p ?_
  refine rlB u3u p5p ?_
  refine dv 5 ?_
  (rw [f3q fX]; exact ⟨_, _, rfl, d5y (b6d (a1x (l := ([] : List Wo)) rfl .nil))⟩)
 have fK : y3y n := a0o.1 (by simpa using hc3)
 have fS := fK.1
 have fb := b7r fS
 refine dv 3 ?_
 refine x0x rfl rfl rfl (a2u true h fH) (x3x (id := 6) a6d b5p rfl (dv 3 ?_))
 refine rlM [10, 11, 12] [_, _, _] (y2y c n fb) rfl rfl rfl ?_
 refine x3x (id := 7) u3u p5p rfl (dc 7 (fun K K' => aS ?_ ?_))<;>intro hg5<;>try simp at hg5
 ·have fU : ¬ a0y n w := fun q => by have := q.1; omega
  refine dv 19 ?_
  try have fU : ¬ a0y n w := fun q => by have := q.2.2.2.2; omega
  refine dv 8 ?_
  (rw [e2z ⟨fH, fK⟩ fU]; exact ⟨_, _, rfl, a8b (q3q rfl rfl rfl (a1x (l := ([] : List Wo)) rfl .nil))⟩)
 try have hid : n.id = 0 := hg5
 refine dc 5 (aS ?_ ?_)<;>intro hg6<;>try simp at hg6
 ·try have fU : ¬ a0y n w := fun q => by have := q.2.1; simp_all
  refine dv 14 ?_
  try have fU : ¬ a0y n w := fun q => by have := q.2.2.2.2; omega
  refine dv 8 ?_
  (rw [e2z ⟨fH, fK⟩ fU]; exact ⟨_, _, rfl, a8b (q3q rfl rfl rfl (a1x (l := ([] : List Wo)) rfl .nil))⟩)
 have fUp : n.up = true := hg6
 refine dv 1 ?_
 refine x0x rfl rfl rfl (b1h ..) (dc 3 (aS ?_ ?_))<;>intro hg7<;>try simp at hg7
 ·try have fU : ¬ a0y n w := fun q => absurd q.2.2.1 hg7
  refine dv 9 ?_
  try have fU : ¬ a0y n w := fun q => by have := q.2.2.2.2; omega
  refine dv 8 ?_
  (rw [e2z ⟨fH, fK⟩ fU]; exact ⟨_, _, rfl, a8b (q3q rfl rfl rfl (a1x (l := ([] : List Wo)) rfl .nil))⟩)
 have fW : a3q w := hg7
 refine dc 5 (aS ?_ ?_)<;>intro hg8<;>try simp at hg8
 ·try have fU : ¬ a0y n w := fun q => by have := q.2.2.2.1; omega
  refine dv 4 ?_
  try have fU : ¬ a0y n w := fun q => by have := q.2.2.2.2; omega
  refine dv 8 ?_
  (rw [e2z ⟨fH, fK⟩ fU]; exact ⟨_, _, rfl, a8b (q3q rfl rfl rfl (a1x (l := ([] : List Wo)) rfl .nil))⟩)
 try have hto : w.to = 0 := hg8
 refine dc 4 (aI ?_ ?_)<;>intro o<;>try simp at o
 ·try have fU : ¬ a0y n w := fun q => by have := q.2.2.2.2; omega
  refine dv 8 ?_
  (rw [e2z ⟨fH, fK⟩ fU]; exact ⟨_, _, rfl, a8b (q3q rfl rfl rfl (a1x (l := ([] : List Wo)) rfl .nil))⟩)
 have fM : a0y n w := ⟨hid, fUp, fW, hto, by omega⟩
 refine dc 9 (fun K K' => aI ?_ ?_)<;>intro hc11<;>try simp at hc11
 ·try have k7 : w.kind = 7 := hc11
  refine dv 5 ?_
  refine x0x rfl rfl rfl (c8m h.outs w.from') ?_
  refine dv 3 ?_
  refine x3x (id := 8) v4v a4t rfl (dc 6 (aS ?_ ?_))<;>intro hg12<;>try simp at hg12
  ·have hnone : (b6h w.from' h.outs).isSome = false := by simpa using hg12
   refine dv 6 ?_
   have hl : a3h h w = true := e6j hnone
   have hE : v2v h n w = ({ h with outs := a6o w true h.outs false }, n, []) := by rw [b6j ⟨fH, fK⟩ fM, e8b k7 hl]
   refine dv 4 ?_
   refine x0x rfl rfl rfl (a4d c w (d0w fW)) ?_
   refine x0x rfl rfl rfl (a7n h.outs w true (by have := b6g fH.2.2.2.1; omega)) ?_
   refine dv 10 ?_
   (rw [hE]; exact ⟨_, _, rfl, a8b (u := { h with outs := a6o w true h.outs false }) (q3q rfl rfl rfl (a1x (l := ([] : List Wo)) rfl .nil))⟩)
  have hsome : (b6h w.from' h.outs).isSome = true := hg12
  refine dc 6 (aS ?_ ?_)<;>intro o<;>try simp at o
  ·have hl : ¬ a3h h w = true := fun q => by have := (d1g hsome).1 q; omega
   have hE : v2v h n w = (h, n, []) := by rw [b6j ⟨fH, fK⟩ fM, f3r k7 hl]
   refine dv 9 ?_
   (rw [hE]; exact ⟨_, _, rfl, a8b (u := h) (q3q rfl rfl rfl (a1x (l := ([] : List Wo)) rfl .nil))⟩)
  have hl : a3h h w = true := (d1g hsome).2 (by omega)
  have hE : v2v h n w = ({ h with outs := a6o w true h.outs false }, n, []) := by rw [b6j ⟨fH, fK⟩ fM, e8b k7 hl]
  refine dv 4 ?_
  refine x0x rfl rfl rfl (a4d c w (d0w fW)) ?_
  refine x0x rfl rfl rfl (a7n h.outs w true (by have := b6g fH.2.2.2.1; omega)) ?_
  refine dv 10 ?_
  (rw [hE]; exact ⟨_, _, rfl, a8b (u := { h with outs := a6o w true h.outs false }) (q3q rfl rfl rfl (a1x (l := ([] : List Wo)) rfl .nil))⟩)
 try have n7 : ¬ w.kind = 7 := hc11
 refine dc 3 (aI ?_ ?_)<;>intro hc15<;>try simp at hc15
 ·try have k3 : w.kind = 3 := hc15
  refine dc 8 (fun K K' => aS ?_ ?_)<;>intro hg17<;>try simp at hg17
  ·try have hr : ¬ w.round = h.round := hg17
   refine dv 17 ?_
   have hm : ¬ d7n h w := fun q => by obtain ⟨q1, q2, q3, q4⟩ := q; omega
   have hE : v2v h n w = (h, n, []) := by rw [b6j ⟨fH, fK⟩ fM, d5w k3 hm]
   refine dv 8 ?_
   (rw [hE]; exact ⟨_, _, rfl, a8b (u := h) (q3q rfl rfl rfl (a1x (l := ([] : List Wo)) rfl .nil))⟩)
  try have hr : w.round = h.round := hg17
  refine dc 6 (aS ?_ ?_)<;>intro hg18<;>try simp at hg18
  ·try have hz : w.incs.length = 0 := by (rw [hg18]; rfl)
   refine dv 11 ?_
   have hm : ¬ d7n h w := fun q => by obtain ⟨q1, q2, q3, q4⟩ := q; omega
   have hE : v2v h n w = (h, n, []) := by rw [b6j ⟨fH, fK⟩ fM, d5w k3 hm]
   refine dv 8 ?_
   (rw [hE]; exact ⟨_, _, rfl, a8b (u := h) (q3q rfl rfl rfl (a1x (l := ([] : List Wo)) rfl .nil))⟩)
  have hi1 : ¬ w.incs.length = 0 := by (intro q; exact hg18 (List.length_eq_zero_iff.1 q))
  refine dc 6 (aS ?_ ?_)<;>intro hg19<;>try simp at hg19
  ·try have hz2 : w.versions.length = 0 := by (rw [hg19]; rfl)
   refine dv 5 ?_
   have hm : ¬ d7n h w := fun q => by obtain ⟨q1, q2, q3, q4⟩ := q; omega
   have hE : v2v h n w = (h, n, []) := by rw [b6j ⟨fH, fK⟩ fM, d5w k3 hm]
   refine dv 8 ?_
   (rw [hE]; exact ⟨_, _, rfl, a8b (u := h) (q3q rfl rfl rfl (a1x (l := ([] : List Wo)) rfl .nil))⟩)
  have hv1 : ¬ w.versions.length = 0 := by (intro q; exact hg19 (List.length_eq_zero_iff.1 q))
  refine dc 5 (aI ?_ ?_)<;>intro o<;>try simp at o
  ·have hm : ¬ d7n h w := fun q => by obtain ⟨q1, q2, q3, q4⟩ := q; omega
   have hE : v2v h n w = (h, n, []) := by rw [b6j ⟨fH, fK⟩ fM, d5w k3 hm]
   refine dv 8 ?_
   (rw [hE]; exact ⟨_, _, rfl, a8b (u := h) (q3q rfl rfl rfl (a1x (l := ([] : List Wo)) rfl .nil))⟩)
  have hm : d7n h w := ⟨hr, hi1, hv1, by omega⟩
  refine dv 5 ?_
  refine x0x rfl rfl rfl (a4d c w (d0w fW)) ?_
  refine x0x rfl rfl rfl (a7n h.ones w false (by have := b6g fH.2.1; omega)) ?_
  refine dc 7 (aS ?_ ?_)<;>intro o<;>try simp at o
  ·have h3 : ¬ (d5o h w).ones.length = 3 := by show ¬ (a6o w false h.ones false).length = 3; omega
   have hE : v2v h n w = (d5o h w, n, []) := by rw [b6j ⟨fH, fK⟩ fM, f3t k3 hm h3]
   refine dv 9 ?_
   (rw [hE]; exact ⟨_, _, rfl, a8b (u := d5o h w) (q3q rfl rfl rfl (a1x (l := ([] : List Wo)) rfl .nil))⟩)
  have h3 : (d5o h w).ones.length = 3 := by show (a6o w false h.ones false).length = 3; omega
  have hE : v2v h n w = ({ d5o h w with twos := [f4o h n] }, n, e3y (f0w h.round)) := by rw [b6j ⟨fH, fK⟩ fM, f3s k3 hm h3]
  refine dv 7 ?_
  refine rlB v4v a4t ?_
  refine y6y (id := 9) q4q rfl v4v rfl rfl rfl rfl rfl rfl (dv 7 ?_)
  refine rlB v4v a4t ?_
  refine x0x rfl rfl rfl (b8a 4 0 0 0 0 h.round 0) (dv 4 ?_)
  (rw [hE]; exact ⟨_, _, rfl, f4b (R := h.round) (a := (d5o h w).ones) (b := h.outs) (k := 5) (f := 0) (t := 0) (i := n.inc) (v := n.version) (r := h.round) (g := 0) rfl (q3q rfl rfl rfl (.cl rfl .nil))⟩)
 try have n3 : ¬ w.kind = 3 := hc15
 refine dc 3 (aS ?_ ?_)<;>intro hc25<;>try simp at hc25
 ·try have n5 : ¬ w.kind = 5 := hc25
  have hE : v2v h n w = (h, n, []) := by rw [b6j ⟨fH, fK⟩ fM, f5m n7 n3 n5]
  refine dv 9 ?_
  (rw [hE]; exact ⟨_, _, rfl, a8b (u := h) (q3q rfl rfl rfl (a1x (l := ([] : List Wo)) rfl .nil))⟩)
 try have k5 : w.kind = 5 := hc25
 refine dc 8 (fun K K' => aS ?_ ?_)<;>intro hg27<;>try simp at hg27
 ·try have hr : ¬ w.round = h.round := hg27
  refine dv 11 ?_
  have hm : ¬ e3z h w := fun q => by obtain ⟨q1, q2, q3⟩ := q; omega
  have hE : v2v h n w = (h, n, []) := by rw [b6j ⟨fH, fK⟩ fM, e3a k5 hm]
  refine dv 8 ?_
  (rw [hE]; exact ⟨_, _, rfl, a8b (u := h) (q3q rfl rfl rfl (a1x (l := ([] : List Wo)) rfl .nil))⟩)
 try have hr : w.round = h.round := hg27
 refine dc 6 (aS ?_ ?_)<;>intro o<;>try simp at o
 ·refine dv 5 ?_
  have hm : ¬ e3z h w := fun q => by obtain ⟨q1, q2, q3⟩ := q; omega
  have hE : v2v h n w = (h, n, []) := by rw [b6j ⟨fH, fK⟩ fM, e3a k5 hm]
  refine dv 8 ?_
  (rw [hE]; exact ⟨_, _, rfl, a8b (u := h) (q3q rfl rfl rfl (a1x (l := ([] : List Wo)) rfl .nil))⟩)
 refine dc 5 (aI ?_ ?_)<;>intro o<;>try simp at o
 ·have hm : ¬ e3z h w := fun q => by obtain ⟨q1, q2, q3⟩ := q; omega
  have hE : v2v h n w = (h, n, []) := by rw [b6j ⟨fH, fK⟩ fM, e3a k5 hm]
  refine dv 8 ?_
  (rw [hE]; exact ⟨_, _, rfl, a8b (u := h) (q3q rfl rfl rfl (a1x (l := ([] : List Wo)) rfl .nil))⟩)
 have hm : e3z h w := ⟨hr, by omega, by omega⟩
 refine dv 5 ?_
 refine x0x rfl rfl rfl (a4d c w (d0w fW)) ?_
 refine x0x rfl rfl rfl (a7n h.twos w false (by have := b6g fH.2.2.1; omega)) ?_
 refine dv 4 ?_
 refine x0x rfl rfl rfl (c3k true (b0l h w)) ?_
 refine dc 7 (aS ?_ ?_)<;>intro hc30<;>try simp at hc30
 ·have hj : ¬ (q0q (b0l h w)).2 = true := by simpa using hc30
  have hE : v2v h n w = ((b0l h w), n, []) := by rw [b6j ⟨fH, fK⟩ fM, f3v k5 hm hj]
  refine dv 9 ?_
  (rw [hE]; exact ⟨_, _, rfl, a8b (u := b0l h w) (q3q rfl rfl rfl (a1x (l := ([] : List Wo)) rfl .nil))⟩)
 have hj : (q0q (b0l h w)).2 = true := hc30
 have hjo := e2y hj
 have hE : v2v h n w = ((b0l h w), (q7q n h.round (q0q (b0l h w)).1).1, b4v (b0l h w) (q0q (b0l h w)).1 2) := by rw [b6j ⟨fH, fK⟩ fM, f3u k5 hm hj]
 refine dv 5 ?_
 refine x0x rfl rfl rfl (b0m c n h.round (q0q (b0l h w)).1) ?_
 refine dv 8 ?_
 refine rlB v4v a4t ?_
 refine rlM [13] [_] (c3j 6 0 0 0 0 h.round (q0q (b0l h w)).1) rfl rfl rfl ?_
 refine dv 5 fun K K' => ?_
 refine x6x (ι := Nat) (fun i γ1 => [(17, pI (i : Int))]) (fun i γ1 => [(13, ((0 + 1), .row 79 11 ((b4v (b0l h w) (q0q (b0l h w)).1 i).map (u9u true))))]) (fun i => i ≤ 2) (fun i => 2 - i) (r7r [6, 7, 10, 11, 16] rfl) (a1m [0, 1, 2, 3, 4, 5, 6, 7, 8, 9, 10, 11, 12] rfl) 0 (by omega) [] x7x (HE.row rfl (by rfl) HE.nil) rfl fun i γ1 hi => ?_
 refine dv 4 fun K K' => ?_
 refine a4i (n := 2) rfl q4q rfl rfl (by simp [b4v]) ?_
 refine dc 1 (aS ?_ ?_)<;>intro o<;>try simp at o
 ·obtain rfl : i = 2 := by omega
  refine dv 9 ?_
  (rw [hE]; exact ⟨_, _, rfl, a8b (u := b0l h w) (d1i (a1x (l := b4v (b0l h w) (q0q (b0l h w)).1 2) rfl .nil))⟩)
 have hi2 : i < 2 := by omega
 have hat := e2w (b0l h w) (q0q (b0l h w)).1 hi2
 have hlen : (b4v (b0l h w) (q0q (b0l h w)).1 i).length = 2 := by simp [b4v]
 obtain ⟨b, hb⟩ : ∃ b, (b0l h w).twos[i + 1]? = some b := ⟨_, List.getElem?_eq_getElem (by have := hjo.2.2.1; omega)⟩
 refine dv 10 fun K K' => ?_
 refine z1z (j := i) rfl rfl q4q rfl v4v rfl rfl (by omega) ?_
 refine dv 2 ?_
 refine b0t (j := i + 1) rfl rfl q4q rfl v4v rfl hb ?_
 refine dv 2 ?_
 refine z1z (j := i) rfl rfl q4q rfl v4v rfl rfl (by omega) ?_
 refine dv 1 ?_
 refine b3u (c8a (b0l h w) (q0q (b0l h w)).1 (i + 1)) rfl rfl r1r rfl rfl rfl hat rfl (by decide) (.val rfl rfl .nil) (by rw [show b.inc = (c8a (b0l h w) (q0q (b0l h w)).1 (i + 1)).inc from (e2x hb _).symm]; rfl) rfl ?_
 refine dv 2 ?_
 refine x8x (b := 1) rfl rfl (by omega) (dv 1 ?_)
 exact ⟨i + 1, ⟨by omega, by omega⟩, [], x7x, x7x, (HE.row rfl (by rw [d7q _ _ hi2]) HE.nil), x5x, rfl⟩
theorem c4t (c : Bool) (h : Hb) (n : Nd) : a0g Tryz.prog 326 [.agg (a7k true h), .agg (u1u c n)] (r9r true (a7z h n)) := by
 refine pX Tryz.f326 [r9r true (a7z h n)] 8 ?_
 refine dv 1 ?_
 refine x9x (id := 0) rfl rfl rfl (x9x (id := 1) rfl rfl rfl (dv 2 ?_))
 refine y1y (id := 2) a0h rfl w4w rfl (dv 4 fun K K' => ?_)
 refine x0x rfl rfl rfl (a8z ..) (dc 2 (aS ?_ ?_))<;>intro hg2<;>try simp at hg2
 ·have fX : ¬ (a0f h ∧ y3y n ∧ n.id = 0 ∧ h.outs.length = 2) := fun q => a0w (by simpa using hg2) q.1
  refine dv 15 ?_
  try have fX : ¬ (a0f h ∧ y3y n ∧ n.id = 0 ∧ h.outs.length = 2) := fun q => by have := q.2.2.2; omega
  refine dv 4 ?_
  (rw [d1h fX]; exact a4j (l := ([] : List Ou)) rfl rfl (fun _ => rfl) rfl)
 have fH : a0f h := a0o.1 (by simpa using hg2)
 refine dv 1 ?_
 refine x0x rfl rfl rfl (w5w ..) (dc 3 (aS ?_ ?_))<;>intro hg3<;>try simp at hg3
 ·try have fX : ¬ (a0f h ∧ y3y n ∧ n.id = 0 ∧ h.outs.length = 2) := fun q => a0w (by simpa using hg3) q.2.1
  refine dv 10 ?_
  try have fX : ¬ (a0f h ∧ y3y n ∧ n.id = 0 ∧ h.outs.length = 2) := fun q => by have := q.2.2.2; omega
  refine dv 4 ?_
  (rw [d1h fX]; exact a4j (l := ([] : List Ou)) rfl rfl (fun _ => rfl) rfl)
 have fK : y3y n := a0o.1 (by simpa using hg3)
 refine dc 5 (aS ?_ ?_)<;>intro hg4<;>try simp at hg4
 ·try have fX : ¬ (a0f h ∧ y3y n ∧ n.id = 0 ∧ h.outs.length = 2) := fun q => by have := q.2.2.1; omega
  refine dv 5 ?_
  try have fX : ¬ (a0f h ∧ y3y n ∧ n.id = 0 ∧ h.outs.length = 2) := fun q => by have := q.2.2.2; omega
  refine dv 4 ?_
  (rw [d1h fX]; exact a4j (l := ([] : List Ou)) rfl rfl (fun _ => rfl) rfl)
 try have hid : n.id = 0 := hg4
 refine dc 5 (aI ?_ ?_)<;>intro o<;>try simp at o
 ·try have fX : ¬ (a0f h ∧ y3y n ∧ n.id = 0 ∧ h.outs.length = 2) := fun q => by have := q.2.2.2; omega
  refine dv 4 ?_
  (rw [d1h fX]; exact a4j (l := ([] : List Ou)) rfl rfl (fun _ => rfl) rfl)
 have h2 : h.outs.length = 2 := by omega
 have fT : a0f h ∧ y3y n ∧ n.id = 0 ∧ h.outs.length = 2 := ⟨fH, fK, hid, h2⟩
 have hno := (w2w fK.1).2.2.1
 have hwo := d5x fH.2.2.2.1
 refine dv 9 ?_
 refine p0p (zs := n.outs.map p9p) rfl rfl a0h rfl w4w rfl rfl rfl (z9z (fun _ => rfl) _) rfl (by (simp only [s2s, r5r, s1s, s3s, a0l, a2z, T141]; omega)) ?_
 refine dv 5 fun K K' => ?_
 refine x6x (ι := Nat) (fun i γ1 => [(5, .ref 2 (γ1 2)), (6, pI (a1c n.g (h.outs.take i))), (7, pI (i : Int))]) (fun i γ1 => [(2, ((γ1 2), .row 141 5 ((n.outs ++ (h.outs.take i).flatMap Wo.outs).map p9p))), (4, ((γ1 4), .dead))]) (fun i => i ≤ h.outs.length) (fun i => h.outs.length - i) (y0y 2 rfl Cov.nil) (a1m [0, 1, 3, 5, 6, 7] rfl) 0 (by omega) [0, 0, _, 0, _] (y0y 5 rfl (Cov.cons' (t := 6) rfl (rfl) (y0y 7 rfl Cov.nil))) (HE.row rfl (by simp) (HE.kill rfl HE.nil)) rfl fun i γ1 hi => ?_
 refine dc 7 (fun K K' => aI ?_ ?_)<;>intro o<;>try simp at o
 ·obtain ⟨w, hw⟩ := gE h.outs i
  have hw96 := hwo w (List.mem_of_getElem? hw)
  have hfl := a0r (f := Wo.outs) (k := 96) (l := h.outs.take i) fun a ha => hwo a (List.mem_of_mem_take ha)
  have htl : (h.outs.take i).length ≤ 2 := by rw [List.length_take]; omega
  refine dv 3 fun K K' => ?_
  refine r0r (ι := Unit) (fun _i γ2 => [(6, pI (a1c n.g (h.outs.take (i + 1))))]) (fun _i γ2 => []) (fun _i => True) (r7r [2, 5, 7] rfl) (a1m [0, 1, 2, 3, 4, 5, 6, 7] rfl) ?_ fun _i γ2 hi => ?_
  ·refine dc 9 (aS ?_ ?_)<;>intro o<;>try simp at o
   ·have hlt : ¬ w.g < a1c n.g (h.outs.take i) := by omega
    refine dv 1 ?_
    exact ⟨(), trivial, [], (Cov.cons' (t := 6) rfl (congrArg (fun v : Int => AV.pv (.int .i64 v)) (d5v hw hlt)) Cov.nil), x7x, x5x, x5x, rfl⟩
   have hlt : w.g < a1c n.g (h.outs.take i) := by omega
   refine dv 8 ?_
   exact ⟨(), trivial, [], (Cov.cons' (t := 6) rfl (congrArg (fun v : Int => AV.pv (.int .i64 v)) (d5u hw hlt)) Cov.nil), x7x, x5x, x5x, rfl⟩
  ·try dsimp only [b3d, b3e]
   refine dv 8 ?_
   refine p0p (zs := (n.outs ++ (h.outs.take i).flatMap Wo.outs ++ w.outs).map p9p) rfl rfl a0h rfl w4w rfl rfl rfl (z9z (fun _ => rfl) _) (a9d _ _ _) (by (simp only [s2s, r5r, s1s, s3s, a0l, a2z, T141]; omega)) ?_
   refine dv 3 ?_
   refine x8x (b := 1) rfl rfl (by omega) (dv 1 ?_)
   exact ⟨i + 1, ⟨by omega, by omega⟩, [0, 0, _, 0, _], x7x, x7x, (HE.row rfl (by rw [a5g hw, List.append_assoc]) (HE.kill rfl HE.nil)), x5x, rfl⟩
 obtain rfl : i = h.outs.length := by omega
 rw [List.take_length]
 refine dv 1 ?_
 have hall : (n.outs ++ h.outs.flatMap Wo.outs).length ≤ 10000 := by have hfl := a0r (f := Wo.outs) (k := 96) (l := h.outs) hwo; rw [List.length_append]; omega
 obtain ⟨A, hA⟩ : ∃ A, A = (n.outs ++ h.outs.flatMap Wo.outs) := ⟨_, rfl⟩
 rw [← hA] at hall ⊢
 refine s7s 5 rfl rfl (fun _ => rfl) ?_
 refine dv 1 ?_
 refine y1y (id := 5) a0h rfl w4w rfl (dv 5 fun K K' => ?_)
 refine x6x (ι := Nat) (fun j γ3 => [(8, .ref 5 (γ3 5)), (9, pI (j : Int))]) (fun j γ3 => [(5, ((γ3 5), .row 141 5 (((A.take j).filter (d3j (a1c n.g h.outs))).map p9p))), (6, ((γ3 6), .dead)), (7, ((γ3 7), .dead))]) (fun j => j ≤ A.length) (fun j => A.length - j) (r7r [5, 6] rfl) (a1m [0, 1, 2, 3, 4] rfl) 0 (by omega) [0, 0, 0, 0, 0, _, _, _] x7x (HE.row rfl (by rw [List.take_zero]; rfl) (HE.kill rfl (HE.kill rfl HE.nil))) rfl fun j γ3 hi => ?_
 refine dc 6 (fun K K' => aS ?_ ?_)<;>intro o<;>try simp at o
 ·obtain rfl : j = A.length := by omega
  have hfl3 : (A.filter (d3j (a1c n.g h.outs))).length ≤ 10000 := Nat.le_trans (List.length_filter_le _ _) (by omega)
  refine dv 1 ?_
  rw [List.take_length]
  refine s7s 8 rfl rfl (fun _ => rfl) ?_
  refine dv 2 ?_
  refine x0x rfl rfl rfl (a4b true (A.filter (d3j (a1c n.g h.outs))) (by omega)) ?_
  refine dv 2 ?_
  (rw [e8c fT, ← hA]; exact x2x rfl rfl rfl)
 obtain ⟨p, hp⟩ := gE A j
 have hfl2 : ((A.take j).filter (d3j (a1c n.g h.outs))).length ≤ 10000 := Nat.le_trans (List.length_filter_le _ _) (by rw [List.length_take]; omega)
 refine dc 11 (fun K K' => aS ?_ ?_)<;>intro o<;>try simp at o
 ·have hq : ¬ d3j (a1c n.g h.outs) p = true := fun q => by have := of_decide_eq_true q; omega
  refine dv 3 ?_
  refine x8x (b := 1) rfl rfl (by omega) (dv 1 ?_)
  exact ⟨j + 1, ⟨by omega, by omega⟩, [0, 0, 0, 0, 0, _, _, _], x7x, x7x, (HE.row rfl (by rw [a0j hp]; rw [if_neg hq, List.append_nil]) (HE.kill rfl (HE.kill rfl HE.nil))), x5x, rfl⟩
 have hq : d3j (a1c n.g h.outs) p = true := decide_eq_true (by omega)
 refine dv 5 ?_
 refine u4u (out := .agg (p9p p)) rfl w4w rfl ?_
 refine y6y (id := 6) a0h rfl w4w rfl rfl rfl rfl rfl rfl ?_
 refine y7y (zs := ((A.take j).filter (d3j (a1c n.g h.outs)) ++ [p]).map p9p) rfl rfl a0h rfl w4w rfl rfl rfl rfl (by rfl) (z8z _ _ _) (by (simp only [s2s, r5r, s1s, s3s, a0l, a2z, T141]; omega)) ?_
 refine dv 3 ?_
 refine x8x (b := 1) rfl rfl (by omega) (dv 1 ?_)
 exact ⟨j + 1, ⟨by omega, by omega⟩, [0, 0, 0, 0, 0, _, _, _], x7x, x7x, (HE.row rfl (by rw [a0j hp]; rw [if_pos hq]) (HE.kill rfl (HE.kill rfl HE.nil))), x5x, rfl⟩
end
section
variable {W : Tw} {i : Nat}
theorem a5j (h : b9i W) {m : Nd} (hm : ndI m) : b9i { W with nodes := W.nodes.set i m } := ⟨h.1, by show (W.nodes.set i m).length = 3; rw [List.length_set]; exact h.2.1, f5n h.2.2.1 hm, h.2.2.2⟩
variable {r : List Wo}
theorem a6b (h : b9i W) (h1 : r.length ≤ 40) (h2 : ∀ x ∈ r, c8b x) : b9i { W with radio := r } := ⟨h.1, h.2.1, h.2.2.1, h1, h2, h.2.2.2.2.2⟩
theorem d1l (h : b9i W) {u : Hb} (hu : a0f u) : b9i { W with hub := u } := ⟨h.1, h.2.1, h.2.2.1, h.2.2.2.1, h.2.2.2.2.1, hu, h.2.2.2.2.2.2⟩
theorem f1s (h : b9i W) {s : List Ou} (hs : s.length ≤ 1000000) : b9i { W with sink := s } := ⟨h.1, h.2.1, h.2.2.1, h.2.2.2.1, h.2.2.2.2.1, h.2.2.2.2.2.1, hs⟩
theorem b3m (h : b9i W) (hi : i ≤ 2) : ∃ n, W.nodes[i]? = some n ∧ ndI n := by
 obtain ⟨n, hn⟩ := f1i h.2.1 i (by omega)
 exact ⟨n, hn, h.2.2.1 n (List.mem_of_getElem? hn)⟩
variable {m : List Wo}
theorem b3n (h : b9i W) (k : ∀ x ∈ m, c8b x) : b9i { W with radio := b1f W.radio m } := a6b h (e6f h.2.2.2.1) (e6g h.2.2.2.2.1 k)
theorem e3p {w : Wo} (h : m[i]? = some w) (hl : (r ++ m.take i).length < 40) : r ++ m.take i ++ [w] = r ++ m.take (i + 1) := by rw [z5z h, List.append_assoc]
theorem d5z (hr : r.length ≤ 40) (hi : i ≤ m.length) (h40 : r.length + i ≤ 40) (h : ¬ (i < m.length ∧ r.length + i < 40)) : r ++ m.take i = b1f r m := by
 unfold b1f
 rcases Nat.lt_or_ge i m.length with h1 | h1
 ·rw [show 40 - r.length = i from by omega]
 ·rw [List.take_of_length_le h1, List.take_of_length_le (by omega)]
variable {h : Hb} {n : Nd}
theorem e6r : (a7z h n).length ≤ 10000 := by
 by_cases k : a0f h ∧ y3y n ∧ n.id = 0 ∧ h.outs.length = 2
 ·rw [e8c k, b3z]
  have hno := (w2w k.2.1.1).2.2.1
  have hwo := d5x k.1.2.2.2.1
  have hfl := a0r (f := Wo.outs) (k := 96) (l := h.outs) hwo
  refine Nat.le_trans (List.length_filter_le _ _) ?_
  rw [List.length_append]; omega
 ·rw [d1h k]; exact Nat.zero_le _

def kpB : Bool → List Nat
 | true => [0]
 | false => [0, 1]
def kpS : List Wo → List Nat
 | [] => [0]
 | _ :: _ => []
theorem d3l (γ : Nat → Nat) (b : Bool) (f : List Nat → Nat → Nat) (h0 : f [γ 0, γ 1] 0 = γ 0) (h1 : f [γ 0, γ 1] 1 = γ 1) : (kpB b).map (f [γ 0, γ 1]) = (kpB b).map γ := by
 cases b <;> simp [kpB, h0, h1]
theorem c3n (k : a0f h ∧ y3y n) : ((p4p h n).2.2 = [] ∧ ¬ n.led < (p4p h n).2.1.led) ∨ n.led < (p4p h n).2.1.led := by
 by_cases m : a4k n
 ·rw [d3f k m]; exact .inr (by show n.led < n.led + 1; omega)
 ·rw [c2y k m]; exact .inl ⟨rfl, by show ¬ n.led < n.led; omega⟩
variable {j : Nat}
theorem e3q (h : b9i W) : (W.radio.take j ++ W.radio.drop (j + 1)).length ≤ 40 := by
 have := h.2.2.2.1
 simp only [List.length_append, List.length_take, List.length_drop]; omega
theorem e3r (h : b9i W) : ∀ q ∈ W.radio.take j ++ W.radio.drop (j + 1), c8b q := fun q hq =>
 h.2.2.2.2.1 q ((List.mem_append.1 hq).elim List.mem_of_mem_take List.mem_of_mem_drop)
theorem f1t {W T : Tw} (h : b9i W) (k : b9i T) : b9i { W with nodes := T.nodes } := ⟨h.1, k.2.1, k.2.2.1, h.2.2.2⟩
theorem b1i (bs : List Nat) (p n : Nat) : pk bs p n ≤ n := by
 rcases Nat.eq_zero_or_pos n with h | h
 ·subst h; unfold pk; rw [if_pos (.inl (by omega))]; exact Nat.le_refl _
 ·exact Nat.le_of_lt (a3s bs p n h)

def pSm (S : Sm) (p : Nat) : Sm := ⟨S.w, S.list, p⟩
theorem a3b {S : Sm} {c d p : Nat} (h : smOk S c) (hd : c ≤ d) (hp : p ≤ d) : smOk (pSm S p) d := ⟨h.1, Nat.le_trans h.2.1 hd, hp⟩

def f4p (l : List Ru) : Prop := ∀ (i : Nat) r, l[i]? = some r → r.kind = (i : Int) ∧ c8u r
theorem ru0 {k : Int} : c8u ⟨k, []⟩ := ⟨fun o h => (by cases h), Nat.zero_le _, Nat.zero_le _, Nat.zero_le _⟩
theorem f4e {l : List Ru} (hl : l.length ≤ 3) (h : f4p l) : e2f ⟨l⟩ := ⟨by show l.length ≤ 4; omega, fun i r hr => by
 have hi : i < l.length := (List.getElem?_eq_some_iff.1 hr).1
 have h1 := h i r hr
 refine ⟨by omega, h1.2, fun p h0 hp => ?_⟩
 have h2 := h _ p hp
 omega⟩
theorem f4g {l : List Ru} {ops : List Op_} {q q1 q2 : Nat} (h : f4p l) (ho : c8u ⟨(l.length : Int), ops⟩) (hl : l.length < 3) (h3 : q1 ≤ q + 40 * l.length) (h4 : q2 ≤ q1 + 40) : (l ++ [(⟨(l.length : Int), ops⟩ : Ru)]).length ≤ 3 ∧ f4p (l ++ [(⟨(l.length : Int), ops⟩ : Ru)]) ∧ q2 ≤ q + 40 * (l ++ [(⟨(l.length : Int), ops⟩ : Ru)]).length := by
 rw [List.length_append]
 refine ⟨by show l.length + 1 ≤ 3; omega, fun i r hr => ?_, by show q2 ≤ q + 40 * (l.length + 1); omega⟩
 rcases Nat.lt_or_ge i l.length with hi | hi
 ·rw [List.getElem?_append_left hi] at hr; exact h i r hr
 ·rw [List.getElem?_append_right hi] at hr
  cases e : i - l.length with
  | zero => rw [e] at hr; cases hr; exact ⟨by show (l.length : Int) = (i : Int); omega, ho⟩
  | succ n => rw [e] at hr; simp at hr
variable {l : List Ap}
theorem f4h {rs : List Ru} {p0 q q1 : Nat} (h : ∀ a ∈ l, e2f a) (ha : e2f ⟨rs⟩) (hl : l.length < 4) (h3 : q ≤ p0 + 120 * l.length) (h4 : q1 ≤ q + 40 * rs.length) (hr : rs.length ≤ 3) : (l ++ [(⟨rs⟩ : Ap)]).length ≤ 4 ∧ (∀ a ∈ l ++ [(⟨rs⟩ : Ap)], e2f a) ∧ q1 ≤ p0 + 120 * (l ++ [(⟨rs⟩ : Ap)]).length := by
 rw [List.length_append]
 refine ⟨by show l.length + 1 ≤ 4; omega, fun a hm => ?_, by show q1 ≤ p0 + 120 * (l.length + 1); omega⟩
 rcases List.mem_append.1 hm with hm | hm
 ·exact h a hm
 ·rw [List.mem_singleton.1 hm]; exact ha
theorem e6s (h : a6n l) : b9i ⟨0, l, a9i 3, [], hb0, []⟩ := ⟨h, rfl, fun n hn => by
 obtain ⟨i, hi, rfl⟩ := List.mem_map.1 hn
 have := List.mem_range.1 hi
 exact f1k _ (by omega), Nat.zero_le _, fun x h => (by cases h), e2r, Nat.zero_le _⟩
variable {p c : Nat}
theorem e6t (h : a6n l) (hp : p ≤ c) : smOk ⟨⟨0, l, a9i 3, [], hb0, []⟩, [], p⟩ c := ⟨e6s h, Nat.zero_le _, hp⟩
end
section
theorem c0f (r : List Wo) (hr : r.length ≤ 40) : Meth Tryz.prog 312 1 [0] [.ref 0 0, w0w true ([] : List Wo)] [(0, (0, .row 79 11 ((r).map (u9u true))))] (.ref 0 0) [(0, (0, .row 79 11 ((r).map (u9u true))))] := by
 refine mX Tryz.f312 [.ref 0 0] 1 2 fun γ => ?_
 refine dv 6 fun K K' => ?_
 refine x6x (ι := Nat) (fun i γ1 => [(0, .ref 0 (γ 0)), (5, pI (i : Int))]) (fun i γ1 => [(0, ((γ 0), .row 79 11 ((r).map (u9u true)))), (1, ((γ1 1), .dead)), (2, ((γ1 2), .dead))]) (fun i => i = 0) (fun i => i) (y0y 1 rfl Cov.nil) HE.nil 0 rfl [0, _, _] x7x x5x rfl fun i γ1 hi => ?_
 subst hi
 refine dv 7 fun K K' => ?_
 refine d2f rfl rfl (fun hg3 => ?_) (fun hg3 => ?_)
 ·(simp at hg3; done)
 try simp at hg3
 refine dv 3 ?_
 refine a1o rfl (fun hc5 => ?_) (fun hc5 => ?_)
 ·(simp at hc5; done)
 try simp at hc5
 refine dv 5 ?_
 exact ⟨[γ 0], rfl, rfl, x5x⟩
theorem c0g (r m : List Wo) (hr : r.length ≤ 40) : Meth Tryz.prog 312 1 [] [.ref 0 0, w0w true m] [(0, (0, .row 79 11 ((r).map (u9u true))))] (.ref 0 0) [(0, (0, .row 79 11 ((b1f r m).map (u9u true))))] := by
 refine mX Tryz.f312 [.ref 0 0] 1 2 fun γ => ?_
 refine dv 6 fun K K' => ?_
 refine x6x (ι := Nat) (fun i γ1 => [(0, .ref 0 (γ1 0)), (5, pI (i : Int))]) (fun i γ1 => [(0, ((γ1 0), .row 79 11 ((r ++ m.take i).map (u9u true)))), (1, ((γ1 1), .dead)), (2, ((γ1 2), .dead))]) (fun i => i ≤ m.length ∧ r.length + i ≤ 40) (fun i => m.length - i) (y0y 1 rfl Cov.nil) HE.nil 0 ⟨Nat.zero_le _, hr⟩ [_, _, _] x7x (HE.row rfl (by simp) (HE.kill rfl (HE.kill rfl HE.nil))) rfl fun i γ1 hi => ?_
 obtain ⟨h1, h2⟩ := hi
 have hl : (r ++ m.take i).length = r.length + i := by simp; omega
 refine dc 7 (fun K K' => aS ?_ ?_)<;>intro h<;>try simp at h
 ·refine dv 9 ?_
  exact ⟨[_], rfl, rfl, HE.row rfl (by rw [d5z hr h1 h2 (by omega)]) HE.nil⟩
 refine dv 1 ?_
 refine a4i (n := r.length + i) rfl q4q rfl rfl (by rw [List.length_map]; exact hl) ?_
 refine dc 2 (aS ?_ ?_)<;>intro h<;>try simp at h
 ·refine dv 5 ?_
  exact ⟨[_], rfl, rfl, HE.row rfl (by rw [d5z hr h1 h2 (by omega)]) HE.nil⟩
 obtain ⟨w, hw⟩ := gE m i
 refine dv 9 fun K K' => ?_
 refine y6y (id := 1) q4q rfl v4v rfl rfl rfl rfl rfl rfl ?_
 refine y7y (zs := (r ++ m.take i ++ [w]).map (u9u true)) rfl rfl q4q rfl v4v rfl rfl rfl rfl (by rfl) (z8z (u9u true) _ w) (by (simp only [s2s, r5r, s1s, s3s, a0l, a2z, T79]; omega)) ?_
 refine dv 3 ?_
 refine x8x (b := 1) rfl rfl (by omega) (dv 1 ?_)
 exact ⟨i + 1, ⟨⟨by omega, by omega⟩, by omega⟩, [_, _, _], x7x, x7x, (HE.row rfl (by rw [← e3p hw (by rw [hl]; omega)]) (HE.kill rfl (HE.kill rfl HE.nil))), x5x, rfl⟩
theorem a0p (r m : List Wo) (hr : r.length ≤ 40) : Meth Tryz.prog 312 1 (kpS m) [.ref 0 0, w0w true m] [(0, (0, .row 79 11 ((r).map (u9u true))))] (.ref 0 0) [(0, (0, .row 79 11 ((b1f r m).map (u9u true))))] := by
 cases m with
 | nil =>
  have e : b1f r [] = r := by simp [b1f]
  rw [e]; exact c0f r hr
 | cons x l => exact c0g r (x :: l) hr
end
section
theorem c3o (c : Bool) (n : Nd) : a0g Tryz.prog 54 [.agg (u1u c n)] (.agg (u1u true (a7h n))) := by
 refine pX Tryz.f54 [.agg (u1u true (a7h n))] 6 ?_
 refine dv 1 ?_
 refine x9x (id := 0) rfl rfl rfl (x3x (id := 1) u3u p5p rfl (dv 3 fun K K' => ?_))
 refine x0x rfl rfl rfl (w5w ..) (dc 1 (aI ?_ ?_))<;>intro hc2<;>try simp at hc2
 ·have fX : ¬ y3y n := a0w (by simpa using hc2)
  refine dv 1 ?_
  refine rlB u3u p5p ?_
  refine dv 2 ?_
  (rw [d6y fX]; exact ⟨_, _, rfl, e2a⟩)
 have fK : y3y n := a0o.1 (by simpa using hc2)
 have fS := fK.1
 have fB := w2w fS
 have fb := b7r fS
 refine dv 3 ?_
 refine rlM [3, 4, 5] [_, _, _] (a5q c n fb.1 fb.2.1 fb.2.2.1 fb.2.2.2.1) rfl rfl rfl ?_
 refine x3x (id := 2) u3u p5p rfl (dv 8 ?_)
 (rw [b9a fK]; exact ⟨_, _, rfl, b6c (n := ({ a1r n with up := false } : Nd)) rfl rfl rfl⟩)
theorem c3p (c : Bool) (n : Nd) : a0g Tryz.prog 58 [.agg (u1u c n)] (.agg (u1u true (a4f n))) := by
 refine pX Tryz.f58 [.agg (u1u true (a4f n))] 6 ?_
 refine dv 1 ?_
 refine x9x (id := 0) rfl rfl rfl (x3x (id := 1) u3u p5p rfl (dv 3 fun K K' => ?_))
 refine x0x rfl rfl rfl (w5w ..) (dc 1 (aI ?_ ?_))<;>intro hc2<;>try simp at hc2
 ·have fX : ¬ y3y n := a0w (by simpa using hc2)
  refine dv 1 ?_
  refine rlB u3u p5p ?_
  refine dv 2 ?_
  (rw [d6z fX]; exact ⟨_, _, rfl, e2a⟩)
 have fK : y3y n := a0o.1 (by simpa using hc2)
 have fS := fK.1
 have fB := w2w fS
 have fb := b7r fS
 refine dc 6 (fun K K' => aS ?_ ?_)<;>intro j<;>try simp at j
 ·refine dv 5 ?_
  have fU : n.up = true ∨ 9999 ≤ n.inc := by (simp_all; done)
  refine dv 2 ?_
  refine rlM [3, 4, 5] [_, _, _] (y2y c n fb) rfl rfl rfl ?_
  refine dv 2 ?_
  (rw [b3y fK fU]; exact ⟨_, _, rfl, b6c rfl rfl rfl⟩)
 refine dv 2 ?_
 refine x0x rfl rfl rfl (u0u ..) (dc 2 (aI ?_ ?_))<;>intro hc5<;>try simp at hc5
 ·have fU : n.up = true ∨ 9999 ≤ n.inc := .inr hc5
  refine dv 2 ?_
  refine rlM [3, 4, 5] [_, _, _] (y2y c n fb) rfl rfl rfl ?_
  refine dv 2 ?_
  (rw [b3y fK fU]; exact ⟨_, _, rfl, b6c rfl rfl rfl⟩)
 have fU : ¬ (n.up = true ∨ 9999 ≤ n.inc) := by rintro (h | h) <;> first | omega | (simp_all; done)
 refine dv 3 ?_
 refine rlM [3, 4, 5] [_, _, _] (a5q c n fb.1 fb.2.1 fb.2.2.1 fb.2.2.2.1) rfl rfl rfl ?_
 refine x3x (id := 2) u3u p5p rfl (dv 7 ?_)
 refine q9q (.int .i64 (n.inc + 1)) rfl rfl rfl (a6i rfl rfl (by have := fS.1.2.1; omega) (by have := fS.1.2.1; omega)) ?_
 refine dv 9 ?_
 (rw [b9c fK fU]; exact ⟨_, _, rfl, b6c (n := ({ a1r n with up := true, inc := n.inc + 1, version := 1 } : Nd)) rfl rfl rfl⟩)
end
section
theorem c3q (c : Bool) (n : Nd) : a0g Tryz.prog 49 [.agg (u1u c n)] (w0w true (c2h n)) := by
 refine pX Tryz.f49 [w0w true (c2h n)] 8 ?_
 refine dv 1 ?_
 refine x9x (id := 0) rfl rfl rfl (dv 2 ?_)
 refine y1y (id := 1) q4q rfl v4v rfl (dv 4 fun K K' => ?_)
 refine x0x rfl rfl rfl (w5w ..) (dc 2 (aS ?_ ?_))<;>intro hg2<;>try simp at hg2
 ·have fX : ¬ (y3y n ∧ n.up = true) := fun h => a0w (by simpa using hg2) h.1
  refine dv 8 ?_
  (rw [e0w fX]; exact a4j (l := ([] : List Wo)) rfl rfl (fun _ => rfl) rfl)
 have fK : y3y n := a0o.1 (by simpa using hg2)
 have fS := fK.1
 have fB := w2w fS
 have fV := fS.2.2.2.2.2.1
 refine dc 4 (aI ?_ ?_)<;>intro hc3<;>try simp at hc3
 ·have fX : ¬ (y3y n ∧ n.up = true) := by (intro h; simp_all; done)
  refine dv 4 ?_
  (rw [e0w fX]; exact a4j (l := ([] : List Wo)) rfl rfl (fun _ => rfl) rfl)
 have fU : n.up = true := hc3
 refine dv 5 fun K K' => ?_
 refine x6x (ι := Nat) (fun i γ1 => [(3, .ref 1 (γ1 1)), (4, pI (i : Int))]) (fun i γ1 => [(1, ((γ1 1), .row 79 11 ((a6l n i).map (u9u true)))), (2, ((γ1 2), .dead)), (3, ((γ1 3), .dead))]) (fun i => i ≤ 3) (fun i => 3 - i) (y0y 1 rfl Cov.nil) (a1m [0, 4, 5, 6, 7] rfl) 0 (by omega) [0, _, _, _] x7x (HE.row rfl (by rfl) (HE.kill rfl (HE.kill rfl HE.nil))) rfl fun i γ1 hi => ?_
 refine dc 4 (fun K K' => aI ?_ ?_)<;>intro j<;>try simp at j
 ·refine dc 8 (fun K K' => aS ?_ ?_)<;>intro hc8<;>try simp at hc8
  ·have hto : (i : Int) = n.id := hc8
   refine dv 1 ?_
   skip
   refine dv 2 ?_
   refine v0v rfl rfl rfl (dv 1 ?_)
   exact ⟨i + 1, ⟨by omega, by omega⟩, [0, _, _, _], (y0y 3 rfl (Cov.cons' (t := 4) rfl (by rw [y4y (by omega) (by omega)]; rfl) Cov.nil)), x7x, (HE.row rfl (by rw [d4z hto]) (HE.kill rfl (HE.kill rfl HE.nil))), x5x, rfl⟩
  have hto : ¬ (i : Int) = n.id := hc8
  have htl := d0m fS (i : Int)
  have htn := c2g n i
  refine dv 13 ?_
  refine x0x rfl rfl rfl (a8d c n i (by omega) fS.2.2.2.2.2.2.1 (by have := b0f fS; omega) (by omega)) ?_
  refine rlB v4v a4t ?_
  refine y6y (id := 2) q4q rfl v4v rfl rfl rfl rfl rfl rfl ?_
  refine y7y (zs := (a6l n i).map (u9u true) ++ [[pI (b2r n (i : Int)).kind, pI (b2r n (i : Int)).from', pI (b2r n (i : Int)).to, pI (b2r n (i : Int)).inc, pI (b2r n (i : Int)).version, pI (b2r n (i : Int)).round, pI (b2r n (i : Int)).g, .pv (.slice none 0 0), .pv (.slice none 0 0), a0t true (a2y n (i : Int)), .pv (.slice none 0 0)]]) rfl rfl q4q rfl v4v rfl rfl rfl rfl rfl rfl (by (simp only [s2s, r5r, s1s, s3s, a0l, a2z, T79] at *; omega)) ?_
  refine dv 1 ?_
  refine e7n 1 rfl (LeLs.snoc (x' := u9u true (b2r n (i : Int))) (.same (.same (.same (.same (.same (.same (.same (.le rfl .nil rfl (.le rfl .nil rfl (.same (.le rfl .nil rfl .nil))))))))))) _) ?_
  refine dv 2 ?_
  refine v0v rfl rfl rfl (dv 1 ?_)
  exact ⟨i + 1, ⟨by omega, by omega⟩, [0, _, _, _], (y0y 3 rfl (Cov.cons' (t := 4) rfl (by rw [y4y (by omega) (by omega)]; rfl) Cov.nil)), x7x, (HE.row rfl (by (rw [d4y hto, List.map_append]; rfl)) (HE.kill rfl (HE.kill rfl HE.nil))), x5x, rfl⟩
 obtain rfl : i = 3 := by omega
 have htn := c2g n 3
 refine dc 6 (fun K K' => aS ?_ ?_)<;>intro hc10<;>try simp at hc10
 ·have h0 : n.id = 0 := hc10
  refine dv 1 ?_
  skip
  refine dv 4 ?_
  (rw [e9y ⟨fK, fU⟩ h0]; exact a4j rfl rfl (fun _ => rfl) rfl)
 have h0 : ¬ n.id = 0 := hc10
 refine dv 6 ?_
 refine y1y (id := 4) a0h rfl w4w rfl (dv 2 ?_)
 refine a1h v9v (zs := (n.outs).map p9p) rfl rfl a0h rfl w4w rfl rfl rfl (z9z (fun _ => rfl) _) rfl (by (simp only [s2s, r5r, s1s, s3s, a0l, a2z, T141] at *; omega)) (Le.ow_map _ (fun _ => rfl) (fun _ => rfl)) ?_
 refine rlB v4v a4t ?_
 refine y6y (id := 6) q4q rfl v4v rfl rfl rfl rfl rfl rfl ?_
 refine y7y (zs := (a6l n 3).map (u9u true) ++ [[pI (c2f n).kind, pI (c2f n).from', pI (c2f n).to, pI (c2f n).inc, pI (c2f n).version, pI (c2f n).round, pI (c2f n).g, .pv (.slice none 0 0), .pv (.slice none 0 0), .pv (.slice none 0 0), r9r true n.outs]]) rfl rfl q4q rfl v4v rfl rfl rfl rfl rfl rfl (by (simp only [s2s, r5r, s1s, s3s, a0l, a2z, T79] at *; omega)) ?_
 refine dv 1 ?_
 (refine e7n 1 rfl (LeLs.snoc (x' := u9u true (c2f n)) (.same (.same (.same (.same (.same (.same (.same (.le rfl .nil rfl (.le rfl .nil rfl (.le rfl .nil rfl (.same .nil))))))))))) _) ?_; refine b2m 1 (xs' := (a6l n 3 ++ [c2f n]).map (u9u true)) rfl (by rw [List.map_append]; rfl) ?_)
 refine dv 4 ?_
 (rw [e9z ⟨fK, fU⟩ h0]; exact a4j rfl rfl (fun _ => rfl) rfl)
end
section
theorem c4u (W : Tw) (ek en ep ew : Int) (eb : Bool) (hW : b9i W) : MethE Tryz.prog 309 2 [.agg [pI W.time, a4w true W.apps, .ref 0 0, .ref 1 0, pI W.hub.round, w0w true W.hub.ones, w0w true W.hub.twos, w0w true W.hub.outs, r9r true W.sink], .agg [pI ek, pI en, pI ep, pI ew, .pv (.bool eb)]] [(0, (0, .row 65 13 ((W.nodes).map (u1u true)))), (1, (0, .row 79 11 ((W.radio).map (u9u true))))] (ι := Tw × Bool) (fun S' => b9i S'.1 ∧ (S'.2 = false → S'.1.radio = W.radio)) (fun S' => kpB S'.2) (fun S' => .tup [.agg [pI S'.1.time, a4w true S'.1.apps, .ref 0 0, .ref 1 0, pI S'.1.hub.round, w0w true S'.1.hub.ones, w0w true S'.1.hub.twos, w0w true S'.1.hub.outs, r9r true S'.1.sink], .pv (.bool (S'.2))]) (fun S' => [(0, (0, .row 65 13 ((S'.1.nodes).map (u1u true)))), (1, (0, .row 79 11 ((S'.1.radio).map (u9u true))))]) := by
 refine mE (ι := Tw × Bool) Tryz.f309 (fun S' => [.agg [pI S'.1.time, a4w true S'.1.apps, .ref 0 0, .ref 1 0, pI S'.1.hub.round, w0w true S'.1.hub.ones, w0w true S'.1.hub.twos, w0w true S'.1.hub.outs, r9r true S'.1.sink], .pv (.bool (S'.2))]) 2 6 fun γ => ?_
 refine dv 1 ?_
 refine x9x (id := 2) rfl rfl rfl (x9x (id := 3) rfl rfl rfl (x3x (id := 4) b5o b8r rfl (dv 5 fun K K' => ?_)))
 refine x0x rfl rfl rfl (y9y ..) (dc 1 (aI ?_ ?_))<;>intro hc2<;>try simp at hc2
 ·refine dv 5 ?_
  exact ⟨(W, false), ⟨hW, (fun _ => rfl)⟩, [γ 0, γ 1], rfl, rfl, x5x⟩
 have hen : 0 ≤ en ∧ en ≤ 2 := hc2
 obtain ⟨k, rfl⟩ : ∃ k : Nat, en = (k : Int) := ⟨en.toNat, by omega⟩
 obtain ⟨n, hnd, hnI⟩ := b3m hW (i := k) (by omega)
 have hA := hW.1
 have hr40 := hW.2.2.2.1
 refine dv 6 ?_
 refine z1z (j := k) rfl rfl a6t rfl u3u rfl rfl (z3z hnd) ?_
 refine a0d rfl u3u rfl (by assumption) rfl rfl ?_
 refine x3x (id := 5) u3u p5p rfl (dc 8 (fun K K' => aI ?_ ?_))<;>intro o<;>try simp at o
 ·refine dv 2 ?_
  refine x0x rfl rfl rfl (c3p true n) (x3x (id := 6) u3u p5p rfl (dv 7 ?_))
  refine z1z (j := k) rfl rfl a6t rfl u3u rfl rfl (z3z hnd) ?_
  refine v6v (el' := a4f n) rfl rfl u3u rfl rfl rfl hnd rfl (q8q rfl) rfl rfl ?_
  refine dv 10 ?_
  exact ⟨({ W with nodes := W.nodes.set k (a4f n) }, decide ((a4f n).inc > n.inc)), ⟨a5j hW (f3z hnI), (fun _ => rfl)⟩, [γ 0, γ 1], (d3l γ _ gl rfl rfl), rfl, x5x⟩
 refine dc 5 (aI ?_ ?_)<;>intro o<;>try simp at o
 ·refine dv 5 ?_
  exact ⟨(W, false), ⟨hW, (fun _ => rfl)⟩, [γ 0, γ 1], rfl, rfl, x5x⟩
 refine dc 5 (aI ?_ ?_)<;>intro o<;>try simp at o
 ·refine s6s fun B X0 w0 => ?_
  refine txR 5 rfl rfl (dv 5 ?_)
  refine txM [] [] (c3i W.apps n ep hnI hA) rfl rfl rfl rfl fun j hj => ?_
  refine txR 6 rfl rfl (dv 3 ?_)
  refine x3x (id := 7) u3u p5p rfl (dv 2 ?_)
  refine z7z rfl (dv 6 ?_)
  refine z1z (j := k) rfl rfl a6t rfl u3u rfl rfl (z3z hnd) ?_
  refine v6v (el' := j.1) rfl rfl u3u rfl rfl rfl hnd rfl (q8q rfl) rfl rfl ?_
  refine dv 6 ?_
  exact ⟨({ W with nodes := W.nodes.set k j.1 }, j.2), ⟨a5j hW hj, (fun _ => rfl)⟩, [γ 0, γ 1], (d3l γ _ gl rfl rfl), rfl, x5x⟩
 refine dc 5 (aI ?_ ?_)<;>intro o<;>try simp at o
 ·refine dv 4 ?_
  refine x0x rfl rfl rfl (c3q true n) ?_
  refine rlM [1] [_] (a0p W.radio (c2h n) hr40) rfl rfl rfl ?_
  refine dv 7 ?_
  exact ⟨({ W with radio := b1f W.radio (c2h n) }, true), ⟨b3n hW (e6b hnI.1), (fun h => by cases h)⟩, [γ 0, _], rfl, rfl, x5x⟩
 refine dv 7 ?_
 refine x0x rfl rfl rfl (c3o true n) ?_
 refine z1z (j := k) rfl rfl a6t rfl u3u rfl rfl (z3z hnd) ?_
 refine v6v (el' := a7h n) rfl rfl u3u rfl rfl rfl hnd rfl (q8q rfl) rfl rfl ?_
 refine dc 5 (fun K K' => aS ?_ ?_)<;>intro o<;>try simp at o
 ·refine dv 1 ?_
  skip
  refine dv 5 ?_
  exact ⟨({ W with nodes := W.nodes.set k (a7h n) }, true), ⟨a5j hW (e8f hnI), (fun h => by cases h)⟩, [γ 0, γ 1], rfl, rfl, x5x⟩
 obtain rfl : k = 0 := by omega
 refine dv 1 ?_
 refine rlB a6d b5p ?_
 refine dv 1 ?_
 refine a0m rfl rfl a6d rfl rfl rfl rfl (s8s rfl) rfl ?_
 refine dv 0 ?_
 refine e7l 2 rfl (.same (.same (.same (.same (.same (.le (b := w0w true ([] : List Wo)) rfl .nil rfl (.le (b := w0w true ([] : List Wo)) rfl .nil rfl (.le (b := w0w true ([] : List Wo)) rfl .nil rfl (LeCs.refl _))))))))) ?_
 refine dv 5 ?_
 exact ⟨({ W with nodes := W.nodes.set 0 (a7h n), hub := hb0 }, true), ⟨d1l (a5j hW (e8f hnI)) e2r, (fun h => by cases h)⟩, [γ 0, γ 1], rfl, rfl, x5x⟩
end
section
theorem c3r (W : Tw) (ek en ep ew : Int) (eb : Bool) (hW : b9i W) : MethE Tryz.prog 310 2 [.agg [pI W.time, a4w true W.apps, .ref 0 0, .ref 1 0, pI W.hub.round, w0w true W.hub.ones, w0w true W.hub.twos, w0w true W.hub.outs, r9r true W.sink], .agg [pI ek, pI en, pI ep, pI ew, .pv (.bool eb)]] [(0, (0, .row 65 13 ((W.nodes).map (u1u true)))), (1, (0, .row 79 11 ((W.radio).map (u9u true))))] (ι := Tw × Bool) (fun S' => b9i S'.1 ∧ (S'.2 = false → S'.1.radio = W.radio)) (fun S' => kpB S'.2) (fun S' => .tup [.agg [pI S'.1.time, a4w true S'.1.apps, .ref 0 0, .ref 1 0, pI S'.1.hub.round, w0w true S'.1.hub.ones, w0w true S'.1.hub.twos, w0w true S'.1.hub.outs, r9r true S'.1.sink], .pv (.bool (S'.2))]) (fun S' => [(0, (0, .row 65 13 ((S'.1.nodes).map (u1u true)))), (1, (0, .row 79 11 ((S'.1.radio).map (u9u true))))]) := by
 refine mE (ι := Tw × Bool) Tryz.f310 (fun S' => [.agg [pI S'.1.time, a4w true S'.1.apps, .ref 0 0, .ref 1 0, pI S'.1.hub.round, w0w true S'.1.hub.ones, w0w true S'.1.hub.twos, w0w true S'.1.hub.outs, r9r true S'.1.sink], .pv (.bool (S'.2))]) 2 11 fun γ => ?_
 have hr40 := hW.2.2.2.1
 refine dv 1 ?_
 refine x9x (id := 2) rfl rfl rfl (x9x (id := 3) rfl rfl rfl (x3x (id := 4) b5o b8r rfl (dv 7 fun K K' => ?_)))
 refine a4i (n := W.radio.length) rfl q4q rfl rfl (List.length_map _) ?_
 refine q9q (.int .i64 ((W.radio.length : Int) - 1)) rfl rfl rfl (a6i rfl (by omega) (by omega) (by omega)) ?_
 refine x0x rfl rfl rfl (y9y ..) (dc 1 (aI ?_ ?_))<;>intro hc2<;>try simp at hc2
 ·refine dv 5 ?_
  exact ⟨(W, false), ⟨hW, (fun _ => rfl)⟩, [γ 0, γ 1], rfl, rfl, x5x⟩
 have hr40 := hW.2.2.2.1
 have hew : 0 ≤ ew ∧ ew ≤ (W.radio.length : Int) - 1 := hc2
 obtain ⟨j, rfl⟩ : ∃ j : Nat, ew = (j : Int) := ⟨ew.toNat, by omega⟩
 have hjl : j < W.radio.length := by omega
 obtain ⟨x, hx⟩ := gE W.radio j
 have hxr := hW.2.2.2.2.1 x (List.mem_of_getElem? hx)
 obtain ⟨n0, h0, h0I⟩ := b3m hW (i := 0) (by omega)
 have hHb := hW.2.2.2.2.2.1
 refine dv 6 ?_
 refine z1z (j := j) rfl rfl q4q rfl v4v rfl rfl hjl ?_
 refine a0d rfl v4v rfl (by assumption) rfl rfl ?_
 refine x3x (id := 5) v4v a4t rfl (dc 7 (fun K K' => aS ?_ ?_))<;>intro o<;>try simp at o
 ·refine dv 5 ?_
  refine y1y (id := 6) q4q rfl v4v rfl (dv 4 ?_)
  refine d4l v9v rfl q4q rfl v4v rfl rfl rfl rfl (by omega) (by omega) (by (simp only [s2s]; omega)) ?_
  refine b4d (f := u9u true) (l := ([] : List Wo)) (l2 := W.radio) (l' := W.radio.take j) rfl rfl q4q rfl v4v rfl rfl rfl rfl (z9z (fun _ => rfl) _) (by (simp; done)) (by simp only [a0l, b3c, r5r, T79]; omega) ?_
  refine dv 4 ?_
  refine q9q (.int .i64 ((j + 1 : Nat) : Int)) rfl rfl rfl (a6i rfl (by omega) (by omega) (by omega)) ?_
  refine d4l v9v rfl q4q rfl v4v rfl rfl rfl rfl (by omega) (by (simp only [s2s]; omega)) (by omega) ?_
  refine b4d (f := u9u true) (l := W.radio.take j) (l2 := W.radio) (l' := (W.radio.take j ++ W.radio.drop (j + 1))) rfl rfl q4q rfl v4v rfl rfl rfl rfl (z9z (fun _ => rfl) _) (by (simp; done)) (by simp only [a0l, b3c, r5r, T79]; omega) ?_
  refine dv 3 fun K K' => ?_
  (refine e2i 2 6 1 rfl rfl rfl rfl rfl rfl rfl ?_; obtain ⟨r, er, hr1, hr2⟩ : ∃ r, (W.radio.take j ++ W.radio.drop (j + 1)) = r ∧ r.length ≤ 40 ∧ ∀ q ∈ r, c8b q := ⟨_, rfl, e3q hW, e3r hW⟩; rw [er])
  refine dc 4 (aI ?_ ?_)<;>intro o<;>try simp at o
  ·refine dv 5 ?_
   exact ⟨({ W with radio := r }, true), ⟨a6b hW hr1 hr2, (fun h => by cases h)⟩, [γ 0, _], rfl, rfl, x5x⟩
  refine dv 2 ?_
  refine y1y (id := 9) q4q rfl v4v rfl (dv 2 fun K K' => ?_)
  refine r0r (ι := Bool) (fun b γ3 => [(73, .pv (.bool (b)))]) (fun b γ3 => []) (fun b => True) (r7r [2, 4, 6] rfl) (a1m [0, 1, 2, 3, 4, 5, 6, 7, 8, 9, 10, 11, 12] rfl) ?_ fun b γ3 hi => ?_
  ·refine dc 5 (aS ?_ ?_)<;>intro o<;>try simp at o
   ·refine dv 13 ?_
    exact ⟨_, trivial, [], x7x, x7x, x5x, x5x, rfl⟩
   refine dc 4 (aS ?_ ?_)<;>intro o<;>try simp at o
   ·refine dv 9 ?_
    exact ⟨_, trivial, [], x7x, x7x, x5x, x5x, rfl⟩
   refine dc 5 (aS ?_ ?_)<;>intro o<;>try simp at o
   ·refine dv 4 ?_
    exact ⟨_, trivial, [], x7x, x7x, x5x, x5x, rfl⟩
   refine dv 5 ?_
   exact ⟨_, trivial, [], x7x, x7x, x5x, x5x, rfl⟩
  ·try dsimp only [b3d, b3e]
   refine dc 0 (aS ?_ ?_)<;>intro o<;>try simp at o
   ·obtain ⟨q, hq⟩ : ∃ q : Nat, x.to = (q : Int) := ⟨x.to.toNat, by have := hxr.1; omega⟩
    obtain ⟨n, hnd, hnI⟩ := b3m hW (i := q) (by have := hxr.1; omega)
    refine dv 4 ?_
    refine y8y (out := pI x.to) rfl r1r rfl rfl ?_
    rw [hq]
    refine z1z (j := q) rfl rfl a6t rfl u3u rfl rfl (z3z hnd) ?_
    refine a0d rfl u3u rfl (by assumption) rfl rfl ?_
    refine dv 1 ?_
    refine x0x rfl rfl rfl (a8g true n x) (dv 3 ?_)
    refine x3x (id := 12) u3u p5p rfl (dv 6 ?_)
    refine y8y (out := pI x.to) rfl r1r rfl rfl ?_
    rw [hq]
    refine dv 1 ?_
    refine z1z (j := q) rfl rfl a6t rfl u3u rfl rfl (z3z hnd) ?_
    refine v6v (el' := (w7w n x).1) rfl rfl u3u rfl rfl rfl hnd rfl (q8q rfl) rfl rfl ?_
    refine dv 7 ?_
    refine rlM [1] [_] (a0p r (w7w n x).2 hr1) rfl rfl rfl ?_
    refine dv 7 ?_
    exact ⟨({ W with nodes := W.nodes.set q (w7w n x).1, radio := b1f r (w7w n x).2 }, true), ⟨b3n (W := { W with nodes := _, radio := r }) (a6b (a5j hW (e3d hnI x)) hr1 hr2) (c8d hnI.1 x), (fun h => by cases h)⟩, [γ 0, _], rfl, rfl, x5x⟩
   refine dv 2 ?_
   refine y8y (out := .agg (a7k true W.hub)) rfl a6d rfl rfl ?_
   refine dv 2 ?_
   refine z1z (j := 0) rfl rfl a6t rfl u3u rfl rfl (z3z h0) (a0d rfl u3u rfl (by assumption) rfl rfl ?_)
   refine dv 1 ?_
   refine x0x rfl rfl rfl (a9l true W.hub n0 x) (dv 4 ?_)
   refine x3x (id := 10) a6d b5p rfl (x3x (id := 11) u3u p5p rfl (dv 6 ?_))
   refine a0m rfl rfl a6d rfl rfl rfl rfl (s8s rfl) rfl ?_
   refine dv 4 ?_
   refine z1z (j := 0) rfl rfl a6t rfl u3u rfl rfl (z3z h0) ?_
   refine v6v (el' := (v2v W.hub n0 x).2.1) rfl rfl u3u rfl rfl rfl h0 rfl (q8q rfl) rfl rfl ?_
   refine dv 7 ?_
   refine rlM [1] [_] (a0p r (v2v W.hub n0 x).2.2 hr1) rfl rfl rfl ?_
   refine dv 7 ?_
   exact ⟨({ W with nodes := W.nodes.set 0 (v2v W.hub n0 x).2.1, radio := b1f r (v2v W.hub n0 x).2.2, hub := (v2v W.hub n0 x).1 }, true), ⟨b3n (W := { W with nodes := _, radio := r, hub := _ }) (a6b (d1l (a5j hW (c8e h0I hHb x)) (b2y h0I.1 hHb x)) hr1 hr2) (b9h W.hub n0 x), (fun h => by cases h)⟩, [γ 0, _], rfl, rfl, x5x⟩
 refine dc 4 (aS ?_ ?_)<;>intro o<;>try simp at o
 ·refine dv 2 fun K K' => ?_
  (obtain ⟨r, er, hr1, hr2⟩ : ∃ r, W.radio = r ∧ r.length ≤ 40 ∧ ∀ q ∈ r, c8b q := ⟨_, rfl, hW.2.2.2.1, hW.2.2.2.2.1⟩; rw [er])
  refine dc 4 (aI ?_ ?_)<;>intro o<;>try simp at o
  ·refine dv 5 ?_
   exact ⟨({ W with radio := r }, true), ⟨a6b hW hr1 hr2, (fun h => by cases h)⟩, [γ 0, _], rfl, rfl, x5x⟩
  refine dv 2 ?_
  refine y1y (id := 9) q4q rfl v4v rfl (dv 2 fun K K' => ?_)
  refine r0r (ι := Bool) (fun b γ2 => [(73, .pv (.bool (b)))]) (fun b γ2 => []) (fun b => True) (r7r [2, 4, 6] rfl) (a1m [0, 1, 2, 3, 4, 5, 6, 7, 8, 9, 10, 11, 12] rfl) ?_ fun b γ2 hi => ?_
  ·refine dc 5 (aS ?_ ?_)<;>intro o<;>try simp at o
   ·refine dv 13 ?_
    exact ⟨_, trivial, [], x7x, x7x, x5x, x5x, rfl⟩
   refine dc 4 (aS ?_ ?_)<;>intro o<;>try simp at o
   ·refine dv 9 ?_
    exact ⟨_, trivial, [], x7x, x7x, x5x, x5x, rfl⟩
   refine dc 5 (aS ?_ ?_)<;>intro o<;>try simp at o
   ·refine dv 4 ?_
    exact ⟨_, trivial, [], x7x, x7x, x5x, x5x, rfl⟩
   refine dv 5 ?_
   exact ⟨_, trivial, [], x7x, x7x, x5x, x5x, rfl⟩
  ·try dsimp only [b3d, b3e]
   refine dc 0 (aS ?_ ?_)<;>intro o<;>try simp at o
   ·obtain ⟨q, hq⟩ : ∃ q : Nat, x.to = (q : Int) := ⟨x.to.toNat, by have := hxr.1; omega⟩
    obtain ⟨n, hnd, hnI⟩ := b3m hW (i := q) (by have := hxr.1; omega)
    refine dv 4 ?_
    refine y8y (out := pI x.to) rfl r1r rfl rfl ?_
    rw [hq]
    refine z1z (j := q) rfl rfl a6t rfl u3u rfl rfl (z3z hnd) ?_
    refine a0d rfl u3u rfl (by assumption) rfl rfl ?_
    refine dv 1 ?_
    refine x0x rfl rfl rfl (a8g true n x) (dv 3 ?_)
    refine x3x (id := 12) u3u p5p rfl (dv 6 ?_)
    refine y8y (out := pI x.to) rfl r1r rfl rfl ?_
    rw [hq]
    refine dv 1 ?_
    refine z1z (j := q) rfl rfl a6t rfl u3u rfl rfl (z3z hnd) ?_
    refine v6v (el' := (w7w n x).1) rfl rfl u3u rfl rfl rfl hnd rfl (q8q rfl) rfl rfl ?_
    refine dv 7 ?_
    refine rlM [1] [_] (a0p r (w7w n x).2 hr1) rfl rfl rfl ?_
    refine dv 7 ?_
    exact ⟨({ W with nodes := W.nodes.set q (w7w n x).1, radio := b1f r (w7w n x).2 }, true), ⟨b3n (W := { W with nodes := _, radio := r }) (a6b (a5j hW (e3d hnI x)) hr1 hr2) (c8d hnI.1 x), (fun h => by cases h)⟩, [γ 0, _], rfl, rfl, x5x⟩
   refine dv 2 ?_
   refine y8y (out := .agg (a7k true W.hub)) rfl a6d rfl rfl ?_
   refine dv 2 ?_
   refine z1z (j := 0) rfl rfl a6t rfl u3u rfl rfl (z3z h0) (a0d rfl u3u rfl (by assumption) rfl rfl ?_)
   refine dv 1 ?_
   refine x0x rfl rfl rfl (a9l true W.hub n0 x) (dv 4 ?_)
   refine x3x (id := 10) a6d b5p rfl (x3x (id := 11) u3u p5p rfl (dv 6 ?_))
   refine a0m rfl rfl a6d rfl rfl rfl rfl (s8s rfl) rfl ?_
   refine dv 4 ?_
   refine z1z (j := 0) rfl rfl a6t rfl u3u rfl rfl (z3z h0) ?_
   refine v6v (el' := (v2v W.hub n0 x).2.1) rfl rfl u3u rfl rfl rfl h0 rfl (q8q rfl) rfl rfl ?_
   refine dv 7 ?_
   refine rlM [1] [_] (a0p r (v2v W.hub n0 x).2.2 hr1) rfl rfl rfl ?_
   refine dv 7 ?_
   exact ⟨({ W with nodes := W.nodes.set 0 (v2v W.hub n0 x).2.1, radio := b1f r (v2v W.hub n0 x).2.2, hub := (v2v W.hub n0 x).1 }, true), ⟨b3n (W := { W with nodes := _, radio := r, hub := _ }) (a6b (d1l (a5j hW (c8e h0I hHb x)) (b2y h0I.1 hHb x)) hr1 hr2) (b9h W.hub n0 x), (fun h => by cases h)⟩, [γ 0, _], rfl, rfl, x5x⟩
 refine dv 1 ?_
 refine y1y (id := 6) q4q rfl v4v rfl (dv 4 ?_)
 refine d4l v9v rfl q4q rfl v4v rfl rfl rfl rfl (by omega) (by omega) (by (simp only [s2s]; omega)) ?_
 refine b4d (f := u9u true) (l := ([] : List Wo)) (l2 := W.radio) (l' := W.radio.take j) rfl rfl q4q rfl v4v rfl rfl rfl rfl (z9z (fun _ => rfl) _) (by (simp; done)) (by simp only [a0l, b3c, r5r, T79]; omega) ?_
 refine dv 4 ?_
 refine q9q (.int .i64 ((j + 1 : Nat) : Int)) rfl rfl rfl (a6i rfl (by omega) (by omega) (by omega)) ?_
 refine d4l v9v rfl q4q rfl v4v rfl rfl rfl rfl (by omega) (by (simp only [s2s]; omega)) (by omega) ?_
 refine b4d (f := u9u true) (l := W.radio.take j) (l2 := W.radio) (l' := (W.radio.take j ++ W.radio.drop (j + 1))) rfl rfl q4q rfl v4v rfl rfl rfl rfl (z9z (fun _ => rfl) _) (by (simp; done)) (by simp only [a0l, b3c, r5r, T79]; omega) ?_
 refine dv 3 fun K K' => ?_
 (refine e2i 2 6 1 rfl rfl rfl rfl rfl rfl rfl ?_; obtain ⟨r, er, hr1, hr2⟩ : ∃ r, (W.radio.take j ++ W.radio.drop (j + 1)) = r ∧ r.length ≤ 40 ∧ ∀ q ∈ r, c8b q := ⟨_, rfl, e3q hW, e3r hW⟩; rw [er])
 refine dc 4 (aI ?_ ?_)<;>intro o<;>try simp at o
 ·refine dv 5 ?_
  exact ⟨({ W with radio := r }, true), ⟨a6b hW hr1 hr2, (fun h => by cases h)⟩, [γ 0, _], rfl, rfl, x5x⟩
 refine dv 2 ?_
 refine y1y (id := 9) q4q rfl v4v rfl (dv 2 fun K K' => ?_)
 refine r0r (ι := Bool) (fun b γ1 => [(73, .pv (.bool (b)))]) (fun b γ1 => []) (fun b => True) (r7r [2, 4, 6] rfl) (a1m [0, 1, 2, 3, 4, 5, 6, 7, 8, 9, 10, 11, 12] rfl) ?_ fun b γ1 hi => ?_
 ·refine dc 5 (aS ?_ ?_)<;>intro o<;>try simp at o
  ·refine dv 13 ?_
   exact ⟨_, trivial, [], x7x, x7x, x5x, x5x, rfl⟩
  refine dc 4 (aS ?_ ?_)<;>intro o<;>try simp at o
  ·refine dv 9 ?_
   exact ⟨_, trivial, [], x7x, x7x, x5x, x5x, rfl⟩
  refine dc 5 (aS ?_ ?_)<;>intro o<;>try simp at o
  ·refine dv 4 ?_
   exact ⟨_, trivial, [], x7x, x7x, x5x, x5x, rfl⟩
  refine dv 5 ?_
  exact ⟨_, trivial, [], x7x, x7x, x5x, x5x, rfl⟩
 ·try dsimp only [b3d, b3e]
  refine dc 0 (aS ?_ ?_)<;>intro o<;>try simp at o
  ·obtain ⟨q, hq⟩ : ∃ q : Nat, x.to = (q : Int) := ⟨x.to.toNat, by have := hxr.1; omega⟩
   obtain ⟨n, hnd, hnI⟩ := b3m hW (i := q) (by have := hxr.1; omega)
   refine dv 4 ?_
   refine y8y (out := pI x.to) rfl r1r rfl rfl ?_
   rw [hq]
   refine z1z (j := q) rfl rfl a6t rfl u3u rfl rfl (z3z hnd) ?_
   refine a0d rfl u3u rfl (by assumption) rfl rfl ?_
   refine dv 1 ?_
   refine x0x rfl rfl rfl (a8g true n x) (dv 3 ?_)
   refine x3x (id := 12) u3u p5p rfl (dv 6 ?_)
   refine y8y (out := pI x.to) rfl r1r rfl rfl ?_
   rw [hq]
   refine dv 1 ?_
   refine z1z (j := q) rfl rfl a6t rfl u3u rfl rfl (z3z hnd) ?_
   refine v6v (el' := (w7w n x).1) rfl rfl u3u rfl rfl rfl hnd rfl (q8q rfl) rfl rfl ?_
   refine dv 7 ?_
   refine rlM [1] [_] (a0p r (w7w n x).2 hr1) rfl rfl rfl ?_
   refine dv 7 ?_
   exact ⟨({ W with nodes := W.nodes.set q (w7w n x).1, radio := b1f r (w7w n x).2 }, true), ⟨b3n (W := { W with nodes := _, radio := r }) (a6b (a5j hW (e3d hnI x)) hr1 hr2) (c8d hnI.1 x), (fun h => by cases h)⟩, [γ 0, _], rfl, rfl, x5x⟩
  refine dv 2 ?_
  refine y8y (out := .agg (a7k true W.hub)) rfl a6d rfl rfl ?_
  refine dv 2 ?_
  refine z1z (j := 0) rfl rfl a6t rfl u3u rfl rfl (z3z h0) (a0d rfl u3u rfl (by assumption) rfl rfl ?_)
  refine dv 1 ?_
  refine x0x rfl rfl rfl (a9l true W.hub n0 x) (dv 4 ?_)
  refine x3x (id := 10) a6d b5p rfl (x3x (id := 11) u3u p5p rfl (dv 6 ?_))
  refine a0m rfl rfl a6d rfl rfl rfl rfl (s8s rfl) rfl ?_
  refine dv 4 ?_
  refine z1z (j := 0) rfl rfl a6t rfl u3u rfl rfl (z3z h0) ?_
  refine v6v (el' := (v2v W.hub n0 x).2.1) rfl rfl u3u rfl rfl rfl h0 rfl (q8q rfl) rfl rfl ?_
  refine dv 7 ?_
  refine rlM [1] [_] (a0p r (v2v W.hub n0 x).2.2 hr1) rfl rfl rfl ?_
  refine dv 7 ?_
  exact ⟨({ W with nodes := W.nodes.set 0 (v2v W.hub n0 x).2.1, radio := b1f r (v2v W.hub n0 x).2.2, hub := (v2v W.hub n0 x).1 }, true), ⟨b3n (W := { W with nodes := _, radio := r, hub := _ }) (a6b (d1l (a5j hW (c8e h0I hHb x)) (b2y h0I.1 hHb x)) hr1 hr2) (b9h W.hub n0 x), (fun h => by cases h)⟩, [γ 0, _], rfl, rfl, x5x⟩
end
section
theorem c4v (W : Tw) (hW : b9i W) : MethE Tryz.prog 313 2 [.agg [pI W.time, a4w true W.apps, .ref 0 0, .ref 1 0, pI W.hub.round, w0w true W.hub.ones, w0w true W.hub.twos, w0w true W.hub.outs, r9r true W.sink]] [(0, (0, .row 65 13 ((W.nodes).map (u1u true)))), (1, (0, .row 79 11 ((W.radio).map (u9u true))))] (ι := Tw × Bool) (fun S' => b9i S'.1 ∧ S'.1.nodes = W.nodes ∧ S'.1.radio = W.radio) (fun S' => [0, 1]) (fun S' => .tup [.agg [pI S'.1.time, a4w true S'.1.apps, .ref 0 0, .ref 1 0, pI S'.1.hub.round, w0w true S'.1.hub.ones, w0w true S'.1.hub.twos, w0w true S'.1.hub.outs, r9r true S'.1.sink], .pv (.bool (S'.2))]) (fun S' => [(0, (0, .row 65 13 ((W.nodes).map (u1u true)))), (1, (0, .row 79 11 ((W.radio).map (u9u true))))]) := by
 refine mE (ι := Tw × Bool) Tryz.f313 (fun S' => [.agg [pI S'.1.time, a4w true S'.1.apps, .ref 0 0, .ref 1 0, pI S'.1.hub.round, w0w true S'.1.hub.ones, w0w true S'.1.hub.twos, w0w true S'.1.hub.outs, r9r true S'.1.sink], .pv (.bool (S'.2))]) 2 5 fun γ => ?_
 obtain ⟨n0, h0, h0I⟩ := b3m hW (i := 0) (by omega)
 have hol := e6r (h := W.hub) (n := n0)
 have hsl := hW.2.2.2.2.2.2
 refine dv 1 ?_
 refine x9x (id := 2) rfl rfl rfl (x3x (id := 3) b5o b8r rfl (dv 3 ?_))
 refine y8y (out := .agg (a7k true W.hub)) rfl a6d rfl rfl ?_
 refine dv 2 ?_
 refine z1z (j := 0) rfl rfl a6t rfl u3u rfl rfl (z3z h0) (a0d rfl u3u rfl (by assumption) rfl rfl ?_)
 refine x0x rfl rfl rfl (c4t true W.hub n0) (dv 5 fun K K' => ?_)
 refine z1z (j := 0) rfl rfl a6t rfl u3u rfl rfl (z3z h0) (dc 4 (aS ?_ ?_))<;>intro o<;>try simp at o
 ·refine dv 12 ?_
  exact ⟨(W, false), ⟨hW, rfl, rfl⟩, [γ 0, γ 1], rfl, rfl, x5x⟩
 refine dc 7 (aI ?_ ?_)<;>intro o<;>try simp at o
 ·refine dv 5 ?_
  exact ⟨(W, false), ⟨hW, rfl, rfl⟩, [γ 0, γ 1], rfl, rfl, x5x⟩
 refine dv 2 ?_
 refine y1y (id := 4) a0h rfl w4w rfl (dv 2 ?_)
 refine p0p (zs := (W.sink).map p9p) rfl rfl a0h rfl w4w rfl rfl rfl (z9z (fun _ => rfl) _) rfl (by simp only [s2s, r5r, s1s, s3s, a0l, a2z, b3c, T141]; omega) ?_
 refine dv 4 ?_
 refine c0m (f := p9p) (l := (a7z W.hub n0)) rfl a0h rfl w4w rfl rfl rfl (by omega) (by rw [List.length_map]; omega) (by rw [List.length_map]; omega) ?_
 rw [List.length_map, Int.toNat_natCast, Int.toNat_natCast, List.take_length]
 refine p0p (zs := ((W.sink ++ (a7z W.hub n0).drop W.sink.length)).map p9p) rfl rfl a0h rfl w4w rfl rfl rfl (z9z (fun _ => rfl) _) (a9d p9p W.sink _) (by simp only [s2s, r5r, s1s, s3s, a0l, a2z, b3c, T141]; omega) ?_
 refine dv 2 ?_
 refine u6u (b := r9r true (W.sink ++ (a7z W.hub n0).drop W.sink.length)) 2 8 rfl rfl rfl (.ref rfl (Le.ow_map _ (fun _ => rfl) (fun _ => rfl)) .nil) rfl rfl rfl rfl ?_
 refine dv 4 ?_
 refine x0x rfl rfl rfl (a7m true (W.sink ++ (a7z W.hub n0).drop W.sink.length) 96) ?_
 refine dv 3 ?_
 exact ⟨({ W with sink := (W.sink ++ (a7z W.hub n0).drop W.sink.length) }, a7w okO b1x (W.sink ++ (a7z W.hub n0).drop W.sink.length) 96), ⟨f1s hW (by simp only [r5r, b3c]; omega), rfl, rfl⟩, [γ 0, γ 1], rfl, rfl, x5x⟩
end
section
theorem d1m (W : Tw) (ek en ep ew : Int) (eb : Bool) (hW : b9i W) : MethE Tryz.prog 290 2 [.agg [pI W.time, a4w true W.apps, .ref 0 0, .ref 1 0, pI W.hub.round, w0w true W.hub.ones, w0w true W.hub.twos, w0w true W.hub.outs, r9r true W.sink], .agg [pI ek, pI en, pI ep, pI ew, .pv (.bool eb)]] [(0, (0, .row 65 13 ((W.nodes).map (u1u true)))), (1, (0, .row 79 11 ((W.radio).map (u9u true))))] (ι := Tw × Bool) (fun S' => b9i S'.1 ∧ (S'.2 = false → S'.1.radio = W.radio)) (fun S' => kpB S'.2) (fun S' => .tup [.agg [pI S'.1.time, a4w true S'.1.apps, .ref 0 0, .ref 1 0, pI S'.1.hub.round, w0w true S'.1.hub.ones, w0w true S'.1.hub.twos, w0w true S'.1.hub.outs, r9r true S'.1.sink], .pv (.bool (S'.2))]) (fun S' => [(0, (0, .row 65 13 ((S'.1.nodes).map (u1u true)))), (1, (0, .row 79 11 ((S'.1.radio).map (u9u true))))]) := by
 refine mE (ι := Tw × Bool) Tryz.f290 (fun S' => [.agg [pI S'.1.time, a4w true S'.1.apps, .ref 0 0, .ref 1 0, pI S'.1.hub.round, w0w true S'.1.hub.ones, w0w true S'.1.hub.twos, w0w true S'.1.hub.outs, r9r true S'.1.sink], .pv (.bool (S'.2))]) 2 5 fun γ => ?_
 obtain ⟨n0, h0, h0I⟩ := b3m hW (i := 0) (by omega)
 have hHb := hW.2.2.2.2.2.1
 have hr40 := hW.2.2.2.1
 refine dv 1 ?_
 refine x9x (id := 2) rfl rfl rfl (x9x (id := 3) rfl rfl rfl (x3x (id := 4) b5o b8r rfl (dv 4 ?_)))
 refine q9q (.int .i64 (IntKind.i64.wrap (W.time + 1))) rfl rfl rfl rfl ?_
 refine dv 7 fun K K' => ?_
 refine r0r (ι := Bool) (fun b γ1 => [(16, .pv (.bool (b)))]) (fun b γ1 => []) (fun b => True) (r7r [2, 3, 4, 15] rfl) (a1m [0, 1, 2, 3, 4, 5, 6] rfl) ?_ fun b γ1 hi => ?_
 ·refine dc 3 (aI ?_ ?_)<;>intro h<;>try simp at h
  ·refine dv 1 ?_
   exact ⟨_, trivial, [], x7x, x7x, x5x, x5x, rfl⟩
  refine dc 3 (aI ?_ ?_)<;>intro h<;>try simp at h
  ·refine dv 1 ?_
   exact ⟨_, trivial, [], x7x, x7x, x5x, x5x, rfl⟩
  refine dc 3 (aI ?_ ?_)<;>intro h<;>try simp at h
  ·refine dv 1 ?_
   exact ⟨_, trivial, [], x7x, x7x, x5x, x5x, rfl⟩
  refine dv 3 ?_
  exact ⟨_, trivial, [], x7x, x7x, x5x, x5x, rfl⟩
 ·try dsimp only [b3d, b3e]
  refine dc 0 (aI ?_ ?_)<;>intro h<;>try simp at h
  ·refine s6s fun B X0 w0 => ?_
   refine txR 2 rfl rfl (dv 2 ?_)
   refine txM [0, 1] [_, _] (c4u { W with time := (IntKind.i64.wrap (W.time + 1)) } ek en ep ew eb hW) rfl rfl rfl rfl fun j hj => ?_
   obtain ⟨hj1, hj2⟩ := hj
   refine txR 4 rfl rfl (dv 4 ?_)
   refine z7z rfl (dv 1 ?_)
   exact ⟨j, ⟨hj1, hj2⟩, [_, _], (by cases hb : j.2 <;> rfl), rfl, x5x⟩
  refine r0r (ι := Bool) (fun b γ2 => [(26, .pv (.bool (b)))]) (fun b γ2 => []) (fun b => True) (r7r [2, 3, 4, 15] rfl) (a1m [0, 1, 2, 3, 4, 5, 6] rfl) ?_ fun b γ2 hi => ?_
  ·refine dc 3 (aI ?_ ?_)<;>intro h<;>try simp at h
   ·refine dv 1 ?_
    exact ⟨_, trivial, [], x7x, x7x, x5x, x5x, rfl⟩
   refine dv 3 ?_
   exact ⟨_, trivial, [], x7x, x7x, x5x, x5x, rfl⟩
  ·try dsimp only [b3d, b3e]
   refine dc 0 (aI ?_ ?_)<;>intro h<;>try simp at h
   ·refine s6s fun B X0 w0 => ?_
    refine txR 2 rfl rfl (dv 2 ?_)
    refine txM [0, 1] [_, _] (c3r { W with time := (IntKind.i64.wrap (W.time + 1)) } ek en ep ew eb hW) rfl rfl rfl rfl fun j hj => ?_
    obtain ⟨hj1, hj2⟩ := hj
    refine txR 4 rfl rfl (dv 4 ?_)
    refine z7z rfl (dv 1 ?_)
    exact ⟨j, ⟨hj1, hj2⟩, [_, _], (by cases hb : j.2 <;> rfl), rfl, x5x⟩
   refine dc 3 (aS ?_ ?_)<;>intro h<;>try simp at h
   ·refine dc 3 (aS ?_ ?_)<;>intro h<;>try simp at h
    ·refine dv 6 ?_
     exact ⟨({ W with time := (IntKind.i64.wrap (W.time + 1)) }, false), ⟨hW, fun _ => rfl⟩, [γ 0, γ 1], rfl, rfl, x5x⟩
    refine s6s fun B X0 w0 => ?_
    refine txR 1 rfl rfl (dv 1 ?_)
    refine txM [0, 1] [_, _] (c4v { W with time := (IntKind.i64.wrap (W.time + 1)) } hW) rfl rfl rfl rfl fun j hj => ?_
    obtain ⟨hj1, hj2, hj3⟩ := hj
    refine txR 4 rfl rfl (dv 4 ?_)
    refine z7z rfl (dv 1 ?_)
    exact ⟨j, ⟨hj1, fun _ => hj3⟩, [γ 0, γ 1], (d3l γ _ gl rfl rfl), rfl, HE.row rfl (by rw [hj2]) (HE.row rfl (by rw [hj3]) HE.nil)⟩
   refine dv 2 ?_
   refine y8y (out := .agg (a7k true W.hub)) rfl a6d rfl rfl ?_
   refine dv 2 ?_
   refine z1z (j := 0) rfl rfl a6t rfl u3u rfl rfl (z3z h0) (a0d rfl u3u rfl (by assumption) rfl rfl ?_)
   refine x0x rfl rfl rfl (c3m true W.hub n0) (dv 4 ?_)
   refine x3x (id := 5) a6d b5p rfl (x3x (id := 6) u3u p5p rfl (dv 8 ?_))
   refine z1z (j := 0) rfl rfl a6t rfl u3u rfl rfl (z3z h0) (dv 7 ?_)
   refine a0m rfl rfl a6d rfl rfl rfl rfl (s8s rfl) rfl ?_
   refine dv 4 ?_
   refine z1z (j := 0) rfl rfl a6t rfl u3u rfl rfl (z3z h0) ?_
   refine v6v (el' := (p4p W.hub n0).2.1) rfl rfl u3u rfl rfl rfl h0 rfl (q8q rfl) rfl rfl ?_
   refine dv 4 ?_
   refine rlM [1] [_] (a0p W.radio (p4p W.hub n0).2.2 hr40) rfl rfl rfl ?_
   refine dv 8 ?_
   exact ⟨({ W with time := (IntKind.i64.wrap (W.time + 1)), nodes := W.nodes.set 0 (p4p W.hub n0).2.1, radio := b1f W.radio (p4p W.hub n0).2.2, hub := (p4p W.hub n0).1 }, decide ((p4p W.hub n0).2.1.led > n0.led)), ⟨b3n (W := { W with nodes := _, hub := _ }) (d1l (a5j hW (f1l h0I hHb)) (d1e h0I.1 hHb)) (e2v W.hub n0), (by intro hf; rcases c3n ⟨hHb, h0I.1⟩ with ⟨h1, h2⟩ | h2; (rw [h1]; simp [b1f]); exact absurd h2 (of_decide_eq_false hf))⟩, [γ 0, _], (by rcases c3n ⟨hHb, h0I.1⟩ with ⟨h1, h2⟩ | h2; (rw [h1, decide_eq_false h2]; rfl); (rw [decide_eq_true h2]; rfl)), rfl, x5x⟩
end
section
theorem c8n (c : Bool) (bs : List Nat) : Meth Tryz.prog 107 1 [] [v5v c bs] [(0, (0, .dead))] (.ptr 0 0 0) [(0, (0, .box 243 [v5v c (bs.take 2000), .pv (.int .i64 0)]))] := by
 refine mX Tryz.f107 [.ptr 0 0 0] 1 0 fun γ => ?_
 refine dc 7 (fun K K' => aS ?_ ?_)<;>intro o<;>try simp at o
 ·refine dv 3 ?_
  refine rlB e7c e7g ?_
  refine x9x (id := 0) rfl rfl rfl (dv 2 ?_)
  exact ⟨[_], rfl, rfl, HE.box rfl (by show _ = [v5v c (bs.take 2000), _]; rw [List.take_of_length_le (by omega)]; rfl) HE.nil⟩
 refine dv 2 ?_
 refine c0m rfl e8r rfl f2g rfl rfl rfl (by omega) (by omega) (by omega) (dv 3 ?_)
 refine rlB e7c e7g ?_
 refine x9x (id := 0) rfl rfl rfl (dv 2 ?_)
 exact ⟨[_], rfl, rfl, x5x⟩
theorem x1x (c : Bool) (bs : List Nat) (p n : Nat) (hp : p < 1000000000) (hbs : ∀ b ∈ bs, b < 256) : Meth Tryz.prog 109 1 [0] [.ptr 0 0 0, .pv (.int .i64 (n : Int))] [(0, (0, .box 243 [v5v c bs, .pv (.int .i64 ((p : Nat) : Int))]))] (.pv (.int .i64 (pk bs p n : Int))) [(0, (0, .box 243 [v5v c bs, .pv (.int .i64 ((p + 1 : Nat) : Int))]))] := by
 refine mX Tryz.f109 [.pv (.int .i64 (pk bs p n : Int))] 1 0 fun γ => ?_
 refine dv 8 ?_
 refine x8x (b := 1) rfl rfl (by omega) (dc 8 (fun K K' => aS ?_ ?_))<;>intro o<;>try simp at o
 ·refine dv 10 ?_
  refine ⟨[γ 0], rfl, congrArg (fun v : Nat => some [AV.pv (.int .i64 (v : Int))]) (?_ : _ = pk bs p n), HE.box rfl rfl HE.nil⟩
  (rw [pk, if_pos (.inl (by omega))])
 refine dc 7 (aI ?_ ?_)<;>intro hc3<;>try simp at hc3
 ·refine dv 3 ?_
  refine ⟨[γ 0], rfl, congrArg (fun v : Nat => some [AV.pv (.int .i64 (v : Int))]) (?_ : _ = pk bs p n), HE.box rfl rfl HE.nil⟩
  (subst hc3; simp [pk]; done)
 refine dv 6 ?_
 refine q9q (.int .i64 (p : Int)) rfl rfl rfl (a6i rfl (by omega) (by omega) (by omega)) ?_
 refine dc 10 (fun K K' => aI ?_ ?_)<;>intro o<;>try simp at o
 ·refine dv 6 ?_
  have hj : bs[p]? = some (bs.getD (p) 0) := by rw [List.getD_eq_getElem?_getD, List.getElem?_eq_getElem (by omega)]; rfl
  have h256 := hbs _ (List.mem_of_getElem? hj)
  refine b0t (j := p) rfl rfl e8r rfl f2g rfl hj ?_
  refine dv 1 ?_
  refine c6r rfl f2g r1r rfl rfl (by omega) (dv 1 ?_)
  refine c6q rfl rfl (by omega) (dv 2 ?_)
  refine ⟨[γ 0], rfl, congrArg (fun v : Nat => some [AV.pv (.int .i64 (v : Int))]) (?_ : _ = pk bs p n), HE.box rfl rfl HE.nil⟩
  (rw [pk, if_neg (by omega), if_pos (by omega)])
 refine dv 12 ?_
 have hm0 : bs.length ≠ 0 := by intro h0; exact absurd (List.length_eq_zero_iff.1 h0) (by assumption)
 refine c6q rfl rfl hm0 ?_
 have hj1 : bs[p % bs.length]? = some (bs.getD (p % bs.length) 0) := by rw [List.getD_eq_getElem?_getD, List.getElem?_eq_getElem (Nat.mod_lt _ (by omega))]; rfl
 have h1 := hbs _ (List.mem_of_getElem? hj1)
 refine dv 2 ?_
 refine c6r rfl f2g r1r rfl rfl (by omega) (b8t (b := 131) rfl rfl (by omega) (dv 5 ?_))
 refine b8t (b := 7) rfl rfl (by omega) (x8x (b := 3) rfl rfl (by omega) (dv 5 ?_))
 refine c6q rfl rfl (by omega) ?_
 have hj2 : bs[(p * 7 + 3) % bs.length]? = some (bs.getD ((p * 7 + 3) % bs.length) 0) := by rw [List.getD_eq_getElem?_getD, List.getElem?_eq_getElem (Nat.mod_lt _ (by omega))]; rfl
 have h2 := hbs _ (List.mem_of_getElem? hj2)
 have hq := Nat.div_le_self p bs.length
 refine dv 2 ?_
 refine c6r rfl f2g r1r rfl rfl (by omega) (b8t (b := 1117) rfl rfl (by omega) (x8x rfl rfl (by omega) (dv 1 ?_)))
 refine b8t (b := 29) rfl rfl (by omega) (x8x rfl rfl (by omega) (dv 6 ?_))
 refine d2h rfl rfl (by omega) (by omega) (b8t (b := 53) rfl rfl (by omega) (x8x rfl rfl (by omega) (dv 4 ?_)))
 refine d2h (b := 64) rfl rfl (by omega) (by omega) (e8y rfl rfl (by omega) (by omega) (dv 4 ?_))
 refine c6q rfl rfl (by omega) (dv 2 ?_)
 refine ⟨[γ 0], rfl, congrArg (fun v : Nat => some [AV.pv (.int .i64 (v : Int))]) (?_ : _ = pk bs p n), HE.box rfl rfl HE.nil⟩
 (rw [pk, if_neg (by omega), if_neg (by omega)]; rfl)
theorem b1j (c c' : Bool) (l l' : List Int) : a0g Tryz.prog 160 [a3f c l, a3f c' l'] (.pv (.bool (decide (l = l')))) := by
 refine pX Tryz.f160 [.pv (.bool (decide (l = l')))] 0 ?_
 refine u2u 0 rfl fun hlen => ?_
 refine dc 9 (fun K K' => aI ?_ ?_)<;>intro o<;>try simp at o
 ·refine dv 3 ?_
  refine x2x rfl ?_ rfl
  exact f0m (by omega)
 refine dv 5 fun K K' => ?_
 refine x6x (ι := Nat) (fun i γ1 => [(5, pI (i : Int))]) (fun i γ1 => []) (fun i => i ≤ l.length ∧ l.length = l'.length ∧ l.take i = l'.take i) (fun i => l.length - i) (r7r [0, 1] rfl) HE.nil 0 ⟨by omega, by omega, rfl⟩ [] x7x x5x rfl fun i γ1 hi => ?_
 obtain ⟨h1, h2, h3⟩ := hi
 refine dc 6 (fun K K' => aS ?_ ?_)<;>intro o<;>try simp at o
 ·refine dv 4 ?_
  refine x2x rfl ?_ rfl
  exact eqT h3 (by omega) (by omega)
 refine dv 6 fun K K' => ?_
 obtain ⟨x, hx⟩ := gE l i
 refine dv 4 ?_
 obtain ⟨y, hy⟩ := gE l' i
 refine dc 3 (aS ?_ ?_)<;>intro o<;>try simp at o
 ·refine dv 3 ?_
  refine q9q (.int .i64 ((i + 1 : Nat) : Int)) rfl rfl rfl (a6i rfl (by omega) (by omega) (by have := hlen; omega)) ?_
  refine dv 1 ?_
  exact ⟨i + 1, ⟨⟨by omega, h2, a6m h3 hx hy (by assumption)⟩, by omega⟩, [], x7x, x7x, x5x, x5x, rfl⟩
 refine dv 3 ?_
 refine x2x rfl ?_ rfl
 exact d7y hx hy (by assumption)
theorem a5k (c c' : Bool) (l l' : List Ev) : a0g Tryz.prog 28 [a0t c l, a0t c' l'] (.pv (.bool (decide (l = l')))) := by
 refine pX Tryz.f28 [.pv (.bool (decide (l = l')))] 0 ?_
 refine u2u 0 rfl fun hlen => ?_
 refine dc 9 (fun K K' => aI ?_ ?_)<;>intro o<;>try simp at o
 ·refine dv 3 ?_
  refine x2x rfl ?_ rfl
  exact f0m (by omega)
 refine dv 5 fun K K' => ?_
 refine x6x (ι := Nat) (fun i γ1 => [(5, pI (i : Int))]) (fun i γ1 => []) (fun i => i ≤ l.length ∧ l.length = l'.length ∧ l.take i = l'.take i) (fun i => l.length - i) (r7r [0, 1] rfl) HE.nil 0 ⟨by omega, by omega, rfl⟩ [] x7x x5x rfl fun i γ1 hi => ?_
 obtain ⟨h1, h2, h3⟩ := hi
 refine dc 6 (fun K K' => aS ?_ ?_)<;>intro o<;>try simp at o
 ·refine dv 4 ?_
  refine x2x rfl ?_ rfl
  exact eqT h3 (by omega) (by omega)
 refine dv 6 fun K K' => ?_
 obtain ⟨x, hx⟩ := gE l i
 refine dv 4 ?_
 obtain ⟨y, hy⟩ := gE l' i
 refine dv 2 ?_
 refine a9c rfl rfl (by intro a c h; cases h) (.inr rfl) (f0l _ _ _ _) ?_
 refine dc 0 (aS ?_ ?_)<;>intro o<;>try simp at o
 ·refine dv 3 ?_
  refine q9q (.int .i64 ((i + 1 : Nat) : Int)) rfl rfl rfl (a6i rfl (by omega) (by omega) (by have := hlen; omega)) ?_
  refine dv 1 ?_
  exact ⟨i + 1, ⟨⟨by omega, h2, a6m h3 hx hy (by assumption)⟩, by omega⟩, [], x7x, x7x, x5x, x5x, rfl⟩
 refine dv 3 ?_
 refine x2x rfl ?_ rfl
 exact d7y hx hy (by assumption)
theorem b1k (c c' : Bool) (l l' : List Ou) : a0g Tryz.prog 29 [r9r c l, r9r c' l'] (.pv (.bool (decide (l = l')))) := by
 refine pX Tryz.f29 [.pv (.bool (decide (l = l')))] 0 ?_
 refine u2u 0 rfl fun hlen => ?_
 refine dc 9 (fun K K' => aI ?_ ?_)<;>intro o<;>try simp at o
 ·refine dv 3 ?_
  refine x2x rfl ?_ rfl
  exact f0m (by omega)
 refine dv 5 fun K K' => ?_
 refine x6x (ι := Nat) (fun i γ1 => [(5, pI (i : Int))]) (fun i γ1 => []) (fun i => i ≤ l.length ∧ l.length = l'.length ∧ l.take i = l'.take i) (fun i => l.length - i) (r7r [0, 1] rfl) HE.nil 0 ⟨by omega, by omega, rfl⟩ [] x7x x5x rfl fun i γ1 hi => ?_
 obtain ⟨h1, h2, h3⟩ := hi
 refine dc 6 (fun K K' => aS ?_ ?_)<;>intro o<;>try simp at o
 ·refine dv 4 ?_
  refine x2x rfl ?_ rfl
  exact eqT h3 (by omega) (by omega)
 refine dv 6 fun K K' => ?_
 obtain ⟨x, hx⟩ := gE l i
 refine dv 4 ?_
 obtain ⟨y, hy⟩ := gE l' i
 refine dv 2 ?_
 refine a9c rfl rfl (by intro a c h; cases h) (.inr rfl) (f6z _ _ _ _) ?_
 refine dc 0 (aS ?_ ?_)<;>intro o<;>try simp at o
 ·refine dv 3 ?_
  refine q9q (.int .i64 ((i + 1 : Nat) : Int)) rfl rfl rfl (a6i rfl (by omega) (by omega) (by have := hlen; omega)) ?_
  refine dv 1 ?_
  exact ⟨i + 1, ⟨⟨by omega, h2, a6m h3 hx hy (by assumption)⟩, by omega⟩, [], x7x, x7x, x5x, x5x, rfl⟩
 refine dv 3 ?_
 refine x2x rfl ?_ rfl
 exact d7y hx hy (by assumption)
theorem c4w (c c' : Bool) (l l' : List Pa) : a0g Tryz.prog 33 [b1p c l, b1p c' l'] (.pv (.bool (decide (l = l')))) := by
 refine pX Tryz.f33 [.pv (.bool (decide (l = l')))] 0 ?_
 refine u2u 0 rfl fun hlen => ?_
 refine dc 9 (fun K K' => aI ?_ ?_)<;>intro o<;>try simp at o
 ·refine dv 3 ?_
  refine x2x rfl ?_ rfl
  exact f0m (by omega)
 refine dv 5 fun K K' => ?_
 refine x6x (ι := Nat) (fun i γ1 => [(5, pI (i : Int))]) (fun i γ1 => []) (fun i => i ≤ l.length ∧ l.length = l'.length ∧ l.take i = l'.take i) (fun i => l.length - i) (r7r [0, 1] rfl) HE.nil 0 ⟨by omega, by omega, rfl⟩ [] x7x x5x rfl fun i γ1 hi => ?_
 obtain ⟨h1, h2, h3⟩ := hi
 refine dc 6 (fun K K' => aS ?_ ?_)<;>intro o<;>try simp at o
 ·refine dv 4 ?_
  refine x2x rfl ?_ rfl
  exact eqT h3 (by omega) (by omega)
 refine dv 6 fun K K' => ?_
 obtain ⟨x, hx⟩ := gE l i
 refine dv 2 ?_
 refine u4u (out := .agg (z2z x.ev)) rfl z4z rfl ?_
 refine dv 2 ?_
 obtain ⟨y, hy⟩ := gE l' i
 refine dv 2 ?_
 refine u4u (out := .agg (z2z y.ev)) rfl z4z rfl ?_
 refine a9c rfl rfl (by intro a c h; cases h) (.inr rfl) (f0l _ _ _ _) ?_
 refine dc 1 (aS ?_ ?_)<;>intro o<;>try simp at o
 ·refine dv 43 ?_
  refine x2x rfl ?_ rfl
  repeat clear K' K
  exact d7y hx hy (by (intro e; subst e; simp_all))
 refine dv 4 ?_
 refine u4u (out := .agg (a0s x.after)) rfl a4s rfl ?_
 refine dv 4 ?_
 refine u4u (out := .agg (a0s y.after)) rfl a4s rfl ?_
 refine dv 0 ?_
 refine a9c rfl rfl (by intro a c h; cases h) (.inr rfl) (f5g _ _ _ _) ?_
 refine dc 2 (aS ?_ ?_)<;>intro o<;>try simp at o
 ·refine dv 30 ?_
  refine x2x rfl ?_ rfl
  repeat clear K' K
  exact d7y hx hy (by (intro e; subst e; simp_all))
 refine dv 10 ?_
 refine x0x rfl rfl rfl (a5k ..) (dc 3 (aS ?_ ?_))<;>intro o<;>try simp at o
 ·refine dv 16 ?_
  refine x2x rfl ?_ rfl
  repeat clear K' K
  exact d7y hx hy (by (intro e; subst e; simp_all))
 refine dv 10 ?_
 refine x0x rfl rfl rfl (b1k ..) (dc 2 (aS ?_ ?_))<;>intro o<;>try simp at o
 ·refine dv 3 ?_
  refine q9q (.int .i64 ((i + 1 : Nat) : Int)) rfl rfl rfl (a6i rfl (by omega) (by omega) (by have := hlen; omega)) ?_
  refine dv 1 ?_
  repeat clear K' K
  exact ⟨i + 1, ⟨⟨by omega, h2, a6m h3 hx hy (by (cases x; cases y; simp_all))⟩, by omega⟩, [], x7x, x7x, x5x, x5x, rfl⟩
 refine dv 3 ?_
 refine x2x rfl ?_ rfl
 repeat clear K' K
 exact d7y hx hy (by (intro e; subst e; simp_all))
theorem b5d (c c' : Bool) (l l' : List Vi) : a0g Tryz.prog 65 [b9w c l, b9w c' l'] (.pv (.bool (decide (l = l')))) := by
 refine pX Tryz.f65 [.pv (.bool (decide (l = l')))] 0 ?_
 refine u2u 0 rfl fun hlen => ?_
 refine dc 9 (fun K K' => aI ?_ ?_)<;>intro o<;>try simp at o
 ·refine dv 3 ?_
  refine x2x rfl ?_ rfl
  exact f0m (by omega)
 refine dv 5 fun K K' => ?_
 refine x6x (ι := Nat) (fun i γ1 => [(5, pI (i : Int))]) (fun i γ1 => []) (fun i => i ≤ l.length ∧ l.length = l'.length ∧ l.take i = l'.take i) (fun i => l.length - i) (r7r [0, 1] rfl) HE.nil 0 ⟨by omega, by omega, rfl⟩ [] x7x x5x rfl fun i γ1 hi => ?_
 obtain ⟨h1, h2, h3⟩ := hi
 refine dc 6 (fun K K' => aS ?_ ?_)<;>intro o<;>try simp at o
 ·refine dv 4 ?_
  refine x2x rfl ?_ rfl
  exact eqT h3 (by omega) (by omega)
 refine dv 6 fun K K' => ?_
 obtain ⟨x, hx⟩ := gE l i
 refine dv 5 ?_
 obtain ⟨y, hy⟩ := gE l' i
 refine dc 5 (aS ?_ ?_)<;>intro o<;>try simp at o
 ·refine dv 29 ?_
  refine x2x rfl ?_ rfl
  repeat clear K' K
  exact d7y hx hy (by (intro e; subst e; simp_all))
 refine dc 13 (aS ?_ ?_)<;>intro o<;>try simp at o
 ·refine dv 16 ?_
  refine x2x rfl ?_ rfl
  repeat clear K' K
  exact d7y hx hy (by (intro e; subst e; simp_all))
 refine dv 10 ?_
 refine x0x rfl rfl rfl (a5k ..) (dc 2 (aS ?_ ?_))<;>intro o<;>try simp at o
 ·refine dv 3 ?_
  refine q9q (.int .i64 ((i + 1 : Nat) : Int)) rfl rfl rfl (a6i rfl (by omega) (by omega) (by have := hlen; omega)) ?_
  refine dv 1 ?_
  repeat clear K' K
  exact ⟨i + 1, ⟨⟨by omega, h2, a6m h3 hx hy (by (cases x; cases y; simp_all))⟩, by omega⟩, [], x7x, x7x, x5x, x5x, rfl⟩
 refine dv 3 ?_
 refine x2x rfl ?_ rfl
 repeat clear K' K
 exact d7y hx hy (by (intro e; subst e; simp_all))
theorem c8o (c c' : Bool) (a b : La) : a0g Tryz.prog 27 [.agg (q2q c a), .agg (q2q c' b)] (.pv (.bool (decide (a = b)))) := by
 refine pX Tryz.f27 [.pv (.bool (decide (a = b)))] 2 ?_
 refine dv 1 ?_
 refine x9x (id := 0) rfl rfl rfl (x9x (id := 1) rfl rfl rfl (dc 8 (aS ?_ ?_)))<;>intro o<;>try simp at o
 ·refine dv 14 ?_
  refine x2x rfl ?_ rfl
  cases a; cases b; simp_all [a2j]
 refine dv 1 ?_
 refine y8y (out := .agg (a0s a.base)) rfl a4s rfl rfl ?_
 refine dv 1 ?_
 refine y8y (out := .agg (a0s b.base)) rfl a4s rfl rfl ?_
 refine dv 0 ?_
 refine a9c rfl rfl (by intro a c h; cases h) (.inl rfl) (f5g _ _ _ _) ?_
 refine dc 2 (aS ?_ ?_)<;>intro o<;>try simp at o
 ·refine dv 7 ?_
  refine x2x rfl ?_ rfl
  cases a; cases b; simp_all [a2j]
 refine dv 4 ?_
 refine x0x rfl rfl rfl (c4w ..) (dv 3 ?_)
 refine x2x rfl ?_ rfl
 cases a; cases b; simp_all [a2j]
theorem b8c (c c' : Bool) (a b : Nd) : a0g Tryz.prog 64 [.agg (u1u c a), .agg (u1u c' b)] (.pv (.bool (decide (a.lanes = b.lanes)))) := by
 refine pX Tryz.f64 [.pv (.bool (decide (a.lanes = b.lanes)))] 2 ?_
 refine dv 1 ?_
 refine x9x (id := 0) rfl rfl rfl (x9x (id := 1) rfl rfl rfl (dc 10 (fun K K' => aI ?_ ?_)))<;>intro o<;>try simp at o
 ·refine dv 3 ?_
  refine x2x rfl ?_ rfl
  exact f0m (by omega)
 refine dv 5 fun K K' => ?_
 refine u2u 7 rfl fun hlen => ?_
 refine x6x (ι := Nat) (fun i γ1 => [(5, pI (i : Int))]) (fun i γ1 => []) (fun i => i ≤ a.lanes.length ∧ a.lanes.length = b.lanes.length ∧ a.lanes.take i = b.lanes.take i) (fun i => a.lanes.length - i) (r7r [2, 3] rfl) (a1m [0, 1] rfl) 0 ⟨by omega, by omega, rfl⟩ [] x7x x5x rfl fun i γ1 hi => ?_
 obtain ⟨h1, h2, h3⟩ := hi
 refine dc 7 (fun K K' => aS ?_ ?_)<;>intro o<;>try simp at o
 ·refine dv 4 ?_
  refine x2x rfl ?_ rfl
  exact eqT h3 (by omega) (by omega)
 refine dv 7 fun K K' => ?_
 obtain ⟨x, hx⟩ := gE a.lanes i
 refine dv 5 ?_
 obtain ⟨y, hy⟩ := gE b.lanes i
 refine dv 2 ?_
 refine x0x rfl rfl rfl (c8o ..) (dc 1 (aS ?_ ?_))<;>intro o<;>try simp at o
 ·refine dv 3 ?_
  refine q9q (.int .i64 ((i + 1 : Nat) : Int)) rfl rfl rfl (a6i rfl (by omega) (by omega) (by have := hlen; omega)) ?_
  refine dv 1 ?_
  exact ⟨i + 1, ⟨⟨by omega, h2, a6m h3 hx hy (by assumption)⟩, by omega⟩, [], x7x, x7x, x5x, x5x, rfl⟩
 refine dv 3 ?_
 refine x2x rfl ?_ rfl
 exact d7y hx hy (by assumption)
theorem b8d (c c' : Bool) (a b : Nd) : a0g Tryz.prog 59 [.agg (u1u c a), .agg (u1u c' b)] (.pv (.bool (decide (b0a a b)))) := by
 refine pX Tryz.f59 [.pv (.bool (decide (b0a a b)))] 2 ?_
 refine dv 1 ?_
 refine x9x (id := 0) rfl rfl rfl (x9x (id := 1) rfl rfl rfl (dc 9 (fun K K' => aS ?_ ?_)))<;>intro o<;>try simp at o
 ·refine dv 48 ?_
  refine x2x rfl ?_ rfl
  repeat clear K' K
  exact kF (by intro h; have h7 := congrArg List.length h.2.2.2.2.2.2; simp only [s2s] at h7; (simp_all [b0a]; done))
 refine dc 7 (aS ?_ ?_)<;>intro o<;>try simp at o
 ·refine dv 41 ?_
  refine x2x rfl ?_ rfl
  repeat clear K' K
  exact kF (by intro h; have h7 := congrArg List.length h.2.2.2.2.2.2; simp only [s2s] at h7; (simp_all [b0a]; done))
 refine dc 7 (aS ?_ ?_)<;>intro o<;>try simp at o
 ·refine dv 34 ?_
  refine x2x rfl ?_ rfl
  repeat clear K' K
  exact kF (by intro h; have h7 := congrArg List.length h.2.2.2.2.2.2; simp only [s2s] at h7; (simp_all [b0a]; done))
 refine dc 7 (aS ?_ ?_)<;>intro o<;>try simp at o
 ·refine dv 27 ?_
  refine x2x rfl ?_ rfl
  repeat clear K' K
  exact kF (by intro h; have h7 := congrArg List.length h.2.2.2.2.2.2; simp only [s2s] at h7; (simp_all [b0a]; done))
 refine dv 4 ?_
 refine x0x rfl rfl rfl (a5k ..) (dc 3 (aS ?_ ?_))<;>intro o<;>try simp at o
 ·refine dv 19 ?_
  refine x2x rfl ?_ rfl
  repeat clear K' K
  exact kF (by intro h; have h7 := congrArg List.length h.2.2.2.2.2.2; simp only [s2s] at h7; (simp_all [b0a]; done))
 refine dv 4 ?_
 refine x0x rfl rfl rfl (b1k ..) (dc 3 (aS ?_ ?_))<;>intro o<;>try simp at o
 ·refine dv 11 ?_
  refine x2x rfl ?_ rfl
  repeat clear K' K
  exact kF (by intro h; have h7 := congrArg List.length h.2.2.2.2.2.2; simp only [s2s] at h7; (simp_all [b0a]; done))
 refine dc 8 (aI ?_ ?_)<;>intro o<;>try simp at o
 ·refine dv 3 ?_
  refine x2x rfl ?_ rfl
  exact kF (by intro h; have h7 := congrArg List.length h.2.2.2.2.2.2; simp only [s2s] at h7; omega)
 refine dv 5 fun K K' => ?_
 refine u2u 50 rfl fun hlen => ?_
 refine x6x (ι := Nat) (fun i γ1 => [(5, pI (i : Int))]) (fun i γ1 => []) (fun i => i ≤ a.lanes.length ∧ a.lanes.length = b.lanes.length ∧ (a.lanes.map bp).take i = (b.lanes.map bp).take i) (fun i => a.lanes.length - i) (r7r [2, 3] rfl) (a1m [0, 1] rfl) 0 ⟨by omega, by omega, rfl⟩ [] x7x x5x rfl fun i γ1 hi => ?_
 obtain ⟨h1, h2, h3⟩ := hi
 refine dc 7 (fun K K' => aS ?_ ?_)<;>intro o<;>try simp at o
 ·refine dv 4 ?_
  refine x2x rfl ?_ rfl
  repeat clear K' K
  exact kT (by rw [List.take_of_length_le (by simp; omega), List.take_of_length_le (by simp; omega)] at h3; simp_all [b0a])
 refine dv 7 fun K K' => ?_
 obtain ⟨x, hx⟩ := gE a.lanes i
 refine dv 2 ?_
 refine u4u (out := .agg (a0s x.base)) rfl a4s rfl ?_
 refine dv 3 ?_
 obtain ⟨y, hy⟩ := gE b.lanes i
 refine dv 2 ?_
 refine u4u (out := .agg (a0s y.base)) rfl a4s rfl ?_
 refine a9c rfl rfl (by intro a c h; cases h) (.inr rfl) (f5g _ _ _ _) ?_
 refine dc 1 (aS ?_ ?_)<;>intro o<;>try simp at o
 ·refine dv 17 ?_
  refine x2x rfl ?_ rfl
  repeat clear K' K
  exact kF (by intro h; have := e1v h.2.2.2.2.2.2 hx hy; simp_all [bp])
 refine dc 14 (aS ?_ ?_)<;>intro o<;>try simp at o
 ·refine dv 3 ?_
  refine q9q (.int .i64 ((i + 1 : Nat) : Int)) rfl rfl rfl (a6i rfl (by omega) (by omega) (by have := hlen; omega)) ?_
  refine dv 1 ?_
  repeat clear K' K
  exact ⟨i + 1, ⟨⟨by omega, h2, a6m h3 (c7w hx) (c7w hy) (by simp_all [bp])⟩, by omega⟩, [], x7x, x7x, x5x, x5x, rfl⟩
 refine dv 3 ?_
 refine x2x rfl ?_ rfl
 repeat clear K' K
 exact kF (by intro h; have := e1v h.2.2.2.2.2.2 hx hy; simp_all [bp])
theorem b8e (c c' : Bool) (a b : Nd) : a0g Tryz.prog 56 [.agg (u1u c a), .agg (u1u c' b)] (.pv (.bool (decide (a = b)))) := by
 refine pX Tryz.f56 [.pv (.bool (decide (a = b)))] 2 ?_
 refine dv 1 ?_
 refine x9x (id := 0) rfl rfl rfl (x9x (id := 1) rfl rfl rfl (dv 6 ?_))
 refine a9c rfl rfl (by intro p q h h'; cases h; cases h'; rfl) (.inl rfl) (d4j Tryz.underlying4 _ _ _ _) ?_
 refine dc 1 (aS ?_ ?_)<;>intro o<;>try simp at o
 ·refine dv 45 ?_
  refine x2x rfl ?_ rfl
  repeat clear K' K
  exact kF (by intro h; subst h; simp_all [b0a, a2j])
 refine dv 2 ?_
 refine x0x rfl rfl rfl (b8d ..) (dc 2 (aS ?_ ?_))<;>intro o<;>try simp at o
 ·refine dv 40 ?_
  refine x2x rfl ?_ rfl
  repeat clear K' K
  exact kF (by intro h; subst h; simp_all [b0a, a2j])
 refine dv 2 ?_
 refine x0x rfl rfl rfl (b8c ..) (dc 2 (aS ?_ ?_))<;>intro o<;>try simp at o
 ·refine dv 35 ?_
  refine x2x rfl ?_ rfl
  repeat clear K' K
  exact kF (by intro h; subst h; simp_all [b0a, a2j])
 refine dc 7 (aS ?_ ?_)<;>intro o<;>try simp at o
 ·refine dv 28 ?_
  refine x2x rfl ?_ rfl
  repeat clear K' K
  exact kF (by intro h; subst h; simp_all [b0a, a2j])
 refine dv 4 ?_
 refine x0x rfl rfl rfl (b5d ..) (dc 2 (aS ?_ ?_))<;>intro o<;>try simp at o
 ·refine dv 21 ?_
  refine x2x rfl ?_ rfl
  repeat clear K' K
  exact kF (by intro h; subst h; simp_all [b0a, a2j])
 refine dv 4 ?_
 refine x0x rfl rfl rfl (b1j ..) (dc 2 (aS ?_ ?_))<;>intro o<;>try simp at o
 ·refine dv 14 ?_
  refine x2x rfl ?_ rfl
  repeat clear K' K
  exact kF (by intro h; subst h; simp_all [b0a, a2j])
 refine dc 7 (aS ?_ ?_)<;>intro o<;>try simp at o
 ·refine dv 7 ?_
  refine x2x rfl ?_ rfl
  repeat clear K' K
  exact kF (by intro h; subst h; simp_all [b0a, a2j])
 refine dv 8 ?_
 refine x2x rfl ?_ rfl
 repeat clear K' K
 (cases a; cases b; simp_all [b0a, a2j]; rfl)
end
end Go.Proofs.YtlgknoapdbpojaaGreat.Am
