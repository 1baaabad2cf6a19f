/- Part 5 of the texts that the proof of LawFnExactNodeView leans on, merged by program. -/
import Derived.Test.YtpadkogpeobboaaGreatKk4
set_option linter.unusedVariables false
set_option linter.unusedSimpArgs false
namespace Go.Proofs.YtpadkogpeobboaaGreat.Am
open Go Go.RowKit
section
theorem b6a (c : Bool) (p : Pa) (ps : List Pa) : Meth Tryz.prog 216 1 [0] [.ptr 0 0 0, .agg (a0s c p)] [(0, (0, .chn 240 243 ((ps).map (a0s c))))] (.tup []) [(0, (0, .chn 240 243 ((ps ++ [p]).map (a0s c))))] := by
 refine u7u x9x (fn := Tryz.f216) (by kernel_rfl) (by kernel_rfl) rfl (O0 := []) 1 2 (v7v rfl) (by rfl) (by repeat (first | exact BndH.nil | refine BndH.chn ?_)) (by repeat (first | exact BndH.nil | refine BndH.chn ?_)) (by rfl) fun γ => ?_
 show Ex Tryz.prog _ _ [(0, .ptr 0 (γ 0) 0), (1, .agg (a0s c p))] [(0, ((γ 0), .chn 240 243 ((ps).map (a0s c)))), (2, (0, .dead)), (1, (0, .dead))] _
 refine d0i ?_
 refine c6p 0 rfl fun b0 bs hbl hbn => ?_
 have hbl2 : bs.length = ps.length := by rw [hbl, List.length_map]
 refine x6x x9x (by rfl) ?_
 refine v4v (id := 1) rfl rfl rfl ?_
 refine x6x x9x (by rfl) ?_
 refine y8y rfl w1w rfl rfl rfl ?_
 refine a0c b5i rfl d8a rfl (by simp only [pI, w1w, T78, a0q, d9w, a2w, r2r, AV.okc, AV.one, Value.oneCell', List.map_cons, List.map_nil, List.getElem?_cons_zero, List.getElem?_cons_succ, List.take_succ_cons, List.take_zero, List.drop_succ_cons, List.drop_zero, List.cons_append, List.nil_append, List.length_cons, List.length_nil, if_true, and_self, Nat.reduceAdd, Nat.reduceLeDiff]; rfl) ?_
 refine v4v (id := 2) rfl rfl rfl ?_
 refine x2x rfl ?_
 refine x7x fun K1 hK1 => ?_
 refine d0k 4 0 2 rfl rfl (by intro h; cases h) rfl rfl rfl fun bn hbn2 => ?_
 refine x6x x9x (by rfl) ?_
 refine x1x rfl ?_
 refine w3w rfl rfl ?_
 refine x0x rfl a8w rfl rfl a0q rfl rfl ?_
 refine b3h x9x (out := .pv (a3r bs.getLast?)) rfl a0q rfl rfl ?_
 refine a8p rfl rfl (by intro a c h h2; cases h; cases h2; rfl) (.inl rfl) (b7l (by kernel_rfl) _ _ _) ?_
 refine y0y rfl (fun hc2 => ?_) (fun hc2 => ?_)
 ·try simp at hc2
  obtain rfl : bs = [] := by cases bs with | nil => rfl | cons b r => (simp [List.getLast?_cons, a2n] at hc2)
  obtain rfl : ps = [] := List.eq_nil_of_length_eq_zero (by simpa using hbl2.symm)
  refine y2y x9x (by rfl) ?_
  refine x1x rfl ?_
  refine x1x rfl ?_
  refine w3w rfl rfl ?_
  refine x0x rfl a8w rfl rfl a0q rfl rfl ?_
  refine a8c x9x rfl rfl a0q rfl rfl rfl rfl rfl ?_
  refine hK1 _ _ ?_
  clear hK1 K1
  refine y2y x9x (by rfl) ?_
  refine x1x rfl ?_
  refine x1x rfl ?_
  refine w3w rfl rfl ?_
  refine x0x rfl a8w rfl rfl a0q rfl rfl ?_
  refine a8c x9x rfl rfl a0q rfl rfl rfl rfl rfl ?_
  refine Conv.step (b6g 0 b0 240 243 ([bn]) ([a0s c p]) rfl rfl rfl) (Conv.done ?_)
  exact ⟨.inl rfl, [γ 0], rfl, rfl, HE.same rfl HE.nil⟩
 try simp at hc2
 obtain ⟨bs0, bl, rfl⟩ := d0h (l := bs) (by exact hc2)
 obtain ⟨ps0, pl, rfl⟩ := d0h (l := ps) (by rintro rfl; simp at hbl2)
 refine y2y x9x (by rfl) ?_
 refine x1x rfl ?_
 refine w3w rfl rfl ?_
 refine x0x rfl a8w rfl rfl a0q rfl rfl ?_
 refine b3h x9x (out := PQ bl 0) rfl a0q rfl (by rw [List.getLast?_concat]; rfl) ?_
 refine x1x rfl ?_
 refine b1z rfl ?_
 refine a1f x9x rfl b5i rfl rfl a0q rfl ?_
 refine c3m x9x (bty := 243) ((b0, 240, [.pv (a3r (bs0 ++ [bl]).head?), .pv (a3r (bs0 ++ [bl]).getLast?)]) :: b4m 243 (some bl) bs0 (ps0.map (a0s c))) [(bn, 243, a0s c p ++ [.pv (.pointer none)])] (cs := a0s c pl ++ [.pv (.pointer none)]) 0 rfl rfl a0q rfl rfl rfl (by rw [chB, List.map_append, List.map_cons, List.map_nil, c3l (by rw [List.length_map]; simpa using hbl2)]; simp [a3r]) (v7v rfl) rfl ?_
 refine hK1 _ _ ?_
 clear hK1 K1
 refine y2y x9x (by rfl) ?_
 refine x1x rfl ?_
 refine x1x rfl ?_
 refine w3w rfl rfl ?_
 refine x0x rfl a8w rfl rfl a0q rfl rfl ?_
 refine a8c x9x rfl rfl a0q rfl rfl rfl rfl rfl ?_
 refine Conv.step (b6g 0 b0 240 243 (bs0 ++ [bl] ++ [bn]) (((ps0 ++ [pl]) ++ [p]).map (a0s c)) rfl (by simp at hbl2 ⊢; exact hbl2) (by rw [List.map_append, List.map_cons (l := []), List.map_nil, c6o (by rw [List.length_map]; exact hbl2), List.map_append, List.map_cons, List.map_nil, c3l (by rw [List.length_map]; simpa using hbl2)]; cases bs0 <;> simp [a3r] <;> rfl)) (Conv.done ?_)
 exact ⟨.inl rfl, [γ 0], rfl, rfl, HE.same rfl HE.nil⟩
theorem b1n (c : Bool) (l : List Pa) : Meth Tryz.prog 150 1 [] [a3p c l] [(0, (0, .dead))] (.ptr 0 0 0) [(0, (0, .chn 240 243 ((l).map (a0s c))))] := by
 refine u7u x9x (fn := Tryz.f150) (by kernel_rfl) (by kernel_rfl) rfl (O0 := [.ptr 0 0 0]) 1 1 (v7v rfl) (by rfl) (by repeat (first | exact BndH.nil | refine BndH.dead ?_)) (by repeat (first | exact BndH.nil | refine BndH.chn ?_)) (by rfl) fun γ => ?_
 show Ex Tryz.prog _ _ [(0, a3p c l)] [(0, ((γ 0), .dead)), (1, (0, .dead))] _
 refine w4w 0 rfl fun hlen => ?_
 refine x6x x9x (by rfl) ?_
 refine x2x rfl ?_
 refine x6x x9x (by rfl) ?_
 refine a0c a8w rfl d7z rfl (by simp only [pI, a2w, r2r, AV.okc, AV.one, T3, T4, List.getElem?_cons_zero, List.getElem?_cons_succ, List.take_succ_cons, List.take_zero, List.drop_succ_cons, List.drop_zero, List.cons_append, List.nil_append, List.length_cons, List.length_nil, if_true, and_self, Nat.reduceAdd, Nat.reduceLeDiff]; rfl) ?_
 refine v4v (id := 0) rfl rfl rfl ?_
 refine x2x rfl ?_
 refine x7x fun K1 hK1 => ?_
 refine x6x x9x (by rfl) ?_
 refine x1x rfl ?_
 refine u3u rfl w0w rfl ?_
 refine x1x rfl ?_
 refine y6y ?_
 refine d0j 0 243 rfl ?_
 refine u5u (ι := Nat) (fun i γ1 => [(10, .pv (.int .i64 (i : Int)))]) (fun i γ1 => [(0, ((γ 0 + 1), .chn 240 243 ((l.take i).map (a0s c)))), (1, ((γ1 1), .dead))]) (fun i => i ≤ l.length) (fun i => l.length - i) (x4x 3 rfl (x4x 8 rfl (x4x 9 rfl Cov.nil))) HE.nil 0 (by omega) [0, _] (x4x 10 rfl Cov.nil) (HE.chn rfl (by rw [List.take_zero]; rfl) (HE.kill rfl HE.nil)) rfl fun i γ1 hi => ?_
 try dsimp only [List.cons_append, List.nil_append]
 refine x6x x9x (by rfl) ?_
 refine y4y rfl rfl rfl ?_
 refine x7x fun K2 hK2 => ?_
 refine y0y rfl (fun hc3 => ?_) (fun hc3 => ?_)
 rotate_left
 ·try simp at hc3
  obtain rfl : i = l.length := by omega
  refine v0v ?_
  refine hK1 _ _ ?_
  clear hK2 K2 hK1 K1
  refine x6x x9x (by rfl) ?_
  refine x1x rfl ?_
  refine x2x rfl ?_
  refine y3y ?_
  rw [List.take_length]
  exact ⟨.inr rfl, [_], rfl, rfl, HE.same rfl HE.nil⟩
 try simp at hc3
 obtain ⟨p, hp⟩ : ∃ p, l[i]? = some p := w5w (by omega)
 refine y1y ?_
 refine hK2 _ _ ?_
 clear hK2 K2
 refine x7x fun K4 hK4 => ?_
 refine y6y ?_
 refine x6x x9x (by rfl) ?_
 refine u0u rfl rfl w0w rfl w1w rfl (by assumption) ?_
 refine z5z rfl w1w rfl rfl ?_
 refine v3v (id := 1) w1w b5o rfl ?_
 refine u2u rfl rfl w1w rfl rfl rfl rfl ?_
 refine y2y x9x (by rfl) ?_
 refine x1x rfl ?_
 refine y8y rfl w1w rfl rfl rfl ?_
 refine v2v [0] [_] (b6a c p (l.take i)) rfl rfl rfl (by decide) rfl rfl (by repeat (first | exact InH.nil | refine InH.cons rfl ?_)) (by (simp only [pI, z8z, z9z, p8p, gl, nx, p6p, Nat.beq]; rfl)) (by (simp only [pI, z8z, z9z, p8p, gl, nx, p6p, Nat.beq]; rfl)) ?_
 refine hK4 _ _ ?_
 clear hK4 K4
 refine y2y x9x (by rfl) ?_
 refine u1u (b := 1) rfl rfl (by omega) ?_
 refine x1x rfl ?_
 exact ⟨i + 1, ⟨by omega, by omega⟩, [0, _], (x4x 10 rfl Cov.nil), (x4x 3 rfl (x4x 8 rfl (x4x 9 rfl Cov.nil))), (HE.chn rfl (by rw [p2p hp]) (HE.kill rfl HE.nil)), HE.nil, rfl⟩
theorem a4t (c c' : Bool) (ps : List Pa) (s : List Ev) : Meth Tryz.prog 151 1 [0] [.ptr 0 0 0, r7r c' s] [(0, (0, .chn 240 243 ((ps).map (a0s c))))] (.pv (.int .i64 (same ps s : Int))) [] := by
 refine u7u x9x (fn := Tryz.f151) (by kernel_rfl) (by kernel_rfl) rfl (O0 := [.pv (.int .i64 (same ps s : Int))]) 1 0 (v7v rfl) (by rfl) (by repeat (first | exact BndH.nil | refine BndH.chn ?_)) (by repeat (exact BndH.nil)) (by rfl) fun γ => ?_
 show Ex Tryz.prog _ _ [(0, .ptr 0 (γ 0) 0), (1, r7r c' s)] [(0, ((γ 0), .chn 240 243 ((ps).map (a0s c))))] _
 refine w4w 1 rfl fun hlen => ?_
 refine c6p 0 rfl fun b0 bs hbl hbn => ?_
 have hbl2 : bs.length = ps.length := by rw [hbl, List.length_map]
 refine x6x x9x (by rfl) ?_
 refine x2x rfl ?_
 refine x6x x9x (by rfl) ?_
 refine x2x rfl ?_
 refine x7x fun K1 hK1 => ?_
 refine x6x x9x (by rfl) ?_
 refine x1x rfl ?_
 refine w3w rfl rfl ?_
 refine x0x rfl a8w rfl rfl a0q rfl rfl ?_
 refine b3h x9x (out := .pv (a3r bs.head?)) rfl a0q rfl rfl ?_
 refine x2x rfl ?_
 refine y6y ?_
 refine u5u (ι := Nat) (fun i γ1 => [(5, .pv (.int .i64 (i : Int))), (6, .pv (a3r bs[i]?))]) (fun i γ1 => []) (fun i => i ≤ ps.length ∧ i ≤ s.length ∧ same ps s = i + same (ps.drop i) (s.drop i)) (fun i => ps.length - i) (x4x 1 rfl Cov.nil) (x5x 0 rfl HE.nil) 0 ⟨by omega, by omega, by rw [List.drop_zero, List.drop_zero, Nat.zero_add]⟩ [] (x4x 5 rfl (Cov.cons' (t := 6) rfl ((by rw [List.head?_eq_getElem?])) Cov.nil)) HE.nil rfl fun i γ1 hi => ?_
 try dsimp only [List.cons_append, List.nil_append]
 obtain ⟨h1, h2, h3⟩ := hi
 refine x7x fun K2 hK2 => ?_
 refine q5q x9x r6r (by rfl) ?_
 refine x1x rfl ?_
 refine a8p rfl rfl (by intro a c h h2; cases h; cases h2; rfl) (.inr rfl) (b7l (by kernel_rfl) _ _ _) ?_
 refine x1x rfl ?_
 refine a0b rfl rfl (fun hg3 => ?_) (fun hg3 => ?_)
 rotate_left
 ·try simp at hg3
  have g1 : ps.length ≤ i := by omega
  refine x8x rfl rfl ?_
  refine x8x rfl rfl ?_
  refine x8x rfl rfl ?_
  refine y5y rfl rfl ?_
  refine x1x rfl ?_
  refine x8x rfl rfl ?_
  refine x8x rfl rfl ?_
  refine x8x rfl rfl ?_
  refine x8x rfl rfl ?_
  refine x8x rfl rfl ?_
  refine x8x rfl rfl ?_
  refine x8x rfl rfl ?_
  refine x8x rfl rfl ?_
  refine x8x rfl rfl ?_
  refine x8x rfl rfl ?_
  refine y5y rfl rfl ?_
  refine ⟨by kernel_rfl, ?_⟩
  refine y0y rfl (fun hc8 => ?_) (fun hc8 => ?_)
  ·simp at hc8
  try simp at hc8
  try have heq : ¬ p.ev = e := by simpa [a2n] using hc8
  refine v0v ?_
  refine hK1 _ _ ?_
  clear hK2 K2 hK1 K1
  refine x6x x9x (by rfl) ?_
  refine x1x rfl ?_
  refine x2x rfl ?_
  refine b3f 0 b0 240 243 (bs) (ps.map (a0s c)) rfl hbl rfl ?_
  refine y3y ?_
  refine ⟨.inr rfl, [γ 0], rfl, ?_, HE.same rfl HE.nil⟩
  exact congrArg (fun v : Nat => some [AV.pv (.int .i64 (v : Int))]) (h3.trans (by rw [c3v g1]; rfl)).symm
 try simp at hg3
 obtain ⟨b, hb⟩ : ∃ b, bs[i]? = some b := w5w (by omega)
 rw [hb]
 have g1 : i < ps.length := by have := (List.getElem?_eq_some_iff.1 hb).1; omega
 obtain ⟨p, hp⟩ : ∃ p, ps[i]? = some p := w5w (by omega)
 refine x1x rfl ?_
 refine y7y rfl rfl ?_
 refine x1x rfl ?_
 refine y7y rfl rfl ?_
 refine u3u rfl u4u rfl ?_
 refine y7y rfl rfl ?_
 refine y4y rfl rfl rfl ?_
 refine z0z rfl rfl ?_
 refine x1x rfl ?_
 refine a0b rfl rfl (fun hg4 => ?_) (fun hg4 => ?_)
 rotate_left
 ·try simp at hg4
  have g2 : s.length ≤ i := by omega
  refine x8x rfl rfl ?_
  refine x8x rfl rfl ?_
  refine x8x rfl rfl ?_
  refine x8x rfl rfl ?_
  refine x8x rfl rfl ?_
  refine x8x rfl rfl ?_
  refine x8x rfl rfl ?_
  refine x8x rfl rfl ?_
  refine x8x rfl rfl ?_
  refine y5y rfl rfl ?_
  refine ⟨by kernel_rfl, ?_⟩
  refine y0y rfl (fun hc7 => ?_) (fun hc7 => ?_)
  ·simp at hc7
  try simp at hc7
  try have heq : ¬ p.ev = e := by simpa [a2n] using hc7
  refine v0v ?_
  refine hK1 _ _ ?_
  clear hK2 K2 hK1 K1
  refine x6x x9x (by rfl) ?_
  refine x1x rfl ?_
  refine x2x rfl ?_
  refine b3f 0 b0 240 243 (bs) (ps.map (a0s c)) rfl hbl rfl ?_
  refine y3y ?_
  refine ⟨.inr rfl, [γ 0], rfl, ?_, HE.same rfl HE.nil⟩
  exact congrArg (fun v : Nat => some [AV.pv (.int .i64 (v : Int))]) (h3.trans (by rw [c3w g2]; rfl)).symm
 try simp at hg4
 have g2 : i < s.length := by omega
 obtain ⟨e, he⟩ : ∃ e, s[i]? = some e := w5w (by omega)
 refine x1x rfl ?_
 refine y7y rfl rfl ?_
 refine b1z rfl ?_
 refine y7y rfl rfl ?_
 refine a1f x9x rfl b5i rfl rfl w1w rfl ?_
 refine y7y rfl rfl ?_
 refine a1f x9x rfl w1w rfl rfl z3z rfl ?_
 refine y7y rfl rfl ?_
 refine b3g x9x (out := .agg (v9v p.ev)) 0 rfl z3z rfl (b7m hbl hb (b2g hp)) rfl ?_
 refine y7y rfl rfl ?_
 refine x1x rfl ?_
 refine y7y rfl rfl ?_
 refine x1x rfl ?_
 refine y7y rfl rfl ?_
 refine u0u rfl rfl u4u rfl z3z rfl he ?_
 refine y7y rfl rfl ?_
 refine z7z (out := .agg (v9v e)) rfl z3z rfl ?_
 refine y7y rfl rfl ?_
 refine a8p rfl rfl (by intro a c h; cases h) (.inl rfl) (d6x _ _ _ _) ?_
 refine z0z rfl rfl ?_
 refine ⟨by kernel_rfl, ?_⟩
 refine y0y rfl (fun hc5 => ?_) (fun hc5 => ?_)
 rotate_left
 ·try simp at hc5
  try have heq : ¬ p.ev = e := by simpa [a2n] using hc5
  refine v0v ?_
  refine hK1 _ _ ?_
  clear hK2 K2 hK1 K1
  refine x6x x9x (by rfl) ?_
  refine x1x rfl ?_
  refine x2x rfl ?_
  refine b3f 0 b0 240 243 (bs) (ps.map (a0s c)) rfl hbl rfl ?_
  refine y3y ?_
  refine ⟨.inr rfl, [γ 0], rfl, ?_, HE.same rfl HE.nil⟩
  exact congrArg (fun v : Nat => some [AV.pv (.int .i64 (v : Int))]) (h3.trans (by rw [c3u hp he heq]; rfl)).symm
 try simp at hc5
 try have heq : p.ev = e := by simpa [a2n] using hc5
 refine y1y ?_
 refine hK2 _ _ ?_
 clear hK2 K2
 refine x7x fun K6 hK6 => ?_
 refine y6y ?_
 refine y2y x9x (by rfl) ?_
 refine x1x rfl ?_
 refine u1u (b := 1) rfl rfl (by omega) ?_
 refine x2x rfl ?_
 refine hK6 _ _ ?_
 clear hK6 K6
 refine y2y x9x (by rfl) ?_
 refine x1x rfl ?_
 refine b1z rfl ?_
 refine a1f x9x rfl b5i rfl rfl a0q rfl ?_
 refine b3g x9x (out := .pv (a3r bs[i + 1]?)) 0 rfl a0q rfl (b7m hbl hb (b2g hp)) rfl ?_
 refine x2x rfl ?_
 exact ⟨i + 1, ⟨⟨by omega, by omega, by rw [h3, c3t hp he heq]; omega⟩, by omega⟩, [], (x4x 5 rfl (x4x 6 rfl Cov.nil)), (x4x 1 rfl Cov.nil), HE.nil, (x5x 0 rfl HE.nil), rfl⟩
theorem b5d (c : Bool) (ps : List Pa) (hlp : ps.length ≤ 1000000) : Meth Tryz.prog 239 1 [0] [.ptr 0 0 0] [(0, (0, .chn 240 243 ((ps).map (a0s c))))] (a3p c ps) [] := by
 refine u7u x9x (fn := Tryz.f239) (by kernel_rfl) (by kernel_rfl) rfl (O0 := [a3p c ps]) 1 3 (v7v rfl) (by rfl) (by repeat (first | exact BndH.nil | refine BndH.chn ?_)) (by repeat (exact BndH.nil)) (by rfl) fun γ => ?_
 show Ex Tryz.prog _ _ [(0, .ptr 0 (γ 0) 0)] [(0, ((γ 0), .chn 240 243 ((ps).map (a0s c)))), (3, (0, .dead)), (2, (0, .dead)), (1, (0, .dead))] _
 refine c6p 0 rfl fun b0 bs hbl hbn => ?_
 have hbl2 : bs.length = ps.length := by rw [hbl, List.length_map]
 refine x6x x9x (by rfl) ?_
 refine x2x rfl ?_
 refine x6x x9x (by rfl) ?_
 refine x2x rfl ?_
 refine x7x fun K1 hK1 => ?_
 refine x6x x9x (by rfl) ?_
 refine x1x rfl ?_
 refine w3w rfl rfl ?_
 refine x0x rfl a8w rfl rfl a0q rfl rfl ?_
 refine b3h x9x (out := .pv (a3r bs.head?)) rfl a0q rfl rfl ?_
 refine x2x rfl ?_
 refine y6y ?_
 refine a2r 3 3 78 12 rfl rfl ?_
 refine u5u (ι := Nat) (fun i γ1 => [(3, .ref 3 (γ1 3)), (4, .pv (a3r bs[i]?))]) (fun i γ1 => [(3, ((γ1 3), .row 78 12 ((ps.take i).map (a0s c)))), (1, ((γ1 1), .dead)), (2, ((γ1 2), .dead))]) (fun i => i ≤ ps.length) (fun i => ps.length - i) Cov.nil (x5x 0 rfl HE.nil) 0 (by omega) [0, _, _, _] (x4x 3 rfl (Cov.cons' (t := 4) rfl ((by rw [List.head?_eq_getElem?])) Cov.nil)) (HE.row rfl (by rw [List.take_zero]; rfl) (HE.kill rfl (HE.kill rfl HE.nil))) rfl fun i γ1 hi => ?_
 try dsimp only [List.cons_append, List.nil_append]
 refine x7x fun K2 hK2 => ?_
 refine x6x x9x (by rfl) ?_
 refine x1x rfl ?_
 refine a8p rfl rfl (by intro a c h h2; cases h; cases h2; rfl) (.inr rfl) (b7l (by kernel_rfl) _ _ _) ?_
 refine y0y rfl (fun hc3 => ?_) (fun hc3 => ?_)
 rotate_left
 ·try simp at hc3
  obtain rfl : i = ps.length := by omega
  rw [List.take_length]
  refine v0v ?_
  refine hK1 _ _ ?_
  clear hK2 K2 hK1 K1
  refine x6x x9x (by rfl) ?_
  refine x1x rfl ?_
  refine x2x rfl ?_
  refine c9r (b := .row (.rd true) 78 12 (ps.map (a0s c))) 2 rfl (.ref rfl (Le.ow_map _ (fun _ => rfl) (fun _ => rfl)) .nil) ?_
  refine c9r (b := a3p c ps) 2 rfl (.le rfl (Le.low_map fun _ => rfl) .nil) ?_
  refine b3f 0 b0 240 243 (bs) (ps.map (a0s c)) rfl hbl rfl ?_
  refine y3y ?_
  exact ⟨.inr rfl, [γ 0], rfl, rfl, HE.same rfl HE.nil⟩
 try simp at hc3
 obtain ⟨b, hb⟩ : ∃ b, bs[i]? = some b := w5w (by omega)
 rw [hb]
 have g1 : i < ps.length := by have := (List.getElem?_eq_some_iff.1 hb).1; omega
 obtain ⟨p, hp⟩ : ∃ p, ps[i]? = some p := w5w (by omega)
 refine y1y ?_
 refine hK2 _ _ ?_
 clear hK2 K2
 refine x7x fun K4 hK4 => ?_
 refine y6y ?_
 refine y2y x9x (by rfl) ?_
 refine x1x rfl ?_
 refine x1x rfl ?_
 refine b1z rfl ?_
 refine a1f x9x rfl b5i rfl rfl w1w rfl ?_
 refine b3g x9x (out := .agg (a0s c p)) 0 rfl w1w rfl (b7m hbl hb (b2g hp)) rfl ?_
 refine s4s (id := 1) w0w rfl w1w rfl rfl rfl rfl rfl rfl ?_
 refine s5s (zs := (ps.take i ++ [p]).map (a0s c)) rfl rfl w0w rfl w1w rfl rfl rfl rfl (by rfl) (a1c _ _ _) (by simp only [List.length_map, List.length_append, List.length_cons, List.length_nil, List.length_take, T78]; omega) ?_
 refine x2x rfl ?_
 refine hK4 _ _ ?_
 clear hK4 K4
 refine y2y x9x (by rfl) ?_
 refine x1x rfl ?_
 refine b1z rfl ?_
 refine a1f x9x rfl b5i rfl rfl a0q rfl ?_
 refine b3g x9x (out := .pv (a3r bs[i + 1]?)) 0 rfl a0q rfl (b7m hbl hb (b2g hp)) rfl ?_
 refine x2x rfl ?_
 exact ⟨i + 1, ⟨by omega, by omega⟩, [0, _, _, _], (x4x 3 rfl (x4x 4 rfl Cov.nil)), Cov.nil, (HE.row rfl (by rw [p2p hp]) (HE.kill rfl (HE.kill rfl HE.nil))), (x5x 0 rfl HE.nil), rfl⟩
theorem b0x (c : Bool) (ps : List Pa) : Meth Tryz.prog 238 2 [0] [.ptr 0 0 0] [(0, (0, .chn 240 243 ((ps).map (a0s c)))), (1, (0, .dead))] (.fn (.func 257) [] [.ptr 1 0 0]) [(1, (0, .box 182 [.ptr 0 0 0]))] := by
 refine u7u x9x (fn := Tryz.f238) (by kernel_rfl) (by kernel_rfl) rfl (O0 := [.fn (.func 257) [] [.ptr 1 0 0]]) 2 0 (v7v rfl) (by rfl) (by repeat (first | exact BndH.nil | refine BndH.dead ?_ | refine BndH.chn ?_)) (by repeat (first | exact BndH.nil | refine BndH.box rfl ?_)) (by rfl) fun γ => ?_
 show Ex Tryz.prog _ _ [(0, .ptr 0 (γ 0) 0)] [(0, ((γ 0), .chn 240 243 ((ps).map (a0s c)))), (1, ((γ 1), .dead))] _
 refine x6x x9x (by rfl) ?_
 refine b1u (id := 1) rfl rfl rfl rfl ?_
 refine x2x rfl ?_
 refine x6x x9x (by rfl) ?_
 refine a6k rfl rfl ?_
 refine x2x rfl ?_
 refine y3y ?_
 exact ⟨.inr rfl, [γ 0, _], rfl, rfl, HE.box rfl rfl (HE.same rfl HE.nil)⟩
theorem a9o (c : Bool) (ps : List Pa) (k : Nat) (hk : k ≤ ps.length) (hlp : ps.length ≤ 1000000) : Meth Tryz.prog 257 2 [0, 1] [.pv (.int .i64 (k : Int)), .ptr 1 0 0] [(0, (0, .chn 240 243 ((ps).map (a0s c)))), (1, (0, .box 182 [.ptr 0 0 0]))] (.tup []) [(0, (0, .chn 240 243 ((ps.take k).map (a0s c))))] := by
 refine u7u x9x (fn := Tryz.f257) (by kernel_rfl) (by kernel_rfl) rfl (O0 := []) 2 0 (v7v rfl) (by rfl) (by repeat (first | exact BndH.nil | refine BndH.box rfl ?_ | refine BndH.chn ?_)) (by repeat (first | exact BndH.nil | refine BndH.chn ?_)) (by rfl) fun γ => ?_
 show Ex Tryz.prog _ _ [(0, .pv (.int .i64 (k : Int))), (1, .ptr 1 (γ 1) 0)] [(0, ((γ 0), .chn 240 243 ((ps).map (a0s c)))), (1, ((γ 1), .box 182 [.ptr 0 (γ 0) 0]))] _
 refine d0i ?_
 refine c6p 0 rfl fun b0 bs hbl hbn => ?_
 have hbl2 : bs.length = ps.length := by rw [hbl, List.length_map]
 refine x7x fun K1 hK1 => ?_
 refine x6x x9x (by rfl) ?_
 refine x1x rfl ?_
 refine y4y rfl rfl rfl ?_
 refine y0y rfl (fun hc2 => ?_) (fun hc2 => ?_)
 ·try simp at hc2
  obtain rfl : k = 0 := by omega
  refine q5q x9x r6r (by rfl) ?_
  refine x3x rfl c6g rfl rfl ?_
  refine x3x rfl c6g rfl rfl ?_
  refine w3w rfl rfl ?_
  refine x0x rfl a8w rfl rfl a0q rfl rfl ?_
  refine a8c x9x rfl rfl a0q rfl rfl rfl rfl rfl ?_
  refine w3w rfl rfl ?_
  refine x0x rfl a8w rfl rfl a0q rfl rfl ?_
  refine a8c x9x rfl rfl a0q rfl rfl rfl rfl rfl ?_
  refine ⟨by kernel_rfl, ?_⟩
  refine c7v 0 [(b0, 240, [.pv (.pointer none), .pv (.pointer none)])] _ rfl rfl ?_
  refine b3f 0 b0 240 243 ([]) ([]) rfl rfl rfl ?_
  refine y3y ?_
  (refine Conv.done ?_; exact ⟨.inr rfl, [γ 0, γ 1], rfl, rfl, HE.same rfl (HE.same rfl HE.nil)⟩)
 try simp at hc2
 have hk0 : 0 < k := by omega
 refine y1y ?_
 refine hK1 _ _ ?_
 clear hK1 K1
 refine x6x x9x (by rfl) ?_
 refine x3x rfl c6g rfl rfl ?_
 refine w3w rfl rfl ?_
 refine x0x rfl a8w rfl rfl a0q rfl rfl ?_
 refine b3h x9x (out := .pv (a3r bs.head?)) rfl a0q rfl rfl ?_
 refine x2x rfl ?_
 refine x7x fun K3 hK3 => ?_
 refine x6x x9x (by rfl) ?_
 refine x2x rfl ?_
 refine y6y ?_
 refine u5u (ι := Nat) (fun j γ1 => [(3, .pv (a3r bs[j]?)), (4, .pv (.int .i64 ((j + 1 : Nat) : Int)))]) (fun j γ1 => []) (fun j => j < k) (fun j => k - j) (x4x 0 rfl (x4x 1 rfl Cov.nil)) (x5x 0 rfl (x5x 1 rfl HE.nil)) 0 (by omega) [] (Cov.cons' (t := 3) rfl ((by rw [List.head?_eq_getElem?])) (x4x 4 rfl Cov.nil)) HE.nil rfl fun j γ1 hi => ?_
 try dsimp only [List.cons_append, List.nil_append]
 refine x7x fun K4 hK4 => ?_
 refine x6x x9x (by rfl) ?_
 refine x1x rfl ?_
 refine x1x rfl ?_
 refine y4y rfl rfl rfl ?_
 refine x1x rfl ?_
 refine a0b rfl rfl (fun hg5 => ?_) (fun hg5 => ?_)
 ·try simp at hg5
  have hj : j + 1 < k := by omega
  obtain ⟨b, hb⟩ : ∃ b, bs[j]? = some b := w5w (by omega)
  obtain ⟨p, hp⟩ : ∃ p, ps[j]? = some p := w5w (by omega)
  rw [hb]
  refine x1x rfl ?_
  refine y7y rfl rfl ?_
  refine a8p rfl rfl (by intro a c h h2; cases h; cases h2; rfl) (.inr rfl) (b7l (by kernel_rfl) _ _ _) ?_
  refine z0z rfl rfl ?_
  refine y0y rfl (fun hc6 => ?_) (fun hc6 => ?_)
  rotate_left
  ·simp at hc6
  try simp at hc6
  refine y1y ?_
  refine hK4 _ _ ?_
  clear hK4 K4
  refine x7x fun K7 hK7 => ?_
  refine y6y ?_
  refine y2y x9x (by rfl) ?_
  refine x1x rfl ?_
  refine b1z rfl ?_
  refine a1f x9x rfl b5i rfl rfl a0q rfl ?_
  refine b3g x9x (out := .pv (a3r bs[j + 1]?)) 0 rfl a0q rfl (b7m hbl hb (b2g hp)) rfl ?_
  refine x2x rfl ?_
  refine hK7 _ _ ?_
  clear hK7 K7
  refine y2y x9x (by rfl) ?_
  refine x1x rfl ?_
  refine u1u (b := 1) rfl rfl (by omega) ?_
  refine x2x rfl ?_
  exact ⟨j + 1, ⟨by omega, by omega⟩, [], (x4x 3 rfl (x4x 4 rfl Cov.nil)), (x4x 0 rfl (x4x 1 rfl Cov.nil)), HE.nil, (x5x 0 rfl (x5x 1 rfl HE.nil)), rfl⟩
 try simp at hg5
 obtain rfl : k = j + 1 := by omega
 obtain ⟨b, hb⟩ : ∃ b, bs[j]? = some b := w5w (by omega)
 obtain ⟨p, hp⟩ : ∃ p, ps[j]? = some p := w5w (by omega)
 rw [hb]
 refine x8x rfl rfl ?_
 refine y5y rfl rfl ?_
 refine y0y rfl (fun hc8 => ?_) (fun hc8 => ?_)
 ·simp at hc8
 try simp at hc8
 refine v0v ?_
 refine hK3 _ _ ?_
 clear hK4 K4 hK3 K3
 refine x6x x9x (by rfl) ?_
 refine x1x rfl ?_
 refine a8p rfl rfl (by intro a c h h2; cases h; cases h2; rfl) (.inr rfl) (b7l (by kernel_rfl) _ _ _) ?_
 refine y0y rfl (fun hc9 => ?_) (fun hc9 => ?_)
 rotate_left
 ·simp at hc9
 try simp at hc9
 refine x6x x9x (by rfl) ?_
 refine x1x rfl ?_
 refine b1z rfl ?_
 refine a1f x9x rfl b5i rfl rfl a0q rfl ?_
 refine c3m x9x (bty := 243) _ _ 0 rfl rfl a0q rfl rfl rfl (d0g hbl hb (b2g hp)) (v7v rfl) rfl ?_
 refine y2y x9x (by rfl) ?_
 refine x3x rfl c6g rfl rfl ?_
 refine x1x rfl ?_
 refine w3w rfl rfl ?_
 refine x0x rfl a8w rfl rfl a0q rfl rfl ?_
 refine a8c x9x rfl rfl a0q rfl rfl rfl rfl rfl ?_
 (refine Conv.step (c0a 0 ((b0, 240, [.pv (a3r bs.head?), PQ b 0]) :: (b4m 243 (some b) (bs.take j) ((ps.map (a0s c)).take j) ++ [(b, 243, a0s c p ++ [.pv (.pointer none)])])) (b4m 243 none (bs.drop (j + 1)) ((ps.map (a0s c)).drop (j + 1))) rfl (by simp [a3r]; rfl)) ?_; refine Conv.step (b6g 0 b0 240 243 (bs.take (j + 1)) ((ps.take (j + 1)).map (a0s c)) rfl (by simp; omega) (by rw [List.map_take, d3f hbl hb (b2g hp)])) (Conv.done ?_); exact ⟨.inl rfl, [γ 0, γ 1], rfl, rfl, HE.same rfl (HE.same rfl HE.nil)⟩)
end
section
theorem b4f (c : Bool) (n : Nd) : a0z Tryz.prog 61 [.agg (a1i c n)] (.pv (.bool (kb (a1r n)))) := by
 refine z4z x9x (fn := Tryz.f61) (by kernel_rfl) (by kernel_rfl) rfl (outs := [.pv (.bool (kb (a1r n)))]) (by rfl) (v7v rfl) 8 ?_
 have hpl := a6n n.id 4
 refine x6x x9x (by rfl) ?_
 refine v4v (id := 0) rfl rfl rfl ?_
 refine x2x rfl ?_
 refine x7x fun K1 hK1 => ?_
 refine x6x x9x (by rfl) ?_
 refine y8y rfl z6z rfl rfl rfl ?_
 refine z1z rfl rfl rfl (b9j ..) ?_
 refine w6w rfl ?_
 refine y0y rfl (fun hc2 => ?_) (fun hc2 => ?_)
 ·try simp at hc2
  try have hX : ¬ a8u n := a5g (by simpa using hc2)
  refine x6x x9x (by rfl) ?_
  refine x2x rfl ?_
  refine y3y ⟨.inr rfl, ?_⟩
  clear hK1 K1
  refine z2z rfl ?_ rfl
  exact congrArg (fun b : Bool => [AV.pv (.bool b)]) (a5l (fun h => hX h.1))
 try simp at hc2
 have fS : a8u n := b1e.1 (by simpa using hc2)
 have fB := a1y fS
 have fL := fS.2.2.2.2.1
 have fV := fS.2.2.2.2.2.1
 refine y1y ?_
 refine hK1 _ _ ?_
 clear hK1 K1
 refine x6x x9x (by rfl) ?_
 refine y8y rfl z6z rfl rfl rfl ?_
 refine v2v [1, 2, 3, 4, 5] [_, _, _, _, _] (b4d c n (by omega) (by omega) fS.2.2.2.2.2.2.1) rfl rfl rfl (by decide) rfl rfl (by repeat (first | exact InH.nil | refine InH.cons rfl ?_)) (by (simp only [pI, z8z, z9z, p8p, gl, nx, p6p, Nat.beq]; rfl)) (by (simp only [pI, z8z, z9z, p8p, gl, nx, p6p, Nat.beq]; rfl)) ?_
 refine x2x rfl ?_
 refine x7x fun K3 hK3 => ?_
 refine x6x x9x (by rfl) ?_
 refine x0x rfl z6z rfl rfl y9y rfl rfl ?_
 refine x3x rfl y9y rfl rfl ?_
 refine z1z rfl rfl rfl (a4m ..) ?_
 refine u3u rfl p4p rfl ?_
 refine x1x rfl ?_
 refine y6y ?_
 refine u5u (ι := Nat) (fun j γ1 => [(16, .pv (.int .i64 (j : Int)))]) (fun j γ1 => [(6, ((γ1 6), .dead)), (7, ((γ1 7), .dead))]) (fun j => j ≤ (a1d n.id 4).length ∧ c8f n.lanes (fun j l => ∀ p, (a1d n.id 4)[j]? = some p → l.done.length ≤ same l.done (a6u n p) ∧ (a6u n p).length ≤ 100) j) (fun j => (a1d n.id 4).length - j) (x4x 3 rfl (x4x 14 rfl (x4x 15 rfl Cov.nil))) (x5x 0 rfl (x5x 1 rfl (x5x 2 rfl (x5x 3 rfl (x5x 4 rfl (x5x 5 rfl HE.nil)))))) 0 ⟨by omega, a3x⟩ [0, 0, 0, 0, 0, 0, _, _] (x4x 16 rfl Cov.nil) (HE.kill rfl (HE.kill rfl HE.nil)) rfl fun j γ1 hi => ?_
 try dsimp only [List.cons_append, List.nil_append]
 obtain ⟨d1, d2⟩ := hi
 refine x6x x9x (by rfl) ?_
 refine y4y rfl rfl rfl ?_
 refine x7x fun K4 hK4 => ?_
 refine y0y rfl (fun hc5 => ?_) (fun hc5 => ?_)
 rotate_left
 ·try simp at hc5
  have fC := fun (i : Nat) p l (a : (a1d n.id 4)[i]? = some p) (b : n.lanes[i]? = some l) => a5m d2 (by omega) i l b p a
  refine v0v ?_
  refine hK3 _ _ ?_
  clear hK4 K4 hK3 K3
  refine x6x x9x (by rfl) ?_
  refine x2x rfl ?_
  refine y3y ⟨.inr rfl, ?_⟩
  refine z2z rfl ?_ rfl
  exact congrArg (fun b : Bool => [AV.pv (.bool b)]) (d6l ⟨fS, fC⟩)
 try simp at hc5
 obtain ⟨l, hl⟩ : ∃ l, n.lanes[j]? = some l := w5w (by omega)
 obtain ⟨p, hp⟩ : ∃ p, (a1d n.id 4)[j]? = some p := w5w (by omega)
 obtain ⟨hdl, _⟩ := a6b (fS.2.2.2.2.2.2.2.1 j l hl).2
 refine y1y ?_
 refine hK4 _ _ ?_
 clear hK4 K4
 refine x7x fun K6 hK6 => ?_
 refine y6y ?_
 refine x6x x9x (by rfl) ?_
 refine x1x rfl ?_
 refine u0u rfl rfl p4p rfl y9y rfl hp ?_
 refine z7z rfl y9y rfl ?_
 refine x2x rfl ?_
 refine x2x rfl ?_
 refine x6x x9x (by rfl) ?_
 refine x1x rfl ?_
 refine x1x rfl ?_
 refine v2v [1, 2, 3, 4, 5, 6] [_, _, _, _, _, _] (b5z c n p (c8g fS) (by omega) fS.2.2.2.2.2.1) rfl rfl rfl (by decide) rfl rfl (by repeat (first | exact InH.nil | refine InH.cons rfl ?_)) (by (simp only [pI, z8z, z9z, p8p, gl, nx, p6p, Nat.beq]; rfl)) (by (simp only [pI, z8z, z9z, p8p, gl, nx, p6p, Nat.beq]; rfl)) ?_
 refine x2x rfl ?_
 refine a3v 6 rfl rfl (fun _ => rfl) ?_
 refine q5q x9x r6r (by rfl) ?_
 refine x1x rfl ?_
 refine u3u rfl u4u rfl ?_
 refine y4y rfl rfl rfl ?_
 refine x1x rfl ?_
 refine a0b rfl rfl (fun hg7 => ?_) (fun hg7 => ?_)
 rotate_left
 ·try simp at hg7
  refine x8x rfl rfl ?_
  refine x8x rfl rfl ?_
  refine x8x rfl rfl ?_
  refine x8x rfl rfl ?_
  refine x8x rfl rfl ?_
  refine x8x rfl rfl ?_
  refine x8x rfl rfl ?_
  refine x8x rfl rfl ?_
  refine x8x rfl rfl ?_
  refine x8x rfl rfl ?_
  refine x8x rfl rfl ?_
  refine x8x rfl rfl ?_
  refine x8x rfl rfl ?_
  refine x8x rfl rfl ?_
  refine x8x rfl rfl ?_
  refine x8x rfl rfl ?_
  refine x8x rfl rfl ?_
  refine x8x rfl rfl ?_
  refine z0z rfl rfl ?_
  refine ⟨by kernel_rfl, ?_⟩
  refine y0y rfl (fun hc9 => ?_) (fun hc9 => ?_)
  rotate_left
  ·simp at hc9
  try simp at hc9
  refine x6x x9x (by rfl) ?_
  refine x2x rfl ?_
  refine y3y ⟨.inr rfl, ?_⟩
  clear hK6 K6 hK3 K3
  refine z2z rfl ?_ rfl
  exact congrArg (fun b : Bool => [AV.pv (.bool b)]) (a5l (fun h => by have := h.2 _ _ _ hp hl; omega))
 try simp at hg7
 refine x1x rfl ?_
 refine y7y rfl rfl ?_
 refine w3w rfl rfl ?_
 refine y7y rfl rfl ?_
 refine x0x rfl r3r rfl rfl a2b rfl rfl ?_
 refine y7y rfl rfl ?_
 refine x3x rfl a2b rfl rfl ?_
 refine y7y rfl rfl ?_
 refine x1x rfl ?_
 refine y7y rfl rfl ?_
 refine q6q (j := j) rfl rfl a2b rfl w0w rfl rfl (q0q hl) ?_
 refine y7y rfl rfl ?_
 refine a3u rfl w0w rfl hl rfl ?_
 refine y7y rfl rfl ?_
 refine v2v [7] [_] (b1n c l.done) rfl rfl rfl (by decide) rfl rfl (by repeat (first | exact InH.nil | refine InH.cons rfl ?_)) (by (simp only [pI, z8z, z9z, p8p, gl, nx, p6p, Nat.beq]; rfl)) (by (simp only [pI, z8z, z9z, p8p, gl, nx, p6p, Nat.beq]; rfl)) ?_
 refine y7y rfl rfl ?_
 refine x1x rfl ?_
 refine y7y rfl rfl ?_
 refine v2v [7] [_] (a4t c true l.done (a6u n p)) rfl rfl rfl (by decide) rfl rfl (by repeat (first | exact InH.nil | refine InH.cons rfl ?_)) (by (simp only [pI, z8z, z9z, p8p, gl, nx, p6p, Nat.beq]; rfl)) (by (simp only [pI, z8z, z9z, p8p, gl, nx, p6p, Nat.beq]; rfl)) ?_
 refine y7y rfl rfl ?_
 refine x1x rfl ?_
 refine y7y rfl rfl ?_
 refine w3w rfl rfl ?_
 refine y7y rfl rfl ?_
 refine x0x rfl r3r rfl rfl a2b rfl rfl ?_
 refine y7y rfl rfl ?_
 refine x3x rfl a2b rfl rfl ?_
 refine y7y rfl rfl ?_
 refine x1x rfl ?_
 refine y7y rfl rfl ?_
 refine q6q (j := j) rfl rfl a2b rfl w0w rfl rfl (q0q hl) ?_
 refine y7y rfl rfl ?_
 refine a3u rfl w0w rfl hl rfl ?_
 refine y7y rfl rfl ?_
 refine u3u rfl w0w rfl ?_
 refine y7y rfl rfl ?_
 refine y4y rfl rfl rfl ?_
 refine y5y rfl rfl ?_
 refine ⟨by kernel_rfl, ?_⟩
 refine y0y rfl (fun hc8 => ?_) (fun hc8 => ?_)
 rotate_left
 ·try simp at hc8
  refine y1y ?_
  refine hK6 _ _ ?_
  clear hK6 K6
  refine y2y x9x (by rfl) ?_
  refine u1u (b := 1) rfl rfl (by omega) ?_
  refine x1x rfl ?_
  exact ⟨j + 1, ⟨⟨by omega, a2t d2 hl (fun p2 hp2 => by rw [hp] at hp2; cases hp2; omega)⟩, by omega⟩, [0, 0, 0, 0, 0, 0, _, _], (x4x 16 rfl Cov.nil), (x4x 3 rfl (x4x 14 rfl (x4x 15 rfl Cov.nil))), (HE.kill rfl (HE.kill rfl HE.nil)), (x5x 0 rfl (x5x 1 rfl (x5x 2 rfl (x5x 3 rfl (x5x 4 rfl (x5x 5 rfl HE.nil)))))), rfl⟩
 try simp at hc8
 refine x6x x9x (by rfl) ?_
 refine x2x rfl ?_
 refine y3y ⟨.inr rfl, ?_⟩
 clear hK6 K6 hK3 K3
 refine z2z rfl ?_ rfl
 exact congrArg (fun b : Bool => [AV.pv (.bool b)]) (a5l (fun h => by have := h.2 _ _ _ hp hl; omega))
end
section
theorem b8i (c : Bool) (p : Pa) (hs : p.sends.length ≤ 1048576) (ho : p.outs.length ≤ 1048576) : Meth Tryz.prog 199 2 [] [.agg (a0s c p)] [(0, (0, .dead)), (1, (0, .dead))] (.agg [pI p.ev.time, pI p.ev.to, pI p.ev.from', pI p.ev.count, pI p.ev.n, pI p.ev.kind, pI p.ev.arg, pI p.after.x, pI p.after.y, pI p.after.count, .ref 0 0, .ref 1 0]) [(0, (0, .row 76 7 (p.sends.map v9v))), (1, (0, .row 104 5 (p.outs.map a0y)))] := by
 refine u7u x9x (fn := Tryz.f199) (by kernel_rfl) (by kernel_rfl) rfl (O0 := [.agg [pI p.ev.time, pI p.ev.to, pI p.ev.from', pI p.ev.count, pI p.ev.n, pI p.ev.kind, pI p.ev.arg, pI p.after.x, pI p.after.y, pI p.after.count, .ref 0 0, .ref 1 0]]) 2 2 (v7v rfl) (by rfl) (by repeat (first | exact BndH.nil | refine BndH.dead ?_)) (by repeat (first | exact BndH.nil | refine BndH.row (u6u fun _ => rfl) ?_)) (by rfl) fun γ => ?_
 show Ex Tryz.prog _ _ [(0, .agg (a0s c p))] [(0, ((γ 0), .dead)), (1, ((γ 1), .dead)), (3, (0, .dead)), (2, (0, .dead))] _
 refine x6x x9x (by rfl) ?_
 refine v4v (id := 2) rfl rfl rfl ?_
 refine v3v (id := 3) w1w b5o rfl ?_
 refine x6x x9x (by rfl) ?_
 refine x0x rfl w1w rfl rfl u4u rfl rfl ?_
 refine x3x rfl u4u rfl rfl ?_
 refine v2v [0] [_] (q1q c p.sends (by omega)) rfl rfl rfl (by decide) rfl rfl (by repeat (first | exact InH.nil | refine InH.cons rfl ?_)) (by (simp only [pI, z8z, z9z, p8p, gl, nx, p6p, Nat.beq]; rfl)) (by (simp only [pI, z8z, z9z, p8p, gl, nx, p6p, Nat.beq]; rfl)) ?_
 refine x0x rfl w1w rfl rfl u4u rfl rfl ?_
 refine u8u rfl rfl u4u rfl rfl rfl rfl rfl (by simp only [a0p]; rfl) ?_
 refine x6x x9x (by rfl) ?_
 refine x0x rfl w1w rfl rfl p9p rfl rfl ?_
 refine x3x rfl p9p rfl rfl ?_
 refine v2v [1] [_] (a1k c p.outs (by omega)) rfl rfl rfl (by decide) rfl rfl (by repeat (first | exact InH.nil | refine InH.cons rfl ?_)) (by (simp only [pI, z8z, z9z, p8p, gl, nx, p6p, Nat.beq]; rfl)) (by (simp only [pI, z8z, z9z, p8p, gl, nx, p6p, Nat.beq]; rfl)) ?_
 refine x0x rfl w1w rfl rfl p9p rfl rfl ?_
 refine u8u rfl rfl p9p rfl rfl rfl rfl rfl (by simp only [a0p]; rfl) ?_
 refine x6x x9x (by rfl) ?_
 refine y8y rfl w1w rfl rfl rfl ?_
 refine u2u rfl rfl w1w rfl rfl rfl rfl ?_
 refine y3y ?_
 exact ⟨.inr rfl, [_, _], rfl, rfl, HE.row rfl rfl (HE.row rfl rfl HE.nil)⟩
theorem a7o (c : Bool) (l : List Pa) (hl : c1g l ≤ 1048576) : Meth Tryz.prog 198 1 [] [a3p c l, .fn (.func 199) [] []] [(0, (0, .dead))] (.ref 0 0) [(0, (0, .row 78 12 (l.map a2z)))] := by
 refine u7u x9x (fn := Tryz.f198) (by kernel_rfl) (by kernel_rfl) rfl (O0 := [.ref 0 0]) 1 3 (v7v rfl) (by rfl) (by repeat (first | exact BndH.nil | refine BndH.dead ?_)) (by repeat (first | exact BndH.nil | refine BndH.row (u6u fun _ => rfl) ?_)) (by rfl) fun γ => ?_
 show Ex Tryz.prog _ _ [(0, a3p c l), (1, .fn (.func 199) [] [])] [(0, ((γ 0), .dead)), (3, (0, .dead)), (2, (0, .dead)), (1, (0, .dead))] _
 have hc : c1g l = l.length + szs cPa l := rfl
 refine w4w 0 rfl fun hlen => ?_
 refine x6x x9x (by rfl) ?_
 refine x2x rfl ?_
 refine x7x fun K1 hK1 => ?_
 refine x6x x9x (by rfl) ?_
 refine x1x rfl ?_
 refine u3u rfl w0w rfl ?_
 refine y4y rfl rfl rfl ?_
 refine y0y rfl (fun hc2 => ?_) (fun hc2 => ?_)
 ·try simp at hc2
  obtain rfl : l = [] := List.eq_nil_of_length_eq_zero (by simpa using hc2)
  refine x6x x9x (by rfl) ?_
  refine x2x rfl ?_
  refine a2r 4 0 78 12 rfl rfl ?_
  refine y3y ?_
  exact ⟨.inr rfl, [_], rfl, rfl, HE.row rfl rfl HE.nil⟩
 try simp at hc2
 refine y1y ?_
 refine hK1 _ _ ?_
 clear hK1 K1
 refine x6x x9x (by rfl) ?_
 refine x1x rfl ?_
 refine u3u rfl w0w rfl ?_
 refine a6f (id := 0) w0w rfl w1w b5o rfl rfl rfl rfl (by (simp only [List.length_map, List.length_append, List.length_cons, List.length_nil, List.length_take, List.length_range, T78]; omega)) rfl ?_
 refine x2x rfl ?_
 refine x7x fun K3 hK3 => ?_
 refine x6x x9x (by rfl) ?_
 refine x1x rfl ?_
 refine u3u rfl w0w rfl ?_
 refine x1x rfl ?_
 refine y6y ?_
 refine u5u (ι := Nat) (fun i γ1 => [(16, .pv (.int .i64 (i : Int)))]) (fun i γ1 => [(2, ((γ1 2), .dead)), (3, ((γ1 3), .dead)), (0, ((γ 0 + 1), .row 78 12 ((l.take i).map a2z ++ (l.drop i).map fun _ => [pI 0, pI 0, pI 0, pI 0, pI 0, pI 0, pI 0, pI 0, pI 0, pI 0, .pv (.slice none 0 0), .pv (.slice none 0 0)]))), (1, ((γ1 1), .dead))]) (fun i => i ≤ l.length) (fun i => l.length - i) (x4x 1 rfl (x4x 5 rfl (x4x 14 rfl (x4x 15 rfl Cov.nil)))) HE.nil 0 (by omega) [0, _, _, _] (x4x 16 rfl Cov.nil) (HE.kill rfl (HE.kill rfl (HE.row rfl (by rw [List.take_zero, List.drop_zero, List.map_const']; rfl) (HE.kill rfl HE.nil)))) rfl fun i γ1 hi => ?_
 try dsimp only [List.cons_append, List.nil_append]
 refine x6x x9x (by rfl) ?_
 refine y4y rfl rfl rfl ?_
 refine x7x fun K4 hK4 => ?_
 refine y0y rfl (fun hc5 => ?_) (fun hc5 => ?_)
 rotate_left
 ·try simp at hc5
  obtain rfl : i = l.length := by omega
  refine v0v ?_
  refine hK3 _ _ ?_
  clear hK4 K4 hK3 K3
  refine x6x x9x (by rfl) ?_
  refine x1x rfl ?_
  refine x2x rfl ?_
  refine y3y ?_
  exact ⟨.inr rfl, [_], rfl, rfl, HE.row rfl (by rw [List.take_length, List.drop_length, List.map_nil, List.append_nil]) HE.nil⟩
 try simp at hc5
 obtain ⟨p, hp⟩ : ∃ p, l[i]? = some p := w5w (by omega)
 have hAl : ((l.take i).map a2z).length = i := by rw [List.length_map, List.length_take]; omega
 rw [r1r hp, List.map_cons]
 have hat := a3f cPa hp
 have hcp : cPa p = p.sends.length + p.outs.length := rfl
 refine y1y ?_
 refine hK4 _ _ ?_
 clear hK4 K4
 refine x7x fun K6 hK6 => ?_
 refine y6y ?_
 refine x6x x9x (by rfl) ?_
 refine x1x rfl ?_
 refine u0u rfl rfl w0w rfl w1w rfl (by assumption) ?_
 refine z5z rfl w1w rfl rfl ?_
 refine v3v (id := 1) w1w b5o rfl ?_
 refine x2x rfl ?_
 refine u2u rfl rfl w1w rfl rfl rfl rfl ?_
 refine y2y x9x (by rfl) ?_
 refine x1x rfl ?_
 refine x1x rfl ?_
 refine x1x rfl ?_
 refine y8y rfl w1w rfl rfl rfl ?_
 refine v2v [2, 3] [_, _] (b8i c p (by omega) (by omega)) rfl rfl rfl (by decide) rfl rfl (by repeat (first | exact InH.nil | refine InH.cons rfl ?_)) (by (simp only [pI, z8z, z9z, p8p, gl, nx, p6p, Nat.beq]; rfl)) (by (simp only [pI, z8z, z9z, p8p, gl, nx, p6p, Nat.beq]; rfl)) ?_
 refine r0r rfl rfl w0w rfl w1w rfl rfl hAl ?_
 refine a2x hAl rfl rfl w1w rfl rfl rfl rfl (d5b rfl rfl rfl) rfl ?_
 refine hK6 _ _ ?_
 clear hK6 K6
 refine y2y x9x (by rfl) ?_
 refine y4y rfl rfl rfl ?_
 refine x1x rfl ?_
 exact ⟨i + 1, ⟨by omega, by omega⟩, [0, _, _, _], (Cov.cons' (t := 16) rfl (by rw [u9u (by omega) (by omega)]; rfl) Cov.nil), (x4x 1 rfl (x4x 5 rfl (x4x 14 rfl (x4x 15 rfl Cov.nil)))), (HE.kill rfl (HE.kill rfl (HE.row rfl (by rw [p2p hp, List.map_append, List.append_assoc]; rfl) (HE.kill rfl HE.nil)))), HE.nil, rfl⟩
theorem b8j (c : Bool) (p : La) (hs : c1g p.done ≤ 1048576) : Meth Tryz.prog 125 1 [] [.agg (a0v c p)] [(0, (0, .dead))] (.agg [pI p.proc, pI p.base.x, pI p.base.y, pI p.base.count, .ref 0 0]) [(0, (0, .row 78 12 (p.done.map a2z)))] := by
 refine u7u x9x (fn := Tryz.f125) (by kernel_rfl) (by kernel_rfl) rfl (O0 := [.agg [pI p.proc, pI p.base.x, pI p.base.y, pI p.base.count, .ref 0 0]]) 1 2 (v7v rfl) (by rfl) (by repeat (first | exact BndH.nil | refine BndH.dead ?_)) (by repeat (first | exact BndH.nil | refine BndH.row (u6u fun _ => rfl) ?_)) (by rfl) fun γ => ?_
 show Ex Tryz.prog _ _ [(0, .agg (a0v c p))] [(0, ((γ 0), .dead)), (2, (0, .dead)), (1, (0, .dead))] _
 refine x6x x9x (by rfl) ?_
 refine v4v (id := 1) rfl rfl rfl ?_
 refine v3v (id := 2) v8v a9u rfl ?_
 refine x6x x9x (by rfl) ?_
 refine x0x rfl v8v rfl rfl w0w rfl rfl ?_
 refine x3x rfl w0w rfl rfl ?_
 refine v2v [0] [_] (a7o c p.done hs) rfl rfl rfl (by decide) rfl rfl (by repeat (first | exact InH.nil | refine InH.cons rfl ?_)) (by (simp only [pI, z8z, z9z, p8p, gl, nx, p6p, Nat.beq]; rfl)) (by (simp only [pI, z8z, z9z, p8p, gl, nx, p6p, Nat.beq]; rfl)) ?_
 refine x0x rfl v8v rfl rfl w0w rfl rfl ?_
 refine u8u rfl rfl w0w rfl rfl rfl rfl rfl (by simp only [a0p]; rfl) ?_
 refine x6x x9x (by rfl) ?_
 refine y8y rfl v8v rfl rfl rfl ?_
 refine u2u rfl rfl v8v rfl rfl rfl rfl ?_
 refine y3y ?_
 exact ⟨.inr rfl, [_], rfl, rfl, HE.row rfl rfl HE.nil⟩
theorem a7p (c : Bool) (l : List La) (hl : b5m l ≤ 1048576) : Meth Tryz.prog 171 1 [] [c1q c l, .fn (.func 125) [] []] [(0, (0, .dead))] (.ref 0 0) [(0, (0, .row 65 5 (l.map a1t)))] := by
 refine u7u x9x (fn := Tryz.f171) (by kernel_rfl) (by kernel_rfl) rfl (O0 := [.ref 0 0]) 1 2 (v7v rfl) (by rfl) (by repeat (first | exact BndH.nil | refine BndH.dead ?_)) (by repeat (first | exact BndH.nil | refine BndH.row (u6u fun _ => rfl) ?_)) (by rfl) fun γ => ?_
 show Ex Tryz.prog _ _ [(0, c1q c l), (1, .fn (.func 125) [] [])] [(0, ((γ 0), .dead)), (2, (0, .dead)), (1, (0, .dead))] _
 have hc : b5m l = l.length + szs cLa l := rfl
 refine w4w 0 rfl fun hlen => ?_
 refine x6x x9x (by rfl) ?_
 refine x2x rfl ?_
 refine x7x fun K1 hK1 => ?_
 refine x6x x9x (by rfl) ?_
 refine x1x rfl ?_
 refine u3u rfl w2w rfl ?_
 refine y4y rfl rfl rfl ?_
 refine y0y rfl (fun hc2 => ?_) (fun hc2 => ?_)
 ·try simp at hc2
  obtain rfl : l = [] := List.eq_nil_of_length_eq_zero (by simpa using hc2)
  refine x6x x9x (by rfl) ?_
  refine x2x rfl ?_
  refine a2r 4 0 65 5 rfl rfl ?_
  refine y3y ?_
  exact ⟨.inr rfl, [_], rfl, rfl, HE.row rfl rfl HE.nil⟩
 try simp at hc2
 refine y1y ?_
 refine hK1 _ _ ?_
 clear hK1 K1
 refine x6x x9x (by rfl) ?_
 refine x1x rfl ?_
 refine u3u rfl w2w rfl ?_
 refine a6f (id := 0) w2w rfl v8v a9u rfl rfl rfl rfl (by (simp only [List.length_map, List.length_append, List.length_cons, List.length_nil, List.length_take, List.length_range, T65]; omega)) rfl ?_
 refine x2x rfl ?_
 refine x7x fun K3 hK3 => ?_
 refine x6x x9x (by rfl) ?_
 refine x1x rfl ?_
 refine u3u rfl w2w rfl ?_
 refine x1x rfl ?_
 refine y6y ?_
 refine u5u (ι := Nat) (fun i γ1 => [(16, .pv (.int .i64 (i : Int)))]) (fun i γ1 => [(2, ((γ1 2), .dead)), (0, ((γ 0 + 1), .row 65 5 ((l.take i).map a1t ++ (l.drop i).map fun _ => [pI 0, pI 0, pI 0, pI 0, .pv (.slice none 0 0)]))), (1, ((γ1 1), .dead))]) (fun i => i ≤ l.length) (fun i => l.length - i) (x4x 1 rfl (x4x 5 rfl (x4x 14 rfl (x4x 15 rfl Cov.nil)))) HE.nil 0 (by omega) [0, _, _] (x4x 16 rfl Cov.nil) (HE.kill rfl (HE.row rfl (by rw [List.take_zero, List.drop_zero, List.map_const']; rfl) (HE.kill rfl HE.nil))) rfl fun i γ1 hi => ?_
 try dsimp only [List.cons_append, List.nil_append]
 refine x6x x9x (by rfl) ?_
 refine y4y rfl rfl rfl ?_
 refine x7x fun K4 hK4 => ?_
 refine y0y rfl (fun hc5 => ?_) (fun hc5 => ?_)
 rotate_left
 ·try simp at hc5
  obtain rfl : i = l.length := by omega
  refine v0v ?_
  refine hK3 _ _ ?_
  clear hK4 K4 hK3 K3
  refine x6x x9x (by rfl) ?_
  refine x1x rfl ?_
  refine x2x rfl ?_
  refine y3y ?_
  exact ⟨.inr rfl, [_], rfl, rfl, HE.row rfl (by rw [List.take_length, List.drop_length, List.map_nil, List.append_nil]) HE.nil⟩
 try simp at hc5
 obtain ⟨p, hp⟩ : ∃ p, l[i]? = some p := w5w (by omega)
 have hAl : ((l.take i).map a1t).length = i := by rw [List.length_map, List.length_take]; omega
 rw [r1r hp, List.map_cons]
 have hat := a3f cLa hp
 have hcp : cLa p = c1g p.done := rfl
 refine y1y ?_
 refine hK4 _ _ ?_
 clear hK4 K4
 refine x7x fun K6 hK6 => ?_
 refine y6y ?_
 refine x6x x9x (by rfl) ?_
 refine x1x rfl ?_
 refine u0u rfl rfl w2w rfl v8v rfl (by assumption) ?_
 refine z5z rfl v8v rfl rfl ?_
 refine v3v (id := 1) v8v a9u rfl ?_
 refine x2x rfl ?_
 refine u2u rfl rfl v8v rfl rfl rfl rfl ?_
 refine y2y x9x (by rfl) ?_
 refine x1x rfl ?_
 refine x1x rfl ?_
 refine x1x rfl ?_
 refine y8y rfl v8v rfl rfl rfl ?_
 refine v2v [2] [_] (b8j c p (by omega)) rfl rfl rfl (by decide) rfl rfl (by repeat (first | exact InH.nil | refine InH.cons rfl ?_)) (by (simp only [pI, z8z, z9z, p8p, gl, nx, p6p, Nat.beq]; rfl)) (by (simp only [pI, z8z, z9z, p8p, gl, nx, p6p, Nat.beq]; rfl)) ?_
 refine r0r rfl rfl w2w rfl v8v rfl rfl hAl ?_
 refine a2x hAl rfl rfl v8v rfl rfl rfl rfl (d5c rfl) rfl ?_
 refine hK6 _ _ ?_
 clear hK6 K6
 refine y2y x9x (by rfl) ?_
 refine y4y rfl rfl rfl ?_
 refine x1x rfl ?_
 exact ⟨i + 1, ⟨by omega, by omega⟩, [0, _, _], (Cov.cons' (t := 16) rfl (by rw [u9u (by omega) (by omega)]; rfl) Cov.nil), (x4x 1 rfl (x4x 5 rfl (x4x 14 rfl (x4x 15 rfl Cov.nil)))), (HE.kill rfl (HE.row rfl (by rw [p2p hp, List.map_append, List.append_assoc]; rfl) (HE.kill rfl HE.nil))), HE.nil, rfl⟩
theorem b8k (c : Bool) (p : Vi) (hs : p.events.length ≤ 1048576) : Meth Tryz.prog 174 1 [] [.agg (a1n c p)] [(0, (0, .dead))] (.agg [pI p.inc, pI p.version, .ref 0 0]) [(0, (0, .row 76 7 (p.events.map v9v)))] := by
 refine u7u x9x (fn := Tryz.f174) (by kernel_rfl) (by kernel_rfl) rfl (O0 := [.agg [pI p.inc, pI p.version, .ref 0 0]]) 1 2 (v7v rfl) (by rfl) (by repeat (first | exact BndH.nil | refine BndH.dead ?_)) (by repeat (first | exact BndH.nil | refine BndH.row (u6u fun _ => rfl) ?_)) (by rfl) fun γ => ?_
 show Ex Tryz.prog _ _ [(0, .agg (a1n c p))] [(0, ((γ 0), .dead)), (2, (0, .dead)), (1, (0, .dead))] _
 refine x6x x9x (by rfl) ?_
 refine v4v (id := 1) rfl rfl rfl ?_
 refine v3v (id := 2) v6v a3s rfl ?_
 refine x6x x9x (by rfl) ?_
 refine x0x rfl v6v rfl rfl u4u rfl rfl ?_
 refine x3x rfl u4u rfl rfl ?_
 refine v2v [0] [_] (q1q c p.events (by omega)) rfl rfl rfl (by decide) rfl rfl (by repeat (first | exact InH.nil | refine InH.cons rfl ?_)) (by (simp only [pI, z8z, z9z, p8p, gl, nx, p6p, Nat.beq]; rfl)) (by (simp only [pI, z8z, z9z, p8p, gl, nx, p6p, Nat.beq]; rfl)) ?_
 refine x0x rfl v6v rfl rfl u4u rfl rfl ?_
 refine u8u rfl rfl u4u rfl rfl rfl rfl rfl (by simp only [a0p]; rfl) ?_
 refine x6x x9x (by rfl) ?_
 refine y8y rfl v6v rfl rfl rfl ?_
 refine u2u rfl rfl v6v rfl rfl rfl rfl ?_
 refine y3y ?_
 exact ⟨.inr rfl, [_], rfl, rfl, HE.row rfl rfl HE.nil⟩
theorem a7q (c : Bool) (l : List Vi) (hl : c0e l ≤ 1048576) : Meth Tryz.prog 173 1 [] [c1r c l, .fn (.func 174) [] []] [(0, (0, .dead))] (.ref 0 0) [(0, (0, .row 141 3 (l.map a1u)))] := by
 refine u7u x9x (fn := Tryz.f173) (by kernel_rfl) (by kernel_rfl) rfl (O0 := [.ref 0 0]) 1 2 (v7v rfl) (by rfl) (by repeat (first | exact BndH.nil | refine BndH.dead ?_)) (by repeat (first | exact BndH.nil | refine BndH.row (u6u fun _ => rfl) ?_)) (by rfl) fun γ => ?_
 show Ex Tryz.prog _ _ [(0, c1r c l), (1, .fn (.func 174) [] [])] [(0, ((γ 0), .dead)), (2, (0, .dead)), (1, (0, .dead))] _
 have hc : c0e l = l.length + szs cVi l := rfl
 refine w4w 0 rfl fun hlen => ?_
 refine x6x x9x (by rfl) ?_
 refine x2x rfl ?_
 refine x7x fun K1 hK1 => ?_
 refine x6x x9x (by rfl) ?_
 refine x1x rfl ?_
 refine u3u rfl p1p rfl ?_
 refine y4y rfl rfl rfl ?_
 refine y0y rfl (fun hc2 => ?_) (fun hc2 => ?_)
 ·try simp at hc2
  obtain rfl : l = [] := List.eq_nil_of_length_eq_zero (by simpa using hc2)
  refine x6x x9x (by rfl) ?_
  refine x2x rfl ?_
  refine a2r 4 0 141 3 rfl rfl ?_
  refine y3y ?_
  exact ⟨.inr rfl, [_], rfl, rfl, HE.row rfl rfl HE.nil⟩
 try simp at hc2
 refine y1y ?_
 refine hK1 _ _ ?_
 clear hK1 K1
 refine x6x x9x (by rfl) ?_
 refine x1x rfl ?_
 refine u3u rfl p1p rfl ?_
 refine a6f (id := 0) p1p rfl v6v a3s rfl rfl rfl rfl (by (simp only [List.length_map, List.length_append, List.length_cons, List.length_nil, List.length_take, List.length_range, T141]; omega)) rfl ?_
 refine x2x rfl ?_
 refine x7x fun K3 hK3 => ?_
 refine x6x x9x (by rfl) ?_
 refine x1x rfl ?_
 refine u3u rfl p1p rfl ?_
 refine x1x rfl ?_
 refine y6y ?_
 refine u5u (ι := Nat) (fun i γ1 => [(16, .pv (.int .i64 (i : Int)))]) (fun i γ1 => [(2, ((γ1 2), .dead)), (0, ((γ 0 + 1), .row 141 3 ((l.take i).map a1u ++ (l.drop i).map fun _ => [pI 0, pI 0, .pv (.slice none 0 0)]))), (1, ((γ1 1), .dead))]) (fun i => i ≤ l.length) (fun i => l.length - i) (x4x 1 rfl (x4x 5 rfl (x4x 14 rfl (x4x 15 rfl Cov.nil)))) HE.nil 0 (by omega) [0, _, _] (x4x 16 rfl Cov.nil) (HE.kill rfl (HE.row rfl (by rw [List.take_zero, List.drop_zero, List.map_const']; rfl) (HE.kill rfl HE.nil))) rfl fun i γ1 hi => ?_
 try dsimp only [List.cons_append, List.nil_append]
 refine x6x x9x (by rfl) ?_
 refine y4y rfl rfl rfl ?_
 refine x7x fun K4 hK4 => ?_
 refine y0y rfl (fun hc5 => ?_) (fun hc5 => ?_)
 rotate_left
 ·try simp at hc5
  obtain rfl : i = l.length := by omega
  refine v0v ?_
  refine hK3 _ _ ?_
  clear hK4 K4 hK3 K3
  refine x6x x9x (by rfl) ?_
  refine x1x rfl ?_
  refine x2x rfl ?_
  refine y3y ?_
  exact ⟨.inr rfl, [_], rfl, rfl, HE.row rfl (by rw [List.take_length, List.drop_length, List.map_nil, List.append_nil]) HE.nil⟩
 try simp at hc5
 obtain ⟨p, hp⟩ : ∃ p, l[i]? = some p := w5w (by omega)
 have hAl : ((l.take i).map a1u).length = i := by rw [List.length_map, List.length_take]; omega
 rw [r1r hp, List.map_cons]
 have hat := a3f cVi hp
 have hcp : cVi p = p.events.length := rfl
 refine y1y ?_
 refine hK4 _ _ ?_
 clear hK4 K4
 refine x7x fun K6 hK6 => ?_
 refine y6y ?_
 refine x6x x9x (by rfl) ?_
 refine x1x rfl ?_
 refine u0u rfl rfl p1p rfl v6v rfl (by assumption) ?_
 refine z5z rfl v6v rfl rfl ?_
 refine v3v (id := 1) v6v a3s rfl ?_
 refine x2x rfl ?_
 refine u2u rfl rfl v6v rfl rfl rfl rfl ?_
 refine y2y x9x (by rfl) ?_
 refine x1x rfl ?_
 refine x1x rfl ?_
 refine x1x rfl ?_
 refine y8y rfl v6v rfl rfl rfl ?_
 refine v2v [2] [_] (b8k c p (by omega)) rfl rfl rfl (by decide) rfl rfl (by repeat (first | exact InH.nil | refine InH.cons rfl ?_)) (by (simp only [pI, z8z, z9z, p8p, gl, nx, p6p, Nat.beq]; rfl)) (by (simp only [pI, z8z, z9z, p8p, gl, nx, p6p, Nat.beq]; rfl)) ?_
 refine r0r rfl rfl p1p rfl v6v rfl rfl hAl ?_
 refine a2x hAl rfl rfl v6v rfl rfl rfl rfl (d5e rfl) rfl ?_
 refine hK6 _ _ ?_
 clear hK6 K6
 refine y2y x9x (by rfl) ?_
 refine y4y rfl rfl rfl ?_
 refine x1x rfl ?_
 exact ⟨i + 1, ⟨by omega, by omega⟩, [0, _, _], (Cov.cons' (t := 16) rfl (by rw [u9u (by omega) (by omega)]; rfl) Cov.nil), (x4x 1 rfl (x4x 5 rfl (x4x 14 rfl (x4x 15 rfl Cov.nil)))), (HE.kill rfl (HE.row rfl (by rw [p2p hp, List.map_append, List.append_assoc]; rfl) (HE.kill rfl HE.nil))), HE.nil, rfl⟩
theorem a6r (c : Bool) (n : Nd) (hl : cNd n ≤ 1048576) : Meth Tryz.prog 83 5 [] [.agg (a1i c n)] [(0, (0, .dead)), (1, (0, .dead)), (2, (0, .dead)), (3, (0, .dead)), (4, (0, .dead))] (.agg [pI n.id, .pv (.bool n.up), pI n.inc, pI n.g, .ref 0 0, .ref 1 0, .ref 2 0, pI n.led, pI n.version, .ref 3 0, .ref 4 0, pI n.round, pI n.low]) [(0, (0, .row 65 5 (n.lanes.map a1t))), (1, (0, .row 76 7 (n.kept.map v9v))), (2, (0, .row 104 5 (n.outs.map a0y))), (3, (0, .row 141 3 (n.views.map a1u))), (4, (0, .row 3 1 (n.known.map a2h)))] := by
 refine u7u x9x (fn := Tryz.f83) (by kernel_rfl) (by kernel_rfl) rfl (O0 := [.agg [pI n.id, .pv (.bool n.up), pI n.inc, pI n.g, .ref 0 0, .ref 1 0, .ref 2 0, pI n.led, pI n.version, .ref 3 0, .ref 4 0, pI n.round, pI n.low]]) 5 2 (v7v rfl) (by rfl) (by repeat (first | exact BndH.nil | refine BndH.dead ?_)) (by repeat (first | exact BndH.nil | refine BndH.row (u6u fun _ => rfl) ?_)) (by rfl) fun γ => ?_
 show Ex Tryz.prog _ _ [(0, .agg (a1i c n))] [(0, ((γ 0), .dead)), (1, ((γ 1), .dead)), (2, ((γ 2), .dead)), (3, ((γ 3), .dead)), (4, ((γ 4), .dead)), (6, (0, .dead)), (5, (0, .dead))] _
 have hc : cNd n = b5m n.lanes + n.kept.length + n.outs.length + c0e n.views + n.known.length := rfl
 refine x6x x9x (by rfl) ?_
 refine v4v (id := 5) rfl rfl rfl ?_
 refine v3v (id := 6) z6z a4v rfl ?_
 refine x6x x9x (by rfl) ?_
 refine x0x rfl z6z rfl rfl w2w rfl rfl ?_
 refine x3x rfl w2w rfl rfl ?_
 refine v2v [0] [_] (a7p c n.lanes (by omega)) rfl rfl rfl (by decide) rfl rfl (by repeat (first | exact InH.nil | refine InH.cons rfl ?_)) (by (simp only [pI, z8z, z9z, p8p, gl, nx, p6p, Nat.beq]; rfl)) (by (simp only [pI, z8z, z9z, p8p, gl, nx, p6p, Nat.beq]; rfl)) ?_
 refine x0x rfl z6z rfl rfl w2w rfl rfl ?_
 refine u8u rfl rfl w2w rfl rfl rfl rfl rfl (by simp only [a0p]; rfl) ?_
 refine x6x x9x (by rfl) ?_
 refine x0x rfl z6z rfl rfl u4u rfl rfl ?_
 refine x3x rfl u4u rfl rfl ?_
 refine v2v [1] [_] (q1q c n.kept (by omega)) rfl rfl rfl (by decide) rfl rfl (by repeat (first | exact InH.nil | refine InH.cons rfl ?_)) (by (simp only [pI, z8z, z9z, p8p, gl, nx, p6p, Nat.beq]; rfl)) (by (simp only [pI, z8z, z9z, p8p, gl, nx, p6p, Nat.beq]; rfl)) ?_
 refine x0x rfl z6z rfl rfl u4u rfl rfl ?_
 refine u8u rfl rfl u4u rfl rfl rfl rfl rfl (by simp only [a0p]; rfl) ?_
 refine x6x x9x (by rfl) ?_
 refine x0x rfl z6z rfl rfl p9p rfl rfl ?_
 refine x3x rfl p9p rfl rfl ?_
 refine v2v [2] [_] (a1k c n.outs (by omega)) rfl rfl rfl (by decide) rfl rfl (by repeat (first | exact InH.nil | refine InH.cons rfl ?_)) (by (simp only [pI, z8z, z9z, p8p, gl, nx, p6p, Nat.beq]; rfl)) (by (simp only [pI, z8z, z9z, p8p, gl, nx, p6p, Nat.beq]; rfl)) ?_
 refine x0x rfl z6z rfl rfl p9p rfl rfl ?_
 refine u8u rfl rfl p9p rfl rfl rfl rfl rfl (by simp only [a0p]; rfl) ?_
 refine x6x x9x (by rfl) ?_
 refine x0x rfl z6z rfl rfl p1p rfl rfl ?_
 refine x3x rfl p1p rfl rfl ?_
 refine v2v [3] [_] (a7q c n.views (by omega)) rfl rfl rfl (by decide) rfl rfl (by repeat (first | exact InH.nil | refine InH.cons rfl ?_)) (by (simp only [pI, z8z, z9z, p8p, gl, nx, p6p, Nat.beq]; rfl)) (by (simp only [pI, z8z, z9z, p8p, gl, nx, p6p, Nat.beq]; rfl)) ?_
 refine x0x rfl z6z rfl rfl p1p rfl rfl ?_
 refine u8u rfl rfl p1p rfl rfl rfl rfl rfl (by simp only [a0p]; rfl) ?_
 refine x6x x9x (by rfl) ?_
 refine x0x rfl z6z rfl rfl p4p rfl rfl ?_
 refine x3x rfl p4p rfl rfl ?_
 refine v2v [4] [_] (a9n c n.known (by omega)) rfl rfl rfl (by decide) rfl rfl (by repeat (first | exact InH.nil | refine InH.cons rfl ?_)) (by (simp only [pI, z8z, z9z, p8p, gl, nx, p6p, Nat.beq]; rfl)) (by (simp only [pI, z8z, z9z, p8p, gl, nx, p6p, Nat.beq]; rfl)) ?_
 refine x0x rfl z6z rfl rfl p4p rfl rfl ?_
 refine u8u rfl rfl p4p rfl rfl rfl rfl rfl (by simp only [a0p]; rfl) ?_
 refine x6x x9x (by rfl) ?_
 refine y8y rfl z6z rfl rfl rfl ?_
 refine u2u rfl rfl z6z rfl rfl rfl rfl ?_
 refine y3y ?_
 exact ⟨.inr rfl, [_, _, _, _, _], rfl, rfl, HE.row rfl rfl (HE.row rfl rfl (HE.row rfl rfl (HE.row rfl rfl (HE.row rfl rfl HE.nil))))⟩
end
section
theorem a7h (c : Bool) (n : Nd) (es : List (Value × AV)) (hes : ∀ p ∈ es, p.2.flatA = true) (i : Nat) (l : La) (hl : n.lanes[i]? = some l) (hp : (a1d n.id 4)[i]? = some l.proc) : Meth Tryz.prog 170 5 [0, 1, 2, 3, 4] [.ptr 4 0 0, .pv (.int .i64 (i : Int))] [(0, (0, .row 62 3 ((n.lanes).map fun l => s9s l.base))), (1, (0, .row 63 1 ((n.lanes).map fun l => [a3p c l.done]))), (2, (0, .map es)), (3, (0, .row 3 1 (n.known.map a2h))), (4, (0, .box 139 [pI n.id, pI n.inc, pI n.g, pI n.led, .ref 0 0, r7r c n.kept, a1j c n.outs, .pv (.bool n.up), .ref 1 0, pI n.version, .mp 2 0, .ref 3 0, pI n.round, pI n.low]))] (.agg (a0v c l)) [] := by
 refine u7u x9x (fn := Tryz.f170) (by kernel_rfl) (by kernel_rfl) rfl (O0 := [.agg (a0v c l)]) 5 1 (v7v rfl) (by rfl) (by repeat (first | exact BndH.nil | refine BndH.box rfl ?_ | refine BndH.row (u6u fun _ => rfl) ?_ | refine BndH.map hes ?_ )) (by repeat (exact BndH.nil )) (by rfl) fun γ => ?_
 show Ex Tryz.prog _ _ [(0, .ptr 4 (γ 4) 0), (1, .pv (.int .i64 (i : Int)))] [(0, ((γ 0), .row 62 3 ((n.lanes).map fun l => s9s l.base))), (1, ((γ 1), .row 63 1 ((n.lanes).map fun l => [a3p c l.done]))), (2, ((γ 2), .map es)), (3, ((γ 3), .row 3 1 (n.known.map a2h))), (4, ((γ 4), .box 139 [pI n.id, pI n.inc, pI n.g, pI n.led, .ref 0 (γ 0), r7r c n.kept, a1j c n.outs, .pv (.bool n.up), .ref 1 (γ 1), pI n.version, .mp 2 (γ 2), .ref 3 (γ 3), pI n.round, pI n.low])), (5, (0, .dead))] _
 refine x6x x9x (by rfl) ?_
 refine v3v (id := 5) v8v a9u rfl ?_
 refine q5q x9x r6r (by rfl) ?_
 refine x1x rfl ?_
 refine w3w rfl rfl ?_
 refine x0x rfl r3r rfl rfl s1s rfl rfl ?_
 refine x0x rfl s1s rfl rfl y9y rfl rfl ?_
 refine x3x rfl y9y rfl rfl ?_
 refine z1z rfl rfl rfl (a4m ..) ?_
 refine x1x rfl ?_
 refine u0u rfl rfl p4p rfl y9y rfl hp ?_
 refine z7z rfl y9y rfl ?_
 refine x1x rfl ?_
 refine w3w rfl rfl ?_
 refine x0x rfl r3r rfl rfl s1s rfl rfl ?_
 refine x0x rfl s1s rfl rfl a5f rfl rfl ?_
 refine x3x rfl a5f rfl rfl ?_
 refine x1x rfl ?_
 refine q6q (j := i) rfl rfl a5f rfl r4r rfl rfl (q0q hl) ?_
 refine a0d rfl r4r rfl hl rfl rfl ?_
 refine x1x rfl ?_
 refine w3w rfl rfl ?_
 refine x0x rfl r3r rfl rfl a2b rfl rfl ?_
 refine x3x rfl a2b rfl rfl ?_
 refine x1x rfl ?_
 refine q6q (j := i) rfl rfl a2b rfl w0w rfl rfl (q0q hl) ?_
 refine a3u rfl w0w rfl hl rfl ?_
 refine a0c v8v rfl a9u rfl (by simp only [pI, y9y, T3, r4r, T62, w0w, T63, a2w, r2r, AV.okc, AV.one, Value.oneCell', List.map_cons, List.map_nil, List.getElem?_cons_zero, List.getElem?_cons_succ, List.take_succ_cons, List.take_zero, List.drop_succ_cons, List.drop_zero, List.cons_append, List.nil_append, List.length_cons, List.length_nil, if_true, and_self, Nat.reduceAdd, Nat.reduceLeDiff]; rfl) ?_
 refine u2u rfl rfl v8v rfl rfl rfl rfl ?_
 refine ⟨by kernel_rfl, ?_⟩
 refine y3y ?_
 exact ⟨.inr rfl, [γ 0, γ 1, γ 2, γ 3, γ 4], rfl, rfl, (x5x 0 rfl (x5x 1 rfl (x5x 2 rfl (x5x 3 rfl (x5x 4 rfl HE.nil)))))⟩
set_option maxHeartbeats 1000000 in
theorem b4g (c : Bool) (n : Nd) (hlen : n.lanes.length ≤ 1048576) (hN : ∀ (i : Nat) l, n.lanes[i]? = some l → (a1d n.id 4)[i]? = some l.proc) (hv3 : n.views.length = 3) : Meth Tryz.prog 82 7 [0, 1, 2, 3, 4] [.ptr 4 0 0] [(0, (0, .row 62 3 ((n.lanes).map fun l => s9s l.base))), (1, (0, .row 63 1 ((n.lanes).map fun l => [a3p c l.done]))), (2, (0, .map (a7e c n.views))), (3, (0, .row 3 1 (n.known.map a2h))), (4, (0, .box 139 [pI n.id, pI n.inc, pI n.g, pI n.led, .ref 0 0, r7r c n.kept, a1j c n.outs, .pv (.bool n.up), .ref 1 0, pI n.version, .mp 2 0, .ref 3 0, pI n.round, pI n.low])), (5, (0, .dead)), (6, (0, .dead))] (.agg [pI n.id, .pv (.bool n.up), pI n.inc, pI n.g, .ref 5 0, r7r c n.kept, a1j c n.outs, pI n.led, pI n.version, .ref 6 0, .ref 3 0, pI n.round, pI n.low]) [(5, (0, .row 65 5 ((n.lanes).map (a0v c)))), (6, (0, .row 141 3 (n.views.map (a1n c))))] := by
 refine u7u x9x (fn := Tryz.f82) (by kernel_rfl) (by kernel_rfl) rfl (O0 := [.agg [pI n.id, .pv (.bool n.up), pI n.inc, pI n.g, .ref 5 0, r7r c n.kept, a1j c n.outs, pI n.led, pI n.version, .ref 6 0, .ref 3 0, pI n.round, pI n.low]]) 7 6 (v7v rfl) (by rfl) (by repeat (first | exact BndH.nil | refine BndH.dead ?_ | refine BndH.box rfl ?_ | refine BndH.row (u6u fun _ => rfl) ?_ | refine BndH.map (a0t _ _) ?_ )) (by repeat (first | exact BndH.nil | refine BndH.row (u6u fun _ => rfl) ?_ )) (by rfl) fun γ => ?_
 show Ex Tryz.prog _ _ [(0, .ptr 4 (γ 4) 0)] [(0, ((γ 0), .row 62 3 ((n.lanes).map fun l => s9s l.base))), (1, ((γ 1), .row 63 1 ((n.lanes).map fun l => [a3p c l.done]))), (2, ((γ 2), .map (a7e c n.views))), (3, ((γ 3), .row 3 1 (n.known.map a2h))), (4, ((γ 4), .box 139 [pI n.id, pI n.inc, pI n.g, pI n.led, .ref 0 (γ 0), r7r c n.kept, a1j c n.outs, .pv (.bool n.up), .ref 1 (γ 1), pI n.version, .mp 2 (γ 2), .ref 3 (γ 3), pI n.round, pI n.low])), (5, ((γ 5), .dead)), (6, ((γ 6), .dead)), (12, (0, .dead)), (11, (0, .dead)), (10, (0, .dead)), (9, (0, .dead)), (8, (0, .dead)), (7, (0, .dead))] _
 refine x6x x9x (by rfl) ?_
 refine v3v (id := 7) z6z a4v rfl ?_
 refine q5q x9x r6r (by rfl) ?_
 refine x1x rfl ?_
 refine w3w rfl rfl ?_
 refine x0x rfl r3r rfl rfl s1s rfl rfl ?_
 refine x0x rfl s1s rfl rfl y9y rfl rfl ?_
 refine x3x rfl y9y rfl rfl ?_
 refine x1x rfl ?_
 refine w3w rfl rfl ?_
 refine x0x rfl r3r rfl rfl b5n rfl rfl ?_
 refine x3x rfl b5n rfl rfl ?_
 refine x1x rfl ?_
 refine w3w rfl rfl ?_
 refine x0x rfl r3r rfl rfl s1s rfl rfl ?_
 refine x0x rfl s1s rfl rfl y9y rfl rfl ?_
 refine x3x rfl y9y rfl rfl ?_
 refine x1x rfl ?_
 refine w3w rfl rfl ?_
 refine x0x rfl r3r rfl rfl s1s rfl rfl ?_
 refine x0x rfl s1s rfl rfl y9y rfl rfl ?_
 refine x3x rfl y9y rfl rfl ?_
 refine x1x rfl ?_
 refine w3w rfl rfl ?_
 refine x0x rfl r3r rfl rfl s1s rfl rfl ?_
 refine x0x rfl s1s rfl rfl u4u rfl rfl ?_
 refine x3x rfl u4u rfl rfl ?_
 refine x1x rfl ?_
 refine w3w rfl rfl ?_
 refine x0x rfl r3r rfl rfl s1s rfl rfl ?_
 refine x0x rfl s1s rfl rfl p9p rfl rfl ?_
 refine x3x rfl p9p rfl rfl ?_
 refine x1x rfl ?_
 refine w3w rfl rfl ?_
 refine x0x rfl r3r rfl rfl s1s rfl rfl ?_
 refine x0x rfl s1s rfl rfl y9y rfl rfl ?_
 refine x3x rfl y9y rfl rfl ?_
 refine x1x rfl ?_
 refine w3w rfl rfl ?_
 refine x0x rfl r3r rfl rfl y9y rfl rfl ?_
 refine x3x rfl y9y rfl rfl ?_
 refine x1x rfl ?_
 refine w3w rfl rfl ?_
 refine x0x rfl r3r rfl rfl p4p rfl rfl ?_
 refine x3x rfl p4p rfl rfl ?_
 refine x1x rfl ?_
 refine w3w rfl rfl ?_
 refine x0x rfl r3r rfl rfl y9y rfl rfl ?_
 refine x3x rfl y9y rfl rfl ?_
 refine x1x rfl ?_
 refine w3w rfl rfl ?_
 refine x0x rfl r3r rfl rfl y9y rfl rfl ?_
 refine x3x rfl y9y rfl rfl ?_
 refine a0c z6z rfl a4v rfl (by simp only [pI, y9y, T3, b5n, T4, p4p, T22, w2w, T23, u4u, T24, p9p, T25, p1p, T26, a2w, r2r, AV.okc, AV.one, Value.oneCell', List.map_cons, List.map_nil, List.getElem?_cons_zero, List.getElem?_cons_succ, List.take_succ_cons, List.take_zero, List.drop_succ_cons, List.drop_zero, List.cons_append, List.nil_append, List.length_cons, List.length_nil, if_true, and_self, Nat.reduceAdd, Nat.reduceLeDiff]; rfl) ?_
 refine v3v (id := 8) z6z a4v rfl ?_
 refine u2u rfl rfl z6z rfl rfl rfl rfl ?_
 refine ⟨by kernel_rfl, ?_⟩
 refine x7x fun K1 hK1 => ?_
 refine x6x x9x (by rfl) ?_
 refine x1x rfl ?_
 refine w3w rfl rfl ?_
 refine x0x rfl r3r rfl rfl s1s rfl rfl ?_
 refine x0x rfl s1s rfl rfl a5f rfl rfl ?_
 refine x3x rfl a5f rfl rfl ?_
 refine a1v rfl a5f rfl rfl (by exact List.length_map _) ?_
 refine x1x rfl ?_
 refine y6y ?_
 refine a4g 8 4 5 65 5 rfl rfl rfl rfl rfl ?_
 refine u5u (ι := Nat) (fun i γ1 => [(63, .pv (.int .i64 (i : Int)))]) (fun i γ1 => [(5, ((γ1 5), .row 65 5 ((n.lanes.take i).map (a0v c)))), (8, ((0 + 1), .box 28 [pI n.id, .pv (.bool n.up), pI n.inc, pI n.g, .ref 5 (γ1 5), r7r c n.kept, a1j c n.outs, pI n.led, pI n.version, .pv (.slice none 0 0), .ref 3 (γ 3), pI n.round, pI n.low])), (9, ((γ1 9), .dead)), (10, ((γ1 10), .dead))]) (fun i => i ≤ n.lanes.length) (fun i => n.lanes.length - i) (x4x 0 rfl (x4x 2 rfl (x4x 3 rfl (x4x 62 rfl Cov.nil)))) (x5x 0 rfl (x5x 1 rfl (x5x 2 rfl (x5x 3 rfl (x5x 4 rfl (x5x 6 rfl (x5x 7 rfl (x5x 11 rfl (x5x 12 rfl HE.nil))))))))) 0 (by omega) [0, 0, 0, 0, 0, _, 0, 0, 0, _, _] (x4x 63 rfl Cov.nil) (HE.row rfl (by rw [List.take_zero]; rfl) (HE.box rfl rfl (HE.kill rfl (HE.kill rfl HE.nil)))) rfl fun i γ1 hi => ?_
 try dsimp only [List.cons_append, List.nil_append]
 refine x6x x9x (by rfl) ?_
 refine y4y rfl rfl rfl ?_
 refine x7x fun K2 hK2 => ?_
 refine y0y rfl (fun hc3 => ?_) (fun hc3 => ?_)
 ·try simp at hc3
  obtain ⟨l, hl⟩ : ∃ l, n.lanes[i]? = some l := w5w (by omega)
  refine y1y ?_
  refine hK2 _ _ ?_
  clear hK2 K2
  refine x7x fun K4 hK4 => ?_
  refine y6y ?_
  refine x6x x9x (by rfl) ?_
  refine x1x rfl ?_
  refine x2x rfl ?_
  refine r8r x9x r6r (by rfl) ?_
  refine x0x rfl z6z rfl rfl w2w rfl rfl ?_
  refine x3x rfl w2w rfl rfl ?_
  refine x1x rfl ?_
  refine x1x rfl ?_
  refine v2v [0, 1, 2, 3, 4] [_, _, _, _, _] (a7h c n _ (a0t _ _) i l hl (hN i l hl)) rfl rfl rfl (by decide) rfl rfl (by repeat (first | exact InH.nil | refine InH.cons rfl ?_)) (by (simp only [pI, z8z, z9z, p8p, gl, nx, p6p, Nat.beq]; rfl)) (by (simp only [pI, z8z, z9z, p8p, gl, nx, p6p, Nat.beq]; rfl)) ?_
  refine s4s (id := 9) w2w rfl v8v rfl rfl rfl rfl rfl rfl ?_
  refine s5s (zs := (n.lanes.take i ++ [l]).map (a0v c)) rfl rfl w2w rfl v8v rfl rfl rfl rfl (by rfl) (a1c _ _ _) (by (simp only [List.length_map, List.length_append, List.length_cons, List.length_nil, List.length_take, List.length_range, T65]; omega)) ?_
  refine x0x rfl z6z rfl rfl w2w rfl rfl ?_
  refine u8u rfl rfl w2w rfl rfl rfl rfl rfl (by simp only [a0p]; rfl) ?_
  refine ⟨by kernel_rfl, ?_⟩
  refine hK4 _ _ ?_
  clear hK4 K4
  refine y2y x9x (by rfl) ?_
  refine y4y rfl rfl rfl ?_
  refine x1x rfl ?_
  exact ⟨i + 1, ⟨by omega, by omega⟩, [0, 0, 0, 0, 0, _, 0, 0, 0, _, _], (Cov.cons' (t := 63) rfl (by rw [u9u (by omega) (by omega)]; rfl) Cov.nil), (x4x 0 rfl (x4x 2 rfl (x4x 3 rfl (x4x 62 rfl Cov.nil)))), (HE.row rfl (by simp only [p2p hl, List.map_append, List.map_cons, List.map_nil]) (HE.box rfl rfl (HE.kill rfl (HE.kill rfl HE.nil)))), (x5x 0 rfl (x5x 1 rfl (x5x 2 rfl (x5x 3 rfl (x5x 4 rfl (x5x 6 rfl (x5x 7 rfl (x5x 11 rfl (x5x 12 rfl HE.nil))))))))), rfl⟩
 try simp at hc3
 obtain rfl : i = n.lanes.length := by omega
 rw [List.take_length]
 refine v0v ?_
 refine hK1 _ _ ?_
 clear hK2 K2 hK1 K1
 refine x7x fun K5 hK5 => ?_
 refine x6x x9x (by rfl) ?_
 refine x1x rfl ?_
 refine y6y ?_
 refine a4g 8 9 6 141 3 rfl rfl rfl rfl rfl ?_
 refine u5u (ι := Nat) (fun i γ2 => [(75, .pv (.int .i64 (i : Int)))]) (fun i γ2 => [(6, ((γ2 6), .row 141 3 ((n.views.take i).map (a1n c)))), (8, ((0 + 1), .box 28 [pI n.id, .pv (.bool n.up), pI n.inc, pI n.g, .ref 5 (γ1 5), r7r c n.kept, a1j c n.outs, pI n.led, pI n.version, .ref 6 (γ2 6), .ref 3 (γ 3), pI n.round, pI n.low])), (11, ((γ2 11), .dead)), (12, ((γ2 12), .dead))]) (fun i => i ≤ 3) (fun i => 3 - i) (x4x 0 rfl (x4x 2 rfl (x4x 3 rfl Cov.nil))) (x5x 0 rfl (x5x 1 rfl (x5x 2 rfl (x5x 3 rfl (x5x 4 rfl (x5x 5 rfl (x5x 7 rfl (x5x 9 rfl (x5x 10 rfl HE.nil))))))))) 0 (by omega) [0, 0, 0, 0, 0, 0, _, 0, 0, 0, 0, _, _] (x4x 75 rfl Cov.nil) (HE.row rfl (by rfl) (HE.box rfl rfl (HE.kill rfl (HE.kill rfl HE.nil)))) rfl fun i γ2 hi => ?_
 try dsimp only [List.cons_append, List.nil_append]
 refine x6x x9x (by rfl) ?_
 refine y4y rfl rfl rfl ?_
 refine x7x fun K6 hK6 => ?_
 refine y0y rfl (fun hc7 => ?_) (fun hc7 => ?_)
 rotate_left
 ·try simp at hc7
  obtain rfl : i = 3 := by omega
  refine v0v ?_
  refine hK5 _ _ ?_
  clear hK6 K6 hK5 K5
  refine x6x x9x (by rfl) ?_
  refine y8y rfl z6z rfl rfl rfl ?_
  refine u2u rfl rfl z6z rfl rfl rfl rfl ?_
  refine y3y ?_
  exact ⟨.inr rfl, [γ 0, γ 1, γ 2, γ 3, γ 4, _, _], rfl, rfl, HE.row rfl rfl (HE.row rfl (by rw [List.take_of_length_le (by omega)]) (x5x 0 rfl (x5x 1 rfl (x5x 2 rfl (x5x 3 rfl (x5x 4 rfl HE.nil))))))⟩
 try simp at hc7
 obtain ⟨v, hv⟩ : ∃ v, n.views[i]? = some v := w5w (by omega)
 refine y1y ?_
 refine hK6 _ _ ?_
 clear hK6 K6
 refine x7x fun K8 hK8 => ?_
 refine y6y ?_
 refine x6x x9x (by rfl) ?_
 refine x1x rfl ?_
 refine x2x rfl ?_
 refine r8r x9x r6r (by rfl) ?_
 refine x0x rfl z6z rfl rfl p1p rfl rfl ?_
 refine x3x rfl p1p rfl rfl ?_
 refine x1x rfl ?_
 refine w3w rfl rfl ?_
 refine x0x rfl r3r rfl rfl a6e rfl rfl ?_
 refine x3x rfl a6e rfl rfl ?_
 refine x1x rfl ?_
 refine a2s (κ := Int) (enc := fun n => .int .i64 n) (ks := b2h n.views.length) (k := (i : Int)) (out := .agg (a1n c v)) x9x Tryz.underlying137 (a6j Tryz.underlying3) rfl rfl (fun _ _ _ h => c5f h) rfl (a6o _ _) (b3y hv) ?_
 refine s4s (id := 11) p1p rfl v6v rfl rfl rfl rfl rfl rfl ?_
 refine s5s (zs := (n.views.take i).map (a1n c) ++ [a1n c v]) rfl rfl p1p rfl v6v rfl rfl rfl rfl (by rfl) rfl (by simp only [List.length_append, List.length_map, List.length_range, List.length_take, List.length_cons, List.length_nil, T141]; omega) ?_
 refine x0x rfl z6z rfl rfl p1p rfl rfl ?_
 refine u8u rfl rfl p1p rfl rfl rfl rfl rfl (by simp only [a0p]; rfl) ?_
 refine ⟨by kernel_rfl, ?_⟩
 refine hK8 _ _ ?_
 clear hK8 K8
 refine y2y x9x (by rfl) ?_
 refine y4y rfl rfl rfl ?_
 refine x1x rfl ?_
 exact ⟨i + 1, ⟨by omega, by omega⟩, [0, 0, 0, 0, 0, 0, _, 0, 0, 0, 0, _, _], (Cov.cons' (t := 75) rfl (by rw [u9u (by omega) (by omega)]; rfl) Cov.nil), (x4x 0 rfl (x4x 2 rfl (x4x 3 rfl Cov.nil))), (HE.row rfl (by rw [p2p hv, List.map_append]; rfl) (HE.box rfl rfl (HE.kill rfl (HE.kill rfl HE.nil)))), (x5x 0 rfl (x5x 1 rfl (x5x 2 rfl (x5x 3 rfl (x5x 4 rfl (x5x 5 rfl (x5x 7 rfl (x5x 9 rfl (x5x 10 rfl HE.nil))))))))), rfl⟩
end
section
set_option maxHeartbeats 1000000 in
theorem b9l (c : Bool) (n0 n : Nd) (h0 : cNd n0 ≤ 1048576) (hlen : n.lanes.length ≤ 1048576) (hN : ∀ (i : Nat) l, n.lanes[i]? = some l → (a1d n.id 4)[i]? = some l.proc) (hv3 : n.views.length = 3) : Meth Tryz.prog 118 10 [0, 1, 2, 3, 4] [.agg (a1i c n0), .ptr 4 0 0] [(0, (0, .row 62 3 ((n.lanes).map fun l => s9s l.base))), (1, (0, .row 63 1 ((n.lanes).map fun l => [a3p c l.done]))), (2, (0, .map (a7e c n.views))), (3, (0, .row 3 1 (n.known.map a2h))), (4, (0, .box 139 [pI n.id, pI n.inc, pI n.g, pI n.led, .ref 0 0, r7r c n.kept, a1j c n.outs, .pv (.bool n.up), .ref 1 0, pI n.version, .mp 2 0, .ref 3 0, pI n.round, pI n.low])), (5, (0, .dead)), (6, (0, .dead)), (7, (0, .dead)), (8, (0, .dead)), (9, (0, .dead))] (.tup [.agg [pI (s7s n0 n).1.id, .pv (.bool (s7s n0 n).1.up), pI (s7s n0 n).1.inc, pI (s7s n0 n).1.g, .ref 5 0, .ref 6 0, .ref 7 0, pI (s7s n0 n).1.led, pI (s7s n0 n).1.version, .ref 8 0, .ref 9 0, pI (s7s n0 n).1.round, pI (s7s n0 n).1.low], .pv (.bool ((s7s n0 n).2))]) [(5, (0, .row 65 5 ((s7s n0 n).1.lanes.map a1t))), (6, (0, .row 76 7 ((s7s n0 n).1.kept.map v9v))), (7, (0, .row 104 5 ((s7s n0 n).1.outs.map a0y))), (8, (0, .row 141 3 ((s7s n0 n).1.views.map a1u))), (9, (0, .row 3 1 ((s7s n0 n).1.known.map a2h)))] := by
 refine u7u x9x (fn := Tryz.f118) (by kernel_rfl) (by kernel_rfl) rfl (O0 := [.agg [pI (s7s n0 n).1.id, .pv (.bool (s7s n0 n).1.up), pI (s7s n0 n).1.inc, pI (s7s n0 n).1.g, .ref 5 0, .ref 6 0, .ref 7 0, pI (s7s n0 n).1.led, pI (s7s n0 n).1.version, .ref 8 0, .ref 9 0, pI (s7s n0 n).1.round, pI (s7s n0 n).1.low], .pv (.bool ((s7s n0 n).2))]) 10 5 (v7v rfl) (by rfl) (by repeat (first | exact BndH.nil | refine BndH.dead ?_ | refine BndH.box rfl ?_ | refine BndH.row (u6u fun _ => rfl) ?_ | refine BndH.map (a0t _ _) ?_ )) (by repeat (first | exact BndH.nil | refine BndH.row (u6u fun _ => rfl) ?_ )) (by rfl) fun γ => ?_
 show Ex Tryz.prog _ _ [(0, .agg (a1i c n0)), (1, .ptr 4 (γ 4) 0)] [(0, ((γ 0), .row 62 3 ((n.lanes).map fun l => s9s l.base))), (1, ((γ 1), .row 63 1 ((n.lanes).map fun l => [a3p c l.done]))), (2, ((γ 2), .map (a7e c n.views))), (3, ((γ 3), .row 3 1 (n.known.map a2h))), (4, ((γ 4), .box 139 [pI n.id, pI n.inc, pI n.g, pI n.led, .ref 0 (γ 0), r7r c n.kept, a1j c n.outs, .pv (.bool n.up), .ref 1 (γ 1), pI n.version, .mp 2 (γ 2), .ref 3 (γ 3), pI n.round, pI n.low])), (5, ((γ 5), .dead)), (6, ((γ 6), .dead)), (7, ((γ 7), .dead)), (8, ((γ 8), .dead)), (9, ((γ 9), .dead)), (14, (0, .dead)), (13, (0, .dead)), (12, (0, .dead)), (11, (0, .dead)), (10, (0, .dead))] _
 refine x6x x9x (by rfl) ?_
 refine v4v (id := 10) rfl rfl rfl ?_
 refine v3v (id := 11) z6z a4v rfl ?_
 refine x2x rfl ?_
 refine x6x x9x (by rfl) ?_
 refine x1x rfl ?_
 refine v2v [0, 1, 2, 3, 4, 13, 14] [_, _, _, _, _, _, _] (b4g c n hlen hN hv3) rfl rfl rfl (by decide) rfl rfl (by repeat (first | exact InH.nil | refine InH.cons rfl ?_)) (by (simp only [pI, z8z, z9z, p8p, gl, nx, p6p, Nat.beq]; rfl)) (by (simp only [pI, z8z, z9z, p8p, gl, nx, p6p, Nat.beq]; rfl)) ?_
 refine v3v (id := 12) z6z a4v rfl ?_
 refine u2u rfl rfl z6z rfl rfl rfl rfl ?_
 refine x7x fun K1 hK1 => ?_
 refine x6x x9x (by rfl) ?_
 refine y8y rfl z6z rfl rfl rfl ?_
 refine a6i rfl rfl rfl (by exact c1s rfl rfl rfl .nil) (b4f false n) (by exact .pv _) ?_
 refine w6w rfl ?_
 refine y0y rfl (fun hc2 => ?_) (fun hc2 => ?_)
 ·try simp at hc2
  have fX : ¬ a1r n := a5g (by simpa using hc2)
  refine x6x x9x (by rfl) ?_
  refine y8y rfl z6z rfl rfl rfl ?_
  refine v2v [5, 6, 7, 8, 9] [_, _, _, _, _] (a6r c n0 h0) rfl rfl rfl (by decide) rfl rfl (by repeat (first | exact InH.nil | refine InH.cons rfl ?_)) (by (simp only [pI, z8z, z9z, p8p, gl, nx, p6p, Nat.beq]; rfl)) (by (simp only [pI, z8z, z9z, p8p, gl, nx, p6p, Nat.beq]; rfl)) ?_
  refine u2u rfl rfl z6z rfl rfl rfl rfl ?_
  refine x2x rfl ?_
  rw [c4d fX]
  refine y3y ?_
  exact ⟨.inr rfl, [γ 0, γ 1, γ 2, γ 3, γ 4, _, _, _, _, _], rfl, rfl, HE.row rfl rfl (HE.row rfl rfl (HE.row rfl rfl (HE.row rfl rfl (HE.row rfl rfl ((x5x 0 rfl (x5x 1 rfl (x5x 2 rfl (x5x 3 rfl (x5x 4 rfl HE.nil))))))))))⟩
 try simp at hc2
 have fK : a1r n := b1e.1 (by simpa using hc2)
 refine y1y ?_
 refine hK1 _ _ ?_
 clear hK1 K1
 refine x6x x9x (by rfl) ?_
 refine y8y rfl z6z rfl rfl rfl ?_
 refine c0y [5, 6, 7, 8, 9] [_, _, _, _, _] (a6r false n (by have := a1y fK.1; omega)) rfl rfl rfl (LendM.base (c1s rfl rfl rfl .nil)) rfl (by decide) rfl rfl (by repeat (first | exact InH.nil | refine InH.cons rfl ?_)) (by (simp only [pI, z8z, z9z, p8p, gl, nx, p6p, Nat.beq]; rfl)) (by (simp only [pI, z8z, z9z, p8p, gl, nx, p6p, Nat.beq]; rfl)) rfl rfl (d0p rfl) (by repeat (first | exact StrH.nil | refine StrH.dead ?_)) (by exact d7e .nil) ?_
 refine u2u rfl rfl z6z rfl rfl rfl rfl ?_
 refine x2x rfl ?_
 rw [c4b fK]
 refine y3y ?_
 exact ⟨.inr rfl, [γ 0, γ 1, γ 2, γ 3, γ 4, _, _, _, _, _], rfl, rfl, HE.row rfl rfl (HE.row rfl rfl (HE.row rfl rfl (HE.row rfl rfl (HE.row rfl rfl ((x5x 0 rfl (x5x 1 rfl (x5x 2 rfl (x5x 3 rfl (x5x 4 rfl HE.nil))))))))))⟩
end
section
theorem a3h (c : Bool) (l : List Ev) (x : Ev) : a0z Tryz.prog 237 [r7r c l, .agg (v9v x)] (.pv (.int .i64 (c8o x l))) := by
 refine z4z x9x (fn := Tryz.f237) (by kernel_rfl) (by kernel_rfl) rfl (outs := [.pv (.int .i64 (c8o x l))]) (by rfl) (v7v rfl) 1 ?_
 refine w4w 0 rfl fun hlen => ?_
 refine x6x x9x (by rfl) ?_
 refine v4v (id := 0) rfl rfl rfl ?_
 refine x2x rfl ?_
 refine x7x fun K1 hK1 => ?_
 refine x6x x9x (by rfl) ?_
 refine x1x rfl ?_
 refine u3u rfl u4u rfl ?_
 refine x1x rfl ?_
 refine y6y ?_
 refine u5u (ι := Nat) (fun i γ1 => [(8, .pv (.int .i64 (i : Int)))]) (fun i γ1 => []) (fun i => i ≤ l.length ∧ ¬ x ∈ l.take i) (fun i => l.length - i) (x4x 0 rfl (x4x 3 rfl (x4x 7 rfl Cov.nil))) (x5x 0 rfl HE.nil) 0 ⟨by omega, by simp⟩ [] (x4x 8 rfl Cov.nil) HE.nil rfl fun i γ1 hi => ?_
 try dsimp only [List.cons_append, List.nil_append]
 obtain ⟨k1, k2⟩ := hi
 refine x6x x9x (by rfl) ?_
 refine y4y rfl rfl rfl ?_
 refine x7x fun K2 hK2 => ?_
 refine y0y rfl (fun hc3 => ?_) (fun hc3 => ?_)
 rotate_left
 ·try simp at hc3
  obtain rfl : i = l.length := by omega
  rw [List.take_length] at k2
  refine v0v ?_
  refine hK1 _ _ ?_
  clear hK2 K2 hK1 K1
  refine x6x x9x (by rfl) ?_
  refine x2x rfl ?_
  refine y3y ⟨.inr rfl, ?_⟩
  refine z2z rfl ?_ rfl
  exact congrArg (fun v : Int => [AV.pv (.int .i64 v)]) (c5q k2).symm
 try simp at hc3
 obtain ⟨y, hy⟩ : ∃ y, l[i]? = some y := w5w (by omega)
 refine y1y ?_
 refine hK2 _ _ ?_
 clear hK2 K2
 refine x7x fun K4 hK4 => ?_
 refine y6y ?_
 refine x6x x9x (by rfl) ?_
 refine x1x rfl ?_
 refine x2x rfl ?_
 refine q5q x9x r6r (by rfl) ?_
 refine y8y rfl z3z rfl rfl rfl ?_
 refine x1x rfl ?_
 refine x1x rfl ?_
 refine u0u rfl rfl u4u rfl z3z rfl hy ?_
 refine z5z rfl z3z rfl rfl ?_
 refine a8p rfl rfl (by intro a c h; cases h) (.inl rfl) (d6x _ _ _ _) ?_
 refine ⟨by kernel_rfl, ?_⟩
 refine y0y rfl (fun hc5 => ?_) (fun hc5 => ?_)
 rotate_left
 ·try simp at hc5
  have hne : ¬ x = y := by simpa [a2n] using hc5
  refine y1y ?_
  refine hK4 _ _ ?_
  clear hK4 K4
  refine y2y x9x (by rfl) ?_
  refine u1u (b := 1) rfl rfl (by omega) ?_
  refine x1x rfl ?_
  exact ⟨i + 1, ⟨⟨by omega, by rw [p2p hy, List.mem_append, List.mem_singleton, not_or]; exact ⟨k2, hne⟩⟩, by omega⟩, [], (x4x 8 rfl Cov.nil), (x4x 0 rfl (x4x 3 rfl (x4x 7 rfl Cov.nil))), HE.nil, (x5x 0 rfl HE.nil), rfl⟩
 try simp at hc5
 have hxy : x = y := by simpa [a2n] using hc5
 subst hxy
 refine x6x x9x (by rfl) ?_
 refine x1x rfl ?_
 refine x2x rfl ?_
 refine y3y ⟨.inr rfl, ?_⟩
 clear hK4 K4 hK1 K1
 refine z2z rfl ?_ rfl
 exact congrArg (fun v : Int => [AV.pv (.int .i64 v)]) (d1o hy k2).symm
theorem a2v (c : Bool) (l : List Ev) (x : Ev) : a0z Tryz.prog 205 [r7r c l, .agg (v9v x)] (.pv (.bool (decide (x ∈ l)))) := by
 refine z4z x9x (fn := Tryz.f205) (by kernel_rfl) (by kernel_rfl) rfl (outs := [.pv (.bool (decide (x ∈ l)))]) (by rfl) (v7v rfl) 1 ?_
 refine x6x x9x (by rfl) ?_
 refine v4v (id := 0) rfl rfl rfl ?_
 refine x2x rfl ?_
 refine x6x x9x (by rfl) ?_
 refine x1x rfl ?_
 refine y8y rfl z3z rfl rfl rfl ?_
 refine z1z rfl rfl rfl (a3h c l x) ?_
 refine y4y rfl rfl rfl ?_
 refine x2x rfl ?_
 refine y3y ⟨.inr rfl, ?_⟩
 refine z2z rfl ?_ rfl
 exact congrArg (fun b : Bool => [AV.pv (.bool b)]) (d3w x l)
theorem a5h (c c' : Bool) (l o : List Ev) (g m : Int) : Meth Tryz.prog 204 2 [0, 1] [r7r c l, r7r c' o, .ptr 0 0 0, .ptr 1 0 0] [(0, (0, .box 3 [pI g])), (1, (0, .box 3 [pI m]))] (.tup []) [(1, (0, .box 3 [pI (chg g o m l)]))] := by
 refine u7u x9x (fn := Tryz.f204) (by kernel_rfl) (by kernel_rfl) rfl (O0 := []) 2 1 (v7v rfl) (by rfl) (by repeat (first | exact BndH.nil | refine BndH.box rfl ?_ )) (by repeat (first | exact BndH.nil | refine BndH.box rfl ?_ )) (by rfl) fun γ => ?_
 show Ex Tryz.prog _ _ [(0, r7r c l), (1, r7r c' o), (2, .ptr 0 (γ 0) 0), (3, .ptr 1 (γ 1) 0)] [(0, ((γ 0), .box 3 [pI g])), (1, ((γ 1), .box 3 [pI m])), (2, (0, .dead))] _
 refine w4w 0 rfl fun hlen => ?_
 refine x6x x9x (by rfl) ?_
 refine x1x rfl ?_
 refine u3u rfl u4u rfl ?_
 refine x1x rfl ?_
 refine y6y ?_
 refine u5u (ι := Nat) (fun i γ1 => [(10, .pv (.int .i64 (i : Int)))]) (fun i γ1 => [(1, ((γ 1), .box 3 [pI (chg g o m (l.take i))])), (2, ((γ1 2), .dead))]) (fun i => i ≤ l.length) (fun i => l.length - i) (x4x 1 rfl (x4x 2 rfl (x4x 3 rfl (x4x 8 rfl (x4x 9 rfl Cov.nil))))) (x5x 0 rfl HE.nil) 0 (by omega) [0, 0, _] (x4x 10 rfl Cov.nil) (HE.box rfl (by rw [List.take_zero]; rfl) (HE.kill rfl HE.nil)) rfl fun i γ1 hi => ?_
 try dsimp only [List.cons_append, List.nil_append]
 refine x6x x9x (by rfl) ?_
 refine y4y rfl rfl rfl ?_
 refine x7x fun K1 hK1 => ?_
 refine y0y rfl (fun hc2 => ?_) (fun hc2 => ?_)
 rotate_left
 ·try simp at hc2
  obtain rfl : i = l.length := by omega
  refine v0v ?_
  exact ⟨.inl rfl, [γ 0, γ 1], rfl, rfl, HE.box rfl (by rw [List.take_length]; rfl) (x5x 0 rfl HE.nil)⟩
 try simp at hc2
 obtain ⟨x, hx⟩ : ∃ x, l[i]? = some x := w5w (by omega)
 refine y1y ?_
 refine hK1 _ _ ?_
 clear hK1 K1
 refine x7x fun K3 hK3 => ?_
 refine y6y ?_
 refine x6x x9x (by rfl) ?_
 refine u0u rfl rfl u4u rfl z3z rfl hx ?_
 refine z5z rfl z3z rfl rfl ?_
 refine v3v (id := 2) z3z b7a rfl ?_
 refine u2u rfl rfl z3z rfl rfl rfl rfl ?_
 refine x6x x9x (by rfl) ?_
 refine x0x rfl z3z rfl rfl y9y rfl rfl ?_
 refine x3x rfl y9y rfl rfl ?_
 refine x3x rfl y9y rfl rfl ?_
 refine y4y rfl rfl rfl ?_
 refine x1x rfl ?_
 refine a0b rfl rfl (fun hg4 => ?_) (fun hg4 => ?_)
 rotate_left
 ·try simp at hg4
  have hn : ¬ (g ≤ x.time ∧ x.time < (chg g o m (l.take i)) ∧ ¬ x ∈ o) := fun q => (by have := q.1; omega)
  refine x8x rfl rfl ?_
  refine x8x rfl rfl ?_
  refine x8x rfl rfl ?_
  refine y5y rfl rfl ?_
  refine x1x rfl ?_
  refine x8x rfl rfl ?_
  refine x8x rfl rfl ?_
  refine x8x rfl rfl ?_
  refine x8x rfl rfl ?_
  refine y5y rfl rfl ?_
  refine y0y rfl (fun hc8 => ?_) (fun hc8 => ?_)
  ·simp at hc8
  try simp at hc8
  have hn : ¬ (g ≤ x.time ∧ x.time < (chg g o m (l.take i)) ∧ ¬ x ∈ o) := by exact hn
  refine y1y ?_
  refine hK3 _ _ ?_
  clear hK3 K3
  refine y2y x9x (by rfl) ?_
  refine u1u (b := 1) rfl rfl (by omega) ?_
  refine x1x rfl ?_
  exact ⟨i + 1, ⟨by omega, by omega⟩, [0, 0, _], (x4x 10 rfl Cov.nil), (x4x 1 rfl (x4x 2 rfl (x4x 3 rfl (x4x 8 rfl (x4x 9 rfl Cov.nil))))), (HE.box rfl (by rw [a5o hx, if_neg hn]) (HE.kill rfl HE.nil)), (x5x 0 rfl HE.nil), rfl⟩
 try simp at hg4
 refine x0x rfl z3z rfl rfl y9y rfl rfl ?_
 refine y7y rfl rfl ?_
 refine x3x rfl y9y rfl rfl ?_
 refine y7y rfl rfl ?_
 refine x3x rfl y9y rfl rfl ?_
 refine y7y rfl rfl ?_
 refine y4y rfl rfl rfl ?_
 refine z0z rfl rfl ?_
 refine x1x rfl ?_
 refine a0b rfl rfl (fun hg5 => ?_) (fun hg5 => ?_)
 rotate_left
 ·try simp at hg5
  have hn : ¬ (g ≤ x.time ∧ x.time < (chg g o m (l.take i)) ∧ ¬ x ∈ o) := by exact fun q => (by have := q.2.1; omega)
  refine x8x rfl rfl ?_
  refine x8x rfl rfl ?_
  refine x8x rfl rfl ?_
  refine y5y rfl rfl ?_
  refine y0y rfl (fun hc7 => ?_) (fun hc7 => ?_)
  ·simp at hc7
  try simp at hc7
  have hn : ¬ (g ≤ x.time ∧ x.time < (chg g o m (l.take i)) ∧ ¬ x ∈ o) := by exact hn
  refine y1y ?_
  refine hK3 _ _ ?_
  clear hK3 K3
  refine y2y x9x (by rfl) ?_
  refine u1u (b := 1) rfl rfl (by omega) ?_
  refine x1x rfl ?_
  exact ⟨i + 1, ⟨by omega, by omega⟩, [0, 0, _], (x4x 10 rfl Cov.nil), (x4x 1 rfl (x4x 2 rfl (x4x 3 rfl (x4x 8 rfl (x4x 9 rfl Cov.nil))))), (HE.box rfl (by rw [a5o hx, if_neg hn]) (HE.kill rfl HE.nil)), (x5x 0 rfl HE.nil), rfl⟩
 try simp at hg5
 refine x1x rfl ?_
 refine y7y rfl rfl ?_
 refine y8y rfl z3z rfl rfl rfl ?_
 refine y7y rfl rfl ?_
 refine z1z rfl rfl rfl (a2v c' o x) ?_
 refine y7y rfl rfl ?_
 refine w6w rfl ?_
 refine z0z rfl rfl ?_
 refine y0y rfl (fun hc6 => ?_) (fun hc6 => ?_)
 rotate_left
 ·try simp at hc6
  have hn : ¬ (g ≤ x.time ∧ x.time < (chg g o m (l.take i)) ∧ ¬ x ∈ o) := by exact fun q => q.2.2 (by exact hc6)
  refine y1y ?_
  refine hK3 _ _ ?_
  clear hK3 K3
  refine y2y x9x (by rfl) ?_
  refine u1u (b := 1) rfl rfl (by omega) ?_
  refine x1x rfl ?_
  exact ⟨i + 1, ⟨by omega, by omega⟩, [0, 0, _], (x4x 10 rfl Cov.nil), (x4x 1 rfl (x4x 2 rfl (x4x 3 rfl (x4x 8 rfl (x4x 9 rfl Cov.nil))))), (HE.box rfl (by rw [a5o hx, if_neg hn]) (HE.kill rfl HE.nil)), (x5x 0 rfl HE.nil), rfl⟩
 try simp at hc6
 have hy : g ≤ x.time ∧ x.time < (chg g o m (l.take i)) ∧ ¬ x ∈ o := ⟨by omega, by omega, by exact hc6⟩
 refine y2y x9x (by rfl) ?_
 refine x0x rfl z3z rfl rfl y9y rfl rfl ?_
 refine x3x rfl y9y rfl rfl ?_
 refine u8u rfl rfl y9y rfl rfl rfl rfl rfl (by simp only [a0p]; rfl) ?_
 refine hK3 _ _ ?_
 clear hK3 K3
 refine y2y x9x (by rfl) ?_
 refine u1u (b := 1) rfl rfl (by omega) ?_
 refine x1x rfl ?_
 exact ⟨i + 1, ⟨by omega, by omega⟩, [0, 0, _], (x4x 10 rfl Cov.nil), (x4x 1 rfl (x4x 2 rfl (x4x 3 rfl (x4x 8 rfl (x4x 9 rfl Cov.nil))))), (HE.box rfl (by (rw [a5o hx, if_pos hy]; try rfl)) (HE.kill rfl HE.nil)), (x5x 0 rfl HE.nil), rfl⟩
theorem a7i (c c' : Bool) (a b : List Ev) (g m : Int) : a0z Tryz.prog 139 [r7r c a, r7r c' b, .pv (.int .i64 g), .pv (.int .i64 m)] (.pv (.int .i64 (chg g a (chg g b m a) b))) := by
 refine z4z x9x (fn := Tryz.f139) (by kernel_rfl) (by kernel_rfl) rfl (outs := [.pv (.int .i64 (chg g a (chg g b m a) b))]) (by rfl) (v7v rfl) 2 ?_
 refine x6x x9x (by rfl) ?_
 refine b1u (id := 0) rfl rfl rfl rfl ?_
 refine x2x rfl ?_
 refine x6x x9x (by rfl) ?_
 refine x1x rfl ?_
 refine v3v (id := 1) y9y d9j rfl ?_
 refine u8u rfl rfl y9y rfl rfl rfl rfl rfl (by simp only [a0p]; rfl) ?_
 refine x6x x9x (by rfl) ?_
 refine a6k rfl rfl ?_
 refine x2x rfl ?_
 refine x6x x9x (by rfl) ?_
 refine x1x rfl ?_
 refine x1x rfl ?_
 refine x1x rfl ?_
 refine v2v [0, 1] [_, _] (a5h c c' a b g m) rfl rfl rfl (by decide) rfl rfl (by repeat (first | exact InH.nil | refine InH.cons rfl ?_)) (by (simp only [pI, z8z, z9z, p8p, gl, nx, p6p, Nat.beq]; rfl)) (by (simp only [pI, z8z, z9z, p8p, gl, nx, p6p, Nat.beq]; rfl)) ?_
 refine x6x x9x (by rfl) ?_
 refine x1x rfl ?_
 refine x1x rfl ?_
 refine x1x rfl ?_
 refine v2v [0, 1] [_, _] (a5h c' c b a g (chg g b m a)) rfl rfl rfl (by decide) rfl rfl (by repeat (first | exact InH.nil | refine InH.cons rfl ?_)) (by (simp only [pI, z8z, z9z, p8p, gl, nx, p6p, Nat.beq]; rfl)) (by (simp only [pI, z8z, z9z, p8p, gl, nx, p6p, Nat.beq]; rfl)) ?_
 refine x6x x9x (by rfl) ?_
 refine x3x rfl y9y rfl rfl ?_
 refine x2x rfl ?_
 refine y3y ⟨.inr rfl, ?_⟩
 exact z2z rfl rfl rfl
set_option maxHeartbeats 1000000 in
theorem b8l (c c' : Bool) (n : Nd) (f inc ver g : Int) (es : List Ev) : a0z Tryz.prog 137 [.agg (a1i c n), .pv (.int .i64 f), .pv (.int .i64 inc), .pv (.int .i64 ver), .pv (.int .i64 g), r7r c' es] (.pv (.bool (kb (a0h n f inc ver g es)))) := by
 refine z4z x9x (fn := Tryz.f137) (by kernel_rfl) (by kernel_rfl) rfl (outs := [.pv (.bool (kb (a0h n f inc ver g es)))]) (by rfl) (v7v rfl) 2 ?_
 refine x6x x9x (by rfl) ?_
 refine v4v (id := 0) rfl rfl rfl ?_
 refine x2x rfl ?_
 refine x7x fun K1 hK1 => ?_
 refine x6x x9x (by rfl) ?_
 refine x0x rfl z6z rfl rfl b5n rfl rfl ?_
 refine x3x rfl b5n rfl rfl ?_
 refine w6w rfl ?_
 refine x1x rfl ?_
 refine a0b rfl rfl (fun hg2 => ?_) (fun hg2 => ?_)
 rotate_left
 ·try simp at hg2
  have fX : ¬ a0h n f inc ver g es := by (rintro ⟨m1, m2, m3, m4, m5, m6, m7, m8, m9⟩; (simp_all; done))
  refine x8x rfl rfl ?_
  refine x8x rfl rfl ?_
  refine z0z rfl rfl ?_
  refine x1x rfl ?_
  refine x8x rfl rfl ?_
  refine x8x rfl rfl ?_
  refine x8x rfl rfl ?_
  refine z0z rfl rfl ?_
  refine x1x rfl ?_
  refine x8x rfl rfl ?_
  refine x8x rfl rfl ?_
  refine x8x rfl rfl ?_
  refine x8x rfl rfl ?_
  refine z0z rfl rfl ?_
  refine y0y rfl (fun hc23 => ?_) (fun hc23 => ?_)
  rotate_left
  ·simp at hc23
  try simp at hc23
  have fX : ¬ a0h n f inc ver g es := by exact fX
  refine x6x x9x (by rfl) ?_
  refine x2x rfl ?_
  refine y3y ⟨.inr rfl, ?_⟩
  clear hK1 K1
  refine z2z rfl ?_ rfl
  exact congrArg (fun b : Bool => [AV.pv (.bool b)]) (a5l fX)
 try simp at hg2
 have fUp : n.up = true := by exact hg2
 refine x0x rfl z6z rfl rfl y9y rfl rfl ?_
 refine y7y rfl rfl ?_
 refine x3x rfl y9y rfl rfl ?_
 refine y7y rfl rfl ?_
 refine y4y rfl rfl rfl ?_
 refine y5y rfl rfl ?_
 refine x1x rfl ?_
 refine a0b rfl rfl (fun hg3 => ?_) (fun hg3 => ?_)
 rotate_left
 ·try simp at hg3
  have fX : ¬ a0h n f inc ver g es := by (rintro ⟨m1, m2, m3, m4, m5, m6, m7, m8, m9⟩; omega)
  refine x8x rfl rfl ?_
  refine x8x rfl rfl ?_
  refine z0z rfl rfl ?_
  refine x1x rfl ?_
  refine x8x rfl rfl ?_
  refine x8x rfl rfl ?_
  refine x8x rfl rfl ?_
  refine x8x rfl rfl ?_
  refine z0z rfl rfl ?_
  refine y0y rfl (fun hc22 => ?_) (fun hc22 => ?_)
  rotate_left
  ·simp at hc22
  try simp at hc22
  have fX : ¬ a0h n f inc ver g es := by exact fX
  refine x6x x9x (by rfl) ?_
  refine x2x rfl ?_
  refine y3y ⟨.inr rfl, ?_⟩
  clear hK1 K1
  refine z2z rfl ?_ rfl
  exact congrArg (fun b : Bool => [AV.pv (.bool b)]) (a5l fX)
 try simp at hg3
 refine x1x rfl ?_
 refine y7y rfl rfl ?_
 refine z1z rfl rfl rfl (b3z ..) ?_
 refine y7y rfl rfl ?_
 refine w6w rfl ?_
 refine y5y rfl rfl ?_
 refine x1x rfl ?_
 refine a0b rfl rfl (fun hg4 => ?_) (fun hg4 => ?_)
 rotate_left
 ·try simp at hg4
  have fX : ¬ a0h n f inc ver g es := by (rintro ⟨m1, m2, m3, m4, m5, m6, m7, m8, m9⟩; omega)
  refine x8x rfl rfl ?_
  refine x8x rfl rfl ?_
  refine x8x rfl rfl ?_
  refine z0z rfl rfl ?_
  refine y0y rfl (fun hc21 => ?_) (fun hc21 => ?_)
  rotate_left
  ·simp at hc21
  try simp at hc21
  have fX : ¬ a0h n f inc ver g es := by exact fX
  refine x6x x9x (by rfl) ?_
  refine x2x rfl ?_
  refine y3y ⟨.inr rfl, ?_⟩
  clear hK1 K1
  refine z2z rfl ?_ rfl
  exact congrArg (fun b : Bool => [AV.pv (.bool b)]) (a5l fX)
 try simp at hg4
 refine x1x rfl ?_
 refine y7y rfl rfl ?_
 refine x0x rfl z6z rfl rfl y9y rfl rfl ?_
 refine y7y rfl rfl ?_
 refine x3x rfl y9y rfl rfl ?_
 refine y7y rfl rfl ?_
 refine y4y rfl rfl rfl ?_
 refine y5y rfl rfl ?_
 refine y0y rfl (fun hc5 => ?_) (fun hc5 => ?_)
 ·try simp at hc5
  have fX : ¬ a0h n f inc ver g es := by (rintro ⟨m1, m2, m3, m4, m5, m6, m7, m8, m9⟩; omega)
  refine x6x x9x (by rfl) ?_
  refine x2x rfl ?_
  refine y3y ⟨.inr rfl, ?_⟩
  clear hK1 K1
  refine z2z rfl ?_ rfl
  exact congrArg (fun b : Bool => [AV.pv (.bool b)]) (a5l fX)
 try simp at hc5
 have f4 : ¬ f = n.id := by exact hc5
 refine y1y ?_
 refine hK1 _ _ ?_
 clear hK1 K1
 refine x7x fun K6 hK6 => ?_
 refine x6x x9x (by rfl) ?_
 refine x1x rfl ?_
 refine z1z rfl rfl rfl (w9w ..) ?_
 refine w6w rfl ?_
 refine x1x rfl ?_
 refine a0b rfl rfl (fun hg7 => ?_) (fun hg7 => ?_)
 rotate_left
 ·try simp at hg7
  have fX : ¬ a0h n f inc ver g es := by (rintro ⟨m1, m2, m3, m4, m5, m6, m7, m8, m9⟩; omega)
  refine x8x rfl rfl ?_
  refine x8x rfl rfl ?_
  refine z0z rfl rfl ?_
  refine x1x rfl ?_
  refine x8x rfl rfl ?_
  refine x8x rfl rfl ?_
  refine x8x rfl rfl ?_
  refine z0z rfl rfl ?_
  refine y0y rfl (fun hc20 => ?_) (fun hc20 => ?_)
  rotate_left
  ·simp at hc20
  try simp at hc20
  have fX : ¬ a0h n f inc ver g es := by exact fX
  refine x6x x9x (by rfl) ?_
  refine x2x rfl ?_
  refine y3y ⟨.inr rfl, ?_⟩
  clear hK6 K6
  refine z2z rfl ?_ rfl
  exact congrArg (fun b : Bool => [AV.pv (.bool b)]) (a5l fX)
 try simp at hg7
 refine x1x rfl ?_
 refine y7y rfl rfl ?_
 refine z1z rfl rfl rfl (w9w ..) ?_
 refine y7y rfl rfl ?_
 refine w6w rfl ?_
 refine y5y rfl rfl ?_
 refine x1x rfl ?_
 refine a0b rfl rfl (fun hg8 => ?_) (fun hg8 => ?_)
 rotate_left
 ·try simp at hg8
  have fX : ¬ a0h n f inc ver g es := by (rintro ⟨m1, m2, m3, m4, m5, m6, m7, m8, m9⟩; omega)
  refine x8x rfl rfl ?_
  refine x8x rfl rfl ?_
  refine z0z rfl rfl ?_
  refine y0y rfl (fun hc19 => ?_) (fun hc19 => ?_)
  rotate_left
  ·simp at hc19
  try simp at hc19
  have fX : ¬ a0h n f inc ver g es := by exact fX
  refine x6x x9x (by rfl) ?_
  refine x2x rfl ?_
  refine y3y ⟨.inr rfl, ?_⟩
  clear hK6 K6
  refine z2z rfl ?_ rfl
  exact congrArg (fun b : Bool => [AV.pv (.bool b)]) (a5l fX)
 try simp at hg8
 refine x1x rfl ?_
 refine y7y rfl rfl ?_
 refine z1z rfl rfl rfl (w9w ..) ?_
 refine y7y rfl rfl ?_
 refine w6w rfl ?_
 refine y5y rfl rfl ?_
 refine y0y rfl (fun hc9 => ?_) (fun hc9 => ?_)
 ·try simp at hc9
  have fX : ¬ a0h n f inc ver g es := by (rintro ⟨m1, m2, m3, m4, m5, m6, m7, m8, m9⟩; omega)
  refine x6x x9x (by rfl) ?_
  refine x2x rfl ?_
  refine y3y ⟨.inr rfl, ?_⟩
  clear hK6 K6
  refine z2z rfl ?_ rfl
  exact congrArg (fun b : Bool => [AV.pv (.bool b)]) (a5l fX)
 try simp at hc9
 refine y1y ?_
 refine hK6 _ _ ?_
 clear hK6 K6
 refine x7x fun K10 hK10 => ?_
 refine x6x x9x (by rfl) ?_
 refine x1x rfl ?_
 refine u3u rfl u4u rfl ?_
 refine x1x rfl ?_
 refine y6y ?_
 refine w4w 5 rfl fun hlen => ?_
 refine u5u (ι := Nat) (fun i γ1 => [(49, .pv (.int .i64 (i : Int)))]) (fun i γ1 => [(1, ((γ1 1), .dead))]) (fun i => i ≤ es.length ∧ c8f es (fun _ e => s0s e.to = n.id ∧ (e.from' = -1 ∨ s0s e.from' = f)) i) (fun i => es.length - i) (x4x 1 rfl (x4x 5 rfl (x4x 6 rfl (x4x 47 rfl (x4x 48 rfl Cov.nil))))) (x5x 0 rfl HE.nil) 0 ⟨by omega, a3x⟩ [0, _] (x4x 49 rfl Cov.nil) (HE.kill rfl HE.nil) rfl fun i γ1 hi => ?_
 try dsimp only [List.cons_append, List.nil_append]
 obtain ⟨k1, k2⟩ := hi
 refine x6x x9x (by rfl) ?_
 refine y4y rfl rfl rfl ?_
 refine x7x fun K11 hK11 => ?_
 refine y0y rfl (fun hc12 => ?_) (fun hc12 => ?_)
 rotate_left
 ·try simp at hc12
  have hall := a5m k2 (by omega)
  refine v0v ?_
  refine hK10 _ _ ?_
  clear hK11 K11 hK10 K10
  refine x6x x9x (by rfl) ?_
  refine x1x rfl ?_
  refine z1z rfl rfl rfl (a4c c' es 100) ?_
  refine x2x rfl ?_
  refine y3y ⟨.inr rfl, ?_⟩
  refine z2z rfl ?_ rfl
  exact congrArg (fun b : Bool => [AV.pv (.bool b)]) (d6m ⟨fun q => ⟨fUp, by omega, by omega, f4, by omega, by omega, by omega, q, fun e he => by obtain ⟨i, hi⟩ := List.getElem?_of_mem he; exact hall i e hi⟩, fun q => q.2.2.2.2.2.2.2.1⟩)
 try simp at hc12
 obtain ⟨e, he⟩ : ∃ e, es[i]? = some e := w5w (by omega)
 refine y1y ?_
 refine hK11 _ _ ?_
 clear hK11 K11
 refine x7x fun K13 hK13 => ?_
 refine y6y ?_
 refine x6x x9x (by rfl) ?_
 refine u0u rfl rfl u4u rfl z3z rfl he ?_
 refine z5z rfl z3z rfl rfl ?_
 refine v3v (id := 1) z3z b7a rfl ?_
 refine u2u rfl rfl z3z rfl rfl rfl rfl ?_
 refine q5q x9x r6r (by rfl) ?_
 refine x0x rfl z3z rfl rfl y9y rfl rfl ?_
 refine x3x rfl y9y rfl rfl ?_
 refine z1z rfl rfl rfl (a5t ..) ?_
 refine x0x rfl z6z rfl rfl y9y rfl rfl ?_
 refine x3x rfl y9y rfl rfl ?_
 refine y4y rfl rfl rfl ?_
 refine x1x rfl ?_
 refine a0b rfl rfl (fun hg14 => ?_) (fun hg14 => ?_)
 rotate_left
 ·try simp at hg14
  have fE : ¬ (s0s e.to = n.id ∧ (e.from' = -1 ∨ s0s e.from' = f)) := fun q => (by have := q.1; omega)
  refine x8x rfl rfl ?_
  refine x8x rfl rfl ?_
  refine x8x rfl rfl ?_
  refine p0p rfl rfl ?_
  refine p0p rfl rfl ?_
  refine p0p rfl rfl ?_
  refine p0p rfl rfl ?_
  refine p0p rfl rfl ?_
  refine x8x rfl rfl ?_
  refine z0z rfl rfl ?_
  refine ⟨by kernel_rfl, ?_⟩
  refine y0y rfl (fun hc18 => ?_) (fun hc18 => ?_)
  rotate_left
  ·simp at hc18
  try simp at hc18
  have fE : ¬ (s0s e.to = n.id ∧ (e.from' = -1 ∨ s0s e.from' = f)) := by exact fE
  have fX : ¬ a0h n f inc ver g es := fun q => fE (q.2.2.2.2.2.2.2.2 e (List.mem_of_getElem? he))
  refine x6x x9x (by rfl) ?_
  refine x2x rfl ?_
  refine y3y ⟨.inr rfl, ?_⟩
  clear hK13 K13 hK10 K10
  refine z2z rfl ?_ rfl
  exact congrArg (fun b : Bool => [AV.pv (.bool b)]) (a5l fX)
 try simp at hg14
 have e1 : s0s e.to = n.id := by exact hg14
 refine x0x rfl z3z rfl rfl y9y rfl rfl ?_
 refine y7y rfl rfl ?_
 refine x3x rfl y9y rfl rfl ?_
 refine y7y rfl rfl ?_
 refine y4y rfl rfl rfl ?_
 refine y7y rfl rfl ?_
 refine x1x rfl ?_
 refine a0b rfl rfl (fun hg15 => ?_) (fun hg15 => ?_)
 rotate_left
 ·try simp at hg15
  have hE : s0s e.to = n.id ∧ (e.from' = -1 ∨ s0s e.from' = f) := ⟨e1, .inl (by exact hg15)⟩
  refine x8x rfl rfl ?_
  refine x8x rfl rfl ?_
  refine x8x rfl rfl ?_
  refine x8x rfl rfl ?_
  refine y7y rfl rfl ?_
  refine y5y rfl rfl ?_
  refine y5y rfl rfl ?_
  refine ⟨by kernel_rfl, ?_⟩
  refine y0y rfl (fun hc17 => ?_) (fun hc17 => ?_)
  ·simp at hc17
  try simp at hc17
  have hE : s0s e.to = n.id ∧ (e.from' = -1 ∨ s0s e.from' = f) := by exact hE
  refine y1y ?_
  refine hK13 _ _ ?_
  clear hK13 K13
  refine y2y x9x (by rfl) ?_
  refine u1u (b := 1) rfl rfl (by omega) ?_
  refine x1x rfl ?_
  exact ⟨i + 1, ⟨⟨by omega, a2t k2 he hE⟩, by omega⟩, [0, _], (x4x 49 rfl Cov.nil), (x4x 1 rfl (x4x 5 rfl (x4x 6 rfl (x4x 47 rfl (x4x 48 rfl Cov.nil))))), (HE.kill rfl HE.nil), (x5x 0 rfl HE.nil), rfl⟩
 try simp at hg15
 refine x0x rfl z3z rfl rfl y9y rfl rfl ?_
 refine y7y rfl rfl ?_
 refine x3x rfl y9y rfl rfl ?_
 refine y7y rfl rfl ?_
 refine z1z rfl rfl rfl (a5t ..) ?_
 refine y7y rfl rfl ?_
 refine x1x rfl ?_
 refine y7y rfl rfl ?_
 refine y4y rfl rfl rfl ?_
 refine y7y rfl rfl ?_
 refine z0z rfl rfl ?_
 refine y5y rfl rfl ?_
 refine ⟨by kernel_rfl, ?_⟩
 refine y0y rfl (fun hc16 => ?_) (fun hc16 => ?_)
 rotate_left
 ·try simp at hc16
  have hE : s0s e.to = n.id ∧ (e.from' = -1 ∨ s0s e.from' = f) := by exact ⟨e1, .inr (by exact hc16)⟩
  refine y1y ?_
  refine hK13 _ _ ?_
  clear hK13 K13
  refine y2y x9x (by rfl) ?_
  refine u1u (b := 1) rfl rfl (by omega) ?_
  refine x1x rfl ?_
  exact ⟨i + 1, ⟨⟨by omega, a2t k2 he hE⟩, by omega⟩, [0, _], (x4x 49 rfl Cov.nil), (x4x 1 rfl (x4x 5 rfl (x4x 6 rfl (x4x 47 rfl (x4x 48 rfl Cov.nil))))), (HE.kill rfl HE.nil), (x5x 0 rfl HE.nil), rfl⟩
 try simp at hc16
 have fE : ¬ (s0s e.to = n.id ∧ (e.from' = -1 ∨ s0s e.from' = f)) := by (rintro ⟨q1, q2 | q2⟩ <;> omega)
 have fX : ¬ a0h n f inc ver g es := fun q => fE (q.2.2.2.2.2.2.2.2 e (List.mem_of_getElem? he))
 refine x6x x9x (by rfl) ?_
 refine x2x rfl ?_
 refine y3y ⟨.inr rfl, ?_⟩
 clear hK13 K13 hK10 K10
 refine z2z rfl ?_ rfl
 exact congrArg (fun b : Bool => [AV.pv (.bool b)]) (a5l fX)
end
section
theorem b4h (c : Bool) (n : Nd) (hs : (a0l n).length ≤ 5000000) (hlen : n.lanes.length ≤ 1048576) : Meth Tryz.prog 189 6 [0, 1, 2, 3, 4] [.ptr 4 0 0] [(0, (0, .row 62 3 ((n.lanes).map fun l => s9s l.base))), (1, (0, .row 63 1 ((n.lanes).map fun l => [a3p c l.done]))), (2, (0, .map (a7e c n.views))), (3, (0, .row 3 1 (n.known.map a2h))), (4, (0, .box 139 [pI n.id, pI n.inc, pI n.g, pI n.led, .ref 0 0, r7r c n.kept, a1j c n.outs, .pv (.bool n.up), .ref 1 0, pI n.version, .mp 2 0, .ref 3 0, pI n.round, pI n.low])), (5, (0, .dead))] (r7r true (a0l n)) [(5, (0, .dead))] := by
 refine u7u x9x (fn := Tryz.f189) (by kernel_rfl) (by kernel_rfl) rfl (O0 := [r7r true (a0l n)]) 6 2 (v7v rfl) (by rfl) (by repeat (first | exact BndH.nil | refine BndH.dead ?_ | refine BndH.box rfl ?_ | refine BndH.row (u6u fun _ => rfl) ?_ | refine BndH.map (a0t _ _) ?_ )) (by repeat (first | exact BndH.nil | refine BndH.dead ?_ )) (by rfl) fun γ => ?_
 show Ex Tryz.prog _ _ [(0, .ptr 4 (γ 4) 0)] [(0, ((γ 0), .row 62 3 ((n.lanes).map fun l => s9s l.base))), (1, ((γ 1), .row 63 1 ((n.lanes).map fun l => [a3p c l.done]))), (2, ((γ 2), .map (a7e c n.views))), (3, ((γ 3), .row 3 1 (n.known.map a2h))), (4, ((γ 4), .box 139 [pI n.id, pI n.inc, pI n.g, pI n.led, .ref 0 (γ 0), r7r c n.kept, a1j c n.outs, .pv (.bool n.up), .ref 1 (γ 1), pI n.version, .mp 2 (γ 2), .ref 3 (γ 3), pI n.round, pI n.low])), (5, ((γ 5), .dead)), (7, (0, .dead)), (6, (0, .dead))] _
 have hkl : n.kept.length ≤ 5000000 := by simp only [a0l, List.length_append] at hs; omega
 refine x6x x9x (by rfl) ?_
 refine x2x rfl ?_
 refine x6x x9x (by rfl) ?_
 refine x1x rfl ?_
 refine w3w rfl rfl ?_
 refine x0x rfl r3r rfl rfl s1s rfl rfl ?_
 refine x0x rfl s1s rfl rfl u4u rfl rfl ?_
 refine x3x rfl u4u rfl rfl ?_
 refine v2v [5] [_] (q1q c n.kept (by omega)) rfl rfl rfl (by decide) rfl rfl (by repeat (first | exact InH.nil | refine InH.cons rfl ?_)) (by (simp only [pI, z8z, z9z, p8p, gl, nx, p6p, Nat.beq]; rfl)) (by (simp only [pI, z8z, z9z, p8p, gl, nx, p6p, Nat.beq]; rfl)) ?_
 refine x2x rfl ?_
 refine x7x fun K1 hK1 => ?_
 refine x6x x9x (by rfl) ?_
 refine x1x rfl ?_
 refine w3w rfl rfl ?_
 refine x0x rfl r3r rfl rfl a2b rfl rfl ?_
 refine x3x rfl a2b rfl rfl ?_
 refine a1v rfl a2b rfl rfl (by exact List.length_map _) ?_
 refine x1x rfl ?_
 refine y6y ?_
 refine u5u (ι := Nat) (fun i γ1 => [(3, .ref 5 (γ1 5)), (19, .pv (.int .i64 (i : Int)))]) (fun i γ1 => [(5, ((γ1 5), .row 76 7 ((n.kept ++ (n.lanes.take i).flatMap a7l).map v9v))), (6, ((γ1 6), .dead)), (7, ((γ1 7), .dead))]) (fun i => i ≤ n.lanes.length) (fun i => n.lanes.length - i) (x4x 17 rfl (x4x 18 rfl Cov.nil)) (x5x 0 rfl (x5x 1 rfl (x5x 2 rfl (x5x 3 rfl (x5x 4 rfl HE.nil))))) 0 (by omega) [0, 0, 0, 0, 0, _, _, _] (x4x 3 rfl (x4x 19 rfl Cov.nil)) (HE.row rfl (by simp) (HE.kill rfl (HE.kill rfl HE.nil))) rfl fun i γ1 hi => ?_
 try dsimp only [List.cons_append, List.nil_append]
 refine x6x x9x (by rfl) ?_
 refine y4y rfl rfl rfl ?_
 refine x7x fun K2 hK2 => ?_
 refine y0y rfl (fun hc3 => ?_) (fun hc3 => ?_)
 rotate_left
 ·try simp at hc3
  obtain rfl : i = n.lanes.length := by omega
  refine v0v ?_
  refine hK1 _ _ ?_
  clear hK2 K2 hK1 K1
  refine x6x x9x (by rfl) ?_
  refine x1x rfl ?_
  refine x2x rfl ?_
  refine a3v 2 rfl rfl (fun _ => rfl) ?_
  refine y3y ?_
  exact ⟨.inr rfl, [γ 0, γ 1, γ 2, γ 3, γ 4, _], rfl, congrArg (fun l : List Ev => some [r7r true l]) (by rw [List.take_length]; rfl), HE.kill rfl (x5x 0 rfl (x5x 1 rfl (x5x 2 rfl (x5x 3 rfl (x5x 4 rfl HE.nil)))))⟩
 try simp at hc3
 obtain ⟨p, hp⟩ : ∃ p, n.lanes[i]? = some p := w5w (by omega)
 refine y1y ?_
 refine hK2 _ _ ?_
 clear hK2 K2
 refine x7x fun K4 hK4 => ?_
 refine y6y ?_
 refine x6x x9x (by rfl) ?_
 refine q6q (j := i) rfl rfl a2b rfl w0w rfl rfl (q0q hp) ?_
 refine a3u rfl w0w rfl hp rfl ?_
 refine x2x rfl ?_
 refine x6x x9x (by rfl) ?_
 refine x1x rfl ?_
 refine u3u rfl w0w rfl ?_
 refine x1x rfl ?_
 refine y6y ?_
 refine w4w 23 rfl fun hlen2 => ?_
 refine u5u (ι := Nat) (fun j γ2 => [(3, .ref 5 (γ2 5)), (25, .pv (.int .i64 (j : Int)))]) (fun j γ2 => [(5, ((γ2 5), .row 76 7 ((n.kept ++ (n.lanes.take i).flatMap a7l ++ (p.done.take j).flatMap Pa.sends).map v9v))), (6, ((γ2 6), .dead)), (7, ((γ2 7), .dead))]) (fun j => j ≤ p.done.length) (fun j => p.done.length - j) (x4x 17 rfl (x4x 18 rfl (x4x 19 rfl (x4x 23 rfl (x4x 24 rfl Cov.nil))))) (x5x 0 rfl (x5x 1 rfl (x5x 2 rfl (x5x 3 rfl (x5x 4 rfl HE.nil))))) 0 (by omega) [0, 0, 0, 0, 0, _, _, _] (x4x 3 rfl (x4x 25 rfl Cov.nil)) (HE.row rfl (by simp) (HE.kill rfl (HE.kill rfl HE.nil))) rfl fun j γ2 hi => ?_
 try dsimp only [List.cons_append, List.nil_append]
 refine x6x x9x (by rfl) ?_
 refine y4y rfl rfl rfl ?_
 refine x7x fun K5 hK5 => ?_
 refine y0y rfl (fun hc6 => ?_) (fun hc6 => ?_)
 rotate_left
 ·try simp at hc6
  obtain rfl : j = p.done.length := by omega
  refine v0v ?_
  refine hK4 _ _ ?_
  clear hK5 K5 hK4 K4
  refine y2y x9x (by rfl) ?_
  refine y4y rfl rfl rfl ?_
  refine x1x rfl ?_
  exact ⟨i + 1, ⟨by omega, by omega⟩, [0, 0, 0, 0, 0, _, _, _], (x4x 3 rfl (Cov.cons' (t := 19) rfl (by rw [u9u (by omega) (by omega)]; rfl) Cov.nil)), (x4x 17 rfl (x4x 18 rfl Cov.nil)), (HE.row rfl (by simp only [a8h hp, List.append_assoc, a7l, List.take_length]) (HE.kill rfl (HE.kill rfl HE.nil))), (x5x 0 rfl (x5x 1 rfl (x5x 2 rfl (x5x 3 rfl (x5x 4 rfl HE.nil))))), rfl⟩
 try simp at hc6
 obtain ⟨q, hq⟩ : ∃ q, p.done[j]? = some q := w5w (by omega)
 have hsp := b7w hp hq
 refine y1y ?_
 refine hK5 _ _ ?_
 clear hK5 K5
 refine x7x fun K7 hK7 => ?_
 refine y6y ?_
 refine x6x x9x (by rfl) ?_
 refine u0u rfl rfl w0w rfl w1w rfl (by assumption) ?_
 refine z5z rfl w1w rfl rfl ?_
 refine v3v (id := 6) w1w b5o rfl ?_
 refine u2u rfl rfl w1w rfl rfl rfl rfl ?_
 refine y2y x9x (by rfl) ?_
 refine x1x rfl ?_
 refine x0x rfl w1w rfl rfl u4u rfl rfl ?_
 refine x3x rfl u4u rfl rfl ?_
 refine a1e (zs := (n.kept ++ (n.lanes.take i).flatMap a7l ++ (p.done.take j).flatMap Pa.sends ++ q.sends).map v9v) rfl rfl u4u rfl z3z rfl rfl rfl (by exact a0m (fun _ => rfl) _) (b4q _ _ _) (by have hb56 : T76.bytes = 56 := rfl; rw [List.length_map, hb56]; omega) ?_
 refine x2x rfl ?_
 refine hK7 _ _ ?_
 clear hK7 K7
 refine y2y x9x (by rfl) ?_
 refine y4y rfl rfl rfl ?_
 refine x1x rfl ?_
 exact ⟨j + 1, ⟨by omega, by omega⟩, [0, 0, 0, 0, 0, _, _, _], (x4x 3 rfl (Cov.cons' (t := 25) rfl (by rw [u9u (by omega) (by omega)]; rfl) Cov.nil)), (x4x 17 rfl (x4x 18 rfl (x4x 19 rfl (x4x 23 rfl (x4x 24 rfl Cov.nil))))), (HE.row rfl (by simp only [a8h hq, List.append_assoc]) (HE.kill rfl (HE.kill rfl HE.nil))), (x5x 0 rfl (x5x 1 rfl (x5x 2 rfl (x5x 3 rfl (x5x 4 rfl HE.nil))))), rfl⟩
theorem b2j (to kn : Int) (e : Ev) : Meth Tryz.prog 190 2 [0, 1] [.agg (v9v e), .ptr 0 0 0, .ptr 1 0 0] [(0, (0, .box 3 [pI to])), (1, (0, .box 3 [pI kn]))] (.pv (.bool (a5n to kn e))) [] := by
 refine u7u x9x (fn := Tryz.f190) (by kernel_rfl) (by kernel_rfl) rfl (O0 := [.pv (.bool (a5n to kn e))]) 2 1 (v7v rfl) (by rfl) (by repeat (first | exact BndH.nil | refine BndH.box rfl ?_ )) (by repeat (exact BndH.nil )) (by rfl) fun γ => ?_
 show Ex Tryz.prog _ _ [(0, .agg (v9v e)), (1, .ptr 0 (γ 0) 0), (2, .ptr 1 (γ 1) 0)] [(0, ((γ 0), .box 3 [pI to])), (1, ((γ 1), .box 3 [pI kn])), (2, (0, .dead))] _
 refine x6x x9x (by rfl) ?_
 refine v4v (id := 2) rfl rfl rfl ?_
 refine x2x rfl ?_
 refine q5q x9x r6r (by rfl) ?_
 refine x0x rfl z3z rfl rfl y9y rfl rfl ?_
 refine x3x rfl y9y rfl rfl ?_
 refine z1z rfl rfl rfl (a5t ..) ?_
 refine x3x rfl y9y rfl rfl ?_
 refine y4y rfl rfl rfl ?_
 refine x1x rfl ?_
 refine a0b rfl rfl (fun hg1 => ?_) (fun hg1 => ?_)
 rotate_left
 ·try simp at hg1
  refine x8x rfl rfl ?_
  refine x8x rfl rfl ?_
  refine x8x rfl rfl ?_
  refine y5y rfl rfl ?_
  refine x2x rfl ?_
  refine ⟨by kernel_rfl, ?_⟩
  refine y3y ?_
  exact ⟨.inr rfl, [γ 0, γ 1], rfl, congrArg (fun b : Bool => some [AV.pv (.bool b)]) (by exact (decide_eq_false (by omega)).symm), (x5x 0 rfl (x5x 1 rfl HE.nil))⟩
 try simp at hg1
 refine x0x rfl z3z rfl rfl y9y rfl rfl ?_
 refine y7y rfl rfl ?_
 refine x3x rfl y9y rfl rfl ?_
 refine y7y rfl rfl ?_
 refine x3x rfl y9y rfl rfl ?_
 refine y7y rfl rfl ?_
 refine y4y rfl rfl rfl ?_
 refine z0z rfl rfl ?_
 refine x2x rfl ?_
 refine ⟨by kernel_rfl, ?_⟩
 refine y3y ?_
 exact ⟨.inr rfl, [γ 0, γ 1], rfl, congrArg (fun b : Bool => some [AV.pv (.bool b)]) (by exact decide_eq_decide.2 (by omega)), (x5x 0 rfl (x5x 1 rfl HE.nil))⟩
theorem a5w (to kn : Int) (l : List Ev) (hl : l.length ≤ 10000000) : Meth Tryz.prog 188 2 [0, 1] [r7r true l, .fn (.func 190) [] [.ptr 0 0 0, .ptr 1 0 0]] [(0, (0, .box 3 [pI to])), (1, (0, .box 3 [pI kn]))] (r7r true (l.filter (a5n to kn))) [] := by
 refine u7u x9x (fn := Tryz.f188) (by kernel_rfl) (by kernel_rfl) rfl (O0 := [r7r true (l.filter (a5n to kn))]) 2 4 (v7v rfl) (by rfl) (by repeat (first | exact BndH.nil | refine BndH.box rfl ?_ )) (by repeat (exact BndH.nil )) (by rfl) fun γ => ?_
 show Ex Tryz.prog _ _ [(0, r7r true l), (1, .fn (.func 190) [] [.ptr 0 (γ 0) 0, .ptr 1 (γ 1) 0])] [(0, ((γ 0), .box 3 [pI to])), (1, ((γ 1), .box 3 [pI kn])), (5, (0, .dead)), (4, (0, .dead)), (3, (0, .dead)), (2, (0, .dead))] _
 refine x6x x9x (by rfl) ?_
 refine x2x rfl ?_
 refine x6x x9x (by rfl) ?_
 refine x2x rfl ?_
 refine x7x fun K1 hK1 => ?_
 refine x6x x9x (by rfl) ?_
 refine x1x rfl ?_
 refine u3u rfl u4u rfl ?_
 refine x1x rfl ?_
 refine y6y ?_
 refine a2r 5 5 76 7 rfl rfl ?_
 refine u5u (ι := Nat) (fun i γ1 => [(5, .ref 5 (γ1 5)), (10, .pv (.int .i64 (i : Int)))]) (fun i γ1 => [(5, ((γ1 5), .row 76 7 (((l.take i).filter (a5n to kn)).map v9v))), (2, ((γ1 2), .dead)), (3, ((γ1 3), .dead)), (4, ((γ1 4), .dead))]) (fun i => i ≤ l.length) (fun i => l.length - i) (x4x 1 rfl (x4x 8 rfl (x4x 9 rfl Cov.nil))) (x5x 0 rfl (x5x 1 rfl HE.nil)) 0 (by omega) [0, 0, _, _, _, _] (x4x 5 rfl (x4x 10 rfl Cov.nil)) (HE.row rfl (by rw [List.take_zero]; rfl) (HE.kill rfl (HE.kill rfl (HE.kill rfl HE.nil)))) rfl fun i γ1 hi => ?_
 try dsimp only [List.cons_append, List.nil_append]
 refine x6x x9x (by rfl) ?_
 refine y4y rfl rfl rfl ?_
 refine x7x fun K2 hK2 => ?_
 refine y0y rfl (fun hc3 => ?_) (fun hc3 => ?_)
 rotate_left
 ·try simp at hc3
  obtain rfl : i = l.length := by omega
  rw [List.take_length]
  refine v0v ?_
  refine hK1 _ _ ?_
  clear hK2 K2 hK1 K1
  refine a3v 5 rfl rfl (fun _ => rfl) ?_
  refine x6x x9x (by rfl) ?_
  refine x1x rfl ?_
  refine x2x rfl ?_
  refine y3y ?_
  exact ⟨.inr rfl, [γ 0, γ 1], rfl, rfl, (x5x 0 rfl (x5x 1 rfl HE.nil))⟩
 try simp at hc3
 obtain ⟨p, hp⟩ : ∃ p, l[i]? = some p := w5w (by omega)
 have hfl : ((l.take i).filter (a5n to kn)).length ≤ 10000000 := Nat.le_trans (List.length_filter_le _ _) (by rw [List.length_take]; omega)
 refine y1y ?_
 refine hK2 _ _ ?_
 clear hK2 K2
 refine x7x fun K4 hK4 => ?_
 refine y6y ?_
 refine x6x x9x (by rfl) ?_
 refine u0u rfl rfl u4u rfl z3z rfl (by assumption) ?_
 refine z5z rfl z3z rfl rfl ?_
 refine v3v (id := 2) z3z b7a rfl ?_
 refine u2u rfl rfl z3z rfl rfl rfl rfl ?_
 refine x6x x9x (by rfl) ?_
 refine x1x rfl ?_
 refine y8y rfl z3z rfl rfl rfl ?_
 refine v2v [0, 1] [_, _] (b2j to kn p) rfl rfl rfl (by decide) rfl rfl (by repeat (first | exact InH.nil | refine InH.cons rfl ?_)) (by (simp only [pI, z8z, z9z, p8p, gl, nx, p6p, Nat.beq]; rfl)) (by (simp only [pI, z8z, z9z, p8p, gl, nx, p6p, Nat.beq]; rfl)) ?_
 refine y0y rfl (fun hc5 => ?_) (fun hc5 => ?_)
 rotate_left
 ·try simp at hc5
  have hw : ¬ a5n to kn p = true := by rw [hc5]; decide
  refine y1y ?_
  refine hK4 _ _ ?_
  clear hK4 K4
  refine y2y x9x (by rfl) ?_
  refine y4y rfl rfl rfl ?_
  refine x1x rfl ?_
  exact ⟨i + 1, ⟨by omega, by omega⟩, [0, 0, _, _, _, _], (x4x 5 rfl (Cov.cons' (t := 10) rfl (by rw [u9u (by omega) (by omega)]; rfl) Cov.nil)), (x4x 1 rfl (x4x 8 rfl (x4x 9 rfl Cov.nil))), (HE.row rfl (by rw [a1g hp]; rw [if_neg hw, List.append_nil]) (HE.kill rfl (HE.kill rfl (HE.kill rfl HE.nil)))), (x5x 0 rfl (x5x 1 rfl HE.nil)), rfl⟩
 try simp at hc5
 have hw : a5n to kn p = true := hc5
 refine y2y x9x (by rfl) ?_
 refine x1x rfl ?_
 refine y8y rfl z3z rfl rfl rfl ?_
 refine s4s (id := 3) u4u rfl z3z rfl rfl rfl rfl rfl rfl ?_
 refine s5s (zs := ((l.take i).filter (a5n to kn) ++ [p]).map v9v) rfl rfl u4u rfl z3z rfl rfl rfl rfl (by rfl) (a1c _ _ _) (by (simp only [List.length_map, List.length_append, List.length_cons, List.length_nil, List.length_take, List.length_range, T76] at *; omega)) ?_
 refine x2x rfl ?_
 refine hK4 _ _ ?_
 clear hK4 K4
 refine y2y x9x (by rfl) ?_
 refine y4y rfl rfl rfl ?_
 refine x1x rfl ?_
 exact ⟨i + 1, ⟨by omega, by omega⟩, [0, 0, _, _, _, _], (x4x 5 rfl (Cov.cons' (t := 10) rfl (by rw [u9u (by omega) (by omega)]; rfl) Cov.nil)), (x4x 1 rfl (x4x 8 rfl (x4x 9 rfl Cov.nil))), (HE.row rfl (by rw [a1g hp]; rw [if_pos hw]) (HE.kill rfl (HE.kill rfl (HE.kill rfl HE.nil)))), (x5x 0 rfl (x5x 1 rfl HE.nil)), rfl⟩
end
section
theorem b9m (c c' : Bool) (l : La) (s : List Ev) (hs : l.done.length ≤ 1000000) : a0z Tryz.prog 206 [.agg (a0v c l), r7r c' s] (.tup [.agg (a0v c (a1h l 0 (same l.done s))), .pv (.bool (decide ((same l.done s) < l.done.length)))]) := by
 refine z4z x9x (fn := Tryz.f206) (by kernel_rfl) (by kernel_rfl) rfl (outs := [.agg (a0v c (a1h l 0 (same l.done s))), .pv (.bool (decide ((same l.done s) < l.done.length)))]) (by rfl) (v7v rfl) 4 ?_
 have hsm := c1i l.done s
 refine x6x x9x (by rfl) ?_
 refine v4v (id := 0) rfl rfl rfl ?_
 refine v3v (id := 1) v8v a9u rfl ?_
 refine x2x rfl ?_
 refine x6x x9x (by rfl) ?_
 refine x0x rfl v8v rfl rfl w0w rfl rfl ?_
 refine x3x rfl w0w rfl rfl ?_
 refine v2v [2] [_] (b1n c l.done) rfl rfl rfl (by decide) rfl rfl (by repeat (first | exact InH.nil | refine InH.cons rfl ?_)) (by (simp only [pI, z8z, z9z, p8p, gl, nx, p6p, Nat.beq]; rfl)) (by (simp only [pI, z8z, z9z, p8p, gl, nx, p6p, Nat.beq]; rfl)) ?_
 refine x2x rfl ?_
 refine x6x x9x (by rfl) ?_
 refine x1x rfl ?_
 refine v2v [2, 3] [_, _] (b0x c l.done) rfl rfl rfl (by decide) rfl rfl (by repeat (first | exact InH.nil | refine InH.cons rfl ?_)) (by (simp only [pI, z8z, z9z, p8p, gl, nx, p6p, Nat.beq]; rfl)) (by (simp only [pI, z8z, z9z, p8p, gl, nx, p6p, Nat.beq]; rfl)) ?_
 refine x2x rfl ?_
 refine x6x x9x (by rfl) ?_
 refine x1x rfl ?_
 refine x1x rfl ?_
 refine v2v [2] [_] (a4t c c' l.done s) rfl rfl rfl (by decide) rfl rfl (by repeat (first | exact InH.nil | refine InH.cons rfl ?_)) (by (simp only [pI, z8z, z9z, p8p, gl, nx, p6p, Nat.beq]; rfl)) (by (simp only [pI, z8z, z9z, p8p, gl, nx, p6p, Nat.beq]; rfl)) ?_
 refine x2x rfl ?_
 refine x7x fun K1 hK1 => ?_
 refine x6x x9x (by rfl) ?_
 refine x1x rfl ?_
 refine x0x rfl v8v rfl rfl w0w rfl rfl ?_
 refine x3x rfl w0w rfl rfl ?_
 refine u3u rfl w0w rfl ?_
 refine y4y rfl rfl rfl ?_
 refine y0y rfl (fun hc2 => ?_) (fun hc2 => ?_)
 ·try simp at hc2
  have hq : (same l.done s) = l.done.length := by omega
  refine x6x x9x (by rfl) ?_
  refine y8y rfl v8v rfl rfl rfl ?_
  refine u2u rfl rfl v8v rfl rfl rfl rfl ?_
  refine x2x rfl ?_
  refine y3y ⟨.inr rfl, ?_⟩
  clear hK1 K1
  (rw [hq, b7z, decide_eq_false (Nat.lt_irrefl _)]; exact ⟨_, _, rfl, .agg rfl (.cl rfl (.cl rfl (.cl rfl (.cl rfl (.cl rfl .nil))))) (.cl rfl .nil)⟩)
 try simp at hc2
 have hq : ¬ (same l.done s) = l.done.length := by omega
 refine y1y ?_
 refine hK1 _ _ ?_
 clear hK1 K1
 refine x6x x9x (by rfl) ?_
 refine x1x rfl ?_
 refine x1x rfl ?_
 refine v2v [2, 3] [_, _] (a9o c l.done (same l.done s) hsm.2 hs) rfl rfl rfl (by decide) rfl rfl (by repeat (first | exact InH.nil | refine InH.cons rfl ?_)) (by (simp only [pI, z8z, z9z, p8p, gl, nx, p6p, Nat.beq]; rfl)) (by (simp only [pI, z8z, z9z, p8p, gl, nx, p6p, Nat.beq]; rfl)) ?_
 refine x6x x9x (by rfl) ?_
 refine x1x rfl ?_
 refine v2v [2] [_] (b5d c (l.done.take (same l.done s)) (by rw [List.length_take]; omega)) rfl rfl rfl (by decide) rfl rfl (by repeat (first | exact InH.nil | refine InH.cons rfl ?_)) (by (simp only [pI, z8z, z9z, p8p, gl, nx, p6p, Nat.beq]; rfl)) (by (simp only [pI, z8z, z9z, p8p, gl, nx, p6p, Nat.beq]; rfl)) ?_
 refine x0x rfl v8v rfl rfl w0w rfl rfl ?_
 refine u8u rfl rfl w0w rfl rfl rfl rfl rfl (by simp only [a0p]; rfl) ?_
 refine x6x x9x (by rfl) ?_
 refine y8y rfl v8v rfl rfl rfl ?_
 refine u2u rfl rfl v8v rfl rfl rfl rfl ?_
 refine x2x rfl ?_
 refine y3y ⟨.inr rfl, ?_⟩
 (rw [decide_eq_true (show (same l.done s) < l.done.length by omega)]; exact ⟨_, _, rfl, .agg rfl (.cl rfl (.cl rfl (.cl rfl (.cl rfl (.cl rfl .nil))))) (.cl rfl .nil)⟩)
theorem b4i (c : Bool) (n : Nd) (proc : Int) (hs : (a0l n).length + (a0i n 3).length ≤ 5000000) (hlen : n.lanes.length ≤ 1048576) (hv3 : n.views.length = 3) : Meth Tryz.prog 145 6 [0, 1, 2, 3, 4] [.ptr 4 0 0, .pv (.int .i64 proc)] [(0, (0, .row 62 3 ((n.lanes).map fun l => s9s l.base))), (1, (0, .row 63 1 ((n.lanes).map fun l => [a3p c l.done]))), (2, (0, .map (a7e c n.views))), (3, (0, .row 3 1 (n.known.map a2h))), (4, (0, .box 139 [pI n.id, pI n.inc, pI n.g, pI n.led, .ref 0 0, r7r c n.kept, a1j c n.outs, .pv (.bool n.up), .ref 1 0, pI n.version, .mp 2 0, .ref 3 0, pI n.round, pI n.low])), (5, (0, .dead))] (r7r true (a6u n proc)) [(5, (0, .dead))] := by
 refine u7u x9x (fn := Tryz.f145) (by kernel_rfl) (by kernel_rfl) rfl (O0 := [r7r true (a6u n proc)]) 6 4 (v7v rfl) (by rfl) (by repeat (first | exact BndH.nil | refine BndH.dead ?_ | refine BndH.box rfl ?_ | refine BndH.row (u6u fun _ => rfl) ?_ | refine BndH.map (a0t _ _) ?_ )) (by repeat (first | exact BndH.nil | refine BndH.dead ?_ )) (by rfl) fun γ => ?_
 show Ex Tryz.prog _ _ [(0, .ptr 4 (γ 4) 0), (1, .pv (.int .i64 proc))] [(0, ((γ 0), .row 62 3 ((n.lanes).map fun l => s9s l.base))), (1, ((γ 1), .row 63 1 ((n.lanes).map fun l => [a3p c l.done]))), (2, ((γ 2), .map (a7e c n.views))), (3, ((γ 3), .row 3 1 (n.known.map a2h))), (4, ((γ 4), .box 139 [pI n.id, pI n.inc, pI n.g, pI n.led, .ref 0 (γ 0), r7r c n.kept, a1j c n.outs, .pv (.bool n.up), .ref 1 (γ 1), pI n.version, .mp 2 (γ 2), .ref 3 (γ 3), pI n.round, pI n.low])), (5, ((γ 5), .dead)), (9, (0, .dead)), (8, (0, .dead)), (7, (0, .dead)), (6, (0, .dead))] _
 refine x6x x9x (by rfl) ?_
 refine b1u (id := 6) rfl rfl rfl rfl ?_
 refine b1u (id := 7) rfl rfl rfl rfl ?_
 refine x2x rfl ?_
 refine x6x x9x (by rfl) ?_
 refine x3x rfl b6x rfl rfl ?_
 refine v2v [0, 1, 2, 3, 4, 9] [_, _, _, _, _, _] (a9f c n (by omega) hlen) rfl rfl rfl (by decide) rfl rfl (by repeat (first | exact InH.nil | refine InH.cons rfl ?_)) (by (simp only [pI, z8z, z9z, p8p, gl, nx, p6p, Nat.beq]; rfl)) (by (simp only [pI, z8z, z9z, p8p, gl, nx, p6p, Nat.beq]; rfl)) ?_
 refine x2x rfl ?_
 refine x7x fun K1 hK1 => ?_
 refine x6x x9x (by rfl) ?_
 refine x1x rfl ?_
 refine y6y ?_
 refine u5u (ι := Nat) (fun i γ1 => [(5, .ref 9 (γ1 9)), (9, .pv (.int .i64 (i : Int)))]) (fun i γ1 => [(9, ((γ1 9), .row 76 7 ((a0l n ++ a0i n i).map v9v))), (8, ((γ1 8), .dead))]) (fun i => i ≤ 3) (fun i => 3 - i) (x4x 2 rfl (x4x 3 rfl Cov.nil)) (x5x 0 rfl (x5x 1 rfl (x5x 2 rfl (x5x 3 rfl (x5x 4 rfl (x5x 5 rfl (x5x 6 rfl (x5x 7 rfl HE.nil)))))))) 0 (by omega) [0, 0, 0, 0, 0, 0, 0, 0, _, _] (x4x 5 rfl (x4x 9 rfl Cov.nil)) (HE.row rfl (by simp [a0i]) (HE.kill rfl HE.nil)) rfl fun i γ1 hi => ?_
 try dsimp only [List.cons_append, List.nil_append]
 refine x6x x9x (by rfl) ?_
 refine y4y rfl rfl rfl ?_
 refine x7x fun K2 hK2 => ?_
 refine y0y rfl (fun hc3 => ?_) (fun hc3 => ?_)
 rotate_left
 ·try simp at hc3
  obtain rfl : i = 3 := by omega
  refine v0v ?_
  refine hK1 _ _ ?_
  clear hK2 K2 hK1 K1
  refine a3v 5 rfl rfl (fun _ => rfl) ?_
  refine x6x x9x (by rfl) ?_
  refine x1x rfl ?_
  refine a6k rfl rfl ?_
  refine v2v [0, 1, 2, 3, 4, 7, 6] [_, _, _, _, _, _, _] (a2u c n proc _ (by rw [List.length_append]; omega)) rfl rfl rfl (by decide) rfl rfl (by repeat (first | exact InH.nil | refine InH.cons rfl ?_)) (by (simp only [pI, z8z, z9z, p8p, gl, nx, p6p, Nat.beq]; rfl)) (by (simp only [pI, z8z, z9z, p8p, gl, nx, p6p, Nat.beq]; rfl)) ?_
  refine v2v [5] [_] (a5d true _ (Nat.le_trans (List.length_filter_le _ _) (by rw [List.length_append]; omega))) rfl rfl rfl (by decide) rfl rfl (by repeat (first | exact InH.nil | refine InH.cons rfl ?_)) (by (simp only [pI, z8z, z9z, p8p, gl, nx, p6p, Nat.beq]; rfl)) (by (simp only [pI, z8z, z9z, p8p, gl, nx, p6p, Nat.beq]; rfl)) ?_
  refine x2x rfl ?_
  refine a3v 4 rfl rfl (fun _ => rfl) ?_
  refine y3y ?_
  exact ⟨.inr rfl, [γ 0, γ 1, γ 2, γ 3, γ 4, _], rfl, rfl, HE.kill rfl (x5x 0 rfl (x5x 1 rfl (x5x 2 rfl (x5x 3 rfl (x5x 4 rfl HE.nil)))))⟩
 try simp at hc3
 obtain ⟨v, hv⟩ : ∃ v, n.views[i]? = some v := w5w (by omega)
 have hg : n.views.getD i vi0 = v := by rw [List.getD_eq_getElem?_getD, hv]; rfl
 have hol := b7x n (i := i + 1) (by omega)
 rw [a0o] at hol
 refine y1y ?_
 refine hK2 _ _ ?_
 clear hK2 K2
 refine x7x fun K4 hK4 => ?_
 refine y6y ?_
 refine x6x x9x (by rfl) ?_
 refine x1x rfl ?_
 refine x2x rfl ?_
 refine x6x x9x (by rfl) ?_
 refine x1x rfl ?_
 refine x3x rfl b6x rfl rfl ?_
 refine w3w rfl rfl ?_
 refine x0x rfl r3r rfl rfl s1s rfl rfl ?_
 refine x0x rfl s1s rfl rfl y9y rfl rfl ?_
 refine x3x rfl y9y rfl rfl ?_
 refine y4y rfl rfl rfl ?_
 refine y0y rfl (fun hc5 => ?_) (fun hc5 => ?_)
 rotate_left
 ·try simp at hc5
  have hve : a9m n i = [] := by rw [a9m, if_pos (by exact hc5)]
  refine y1y ?_
  refine hK4 _ _ ?_
  clear hK4 K4
  refine y2y x9x (by rfl) ?_
  refine y4y rfl rfl rfl ?_
  refine x1x rfl ?_
  exact ⟨i + 1, ⟨by omega, by omega⟩, [0, 0, 0, 0, 0, 0, 0, 0, _, _], (x4x 5 rfl (Cov.cons' (t := 9) rfl (by rw [u9u (by omega) (by omega)]; rfl) Cov.nil)), (x4x 2 rfl (x4x 3 rfl Cov.nil)), (HE.row rfl (by rw [a0o, hve]; simp) (HE.kill rfl HE.nil)), (x5x 0 rfl (x5x 1 rfl (x5x 2 rfl (x5x 3 rfl (x5x 4 rfl (x5x 5 rfl (x5x 6 rfl (x5x 7 rfl HE.nil)))))))), rfl⟩
 try simp at hc5
 have hve : a9m n i = v.events := by rw [a9m, if_neg (by exact hc5), hg]
 rw [hve] at hol
 simp only [List.length_append] at hol
 refine y2y x9x (by rfl) ?_
 refine x1x rfl ?_
 refine x3x rfl b6x rfl rfl ?_
 refine w3w rfl rfl ?_
 refine x0x rfl r3r rfl rfl a6e rfl rfl ?_
 refine x3x rfl a6e rfl rfl ?_
 refine x1x rfl ?_
 refine a2s (κ := Int) (enc := fun n => .int .i64 n) (ks := b2h n.views.length) (k := (i : Int)) (out := .agg (a1n c v)) x9x Tryz.underlying137 (a6j Tryz.underlying3) rfl rfl (fun _ _ _ h => c5f h) rfl (a6o _ _) (b3y hv) ?_
 refine c6i rfl v6v rfl rfl u4u rfl ?_
 refine a1e (zs := (a0l n ++ a0i n i ++ v.events).map v9v) rfl rfl u4u rfl z3z rfl rfl rfl (by exact a0m (fun _ => rfl) _) (b4q _ _ _) (by have hb56 : T76.bytes = 56 := rfl; rw [List.length_map, hb56]; simp only [List.length_append]; omega) ?_
 refine x2x rfl ?_
 refine hK4 _ _ ?_
 clear hK4 K4
 refine y2y x9x (by rfl) ?_
 refine y4y rfl rfl rfl ?_
 refine x1x rfl ?_
 exact ⟨i + 1, ⟨by omega, by omega⟩, [0, 0, 0, 0, 0, 0, 0, 0, _, _], (x4x 5 rfl (Cov.cons' (t := 9) rfl (by rw [u9u (by omega) (by omega)]; rfl) Cov.nil)), (x4x 2 rfl (x4x 3 rfl Cov.nil)), (HE.row rfl (by rw [a0o, hve]; simp) (HE.kill rfl HE.nil)), (x5x 0 rfl (x5x 1 rfl (x5x 2 rfl (x5x 3 rfl (x5x 4 rfl (x5x 5 rfl (x5x 6 rfl (x5x 7 rfl HE.nil)))))))), rfl⟩
theorem b2k (c : Bool) (n : Nd) (t : Nat) (ht : t < 3) (hk3 : n.known.length = 3) (hs : (a0l n).length ≤ 5000000) (hlen : n.lanes.length ≤ 1048576) : Meth Tryz.prog 104 6 [0, 1, 2, 3, 4] [.ptr 4 0 0, .pv (.int .i64 (t : Int))] [(0, (0, .row 62 3 ((n.lanes).map fun l => s9s l.base))), (1, (0, .row 63 1 ((n.lanes).map fun l => [a3p c l.done]))), (2, (0, .map (a7e c n.views))), (3, (0, .row 3 1 (n.known.map a2h))), (4, (0, .box 139 [pI n.id, pI n.inc, pI n.g, pI n.led, .ref 0 0, r7r c n.kept, a1j c n.outs, .pv (.bool n.up), .ref 1 0, pI n.version, .mp 2 0, .ref 3 0, pI n.round, pI n.low])), (5, (0, .dead))] (r7r true (a1s n (t : Int))) [(5, (0, .dead))] := by
 refine u7u x9x (fn := Tryz.f104) (by kernel_rfl) (by kernel_rfl) rfl (O0 := [r7r true (a1s n (t : Int))]) 6 3 (v7v rfl) (by rfl) (by repeat (first | exact BndH.nil | refine BndH.dead ?_ | refine BndH.box rfl ?_ | refine BndH.row (u6u fun _ => rfl) ?_ | refine BndH.map (a0t _ _) ?_ )) (by repeat (first | exact BndH.nil | refine BndH.dead ?_ )) (by rfl) fun γ => ?_
 show Ex Tryz.prog _ _ [(0, .ptr 4 (γ 4) 0), (1, .pv (.int .i64 (t : Int)))] [(0, ((γ 0), .row 62 3 ((n.lanes).map fun l => s9s l.base))), (1, ((γ 1), .row 63 1 ((n.lanes).map fun l => [a3p c l.done]))), (2, ((γ 2), .map (a7e c n.views))), (3, ((γ 3), .row 3 1 (n.known.map a2h))), (4, ((γ 4), .box 139 [pI n.id, pI n.inc, pI n.g, pI n.led, .ref 0 (γ 0), r7r c n.kept, a1j c n.outs, .pv (.bool n.up), .ref 1 (γ 1), pI n.version, .mp 2 (γ 2), .ref 3 (γ 3), pI n.round, pI n.low])), (5, ((γ 5), .dead)), (8, (0, .dead)), (7, (0, .dead)), (6, (0, .dead))] _
 obtain ⟨kn, hkn⟩ : ∃ kn, n.known[t]? = some kn := w5w (by omega)
 refine x6x x9x (by rfl) ?_
 refine b1u (id := 6) rfl rfl rfl rfl ?_
 refine x2x rfl ?_
 refine q5q x9x r6r (by rfl) ?_
 refine x1x rfl ?_
 refine w3w rfl rfl ?_
 refine x0x rfl r3r rfl rfl p4p rfl rfl ?_
 refine x3x rfl p4p rfl rfl ?_
 refine x3x rfl y9y rfl rfl ?_
 refine q6q (j := t) rfl rfl p4p rfl y9y rfl rfl (q0q hkn) ?_
 refine a3u rfl y9y rfl hkn rfl ?_
 refine v3v (id := 7) y9y d9j rfl ?_
 refine u8u rfl rfl y9y rfl rfl rfl rfl rfl (by simp only [a0p]; rfl) ?_
 refine ⟨by kernel_rfl, ?_⟩
 refine x6x x9x (by rfl) ?_
 refine x1x rfl ?_
 refine v2v [0, 1, 2, 3, 4, 8] [_, _, _, _, _, _] (b4h c n hs hlen) rfl rfl rfl (by decide) rfl rfl (by repeat (first | exact InH.nil | refine InH.cons rfl ?_)) (by (simp only [pI, z8z, z9z, p8p, gl, nx, p6p, Nat.beq]; rfl)) (by (simp only [pI, z8z, z9z, p8p, gl, nx, p6p, Nat.beq]; rfl)) ?_
 refine a6k rfl rfl ?_
 refine v2v [6, 7] [_, _] (a5w (t : Int) kn _ (by omega)) rfl rfl rfl (by decide) rfl rfl (by repeat (first | exact InH.nil | refine InH.cons rfl ?_)) (by (simp only [pI, z8z, z9z, p8p, gl, nx, p6p, Nat.beq]; rfl)) (by (simp only [pI, z8z, z9z, p8p, gl, nx, p6p, Nat.beq]; rfl)) ?_
 refine v2v [5] [_] (a5d true _ (Nat.le_trans (List.length_filter_le _ _) (by omega))) rfl rfl rfl (by decide) rfl rfl (by repeat (first | exact InH.nil | refine InH.cons rfl ?_)) (by (simp only [pI, z8z, z9z, p8p, gl, nx, p6p, Nat.beq]; rfl)) (by (simp only [pI, z8z, z9z, p8p, gl, nx, p6p, Nat.beq]; rfl)) ?_
 refine x2x rfl ?_
 refine a3v 4 rfl rfl (fun _ => rfl) ?_
 refine y3y ?_
 exact ⟨.inr rfl, [γ 0, γ 1, γ 2, γ 3, γ 4, _], rfl, congrArg (fun l : List Ev => some [r7r true l]) (by rw [c4a hkn]), HE.kill rfl (x5x 0 rfl (x5x 1 rfl (x5x 2 rfl (x5x 3 rfl (x5x 4 rfl HE.nil)))))⟩
set_option maxHeartbeats 1000000 in
theorem b5e (c : Bool) (n : Nd) (hw : wk n) (hpc : n.lanes.length = (a1d n.id 4).length) : Meth Tryz.prog 140 5 [0, 1, 2, 3, 4] [.ptr 4 0 0] [(0, (0, .row 62 3 ((n.lanes).map fun l => s9s l.base))), (1, (0, .row 63 1 ((n.lanes).map fun l => [a3p c l.done]))), (2, (0, .map (a7e c n.views))), (3, (0, .row 3 1 (n.known.map a2h))), (4, (0, .box 139 [pI n.id, pI n.inc, pI n.g, pI n.led, .ref 0 0, r7r c n.kept, a1j c n.outs, .pv (.bool n.up), .ref 1 0, pI n.version, .mp 2 0, .ref 3 0, pI n.round, pI n.low]))] (.tup []) [(0, (0, .row 62 3 (((nl n (q7q n n.lanes)).lanes).map fun l => s9s l.base))), (1, (0, .row 63 1 (((nl n (q7q n n.lanes)).lanes).map fun l => [a3p c l.done]))), (2, (0, .map (a7e c (nl n (q7q n n.lanes)).views))), (3, (0, .row 3 1 ((nl n (q7q n n.lanes)).known.map a2h))), (4, (0, .box 139 [pI (nl n (q7q n n.lanes)).id, pI (nl n (q7q n n.lanes)).inc, pI (nl n (q7q n n.lanes)).g, pI (nl n (q7q n n.lanes)).led, .ref 0 0, r7r c (nl n (q7q n n.lanes)).kept, a1j c (nl n (q7q n n.lanes)).outs, .pv (.bool (nl n (q7q n n.lanes)).up), .ref 1 0, pI (nl n (q7q n n.lanes)).version, .mp 2 0, .ref 3 0, pI (nl n (q7q n n.lanes)).round, pI (nl n (q7q n n.lanes)).low]))] := by
 refine u7u x9x (fn := Tryz.f140) (by kernel_rfl) (by kernel_rfl) rfl (O0 := []) 5 2 (v7v rfl) (by rfl) (by repeat (first | exact BndH.nil | refine BndH.box rfl ?_ | refine BndH.row (u6u fun _ => rfl) ?_ | refine BndH.map (a0t _ _) ?_ )) (by repeat (first | exact BndH.nil | refine BndH.box rfl ?_ | refine BndH.row (u6u fun _ => rfl) ?_ | refine BndH.map (a0t _ _) ?_ )) (by rfl) fun γ => ?_
 show Ex Tryz.prog _ _ [(0, .ptr 4 (γ 4) 0)] [(0, ((γ 0), .row 62 3 ((n.lanes).map fun l => s9s l.base))), (1, ((γ 1), .row 63 1 ((n.lanes).map fun l => [a3p c l.done]))), (2, ((γ 2), .map (a7e c n.views))), (3, ((γ 3), .row 3 1 (n.known.map a2h))), (4, ((γ 4), .box 139 [pI n.id, pI n.inc, pI n.g, pI n.led, .ref 0 (γ 0), r7r c n.kept, a1j c n.outs, .pv (.bool n.up), .ref 1 (γ 1), pI n.version, .mp 2 (γ 2), .ref 3 (γ 3), pI n.round, pI n.low])), (6, (0, .dead)), (5, (0, .dead))] _
 refine x6x x9x (by rfl) ?_
 refine x2x rfl ?_
 refine y6y ?_
 refine u5u (ι := List La × Bool) (fun p γ1 => [(2, .pv (.bool (p.2)))]) (fun p γ1 => [(6, ((γ1 6), .dead)), (0, ((γ 0), .row 62 3 ((p.1).map fun l => s9s l.base))), (1, ((γ 1), .row 63 1 ((p.1).map fun l => [a3p c l.done]))), (5, ((γ1 5), .dead))]) (fun p => (p.2 = true → q7q n p.1 = q7q n n.lanes) ∧ (p.2 = false → p.1 = q7q n n.lanes) ∧ wk (nl n p.1) ∧ p.1.length = n.lanes.length) (fun p => 2 * c1k p.1 + p.2.toNat) (x4x 0 rfl Cov.nil) (x5x 2 rfl (x5x 3 rfl (x5x 4 rfl HE.nil))) (n.lanes, true) ⟨fun _ => rfl, fun h => (by cases h), hw, rfl⟩ [0, 0, 0, 0, 0, _, _] (x4x 2 rfl Cov.nil) (HE.kill rfl (HE.row rfl rfl (HE.row rfl rfl (HE.kill rfl HE.nil)))) rfl fun p γ1 hi => ?_
 try dsimp only [List.cons_append, List.nil_append]
 obtain ⟨ls, q⟩ := p
 obtain ⟨h1, h2, h3, h5⟩ := hi
 dsimp only at h1 h2 h3 h5 ⊢
 refine x7x fun K1 hK1 => ?_
 refine x6x x9x (by rfl) ?_
 refine x1x rfl ?_
 refine y0y rfl (fun hc2 => ?_) (fun hc2 => ?_)
 rotate_left
 ·try simp at hc2
  have hq : q = false := by simpa using hc2
  subst hq
  have hfin : ls = q7q n n.lanes := h2 rfl
  subst hfin
  refine v0v ?_
  exact ⟨.inl rfl, [γ 0, γ 1, γ 2, γ 3, γ 4], rfl, rfl, (x5x 0 rfl (x5x 1 rfl (x5x 2 rfl (x5x 3 rfl (x5x 4 rfl HE.nil)))))⟩
 try simp at hc2
 have hq : q = true := hc2
 subst hq
 refine y1y ?_
 refine hK1 _ _ ?_
 clear hK1 K1
 refine y6y ?_
 refine x6x x9x (by rfl) ?_
 refine x2x rfl ?_
 refine x6x x9x (by rfl) ?_
 refine x1x rfl ?_
 refine w3w rfl rfl ?_
 refine x0x rfl r3r rfl rfl s1s rfl rfl ?_
 refine x0x rfl s1s rfl rfl y9y rfl rfl ?_
 refine x3x rfl y9y rfl rfl ?_
 refine z1z rfl rfl rfl (a4m n.id) ?_
 refine u3u rfl p4p rfl ?_
 refine x1x rfl ?_
 refine y6y ?_
 refine u5u (ι := Nat) (fun i γ2 => [(2, .pv (.bool (a8v n ls i))), (15, .pv (.int .i64 (i : Int)))]) (fun i γ2 => [(6, ((γ2 6), .dead)), (0, ((γ 0), .row 62 3 ((a0r n ls i).map fun l => s9s l.base))), (1, ((γ 1), .row 63 1 ((a0r n ls i).map fun l => [a3p c l.done]))), (5, ((γ2 5), .dead))]) (fun i => i ≤ ls.length) (fun i => ls.length - i) (x4x 0 rfl (x4x 13 rfl (x4x 14 rfl Cov.nil))) (x5x 2 rfl (x5x 3 rfl (x5x 4 rfl HE.nil))) 0 (by omega) [0, 0, 0, 0, 0, _, _] (x4x 2 rfl (x4x 15 rfl Cov.nil)) (HE.kill rfl (HE.row rfl rfl (HE.row rfl rfl (HE.kill rfl HE.nil)))) rfl fun i γ2 hi => ?_
 try dsimp only [List.cons_append, List.nil_append]
 refine x6x x9x (by rfl) ?_
 refine y4y rfl rfl rfl ?_
 refine x7x fun K3 hK3 => ?_
 refine y0y rfl (fun hc4 => ?_) (fun hc4 => ?_)
 rotate_left
 ·try simp at hc4
  obtain rfl : i = ls.length := by omega
  refine v0v ?_
  exact ⟨(a0r n ls ls.length, a8v n ls ls.length), ⟨⟨fun h => (c1l h).trans (h1 rfl), fun h => (c1m h).trans (h1 rfl), b2f h3 _, (b3t n ls _).trans h5⟩, (d1k n ls ls.length)⟩, [0, 0, 0, 0, 0, _, _], (x4x 2 rfl Cov.nil), (x4x 0 rfl Cov.nil), (HE.kill rfl (HE.row rfl rfl (HE.row rfl rfl (HE.kill rfl HE.nil)))), (x5x 2 rfl (x5x 3 rfl (x5x 4 rfl HE.nil))), rfl⟩
 try simp at hc4
 have hpl : (a0r n ls i).length = ls.length := b3t n ls i
 have hpr : i < (a1d n.id 4).length := by omega
 obtain ⟨l, hp⟩ : ∃ l, (a0r n ls i)[i]? = some l := w5w (by omega)
 have h4 := b2f h3 i
 have h41 : (a0r n ls i).length ≤ 4 := h4.1
 have hb4 := h4.2.2.2.2.1 l (List.mem_of_getElem? hp)
 have hpp : (a1d n.id 4)[i]? = some l.proc := h4.2.2.2.2.2.2 i l hp
 refine y1y ?_
 refine hK3 _ _ ?_
 clear hK3 K3
 refine x7x fun K5 hK5 => ?_
 refine y6y ?_
 refine x6x x9x (by rfl) ?_
 refine x1x rfl ?_
 refine u0u rfl rfl p4p rfl y9y rfl hpp ?_
 refine z7z rfl y9y rfl ?_
 refine x2x rfl ?_
 refine x2x rfl ?_
 refine x6x x9x (by rfl) ?_
 refine x1x rfl ?_
 refine x1x rfl ?_
 refine v2v [0, 1, 2, 3, 4] [_, _, _, _, _] (a7h c (nl n (a0r n ls i)) _ (a0t _ _) i l hp hpp) rfl rfl rfl (by decide) rfl rfl (by repeat (first | exact InH.nil | refine InH.cons rfl ?_)) (by (simp only [pI, z8z, z9z, p8p, gl, nx, p6p, Nat.beq]; rfl)) (by (simp only [pI, z8z, z9z, p8p, gl, nx, p6p, Nat.beq]; rfl)) ?_
 refine x1x rfl ?_
 refine x1x rfl ?_
 refine v2v [0, 1, 2, 3, 4, 6] [_, _, _, _, _, _] (b4i c (nl n (a0r n ls i)) l.proc (d1h h4) (by show (a0r n ls i).length ≤ 1048576; omega) h4.2.2.1) rfl rfl rfl (by decide) rfl rfl (by repeat (first | exact InH.nil | refine InH.cons rfl ?_)) (by (simp only [pI, z8z, z9z, p8p, gl, nx, p6p, Nat.beq]; rfl)) (by (simp only [pI, z8z, z9z, p8p, gl, nx, p6p, Nat.beq]; rfl)) ?_
 refine z1z rfl rfl rfl (b9m c true l (a6u (nl n (a0r n ls i)) l.proc) (by omega)) ?_
 refine x1x rfl ?_
 refine a0e rfl rfl ?_
 refine a0e rfl rfl ?_
 refine v3v (id := 5) v8v a9u rfl ?_
 refine u2u rfl rfl v8v rfl rfl rfl rfl ?_
 refine x2x rfl ?_
 refine x6x x9x (by rfl) ?_
 refine x1x rfl ?_
 refine y0y rfl (fun hc6 => ?_) (fun hc6 => ?_)
 rotate_left
 ·try simp at hc6
  have hk := c5p (n := n) hp (by show ¬ same l.done (a6u (nl n (a0r n ls i)) l.proc) < l.done.length; simpa using hc6)
  refine y1y ?_
  refine hK5 _ _ ?_
  clear hK5 K5
  refine y2y x9x (by rfl) ?_
  refine y4y rfl rfl rfl ?_
  refine x1x rfl ?_
  exact ⟨i + 1, ⟨by omega, by omega⟩, [0, 0, 0, 0, 0, _, _], (Cov.cons' (t := 2) rfl (by rw [b0t, hk.2, Bool.or_false]) (Cov.cons' (t := 15) rfl (by rw [u9u (by omega) (by omega)]; rfl) Cov.nil)), (x4x 0 rfl (x4x 13 rfl (x4x 14 rfl Cov.nil))), (HE.kill rfl (HE.row rfl (by rw [a8i, c4g (fun _ _ => rfl)]) (HE.row rfl (by rw [a8i, hk.1]) (HE.kill rfl HE.nil)))), (x5x 2 rfl (x5x 3 rfl (x5x 4 rfl HE.nil))), rfl⟩
 try simp at hc6
 have hk := c5o (n := n) hp (by show same l.done (a6u (nl n (a0r n ls i)) l.proc) < l.done.length; exact hc6)
 refine q5q x9x r6r (by rfl) ?_
 refine x1x rfl ?_
 refine w3w rfl rfl ?_
 refine x0x rfl r3r rfl rfl a2b rfl rfl ?_
 refine x3x rfl a2b rfl rfl ?_
 refine x1x rfl ?_
 refine x0x rfl v8v rfl rfl w0w rfl rfl ?_
 refine x3x rfl w0w rfl rfl ?_
 refine q6q (j := i) rfl rfl a2b rfl w0w rfl rfl (q0q hp) ?_
 refine b4t (el' := a1h l 0 (keep n (a0r n ls i) l)) rfl rfl w0w rfl rfl rfl hp rfl (by omega) (.val rfl rfl .nil) rfl rfl ?_
 refine ⟨by kernel_rfl, ?_⟩
 refine y2y x9x (by rfl) ?_
 refine x2x rfl ?_
 refine hK5 _ _ ?_
 clear hK5 K5
 refine y2y x9x (by rfl) ?_
 refine y4y rfl rfl rfl ?_
 refine x1x rfl ?_
 exact ⟨i + 1, ⟨by omega, by omega⟩, [0, 0, 0, 0, 0, _, _], (Cov.cons' (t := 2) rfl (by rw [b0t, hk.2, Bool.or_true]) (Cov.cons' (t := 15) rfl (by rw [u9u (by omega) (by omega)]; rfl) Cov.nil)), (x4x 0 rfl (x4x 13 rfl (x4x 14 rfl Cov.nil))), (HE.kill rfl (HE.row rfl (by rw [a8i, c4g (fun _ _ => rfl)]) (HE.row rfl (by rw [a8i, hk.1]) (HE.kill rfl HE.nil)))), (x5x 2 rfl (x5x 3 rfl (x5x 4 rfl HE.nil))), rfl⟩
end
section
theorem a3i (c c' : Bool) (l l' : List Ev) : a0z Tryz.prog 208 [r7r c l, r7r c' l'] (.pv (.bool (decide (l = l')))) := by
 refine z4z x9x (fn := Tryz.f208) (by kernel_rfl) (by kernel_rfl) rfl (outs := [.pv (.bool (decide (l = l')))]) (by rfl) (v7v rfl) 0 ?_
 refine w4w 0 rfl fun hlen => ?_
 refine x6x x9x (by rfl) ?_
 refine x2x rfl ?_
 refine x7x fun K1 hK1 => ?_
 refine x6x x9x (by rfl) ?_
 refine x1x rfl ?_
 refine u3u rfl u4u rfl ?_
 refine x1x rfl ?_
 refine u3u rfl u4u rfl ?_
 refine y4y rfl rfl rfl ?_
 refine y0y rfl (fun hc2 => ?_) (fun hc2 => ?_)
 ·try simp at hc2
  refine x6x x9x (by rfl) ?_
  refine x2x rfl ?_
  refine y3y ⟨.inr rfl, ?_⟩
  clear hK1 K1
  refine z2z rfl ?_ rfl
  exact d3x (by omega)
 try simp at hc2
 refine y1y ?_
 refine hK1 _ _ ?_
 clear hK1 K1
 refine x7x fun K3 hK3 => ?_
 refine x6x x9x (by rfl) ?_
 refine x1x rfl ?_
 refine u3u rfl u4u rfl ?_
 refine x1x rfl ?_
 refine y6y ?_
 refine u5u (ι := Nat) (fun i γ1 => [(13, .pv (.int .i64 (i : Int)))]) (fun i γ1 => []) (fun i => i ≤ l.length ∧ l.length = l'.length ∧ l.take i = l'.take i) (fun i => l.length - i) (x4x 0 rfl (x4x 1 rfl (x4x 12 rfl Cov.nil))) HE.nil 0 ⟨by omega, by omega, rfl⟩ [] (x4x 13 rfl Cov.nil) HE.nil rfl fun i γ1 hi => ?_
 try dsimp only [List.cons_append, List.nil_append]
 obtain ⟨h1, h2, h3⟩ := hi
 refine x6x x9x (by rfl) ?_
 refine y4y rfl rfl rfl ?_
 refine x7x fun K4 hK4 => ?_
 refine y0y rfl (fun hc5 => ?_) (fun hc5 => ?_)
 rotate_left
 ·try simp at hc5
  refine v0v ?_
  refine hK3 _ _ ?_
  clear hK4 K4 hK3 K3
  refine x6x x9x (by rfl) ?_
  refine x2x rfl ?_
  refine y3y ⟨.inr rfl, ?_⟩
  refine z2z rfl ?_ rfl
  exact eqT h3 (by omega) (by omega)
 try simp at hc5
 obtain ⟨x, hx⟩ : ∃ x, l[i]? = some x := w5w (by omega)
 obtain ⟨y, hy⟩ : ∃ y, l'[i]? = some y := w5w (by omega)
 refine y1y ?_
 refine hK4 _ _ ?_
 clear hK4 K4
 refine x7x fun K6 hK6 => ?_
 refine y6y ?_
 refine x6x x9x (by rfl) ?_
 refine x1x rfl ?_
 refine x2x rfl ?_
 refine q5q x9x r6r (by rfl) ?_
 refine x1x rfl ?_
 refine x1x rfl ?_
 refine u0u rfl rfl u4u rfl z3z rfl hx ?_
 refine z5z rfl z3z rfl rfl ?_
 refine x1x rfl ?_
 refine x1x rfl ?_
 refine u0u rfl rfl u4u rfl z3z rfl hy ?_
 refine z5z rfl z3z rfl rfl ?_
 refine a8p rfl rfl (by intro p q h; cases h) (.inr rfl) (d6x _ _ _ _) ?_
 refine ⟨by kernel_rfl, ?_⟩
 refine y0y rfl (fun hc7 => ?_) (fun hc7 => ?_)
 rotate_left
 ·try simp at hc7
  have hxy : x = y := by simpa [a2n] using hc7
  refine y1y ?_
  refine hK6 _ _ ?_
  clear hK6 K6
  refine y2y x9x (by rfl) ?_
  refine u1u (b := 1) rfl rfl (by omega) ?_
  refine x1x rfl ?_
  exact ⟨i + 1, ⟨⟨by omega, h2, a3y h3 hx hy hxy⟩, by omega⟩, [], (x4x 13 rfl Cov.nil), (x4x 0 rfl (x4x 1 rfl (x4x 12 rfl Cov.nil))), HE.nil, HE.nil, rfl⟩
 try simp at hc7
 have hxy : ¬ x = y := by simpa [a2n] using hc7
 refine x6x x9x (by rfl) ?_
 refine x2x rfl ?_
 refine y3y ⟨.inr rfl, ?_⟩
 clear hK6 K6 hK3 K3
 refine z2z rfl ?_ rfl
 exact d3y hx hy hxy
theorem a0f (l l' : List (List Ev)) : Meth Tryz.prog 207 1 [0] [.row (.rd true) 24 1 ((l).map fun l => [r7r true l]), .row (.rd true) 24 1 ((l').map fun l => [r7r true l]), .fn (.func 208) [] []] [(0, (0, .dead))] (.pv (.bool (decide (l = l')))) [] := by
 refine u7u x9x (fn := Tryz.f207) (by kernel_rfl) (by kernel_rfl) rfl (O0 := [.pv (.bool (decide (l = l')))]) 1 0 (v7v rfl) (by rfl) (by repeat (first | exact BndH.nil | refine BndH.dead ?_ )) (by repeat (exact BndH.nil )) (by rfl) fun γ => ?_
 show Ex Tryz.prog _ _ [(0, .row (.rd true) 24 1 ((l).map fun l => [r7r true l])), (1, .row (.rd true) 24 1 ((l').map fun l => [r7r true l])), (2, .fn (.func 208) [] [])] [(0, ((γ 0), .dead))] _
 refine w4w 0 rfl fun hlen => ?_
 refine x6x x9x (by rfl) ?_
 refine x2x rfl ?_
 refine x7x fun K1 hK1 => ?_
 refine x6x x9x (by rfl) ?_
 refine x1x rfl ?_
 refine u3u rfl b6y rfl ?_
 refine x1x rfl ?_
 refine u3u rfl b6y rfl ?_
 refine y4y rfl rfl rfl ?_
 refine y0y rfl (fun hc2 => ?_) (fun hc2 => ?_)
 ·try simp at hc2
  refine x6x x9x (by rfl) ?_
  refine x2x rfl ?_
  refine y3y ?_
  exact ⟨.inr rfl, [γ 0], rfl, congrArg some (d3x (by omega)), HE.same (id := 0) rfl HE.nil⟩
 try simp at hc2
 refine y1y ?_
 refine hK1 _ _ ?_
 clear hK1 K1
 refine x7x fun K3 hK3 => ?_
 refine x6x x9x (by rfl) ?_
 refine x1x rfl ?_
 refine u3u rfl b6y rfl ?_
 refine x1x rfl ?_
 refine y6y ?_
 refine u5u (ι := Nat) (fun i γ1 => [(17, .pv (.int .i64 (i : Int)))]) (fun i γ1 => []) (fun i => i ≤ l.length ∧ l.length = l'.length ∧ l.take i = l'.take i) (fun i => l.length - i) (x4x 1 rfl (x4x 2 rfl (x4x 15 rfl (x4x 16 rfl Cov.nil)))) (x5x 0 rfl HE.nil) 0 ⟨by omega, by omega, rfl⟩ [] (x4x 17 rfl Cov.nil) HE.nil rfl fun i γ1 hi => ?_
 try dsimp only [List.cons_append, List.nil_append]
 obtain ⟨h1, h2, h3⟩ := hi
 refine x6x x9x (by rfl) ?_
 refine y4y rfl rfl rfl ?_
 refine x7x fun K4 hK4 => ?_
 refine y0y rfl (fun hc5 => ?_) (fun hc5 => ?_)
 rotate_left
 ·try simp at hc5
  refine v0v ?_
  refine hK3 _ _ ?_
  clear hK4 K4 hK3 K3
  refine x6x x9x (by rfl) ?_
  refine x2x rfl ?_
  refine y3y ?_
  exact ⟨.inr rfl, [γ 0], rfl, congrArg some (eqT h3 (by omega) (by omega)), HE.same (id := 0) rfl HE.nil⟩
 try simp at hc5
 obtain ⟨x, hx⟩ : ∃ x, l[i]? = some x := w5w (by omega)
 obtain ⟨y, hy⟩ : ∃ y, l'[i]? = some y := w5w (by omega)
 refine y1y ?_
 refine hK4 _ _ ?_
 clear hK4 K4
 refine x7x fun K6 hK6 => ?_
 refine y6y ?_
 refine x6x x9x (by rfl) ?_
 refine x1x rfl ?_
 refine u0u rfl rfl b6y rfl u4u rfl hx ?_
 refine z7z rfl u4u rfl ?_
 refine x2x rfl ?_
 refine x2x rfl ?_
 refine x6x x9x (by rfl) ?_
 refine x1x rfl ?_
 refine x1x rfl ?_
 refine u0u rfl rfl b6y rfl u4u rfl hy ?_
 refine z7z rfl u4u rfl ?_
 refine x2x rfl ?_
 refine x6x x9x (by rfl) ?_
 refine x1x rfl ?_
 refine x1x rfl ?_
 refine x1x rfl ?_
 refine z1z rfl rfl rfl (a3i true true x y) ?_
 refine w6w rfl ?_
 refine y0y rfl (fun hc7 => ?_) (fun hc7 => ?_)
 ·try simp at hc7
  have hxy : ¬ x = y := by simpa [a2n] using hc7
  refine x6x x9x (by rfl) ?_
  refine x2x rfl ?_
  refine y3y ?_
  exact ⟨.inr rfl, [γ 0], rfl, congrArg some (d3y hx hy hxy), HE.same (id := 0) rfl HE.nil⟩
 try simp at hc7
 have hxy : x = y := by simpa [a2n] using hc7
 refine y1y ?_
 refine hK6 _ _ ?_
 clear hK6 K6
 refine y2y x9x (by rfl) ?_
 refine u1u (b := 1) rfl rfl (by omega) ?_
 refine x1x rfl ?_
 exact ⟨i + 1, ⟨⟨by omega, h2, a3y h3 hx hy hxy⟩, by omega⟩, [], (x4x 17 rfl Cov.nil), (x4x 1 rfl (x4x 2 rfl (x4x 15 rfl (x4x 16 rfl Cov.nil)))), HE.nil, (x5x 0 rfl HE.nil), rfl⟩
theorem a9g (c : Bool) (n : Nd) (hw : wk n) : Meth Tryz.prog 138 5 [0, 1, 2, 3, 4] [.ptr 4 0 0] [(0, (0, .row 62 3 ((n.lanes).map fun l => s9s l.base))), (1, (0, .row 63 1 ((n.lanes).map fun l => [a3p c l.done]))), (2, (0, .map (a7e c n.views))), (3, (0, .row 3 1 (n.known.map a2h))), (4, (0, .box 139 [pI n.id, pI n.inc, pI n.g, pI n.led, .ref 0 0, r7r c n.kept, a1j c n.outs, .pv (.bool n.up), .ref 1 0, pI n.version, .mp 2 0, .ref 3 0, pI n.round, pI n.low]))] (.row (.rd true) 24 1 ((a0k n 3).map fun l => [r7r true l])) [] := by
 refine u7u x9x (fn := Tryz.f138) (by kernel_rfl) (by kernel_rfl) rfl (O0 := [.row (.rd true) 24 1 ((a0k n 3).map fun l => [r7r true l])]) 5 4 (v7v rfl) (by rfl) (by repeat (first | exact BndH.nil | refine BndH.box rfl ?_ | refine BndH.row (u6u fun _ => rfl) ?_ | refine BndH.map (a0t _ _) ?_ )) (by repeat (exact BndH.nil )) (by rfl) fun γ => ?_
 show Ex Tryz.prog _ _ [(0, .ptr 4 (γ 4) 0)] [(0, ((γ 0), .row 62 3 ((n.lanes).map fun l => s9s l.base))), (1, ((γ 1), .row 63 1 ((n.lanes).map fun l => [a3p c l.done]))), (2, ((γ 2), .map (a7e c n.views))), (3, ((γ 3), .row 3 1 (n.known.map a2h))), (4, ((γ 4), .box 139 [pI n.id, pI n.inc, pI n.g, pI n.led, .ref 0 (γ 0), r7r c n.kept, a1j c n.outs, .pv (.bool n.up), .ref 1 (γ 1), pI n.version, .mp 2 (γ 2), .ref 3 (γ 3), pI n.round, pI n.low])), (8, (0, .dead)), (7, (0, .dead)), (6, (0, .dead)), (5, (0, .dead))] _
 refine x6x x9x (by rfl) ?_
 refine x2x rfl ?_
 refine x6x x9x (by rfl) ?_
 refine x2x rfl ?_
 refine x7x fun K1 hK1 => ?_
 refine x6x x9x (by rfl) ?_
 refine x1x rfl ?_
 refine y6y ?_
 refine a2r 3 7 24 1 rfl rfl ?_
 refine u5u (ι := Nat) (fun i γ1 => [(3, .ref 7 (γ1 7)), (5, .pv (.int .i64 (i : Int)))]) (fun i γ1 => [(7, ((γ1 7), .row 24 1 ((a0k n i).map fun l => [r7r true l]))), (8, ((γ1 8), .dead)), (5, ((γ1 5), .dead)), (6, ((γ1 6), .dead))]) (fun i => i ≤ 3) (fun i => 3 - i) (x4x 0 rfl Cov.nil) (x5x 0 rfl (x5x 1 rfl (x5x 2 rfl (x5x 3 rfl (x5x 4 rfl HE.nil))))) 0 (by omega) [0, 0, 0, 0, 0, _, _, _, _] (x4x 3 rfl (x4x 5 rfl Cov.nil)) (HE.row rfl (by rfl) (HE.kill rfl (HE.kill rfl (HE.kill rfl HE.nil)))) rfl fun i γ1 hi => ?_
 try dsimp only [List.cons_append, List.nil_append]
 refine x6x x9x (by rfl) ?_
 refine y4y rfl rfl rfl ?_
 refine x7x fun K2 hK2 => ?_
 refine y0y rfl (fun hc3 => ?_) (fun hc3 => ?_)
 rotate_left
 ·try simp at hc3
  obtain rfl : i = 3 := by omega
  refine v0v ?_
  refine hK1 _ _ ?_
  clear hK2 K2 hK1 K1
  refine a3v 3 rfl rfl (fun _ => rfl) ?_
  refine x6x x9x (by rfl) ?_
  refine x1x rfl ?_
  refine x2x rfl ?_
  refine y3y ?_
  exact ⟨.inr rfl, [γ 0, γ 1, γ 2, γ 3, γ 4], rfl, rfl, (x5x 0 rfl (x5x 1 rfl (x5x 2 rfl (x5x 3 rfl (x5x 4 rfl HE.nil)))))⟩
 try simp at hc3
 have htl := c4h n i
 refine y1y ?_
 refine hK2 _ _ ?_
 clear hK2 K2
 refine x7x fun K4 hK4 => ?_
 refine y6y ?_
 refine x6x x9x (by rfl) ?_
 refine x1x rfl ?_
 refine x2x rfl ?_
 refine x6x x9x (by rfl) ?_
 refine x1x rfl ?_
 refine x1x rfl ?_
 refine w3w rfl rfl ?_
 refine x0x rfl r3r rfl rfl s1s rfl rfl ?_
 refine x0x rfl s1s rfl rfl y9y rfl rfl ?_
 refine x3x rfl y9y rfl rfl ?_
 refine y4y rfl rfl rfl ?_
 refine y0y rfl (fun hc5 => ?_) (fun hc5 => ?_)
 rotate_left
 ·try simp at hc5
  have hi0 : (i : Int) = n.id := by exact hc5
  refine y1y ?_
  refine hK4 _ _ ?_
  clear hK4 K4
  refine y2y x9x (by rfl) ?_
  refine y4y rfl rfl rfl ?_
  refine x1x rfl ?_
  exact ⟨i + 1, ⟨by omega, by omega⟩, [0, 0, 0, 0, 0, _, _, _, _], (x4x 3 rfl (Cov.cons' (t := 5) rfl (by rw [u9u (by omega) (by omega)]; rfl) Cov.nil)), (x4x 0 rfl Cov.nil), (HE.row rfl (by rw [c1p hi0]) (HE.kill rfl (HE.kill rfl (HE.kill rfl HE.nil)))), (x5x 0 rfl (x5x 1 rfl (x5x 2 rfl (x5x 3 rfl (x5x 4 rfl HE.nil))))), rfl⟩
 try simp at hc5
 have hi0 : ¬ (i : Int) = n.id := by exact hc5
 refine y2y x9x (by rfl) ?_
 refine x1x rfl ?_
 refine x1x rfl ?_
 refine x1x rfl ?_
 refine v2v [0, 1, 2, 3, 4, 8] [_, _, _, _, _, _] (b2k c n i (by omega) hw.2.2.2.1 (by have := c1j hw; omega) (by have := hw.1; omega)) rfl rfl rfl (by decide) rfl rfl (by repeat (first | exact InH.nil | refine InH.cons rfl ?_)) (by (simp only [pI, z8z, z9z, p8p, gl, nx, p6p, Nat.beq]; rfl)) (by (simp only [pI, z8z, z9z, p8p, gl, nx, p6p, Nat.beq]; rfl)) ?_
 refine b7d (id := 5) b6y rfl u4u rfl rfl rfl rfl rfl ?_
 refine s5s (zs := (a0k n i ++ [a1s n (i : Int)]).map fun l => [r7r true l]) rfl rfl b6y rfl u4u rfl rfl rfl rfl (by rfl) (a1c _ _ _) (by (simp only [List.length_map, List.length_append, List.length_cons, List.length_nil, List.length_take, T24]; omega)) ?_
 refine x2x rfl ?_
 refine hK4 _ _ ?_
 clear hK4 K4
 refine y2y x9x (by rfl) ?_
 refine y4y rfl rfl rfl ?_
 refine x1x rfl ?_
 exact ⟨i + 1, ⟨by omega, by omega⟩, [0, 0, 0, 0, 0, _, _, _, _], (x4x 3 rfl (Cov.cons' (t := 5) rfl (by rw [u9u (by omega) (by omega)]; rfl) Cov.nil)), (x4x 0 rfl Cov.nil), (HE.row rfl (by rw [c1o hi0]) (HE.kill rfl (HE.kill rfl (HE.kill rfl HE.nil)))), (x5x 0 rfl (x5x 1 rfl (x5x 2 rfl (x5x 3 rfl (x5x 4 rfl HE.nil))))), rfl⟩
theorem b2l (c : Bool) (was n : Nd) (hw : wk n) (hv : was.version = n.version) (hb : 0 ≤ n.version ∧ n.version ≤ 9998) : Meth Tryz.prog 141 5 [0, 1, 2, 3, 4] [.ptr 4 0 0, .row (.rd true) 24 1 ((a0k was 3).map fun l => [r7r true l])] [(0, (0, .row 62 3 ((n.lanes).map fun l => s9s l.base))), (1, (0, .row 63 1 ((n.lanes).map fun l => [a3p c l.done]))), (2, (0, .map (a7e c n.views))), (3, (0, .row 3 1 (n.known.map a2h))), (4, (0, .box 139 [pI n.id, pI n.inc, pI n.g, pI n.led, .ref 0 0, r7r c n.kept, a1j c n.outs, .pv (.bool n.up), .ref 1 0, pI n.version, .mp 2 0, .ref 3 0, pI n.round, pI n.low]))] (.tup []) [(4, (0, .box 139 [pI n.id, pI n.inc, pI n.g, pI n.led, .ref 0 0, r7r c n.kept, a1j c n.outs, .pv (.bool n.up), .ref 1 0, pI (a3b was n 3), .mp 2 0, .ref 3 0, pI n.round, pI n.low]))] := by
 refine u7u x9x (fn := Tryz.f141) (by kernel_rfl) (by kernel_rfl) rfl (O0 := []) 5 1 (v7v rfl) (by rfl) (by repeat (first | exact BndH.nil | refine BndH.box rfl ?_ | refine BndH.row (u6u fun _ => rfl) ?_ | refine BndH.map (a0t _ _) ?_ )) (by repeat (first | exact BndH.nil | refine BndH.box rfl ?_ )) (by rfl) fun γ => ?_
 show Ex Tryz.prog _ _ [(0, .ptr 4 (γ 4) 0), (1, .row (.rd true) 24 1 ((a0k was 3).map fun l => [r7r true l]))] [(0, ((γ 0), .row 62 3 ((n.lanes).map fun l => s9s l.base))), (1, ((γ 1), .row 63 1 ((n.lanes).map fun l => [a3p c l.done]))), (2, ((γ 2), .map (a7e c n.views))), (3, ((γ 3), .row 3 1 (n.known.map a2h))), (4, ((γ 4), .box 139 [pI n.id, pI n.inc, pI n.g, pI n.led, .ref 0 (γ 0), r7r c n.kept, a1j c n.outs, .pv (.bool n.up), .ref 1 (γ 1), pI n.version, .mp 2 (γ 2), .ref 3 (γ 3), pI n.round, pI n.low])), (5, (0, .dead))] _
 refine x6x x9x (by rfl) ?_
 refine x1x rfl ?_
 refine x1x rfl ?_
 refine v2v [0, 1, 2, 3, 4] [_, _, _, _, _] (a9g c n hw) rfl rfl rfl (by decide) rfl rfl (by repeat (first | exact InH.nil | refine InH.cons rfl ?_)) (by (simp only [pI, z8z, z9z, p8p, gl, nx, p6p, Nat.beq]; rfl)) (by (simp only [pI, z8z, z9z, p8p, gl, nx, p6p, Nat.beq]; rfl)) ?_
 refine v2v [5] [_] (a0f (a0k was 3) (a0k n 3)) rfl rfl rfl (by decide) rfl rfl (by repeat (first | exact InH.nil | refine InH.cons rfl ?_)) (by (simp only [pI, z8z, z9z, p8p, gl, nx, p6p, Nat.beq]; rfl)) (by (simp only [pI, z8z, z9z, p8p, gl, nx, p6p, Nat.beq]; rfl)) ?_
 refine w6w rfl ?_
 refine y0y rfl (fun hc1 => ?_) (fun hc1 => ?_)
 rotate_left
 ·try simp at hc1
  have hq : a0k was 3 = a0k n 3 := by exact hc1
  have hnum : a3b was n 3 = n.version := by unfold a3b; rw [if_pos hq]
  refine y1y ?_
  exact ⟨.inl rfl, [γ 0, γ 1, γ 2, γ 3, γ 4], rfl, rfl, HE.box rfl (by rw [hnum]; rfl) (x5x 0 rfl (x5x 1 rfl (x5x 2 rfl (x5x 3 rfl HE.nil))))⟩
 try simp at hc1
 have hq : ¬ a0k was 3 = a0k n 3 := by exact hc1
 have hnum : a3b was n 3 = n.version + 1 := by unfold a3b; rw [if_neg hq, hv]
 refine y2y x9x (by rfl) ?_
 refine x1x rfl ?_
 refine w3w rfl rfl ?_
 refine x0x rfl r3r rfl rfl y9y rfl rfl ?_
 refine x3x rfl y9y rfl rfl ?_
 refine a2g (.int .i64 (n.version + 1)) rfl rfl rfl (a9k rfl rfl (by omega) (by omega)) ?_
 refine w3w rfl rfl ?_
 refine x0x rfl r3r rfl rfl y9y rfl rfl ?_
 refine u8u rfl rfl y9y rfl rfl rfl rfl rfl (by simp only [a0p]; rfl) ?_
 exact ⟨.inl rfl, [γ 0, γ 1, γ 2, γ 3, γ 4], rfl, rfl, HE.box rfl (by rw [hnum]; rfl) (x5x 0 rfl (x5x 1 rfl (x5x 2 rfl (x5x 3 rfl HE.nil))))⟩
end
section
set_option maxHeartbeats 2000000 in
theorem b0j (c : Bool) (n : Nd) (f inc ver g : Int) (es : List Ev) : Meth Tryz.prog 54 5 [] [.agg (a1i c n), .pv (.int .i64 f), .pv (.int .i64 inc), .pv (.int .i64 ver), .pv (.int .i64 g), r7r c es] [(0, (0, .dead)), (1, (0, .dead)), (2, (0, .dead)), (3, (0, .dead)), (4, (0, .dead))] (.agg [pI (p3p n f inc ver g es).id, .pv (.bool (p3p n f inc ver g es).up), pI (p3p n f inc ver g es).inc, pI (p3p n f inc ver g es).g, .ref 0 0, .ref 1 0, .ref 2 0, pI (p3p n f inc ver g es).led, pI (p3p n f inc ver g es).version, .ref 3 0, .ref 4 0, pI (p3p n f inc ver g es).round, pI (p3p n f inc ver g es).low]) [(0, (0, .row 65 5 ((p3p n f inc ver g es).lanes.map a1t))), (1, (0, .row 76 7 ((p3p n f inc ver g es).kept.map v9v))), (2, (0, .row 104 5 ((p3p n f inc ver g es).outs.map a0y))), (3, (0, .row 141 3 ((p3p n f inc ver g es).views.map a1u))), (4, (0, .row 3 1 ((p3p n f inc ver g es).known.map a2h)))] := by
 refine u7u x9x (fn := Tryz.f54) (by kernel_rfl) (by kernel_rfl) rfl (O0 := [.agg [pI (p3p n f inc ver g es).id, .pv (.bool (p3p n f inc ver g es).up), pI (p3p n f inc ver g es).inc, pI (p3p n f inc ver g es).g, .ref 0 0, .ref 1 0, .ref 2 0, pI (p3p n f inc ver g es).led, pI (p3p n f inc ver g es).version, .ref 3 0, .ref 4 0, pI (p3p n f inc ver g es).round, pI (p3p n f inc ver g es).low]]) 5 9 (v7v rfl) (by rfl) (by repeat (first | exact BndH.nil | refine BndH.dead ?_ )) (by repeat (first | exact BndH.nil | refine BndH.row (u6u fun _ => rfl) ?_ )) (by rfl) fun γ => ?_
 show Ex Tryz.prog _ _ [(0, .agg (a1i c n)), (1, .pv (.int .i64 f)), (2, .pv (.int .i64 inc)), (3, .pv (.int .i64 ver)), (4, .pv (.int .i64 g)), (5, r7r c es)] [(0, ((γ 0), .dead)), (1, ((γ 1), .dead)), (2, ((γ 2), .dead)), (3, ((γ 3), .dead)), (4, ((γ 4), .dead)), (13, (0, .dead)), (12, (0, .dead)), (11, (0, .dead)), (10, (0, .dead)), (9, (0, .dead)), (8, (0, .dead)), (7, (0, .dead)), (6, (0, .dead)), (5, (0, .dead))] _
 refine x6x x9x (by rfl) ?_
 refine v4v (id := 5) rfl rfl rfl ?_
 refine v3v (id := 6) z6z a4v rfl ?_
 refine x7x fun K1 hK1 => ?_
 refine x6x x9x (by rfl) ?_
 refine y8y rfl z6z rfl rfl rfl ?_
 refine z1z rfl rfl rfl (b4f c n) ?_
 refine w6w rfl ?_
 refine y0y rfl (fun hc2 => ?_) (fun hc2 => ?_)
 ·try simp at hc2
  have fX : ¬ a1r n := a5g (by simpa using hc2)
  refine x6x x9x (by rfl) ?_
  refine a0c z6z rfl a4v rfl (by simp only [pI, y9y, T3, b5n, T4, p4p, T22, w2w, T23, u4u, T24, p9p, T25, p1p, T26, a2w, r2r, AV.okc, AV.one, Value.oneCell', List.map_cons, List.map_nil, List.getElem?_cons_zero, List.getElem?_cons_succ, List.take_succ_cons, List.take_zero, List.drop_succ_cons, List.drop_zero, List.cons_append, List.nil_append, List.length_cons, List.length_nil, if_true, and_self, Nat.reduceAdd, Nat.reduceLeDiff]; rfl) ?_
  refine u2u rfl rfl z6z rfl rfl rfl rfl ?_
  (rw [d5a fX]; refine a4g 6 4 0 65 5 rfl rfl rfl rfl rfl ?_; refine a4g 6 5 1 76 7 rfl rfl rfl rfl rfl ?_; refine a4g 6 6 2 104 5 rfl rfl rfl rfl rfl ?_; refine a4g 6 9 3 141 3 rfl rfl rfl rfl rfl ?_; refine a4g 6 10 4 3 1 rfl rfl rfl rfl rfl ?_)
  refine y3y ?_
  exact ⟨.inr rfl, [_, _, _, _, _], rfl, rfl, HE.row rfl rfl (HE.row rfl rfl (HE.row rfl rfl (HE.row rfl rfl (HE.row rfl rfl HE.nil))))⟩
 try simp at hc2
 have fK : a1r n := b1e.1 (by simpa using hc2)
 have fS := fK.1
 have fB := a1y fS
 have fV := fS.2.2.2.2.2.1
 have fQ := fS.2.2.2.2.2.2.1
 refine y1y ?_
 refine hK1 _ _ ?_
 clear hK1 K1
 refine x7x fun K3 hK3 => ?_
 refine x6x x9x (by rfl) ?_
 refine y8y rfl z6z rfl rfl rfl ?_
 refine x1x rfl ?_
 refine x1x rfl ?_
 refine x1x rfl ?_
 refine x1x rfl ?_
 refine x1x rfl ?_
 refine z1z rfl rfl rfl (b8l c c n f inc ver g es) ?_
 refine w6w rfl ?_
 refine y0y rfl (fun hc4 => ?_) (fun hc4 => ?_)
 ·try simp at hc4
  have fU : ¬ a0h n f inc ver g es := a5g (by simpa using hc4)
  refine x6x x9x (by rfl) ?_
  refine y8y rfl z6z rfl rfl rfl ?_
  refine v2v [0, 1, 2, 3, 4] [_, _, _, _, _] (a6r c n (by omega)) rfl rfl rfl (by decide) rfl rfl (by repeat (first | exact InH.nil | refine InH.cons rfl ?_)) (by (simp only [pI, z8z, z9z, p8p, gl, nx, p6p, Nat.beq]; rfl)) (by (simp only [pI, z8z, z9z, p8p, gl, nx, p6p, Nat.beq]; rfl)) ?_
  refine u2u rfl rfl z6z rfl rfl rfl rfl ?_
  rw [b1f fK fU]
  refine y3y ?_
  exact ⟨.inr rfl, [_, _, _, _, _], rfl, rfl, HE.row rfl rfl (HE.row rfl rfl (HE.row rfl rfl (HE.row rfl rfl (HE.row rfl rfl HE.nil))))⟩
 try simp at hc4
 have fH : a0h n f inc ver g es := b1e.1 (by simpa using hc4)
 obtain ⟨k, rfl⟩ : ∃ k : Nat, f = (k : Int) := ⟨f.toNat, by have := fH.2.2.1; omega⟩
 have hk3 : k < 3 := by have := fH.2.2.1; omega
 obtain ⟨kn, hkn⟩ : ∃ kn, n.known[k]? = some kn := w5w (by omega)
 obtain ⟨v, hv⟩ : ∃ v, n.views[k]? = some v := w5w (by omega)
 have hes : es.length ≤ 100 := by have := (a2l fH.2.2.2.2.2.2.2.1).1; omega
 obtain ⟨M, hM⟩ : ∃ M, M = b3u n k inc ver g es := ⟨_, rfl⟩
 have hv9 : n.version ≤ 9998 := by have := fH.2.1; omega
 have hv0 := fS.1.2.2.2.2.1.1
 refine y1y ?_
 refine hK3 _ _ ?_
 clear hK3 K3
 refine x6x x9x (by rfl) ?_
 refine y8y rfl z6z rfl rfl rfl ?_
 refine v2v [9, 10, 11, 12, 13] [_, _, _, _, _] (b4d c n (by omega) (by omega) fQ) rfl rfl rfl (by decide) rfl rfl (by repeat (first | exact InH.nil | refine InH.cons rfl ?_)) (by (simp only [pI, z8z, z9z, p8p, gl, nx, p6p, Nat.beq]; rfl)) (by (simp only [pI, z8z, z9z, p8p, gl, nx, p6p, Nat.beq]; rfl)) ?_
 refine x2x rfl ?_
 refine x6x x9x (by rfl) ?_
 refine x1x rfl ?_
 refine v2v [9, 10, 11, 12, 13] [_, _, _, _, _] (a9g c n (d3t fS)) rfl rfl rfl (by decide) rfl rfl (by repeat (first | exact InH.nil | refine InH.cons rfl ?_)) (by (simp only [pI, z8z, z9z, p8p, gl, nx, p6p, Nat.beq]; rfl)) (by (simp only [pI, z8z, z9z, p8p, gl, nx, p6p, Nat.beq]; rfl)) ?_
 refine x2x rfl ?_
 refine q5q x9x r6r (by rfl) ?_
 refine x1x rfl ?_
 refine w3w rfl rfl ?_
 refine x0x rfl r3r rfl rfl p4p rfl rfl ?_
 refine x3x rfl p4p rfl rfl ?_
 refine x1x rfl ?_
 refine x1x rfl ?_
 refine w3w rfl rfl ?_
 refine x0x rfl r3r rfl rfl p4p rfl rfl ?_
 refine x3x rfl p4p rfl rfl ?_
 refine x1x rfl ?_
 refine q6q (j := k) rfl rfl p4p rfl y9y rfl rfl (q0q hkn) ?_
 refine a3u rfl y9y rfl hkn rfl ?_
 refine x1x rfl ?_
 refine d9e (c := max kn g) rfl rfl (by rw [Int.max_def]; split <;> split <;> omega) ?_
 refine q6q (j := k) rfl rfl p4p rfl y9y rfl rfl (q0q hkn) ?_
 refine b4t (el' := max kn g) rfl rfl y9y rfl rfl rfl hkn rfl (by omega) (.val rfl rfl .nil) rfl rfl ?_
 refine ⟨by kernel_rfl, ?_⟩
 refine x6x x9x (by rfl) ?_
 refine x1x rfl ?_
 refine w3w rfl rfl ?_
 refine x0x rfl r3r rfl rfl a6e rfl rfl ?_
 refine x3x rfl a6e rfl rfl ?_
 refine x1x rfl ?_
 refine a2s (κ := Int) (enc := fun n => .int .i64 n) (ks := b2h n.views.length) (k := (k : Int)) (out := .agg (a1n c v)) x9x Tryz.underlying137 (a6j Tryz.underlying3) rfl rfl (fun _ _ _ h => c5f h) rfl (a6o _ _) (b3y hv) ?_
 refine v3v (id := 7) v6v a3s rfl ?_
 refine u2u rfl rfl v6v rfl rfl rfl rfl ?_
 refine a8q (ι := Unit) (fun _i γ1 => []) (fun _i γ1 => [(9, ((0 + 1), .row 62 3 ((M.lanes).map fun l => s9s l.base))), (10, ((0 + 1), .row 63 1 ((M.lanes).map fun l => [a3p c l.done]))), (11, ((0 + 1), .map (a7e c M.views))), (12, ((0 + 1), .row 3 1 (M.known.map a2h))), (13, ((0 + 1), .box 139 [pI M.id, pI M.inc, pI M.g, pI M.led, .ref 9 (0 + 1), r7r c M.kept, a1j c M.outs, .pv (.bool M.up), .ref 10 (0 + 1), pI M.version, .mp 11 (0 + 1), .ref 12 (0 + 1), pI M.round, pI M.low]))]) (fun _i => True) (x4x 6 rfl (x4x 12 rfl (x4x 13 rfl (x4x 14 rfl Cov.nil)))) (x5x 0 rfl (x5x 1 rfl (x5x 2 rfl (x5x 3 rfl (x5x 4 rfl (x5x 5 rfl (x5x 6 rfl (x5x 7 rfl (x5x 8 rfl HE.nil))))))))) ?_ fun _i γ1 hi => ?_
 ·refine x6x x9x (by rfl) ?_
  refine x1x rfl ?_
  refine x0x rfl v6v rfl rfl y9y rfl rfl ?_
  refine x3x rfl y9y rfl rfl ?_
  refine y4y rfl rfl rfl ?_
  refine x1x rfl ?_
  refine a0b rfl rfl (fun hg5 => ?_) (fun hg5 => ?_)
  rotate_left
  ·try simp at hg5
   refine x8x rfl rfl ?_
   refine x8x rfl rfl ?_
   refine x8x rfl rfl ?_
   refine x8x rfl rfl ?_
   refine p0p rfl rfl ?_
   refine p0p rfl rfl ?_
   refine p0p rfl rfl ?_
   refine p0p rfl rfl ?_
   refine x8x rfl rfl ?_
   refine z0z rfl rfl ?_
   refine y0y rfl (fun hc9 => ?_) (fun hc9 => ?_)
   rotate_left
   ·simp at hc9
   try simp at hc9
   have hL : b4z v inc ver := by exact .inl (by omega)
   refine q5q x9x r6r (by rfl) ?_
   refine x1x rfl ?_
   refine x0x rfl v6v rfl rfl u4u rfl rfl ?_
   refine x3x rfl u4u rfl rfl ?_
   refine x1x rfl ?_
   refine x1x rfl ?_
   refine w3w rfl rfl ?_
   refine x0x rfl r3r rfl rfl s1s rfl rfl ?_
   refine x0x rfl s1s rfl rfl y9y rfl rfl ?_
   refine x3x rfl y9y rfl rfl ?_
   refine x1x rfl ?_
   refine w3w rfl rfl ?_
   refine x0x rfl r3r rfl rfl y9y rfl rfl ?_
   refine x3x rfl y9y rfl rfl ?_
   refine z1z rfl rfl rfl (a7i c c v.events es n.g n.low) ?_
   refine w3w rfl rfl ?_
   refine x0x rfl r3r rfl rfl y9y rfl rfl ?_
   refine u8u rfl rfl y9y rfl rfl rfl rfl rfl (by simp only [a0p]; rfl) ?_
   refine ⟨by kernel_rfl, ?_⟩
   refine y2y x9x (by rfl) ?_
   refine x1x rfl ?_
   refine w3w rfl rfl ?_
   refine x0x rfl r3r rfl rfl a6e rfl rfl ?_
   refine x3x rfl a6e rfl rfl ?_
   refine x1x rfl ?_
   refine x1x rfl ?_
   refine x1x rfl ?_
   refine x1x rfl ?_
   refine a0c v6v rfl a3s rfl (by simp only [pI, y9y, T3, u4u, T24, a2w, r2r, AV.okc, AV.one, Value.oneCell', List.map_cons, List.map_nil, List.getElem?_cons_zero, List.getElem?_cons_succ, List.take_succ_cons, List.take_zero, List.drop_succ_cons, List.drop_zero, List.cons_append, List.nil_append, List.length_cons, List.length_nil, if_true, and_self, Nat.reduceAdd, Nat.reduceLeDiff]; rfl) ?_
   refine a9w (κ := Int) (enc := fun n => .int .i64 n) (ks := b2h n.views.length) (k := (k : Int)) (es' := a7e c (n.views.set k ⟨inc, ver, es⟩)) Tryz.underlying137 (a6j Tryz.underlying3) rfl rfl rfl (fun _ _ _ h => c5f h) rfl (a6o _ _) (.inl ⟨k, c2h (q0q hv), c7d _ _ _ _⟩) ?_
   exact ⟨(), trivial, [], Cov.nil, (x4x 6 rfl (x4x 12 rfl (x4x 13 rfl (x4x 14 rfl Cov.nil)))), (HE.row rfl (by rw [hM]; rw [s8s hv hkn hL]) (HE.row rfl (by rw [hM]; rw [s8s hv hkn hL]) (HE.map rfl (by rw [hM]; rw [s8s hv hkn hL]) (HE.row rfl (by rw [hM]; rw [s8s hv hkn hL]) (HE.box rfl (by rw [hM]; (rw [s8s hv hkn hL]; rfl)) HE.nil))))), (x5x 0 rfl (x5x 1 rfl (x5x 2 rfl (x5x 3 rfl (x5x 4 rfl (x5x 5 rfl (x5x 6 rfl (x5x 7 rfl (x5x 8 rfl HE.nil))))))))), rfl⟩
  try simp at hg5
  refine x1x rfl ?_
  refine y7y rfl rfl ?_
  refine x0x rfl v6v rfl rfl y9y rfl rfl ?_
  refine y7y rfl rfl ?_
  refine x3x rfl y9y rfl rfl ?_
  refine y7y rfl rfl ?_
  refine y4y rfl rfl rfl ?_
  refine y7y rfl rfl ?_
  refine x1x rfl ?_
  refine a0b rfl rfl (fun hg6 => ?_) (fun hg6 => ?_)
  rotate_left
  ·try simp at hg6
   refine x8x rfl rfl ?_
   refine x8x rfl rfl ?_
   refine x8x rfl rfl ?_
   refine y7y rfl rfl ?_
   refine y5y rfl rfl ?_
   refine y5y rfl rfl ?_
   refine y0y rfl (fun hc8 => ?_) (fun hc8 => ?_)
   ·simp at hc8
   try simp at hc8
   have hL : ¬ b4z v inc ver := by rintro (q | ⟨q1, q2⟩) <;> omega
   refine y1y ?_
   exact ⟨(), trivial, [], Cov.nil, (x4x 6 rfl (x4x 12 rfl (x4x 13 rfl (x4x 14 rfl Cov.nil)))), (HE.row rfl (by rw [hM]; rw [a1m hv hkn hL]) (HE.row rfl (by rw [hM]; rw [a1m hv hkn hL]) (HE.map rfl (by rw [hM]; rw [a1m hv hkn hL]) (HE.row rfl (by rw [hM]; rw [a1m hv hkn hL]) (HE.box rfl (by rw [hM]; (rw [a1m hv hkn hL]; rfl)) HE.nil))))), (x5x 0 rfl (x5x 1 rfl (x5x 2 rfl (x5x 3 rfl (x5x 4 rfl (x5x 5 rfl (x5x 6 rfl (x5x 7 rfl (x5x 8 rfl HE.nil))))))))), rfl⟩
  try simp at hg6
  refine x1x rfl ?_
  refine y7y rfl rfl ?_
  refine x0x rfl v6v rfl rfl y9y rfl rfl ?_
  refine y7y rfl rfl ?_
  refine x3x rfl y9y rfl rfl ?_
  refine y7y rfl rfl ?_
  refine y4y rfl rfl rfl ?_
  refine y7y rfl rfl ?_
  refine z0z rfl rfl ?_
  refine y5y rfl rfl ?_
  refine y0y rfl (fun hc7 => ?_) (fun hc7 => ?_)
  rotate_left
  ·try simp at hc7
   have hL : ¬ b4z v inc ver := by rintro (q | ⟨q1, q2⟩) <;> omega
   refine y1y ?_
   exact ⟨(), trivial, [], Cov.nil, (x4x 6 rfl (x4x 12 rfl (x4x 13 rfl (x4x 14 rfl Cov.nil)))), (HE.row rfl (by rw [hM]; rw [a1m hv hkn hL]) (HE.row rfl (by rw [hM]; rw [a1m hv hkn hL]) (HE.map rfl (by rw [hM]; rw [a1m hv hkn hL]) (HE.row rfl (by rw [hM]; rw [a1m hv hkn hL]) (HE.box rfl (by rw [hM]; (rw [a1m hv hkn hL]; rfl)) HE.nil))))), (x5x 0 rfl (x5x 1 rfl (x5x 2 rfl (x5x 3 rfl (x5x 4 rfl (x5x 5 rfl (x5x 6 rfl (x5x 7 rfl (x5x 8 rfl HE.nil))))))))), rfl⟩
  try simp at hc7
  have hL : b4z v inc ver := by exact .inr ⟨by omega, by omega⟩
  refine q5q x9x r6r (by rfl) ?_
  refine x1x rfl ?_
  refine x0x rfl v6v rfl rfl u4u rfl rfl ?_
  refine x3x rfl u4u rfl rfl ?_
  refine x1x rfl ?_
  refine x1x rfl ?_
  refine w3w rfl rfl ?_
  refine x0x rfl r3r rfl rfl s1s rfl rfl ?_
  refine x0x rfl s1s rfl rfl y9y rfl rfl ?_
  refine x3x rfl y9y rfl rfl ?_
  refine x1x rfl ?_
  refine w3w rfl rfl ?_
  refine x0x rfl r3r rfl rfl y9y rfl rfl ?_
  refine x3x rfl y9y rfl rfl ?_
  refine z1z rfl rfl rfl (a7i c c v.events es n.g n.low) ?_
  refine w3w rfl rfl ?_
  refine x0x rfl r3r rfl rfl y9y rfl rfl ?_
  refine u8u rfl rfl y9y rfl rfl rfl rfl rfl (by simp only [a0p]; rfl) ?_
  refine ⟨by kernel_rfl, ?_⟩
  refine y2y x9x (by rfl) ?_
  refine x1x rfl ?_
  refine w3w rfl rfl ?_
  refine x0x rfl r3r rfl rfl a6e rfl rfl ?_
  refine x3x rfl a6e rfl rfl ?_
  refine x1x rfl ?_
  refine x1x rfl ?_
  refine x1x rfl ?_
  refine x1x rfl ?_
  refine a0c v6v rfl a3s rfl (by simp only [pI, y9y, T3, u4u, T24, a2w, r2r, AV.okc, AV.one, Value.oneCell', List.map_cons, List.map_nil, List.getElem?_cons_zero, List.getElem?_cons_succ, List.take_succ_cons, List.take_zero, List.drop_succ_cons, List.drop_zero, List.cons_append, List.nil_append, List.length_cons, List.length_nil, if_true, and_self, Nat.reduceAdd, Nat.reduceLeDiff]; rfl) ?_
  refine a9w (κ := Int) (enc := fun n => .int .i64 n) (ks := b2h n.views.length) (k := (k : Int)) (es' := a7e c (n.views.set k ⟨inc, ver, es⟩)) Tryz.underlying137 (a6j Tryz.underlying3) rfl rfl rfl (fun _ _ _ h => c5f h) rfl (a6o _ _) (.inl ⟨k, c2h (q0q hv), c7d _ _ _ _⟩) ?_
  exact ⟨(), trivial, [], Cov.nil, (x4x 6 rfl (x4x 12 rfl (x4x 13 rfl (x4x 14 rfl Cov.nil)))), (HE.row rfl (by rw [hM]; rw [s8s hv hkn hL]) (HE.row rfl (by rw [hM]; rw [s8s hv hkn hL]) (HE.map rfl (by rw [hM]; rw [s8s hv hkn hL]) (HE.row rfl (by rw [hM]; rw [s8s hv hkn hL]) (HE.box rfl (by rw [hM]; (rw [s8s hv hkn hL]; rfl)) HE.nil))))), (x5x 0 rfl (x5x 1 rfl (x5x 2 rfl (x5x 3 rfl (x5x 4 rfl (x5x 5 rfl (x5x 6 rfl (x5x 7 rfl (x5x 8 rfl HE.nil))))))))), rfl⟩
 ·try dsimp only [List.cons_append, List.nil_append]
  obtain ⟨w1, w2, w3⟩ := c7a n k inc ver g es
  rw [← hM] at w1 w2 w3
  have hwM : wk M := by rw [hM]; exact c6z (d3t fS) hes
  have hpcM : M.lanes.length = (a1d M.id 4).length := by rw [w1, w3]; exact fS.2.2.2.2.1
  have hwA : wk (nl M (q7q M M.lanes)) := c1n _ (Nat.le_refl _) hwM
  have hLA : (q7q M M.lanes).length ≤ 4 := hwA.1
  refine x6x x9x (by rfl) ?_
  refine x1x rfl ?_
  refine v2v [9, 10, 11, 12, 13] [_, _, _, _, _] (b5e c M hwM hpcM) rfl rfl rfl (by decide) rfl rfl (by repeat (first | exact InH.nil | refine InH.cons rfl ?_)) (by (simp only [pI, z8z, z9z, p8p, gl, nx, p6p, Nat.beq]; rfl)) (by (simp only [pI, z8z, z9z, p8p, gl, nx, p6p, Nat.beq]; rfl)) ?_
  refine x6x x9x (by rfl) ?_
  refine x1x rfl ?_
  refine x1x rfl ?_
  refine v2v [9, 10, 11, 12, 13] [_, _, _, _, _] (b2l c n (nl M (q7q M M.lanes)) hwA w2.symm ⟨by rw [show ((nl M (q7q M M.lanes)) : Nd).version = M.version from rfl, w2]; omega, by rw [show ((nl M (q7q M M.lanes)) : Nd).version = M.version from rfl, w2]; omega⟩) rfl rfl rfl (by decide) rfl rfl (by repeat (first | exact InH.nil | refine InH.cons rfl ?_)) (by (simp only [pI, z8z, z9z, p8p, gl, nx, p6p, Nat.beq]; rfl)) (by (simp only [pI, z8z, z9z, p8p, gl, nx, p6p, Nat.beq]; rfl)) ?_
  refine x6x x9x (by rfl) ?_
  refine y8y rfl z6z rfl rfl rfl ?_
  refine x1x rfl ?_
  refine v2v [9, 10, 11, 12, 13, 0, 1, 2, 3, 4] [_, _, _, _, _, _, _, _, _, _] (b9l c n (b8c n M) (by omega) (by show (q7q M M.lanes).length ≤ 1048576; omega) (fun i l h => hwA.2.2.2.2.2.2 i l h) hwA.2.2.1) rfl rfl rfl (by decide) rfl rfl (by repeat (first | exact InH.nil | refine InH.cons rfl ?_)) (by (simp only [pI, z8z, z9z, p8p, gl, nx, p6p, Nat.beq]; rfl)) (by (simp only [pI, z8z, z9z, p8p, gl, nx, p6p, Nat.beq]; rfl)) ?_
  refine x1x rfl ?_
  refine a0e rfl rfl ?_
  refine a0e rfl rfl ?_
  refine v3v (id := 8) z6z a4v rfl ?_
  refine u2u rfl rfl z6z rfl rfl rfl rfl ?_
  refine x2x rfl ?_
  refine x6x x9x (by rfl) ?_
  refine y8y rfl z6z rfl rfl rfl ?_
  refine u2u rfl rfl z6z rfl rfl rfl rfl ?_
  rw [d1p fK fH, ← hM]
  refine y3y ?_
  exact ⟨.inr rfl, [_, _, _, _, _], rfl, rfl, HE.row rfl rfl (HE.row rfl rfl (HE.row rfl rfl (HE.row rfl rfl (HE.row rfl rfl HE.nil))))⟩
end
section
theorem b8m (id : Int) : a0z Tryz.prog 76 [.pv (.int .i64 id)] (.row (.rd true) 65 5 ((a1d id 4).map fun p => a0v true (d0y p))) := by
 refine z4z x9x (fn := Tryz.f76) (by kernel_rfl) (by kernel_rfl) rfl (outs := [.row (.rd true) 65 5 ((a1d id 4).map fun p => a0v true (d0y p))]) (by rfl) (v7v rfl) 3 ?_
 have hpl := fun k => a6n id k
 refine x6x x9x (by rfl) ?_
 refine x2x rfl ?_
 refine x6x x9x (by rfl) ?_
 refine s3s (id := 0) w2w rfl v8v rfl ?_
 refine x2x rfl ?_
 refine x7x fun K1 hK1 => ?_
 refine x6x x9x (by rfl) ?_
 refine x2x rfl ?_
 refine y6y ?_
 refine u5u (ι := Nat) (fun i γ1 => [(3, .ref 0 (γ1 0)), (4, .pv (.int .i64 (i : Int)))]) (fun i γ1 => [(0, ((γ1 0), .row 65 5 ((a1d id i).map d1r))), (1, ((γ1 1), .dead)), (2, ((γ1 2), .dead))]) (fun i => i ≤ 4) (fun i => 4 - i) (x4x 0 rfl Cov.nil) HE.nil 0 (by omega) [_, _, _] (x4x 3 rfl (x4x 4 rfl Cov.nil)) (HE.row rfl rfl (HE.kill rfl (HE.kill rfl HE.nil))) rfl fun i γ1 hi => ?_
 try dsimp only [List.cons_append, List.nil_append]
 refine x7x fun K2 hK2 => ?_
 refine x6x x9x (by rfl) ?_
 refine x1x rfl ?_
 refine y4y rfl rfl rfl ?_
 refine y0y rfl (fun hc3 => ?_) (fun hc3 => ?_)
 rotate_left
 ·try simp at hc3
  refine v0v ?_
  refine hK1 _ _ ?_
  clear hK2 K2 hK1 K1
  refine x6x x9x (by rfl) ?_
  refine x1x rfl ?_
  refine x2x rfl ?_
  refine y3y ⟨.inr rfl, ?_⟩
  refine d2u rfl rfl d1s ?_
  have : i = 4 := by omega
  rw [this]
 try simp at hc3
 refine y1y ?_
 refine hK2 _ _ ?_
 clear hK2 K2
 refine x7x fun K4 hK4 => ?_
 refine y6y ?_
 refine x6x x9x (by rfl) ?_
 refine x1x rfl ?_
 refine z1z rfl rfl rfl (a5u ..) ?_
 refine x1x rfl ?_
 refine y4y rfl rfl rfl ?_
 refine y0y rfl (fun hc5 => ?_) (fun hc5 => ?_)
 rotate_left
 ·try simp at hc5
  refine y1y ?_
  refine hK4 _ _ ?_
  clear hK4 K4
  refine y2y x9x (by rfl) ?_
  refine x1x rfl ?_
  refine y4y rfl rfl rfl ?_
  refine x2x rfl ?_
  exact ⟨i + 1, ⟨by omega, by omega⟩, [_, _, _], (x4x 3 rfl (Cov.cons' (t := 4) rfl (by rw [u9u (by omega) (by omega)]; rfl) Cov.nil)), (x4x 0 rfl Cov.nil), (HE.row rfl (by simp only [a8e]; rw [if_neg (by assumption)]) (HE.kill rfl (HE.kill rfl HE.nil))), HE.nil, rfl⟩
 try simp at hc5
 refine y2y x9x (by rfl) ?_
 refine x1x rfl ?_
 refine x1x rfl ?_
 refine a0c v8v rfl a9u rfl (by simp only [pI, y9y, T3, r4r, T62, w0w, T63, a2w, r2r, AV.okc, AV.one, Value.oneCell', List.map_cons, List.map_nil, List.getElem?_cons_zero, List.getElem?_cons_succ, List.take_succ_cons, List.take_zero, List.drop_succ_cons, List.drop_zero, List.cons_append, List.nil_append, List.length_cons, List.length_nil, if_true, and_self, Nat.reduceAdd, Nat.reduceLeDiff]; rfl) ?_
 refine s4s (id := 1) w2w rfl v8v rfl rfl rfl rfl rfl rfl ?_
 have := hpl i
 refine s5s (zs := (a1d id i ++ [(i : Int)]).map d1r) rfl rfl w2w rfl v8v rfl rfl rfl rfl (by rfl) (a1c _ _ _) (by (simp only [List.length_map, List.length_append, List.length_cons, List.length_nil, List.length_take, List.length_range, T65]; omega)) ?_
 refine x2x rfl ?_
 refine hK4 _ _ ?_
 clear hK4 K4
 refine y2y x9x (by rfl) ?_
 refine x1x rfl ?_
 refine y4y rfl rfl rfl ?_
 refine x2x rfl ?_
 exact ⟨i + 1, ⟨by omega, by omega⟩, [_, _, _], (x4x 3 rfl (Cov.cons' (t := 4) rfl (by rw [u9u (by omega) (by omega)]; rfl) Cov.nil)), (x4x 0 rfl Cov.nil), (HE.row rfl (by simp only [a8e]; rw [if_pos (by assumption)]) (HE.kill rfl (HE.kill rfl HE.nil))), HE.nil, rfl⟩
end
section
theorem b1o (c c' : Bool) (l : La) (s : List Ev) : a0z Tryz.prog 161 [.agg (a0v c l), r7r c' s] (.pv (.int .i64 (same l.done s : Int))) := by
 refine z4z x9x (fn := Tryz.f161) (by kernel_rfl) (by kernel_rfl) rfl (outs := [.pv (.int .i64 (same l.done s : Int))]) (by rfl) (v7v rfl) 1 ?_
 refine w4w 1 rfl fun hlen => ?_
 refine x6x x9x (by rfl) ?_
 refine v4v (id := 0) rfl rfl rfl ?_
 refine x2x rfl ?_
 refine x6x x9x (by rfl) ?_
 refine x2x rfl ?_
 refine x7x fun K1 hK1 => ?_
 refine y6y ?_
 refine u5u (ι := Nat) (fun i γ1 => [(5, .pv (.int .i64 (i : Int)))]) (fun i γ1 => []) (fun i => i ≤ l.done.length ∧ i ≤ s.length ∧ same l.done s = i + same (l.done.drop i) (s.drop i)) (fun i => l.done.length - i) (x4x 1 rfl (x4x 2 rfl Cov.nil)) (x5x 0 rfl HE.nil) 0 ⟨by omega, by omega, by rw [List.drop_zero, List.drop_zero, Nat.zero_add]⟩ [] (x4x 5 rfl Cov.nil) HE.nil rfl fun i γ1 hi => ?_
 try dsimp only [List.cons_append, List.nil_append]
 obtain ⟨h1, h2, h3⟩ := hi
 refine x7x fun K2 hK2 => ?_
 refine q5q x9x r6r (by rfl) ?_
 refine x1x rfl ?_
 refine x0x rfl v8v rfl rfl w0w rfl rfl ?_
 refine x3x rfl w0w rfl rfl ?_
 refine u3u rfl w0w rfl ?_
 refine y4y rfl rfl rfl ?_
 refine x1x rfl ?_
 refine a0b rfl rfl (fun hg3 => ?_) (fun hg3 => ?_)
 rotate_left
 ·try simp at hg3
  have g1 : l.done.length ≤ i := by omega
  refine x8x rfl rfl ?_
  refine x8x rfl rfl ?_
  refine x8x rfl rfl ?_
  refine y5y rfl rfl ?_
  refine x1x rfl ?_
  refine x8x rfl rfl ?_
  refine x8x rfl rfl ?_
  refine x8x rfl rfl ?_
  refine x8x rfl rfl ?_
  refine x8x rfl rfl ?_
  refine x8x rfl rfl ?_
  refine x8x rfl rfl ?_
  refine x8x rfl rfl ?_
  refine x8x rfl rfl ?_
  refine x8x rfl rfl ?_
  refine x8x rfl rfl ?_
  refine y5y rfl rfl ?_
  refine ⟨by kernel_rfl, ?_⟩
  refine y0y rfl (fun hc7 => ?_) (fun hc7 => ?_)
  ·simp at hc7
  try simp at hc7
  try have heq : ¬ p.ev = e := by simpa [a2n] using hc7
  refine v0v ?_
  refine hK1 _ _ ?_
  clear hK2 K2 hK1 K1
  refine x6x x9x (by rfl) ?_
  refine x1x rfl ?_
  refine x2x rfl ?_
  refine y3y ⟨.inr rfl, ?_⟩
  refine z2z rfl ?_ rfl
  exact congrArg (fun v : Nat => [AV.pv (.int .i64 (v : Int))]) (h3.trans (by rw [c3v g1]; rfl)).symm
 try simp at hg3
 have g1 : i < l.done.length := by omega
 obtain ⟨p, hp⟩ : ∃ p, l.done[i]? = some p := w5w (by omega)
 refine x1x rfl ?_
 refine y7y rfl rfl ?_
 refine x1x rfl ?_
 refine y7y rfl rfl ?_
 refine u3u rfl u4u rfl ?_
 refine y7y rfl rfl ?_
 refine y4y rfl rfl rfl ?_
 refine z0z rfl rfl ?_
 refine x1x rfl ?_
 refine a0b rfl rfl (fun hg4 => ?_) (fun hg4 => ?_)
 rotate_left
 ·try simp at hg4
  have g2 : s.length ≤ i := by omega
  refine x8x rfl rfl ?_
  refine x8x rfl rfl ?_
  refine x8x rfl rfl ?_
  refine x8x rfl rfl ?_
  refine x8x rfl rfl ?_
  refine x8x rfl rfl ?_
  refine x8x rfl rfl ?_
  refine x8x rfl rfl ?_
  refine x8x rfl rfl ?_
  refine x8x rfl rfl ?_
  refine y5y rfl rfl ?_
  refine ⟨by kernel_rfl, ?_⟩
  refine y0y rfl (fun hc6 => ?_) (fun hc6 => ?_)
  ·simp at hc6
  try simp at hc6
  try have heq : ¬ p.ev = e := by simpa [a2n] using hc6
  refine v0v ?_
  refine hK1 _ _ ?_
  clear hK2 K2 hK1 K1
  refine x6x x9x (by rfl) ?_
  refine x1x rfl ?_
  refine x2x rfl ?_
  refine y3y ⟨.inr rfl, ?_⟩
  refine z2z rfl ?_ rfl
  exact congrArg (fun v : Nat => [AV.pv (.int .i64 (v : Int))]) (h3.trans (by rw [c3w g2]; rfl)).symm
 try simp at hg4
 have g2 : i < s.length := by omega
 obtain ⟨e, he⟩ : ∃ e, s[i]? = some e := w5w (by omega)
 refine x0x rfl v8v rfl rfl w0w rfl rfl ?_
 refine y7y rfl rfl ?_
 refine x3x rfl w0w rfl rfl ?_
 refine y7y rfl rfl ?_
 refine x1x rfl ?_
 refine y7y rfl rfl ?_
 refine u0u rfl rfl w0w rfl w1w rfl hp ?_
 refine y7y rfl rfl ?_
 refine x0x rfl w1w rfl rfl z3z rfl rfl ?_
 refine y7y rfl rfl ?_
 refine z7z (out := .agg (v9v p.ev)) rfl z3z rfl ?_
 refine y7y rfl rfl ?_
 refine x1x rfl ?_
 refine y7y rfl rfl ?_
 refine x1x rfl ?_
 refine y7y rfl rfl ?_
 refine u0u rfl rfl u4u rfl z3z rfl he ?_
 refine y7y rfl rfl ?_
 refine z7z (out := .agg (v9v e)) rfl z3z rfl ?_
 refine y7y rfl rfl ?_
 refine a8p rfl rfl (by intro a c h; cases h) (.inl rfl) (d6x _ _ _ _) ?_
 refine z0z rfl rfl ?_
 refine ⟨by kernel_rfl, ?_⟩
 refine y0y rfl (fun hc5 => ?_) (fun hc5 => ?_)
 ·try simp at hc5
  try have heq : p.ev = e := by simpa [a2n] using hc5
  refine y1y ?_
  refine hK2 _ _ ?_
  clear hK2 K2
  refine y6y ?_
  refine y2y x9x (by rfl) ?_
  refine x1x rfl ?_
  refine u1u (b := 1) rfl rfl (by omega) ?_
  refine x2x rfl ?_
  exact ⟨i + 1, ⟨⟨by omega, by omega, by rw [h3, c3t hp he heq]; omega⟩, by omega⟩, [], (x4x 5 rfl Cov.nil), (x4x 1 rfl (x4x 2 rfl Cov.nil)), HE.nil, (x5x 0 rfl HE.nil), rfl⟩
 try simp at hc5
 try have heq : ¬ p.ev = e := by simpa [a2n] using hc5
 refine v0v ?_
 refine hK1 _ _ ?_
 clear hK2 K2 hK1 K1
 refine x6x x9x (by rfl) ?_
 refine x1x rfl ?_
 refine x2x rfl ?_
 refine y3y ⟨.inr rfl, ?_⟩
 refine z2z rfl ?_ rfl
 exact congrArg (fun v : Nat => [AV.pv (.int .i64 (v : Int))]) (h3.trans (by rw [c3u hp he heq]; rfl)).symm
theorem b1p (c : Bool) (n : Nd) (hs : (a0l n).length ≤ 5000000) (hlen : n.lanes.length ≤ 1048576) : Meth Tryz.prog 183 1 [] [.agg (a1i c n)] [(0, (0, .dead))] (.ref 0 0) [(0, (0, .row 76 7 ((a0l n).map v9v)))] := by
 refine u7u x9x (fn := Tryz.f183) (by kernel_rfl) (by kernel_rfl) rfl (O0 := [.ref 0 0]) 1 3 (v7v rfl) (by rfl) (by repeat (first | exact BndH.nil | refine BndH.dead ?_)) (by repeat (first | exact BndH.nil | refine BndH.row (u6u fun _ => rfl) ?_)) (by rfl) fun γ => ?_
 show Ex Tryz.prog _ _ [(0, .agg (a1i c n))] [(0, ((γ 0), .dead)), (3, (0, .dead)), (2, (0, .dead)), (1, (0, .dead))] _
 have hkl : n.kept.length ≤ 5000000 := by simp only [a0l, List.length_append] at hs; omega
 refine x6x x9x (by rfl) ?_
 refine v4v (id := 1) rfl rfl rfl ?_
 refine x2x rfl ?_
 refine x6x x9x (by rfl) ?_
 refine s3s (id := 0) u4u rfl z3z rfl ?_
 refine x0x rfl z6z rfl rfl u4u rfl rfl ?_
 refine x3x rfl u4u rfl rfl ?_
 refine a1e (zs := n.kept.map v9v) rfl rfl u4u rfl z3z rfl rfl rfl (by exact a0m (fun _ => rfl) _) rfl (by have hb56 : T76.bytes = 56 := rfl; rw [List.length_map, hb56]; omega) ?_
 refine x2x rfl ?_
 refine x7x fun K1 hK1 => ?_
 refine x6x x9x (by rfl) ?_
 refine x2x rfl ?_
 refine y6y ?_
 refine u5u (ι := Nat) (fun i γ1 => [(3, .ref 0 (γ1 0)), (4, .pv (.int .i64 (i : Int)))]) (fun i γ1 => [(0, ((γ1 0), .row 76 7 ((n.kept ++ (n.lanes.take i).flatMap a7l).map v9v))), (3, ((γ1 3), .dead))]) (fun i => i ≤ n.lanes.length) (fun i => n.lanes.length - i) (x4x 1 rfl Cov.nil) (x5x 1 rfl (x5x 2 rfl HE.nil)) 0 (by omega) [_, 0, 0, _] (x4x 3 rfl (x4x 4 rfl Cov.nil)) (HE.row rfl (by simp) (HE.kill rfl HE.nil)) rfl fun i γ1 hi => ?_
 try dsimp only [List.cons_append, List.nil_append]
 refine x7x fun K2 hK2 => ?_
 refine x6x x9x (by rfl) ?_
 refine x1x rfl ?_
 refine x0x rfl z6z rfl rfl w2w rfl rfl ?_
 refine x3x rfl w2w rfl rfl ?_
 refine u3u rfl w2w rfl ?_
 refine y4y rfl rfl rfl ?_
 refine y0y rfl (fun hc3 => ?_) (fun hc3 => ?_)
 rotate_left
 ·try simp at hc3
  obtain rfl : i = n.lanes.length := by omega
  refine v0v ?_
  refine hK1 _ _ ?_
  clear hK2 K2 hK1 K1
  refine x6x x9x (by rfl) ?_
  refine x1x rfl ?_
  refine x2x rfl ?_
  refine y3y ?_
  exact ⟨.inr rfl, [_], rfl, rfl, HE.row rfl (by rw [List.take_length]; rfl) HE.nil⟩
 try simp at hc3
 obtain ⟨p, hp⟩ : ∃ p, n.lanes[i]? = some p := w5w (by omega)
 refine y1y ?_
 refine hK2 _ _ ?_
 clear hK2 K2
 refine x7x fun K4 hK4 => ?_
 refine y6y ?_
 refine x6x x9x (by rfl) ?_
 refine x2x rfl ?_
 refine y6y ?_
 refine u5u (ι := Nat) (fun j γ2 => [(3, .ref 0 (γ2 0)), (5, .pv (.int .i64 (j : Int)))]) (fun j γ2 => [(0, ((γ2 0), .row 76 7 ((n.kept ++ (n.lanes.take i).flatMap a7l ++ (p.done.take j).flatMap Pa.sends).map v9v))), (3, ((γ2 3), .dead))]) (fun j => j ≤ p.done.length) (fun j => p.done.length - j) (x4x 1 rfl (x4x 4 rfl Cov.nil)) (x5x 1 rfl (x5x 2 rfl HE.nil)) 0 (by omega) [_, 0, 0, _] (x4x 3 rfl (x4x 5 rfl Cov.nil)) (HE.row rfl (by simp) (HE.kill rfl HE.nil)) rfl fun j γ2 hi => ?_
 try dsimp only [List.cons_append, List.nil_append]
 refine x7x fun K5 hK5 => ?_
 refine x6x x9x (by rfl) ?_
 refine x1x rfl ?_
 refine x0x rfl z6z rfl rfl w2w rfl rfl ?_
 refine x3x rfl w2w rfl rfl ?_
 refine x1x rfl ?_
 refine u0u rfl rfl w2w rfl v8v rfl hp ?_
 refine x0x rfl v8v rfl rfl w0w rfl rfl ?_
 refine z7z rfl w0w rfl ?_
 refine u3u rfl w0w rfl ?_
 refine y4y rfl rfl rfl ?_
 refine y0y rfl (fun hc6 => ?_) (fun hc6 => ?_)
 rotate_left
 ·try simp at hc6
  obtain rfl : j = p.done.length := by omega
  refine v0v ?_
  refine hK4 _ _ ?_
  clear hK5 K5 hK4 K4
  refine y2y x9x (by rfl) ?_
  refine x1x rfl ?_
  refine y4y rfl rfl rfl ?_
  refine x2x rfl ?_
  exact ⟨i + 1, ⟨by omega, by omega⟩, [_, 0, 0, _], (x4x 3 rfl (Cov.cons' (t := 4) rfl (by rw [u9u (by omega) (by omega)]; rfl) Cov.nil)), (x4x 1 rfl Cov.nil), (HE.row rfl (by simp only [a8h hp, List.append_assoc, a7l, List.take_length]) (HE.kill rfl HE.nil)), (x5x 1 rfl (x5x 2 rfl HE.nil)), rfl⟩
 try simp at hc6
 obtain ⟨q, hq⟩ : ∃ q, p.done[j]? = some q := w5w (by omega)
 have hsp := b7w hp hq
 refine y1y ?_
 refine hK5 _ _ ?_
 clear hK5 K5
 refine x7x fun K7 hK7 => ?_
 refine y6y ?_
 refine y2y x9x (by rfl) ?_
 refine x1x rfl ?_
 refine x0x rfl z6z rfl rfl w2w rfl rfl ?_
 refine x3x rfl w2w rfl rfl ?_
 refine x1x rfl ?_
 refine u0u rfl rfl w2w rfl v8v rfl hp ?_
 refine x0x rfl v8v rfl rfl w0w rfl rfl ?_
 refine z7z rfl w0w rfl ?_
 refine x1x rfl ?_
 refine u0u rfl rfl w0w rfl w1w rfl hq ?_
 refine x0x rfl w1w rfl rfl u4u rfl rfl ?_
 refine z7z rfl u4u rfl ?_
 refine a1e (zs := (n.kept ++ (n.lanes.take i).flatMap a7l ++ (p.done.take j).flatMap Pa.sends ++ q.sends).map v9v) rfl rfl u4u rfl z3z rfl rfl rfl (by exact a0m (fun _ => rfl) _) (b4q _ _ _) (by have hb56 : T76.bytes = 56 := rfl; rw [List.length_map, hb56]; omega) ?_
 refine x2x rfl ?_
 refine hK7 _ _ ?_
 clear hK7 K7
 refine w4w 23 rfl fun hlen2 => ?_
 refine y2y x9x (by rfl) ?_
 refine x1x rfl ?_
 refine y4y rfl rfl rfl ?_
 refine x2x rfl ?_
 exact ⟨j + 1, ⟨by omega, by omega⟩, [_, 0, 0, _], (x4x 3 rfl (Cov.cons' (t := 5) rfl (by rw [u9u (by omega) (by omega)]; rfl) Cov.nil)), (x4x 1 rfl (x4x 4 rfl Cov.nil)), (HE.row rfl (by simp only [a8h hq, List.append_assoc]) (HE.kill rfl HE.nil)), (x5x 1 rfl (x5x 2 rfl HE.nil)), rfl⟩
end
section
theorem a9h (c : Bool) (l : List Ev) (hl : l.length ≤ 10000000) : a0z Tryz.prog 114 [r7r c l] (r7r true (s2s l)) := by
 refine z4z x9x (fn := Tryz.f114) (by kernel_rfl) (by kernel_rfl) rfl (outs := [r7r true (s2s l)]) (by rfl) (v7v rfl) 3 ?_
 refine x6x x9x (by rfl) ?_
 refine x2x rfl ?_
 refine x6x x9x (by rfl) ?_
 refine s3s (id := 0) u4u rfl z3z rfl ?_
 refine x2x rfl ?_
 refine x7x fun K1 hK1 => ?_
 refine x6x x9x (by rfl) ?_
 refine x2x rfl ?_
 refine y6y ?_
 refine u5u (ι := Nat) (fun i γ1 => [(3, .ref 0 (γ1 0)), (4, .pv (.int .i64 (i : Int)))]) (fun i γ1 => [(0, ((γ1 0), .row 76 7 ((s2s (l.take i)).map v9v))), (1, ((γ1 1), .dead)), (2, ((γ1 2), .dead))]) (fun i => i ≤ l.length) (fun i => l.length - i) (x4x 0 rfl Cov.nil) HE.nil 0 (by omega) [_, _, _] (x4x 3 rfl (x4x 4 rfl Cov.nil)) (HE.row rfl (by rw [List.take_zero]; rfl) (HE.kill rfl (HE.kill rfl HE.nil))) rfl fun i γ1 hi => ?_
 try dsimp only [List.cons_append, List.nil_append]
 refine x7x fun K2 hK2 => ?_
 refine x6x x9x (by rfl) ?_
 refine x1x rfl ?_
 refine x1x rfl ?_
 refine u3u rfl u4u rfl ?_
 refine y4y rfl rfl rfl ?_
 refine y0y rfl (fun hc3 => ?_) (fun hc3 => ?_)
 rotate_left
 ·try simp at hc3
  obtain rfl : i = l.length := by omega
  refine v0v ?_
  refine hK1 _ _ ?_
  clear hK2 K2 hK1 K1
  refine x6x x9x (by rfl) ?_
  refine x1x rfl ?_
  refine x2x rfl ?_
  refine y3y ⟨.inr rfl, ?_⟩
  refine c9p rfl rfl (fun _ => rfl) ?_
  rw [List.take_length]
 try simp at hc3
 obtain ⟨x, hx⟩ : ∃ x, l[i]? = some x := w5w (by omega)
 have hol : (s2s (l.take i)).length ≤ 10000000 := Nat.le_trans (d1e _) (by rw [List.length_take]; omega)
 have hss := d1c (l.take i)
 refine y1y ?_
 refine hK2 _ _ ?_
 clear hK2 K2
 refine x7x fun K4 hK4 => ?_
 refine y6y ?_
 refine x6x x9x (by rfl) ?_
 refine x1x rfl ?_
 refine a1v rfl u4u rfl rfl (by exact List.length_map _) ?_
 refine x2x rfl ?_
 refine a8q (ι := Nat) (fun k γ2 => [(5, .pv (.int .i64 (k : Int)))]) (fun k γ2 => []) (fun k => k ≤ (s2s (l.take i)).length ∧ (∀ (j : Nat) y, k ≤ j → (s2s (l.take i))[j]? = some y → a2p x y = true) ∧ (∀ y, 0 < k → (s2s (l.take i))[k - 1]? = some y → a2p x y = false)) (x4x 0 rfl (x4x 3 rfl (x4x 4 rfl Cov.nil))) (x5x 0 rfl (x5x 1 rfl (x5x 2 rfl HE.nil))) ?_ fun k γ2 hi => ?_
 ·refine y6y ?_
  refine u5u (ι := Nat) (fun k γ3 => [(5, .pv (.int .i64 (k : Int)))]) (fun k γ3 => []) (fun k => k ≤ (s2s (l.take i)).length ∧ (∀ (j : Nat) y, k ≤ j → (s2s (l.take i))[j]? = some y → a2p x y = true)) (fun k => k) (x4x 0 rfl (x4x 3 rfl (x4x 4 rfl Cov.nil))) (x5x 0 rfl (x5x 1 rfl (x5x 2 rfl HE.nil))) (s2s (l.take i)).length ⟨Nat.le_refl _, fun j y hj hy => by have := (List.getElem?_eq_some_iff.1 hy).1; omega⟩ [] (x4x 5 rfl Cov.nil) HE.nil rfl fun k γ3 hi => ?_
  try dsimp only [List.cons_append, List.nil_append]
  obtain ⟨k1, k2⟩ := hi
  refine x7x fun K5 hK5 => ?_
  refine q5q x9x r6r (by rfl) ?_
  refine x1x rfl ?_
  refine y4y rfl rfl rfl ?_
  refine x1x rfl ?_
  refine a0b rfl rfl (fun hg6 => ?_) (fun hg6 => ?_)
  rotate_left
  ·try simp at hg6
   have k0 : k = 0 := by omega
   refine x8x rfl rfl ?_
   refine x8x rfl rfl ?_
   refine x8x rfl rfl ?_
   refine x8x rfl rfl ?_
   refine x8x rfl rfl ?_
   refine x8x rfl rfl ?_
   refine x8x rfl rfl ?_
   refine x8x rfl rfl ?_
   refine x8x rfl rfl ?_
   refine y5y rfl rfl ?_
   refine ⟨by kernel_rfl, ?_⟩
   refine y0y rfl (fun hc8 => ?_) (fun hc8 => ?_)
   ·simp at hc8
   try simp at hc8
   try have hlt := hc8
   refine v0v ?_
   exact ⟨k, ⟨k1, k2, fun y2 h0 h2 => by omega⟩, [], (x4x 5 rfl Cov.nil), (x4x 0 rfl (x4x 3 rfl (x4x 4 rfl Cov.nil))), HE.nil, (x5x 0 rfl (x5x 1 rfl (x5x 2 rfl HE.nil))), rfl⟩
  try simp at hg6
  have k0 : 0 < k := by omega
  obtain ⟨y, hy⟩ : ∃ y, (s2s (l.take i))[k - 1]? = some y := w5w (by omega)
  refine x1x rfl ?_
  refine y7y rfl rfl ?_
  refine x1x rfl ?_
  refine y7y rfl rfl ?_
  refine u0u rfl rfl u4u rfl z3z rfl hx ?_
  refine y7y rfl rfl ?_
  refine z5z rfl z3z rfl rfl ?_
  refine y7y rfl rfl ?_
  refine x1x rfl ?_
  refine y7y rfl rfl ?_
  refine x1x rfl ?_
  refine y7y rfl rfl ?_
  refine a1w (b := 1) rfl rfl (by omega) (by omega) ?_
  refine y7y rfl rfl ?_
  refine q6q (j := k - 1) rfl rfl u4u rfl z3z rfl rfl (by omega) ?_
  refine y7y rfl rfl ?_
  refine a0d rfl z3z rfl hy rfl rfl ?_
  refine y7y rfl rfl ?_
  refine z1z rfl rfl rfl (a5b ..) ?_
  refine z0z rfl rfl ?_
  refine ⟨by kernel_rfl, ?_⟩
  refine y0y rfl (fun hc7 => ?_) (fun hc7 => ?_)
  rotate_left
  ·try simp at hc7
   try have hlt := hc7
   refine v0v ?_
   exact ⟨k, ⟨k1, k2, fun y2 h0 h2 => by (rw [hy] at h2; cases h2; exact hlt)⟩, [], (x4x 5 rfl Cov.nil), (x4x 0 rfl (x4x 3 rfl (x4x 4 rfl Cov.nil))), HE.nil, (x5x 0 rfl (x5x 1 rfl (x5x 2 rfl HE.nil))), rfl⟩
  try simp at hc7
  try have hlt := hc7
  refine y1y ?_
  refine hK5 _ _ ?_
  clear hK5 K5
  refine y6y ?_
  refine y2y x9x (by rfl) ?_
  refine x1x rfl ?_
  refine a1w (b := 1) rfl rfl (by omega) (by omega) ?_
  refine x2x rfl ?_
  exact ⟨k - 1, ⟨⟨by omega, fun j y2 hj hy2 => by by_cases hjk : j = k - 1; (subst hjk; rw [hy] at hy2; cases hy2; exact hlt); exact k2 j y2 (by omega) hy2⟩, by omega⟩, [], (x4x 5 rfl Cov.nil), (x4x 0 rfl (x4x 3 rfl (x4x 4 rfl Cov.nil))), HE.nil, (x5x 0 rfl (x5x 1 rfl (x5x 2 rfl HE.nil))), rfl⟩
 ·try dsimp only [List.cons_append, List.nil_append]
  obtain ⟨c1, c2, c3⟩ := hi
  refine x7x fun K9 hK9 => ?_
  refine q5q x9x r6r (by rfl) ?_
  refine x1x rfl ?_
  refine y4y rfl rfl rfl ?_
  refine x1x rfl ?_
  refine a0b rfl rfl (fun hg10 => ?_) (fun hg10 => ?_)
  rotate_left
  ·try simp at hg10
   have k0 : k = 0 := by omega
   refine x8x rfl rfl ?_
   refine x8x rfl rfl ?_
   refine x8x rfl rfl ?_
   refine x8x rfl rfl ?_
   refine x8x rfl rfl ?_
   refine x8x rfl rfl ?_
   refine x8x rfl rfl ?_
   refine x8x rfl rfl ?_
   refine x8x rfl rfl ?_
   refine y5y rfl rfl ?_
   refine ⟨by kernel_rfl, ?_⟩
   refine y0y rfl (fun hc16 => ?_) (fun hc16 => ?_)
   ·simp at hc16
   try simp at hc16
   try have hyx : ¬ y = x := by simpa [a2n] using hc16
   have hin : s2s (l.take (i + 1)) = (s2s (l.take i)).take k ++ x :: (s2s (l.take i)).drop k := by rw [b2e hx]; exact d1b c8e hss c2 (fun y2 h0 h2 => ⟨c3 y2 h0 h2, by omega⟩) c1
   refine y1y ?_
   refine hK9 _ _ ?_
   clear hK9 K9
   refine x6x x9x (by rfl) ?_
   refine x1x rfl ?_
   refine x1x rfl ?_
   refine x1x rfl ?_
   refine u0u rfl rfl u4u rfl z3z rfl hx ?_
   refine z5z rfl z3z rfl rfl ?_
   refine s4s (id := 1) u4u rfl z3z rfl rfl rfl rfl rfl rfl ?_
   refine s5s (zs := (s2s (l.take i) ++ [x]).map v9v) rfl rfl u4u rfl z3z rfl rfl rfl rfl (by rfl) (a1c _ _ _) (by have hb56 : T76.bytes = 56 := rfl; rw [List.length_map, hb56]; simp only [List.length_append, List.length_cons, List.length_nil]; omega) ?_
   refine x2x rfl ?_
   refine x7x fun K17 hK17 => ?_
   refine x6x x9x (by rfl) ?_
   refine x1x rfl ?_
   refine a1v rfl u4u rfl rfl (by exact List.length_map _) ?_
   refine a1w (b := 1) rfl rfl (by (simp; done)) (by (simp; omega)) ?_
   refine x2x rfl ?_
   refine y6y ?_
   refine u5u (ι := Nat × Ev) (fun q γ5 => [(6, .pv (.int .i64 (q.1 : Int)))]) (fun q γ5 => [(0, ((γ1 0 + 1), .row 76 7 (((s2s (l.take i)).take q.1 ++ q.2 :: (s2s (l.take i)).drop q.1).map v9v)))]) (fun q => k ≤ q.1 ∧ q.1 ≤ (s2s (l.take i)).length) (fun q => q.1) (x4x 0 rfl (x4x 3 rfl (x4x 4 rfl (x4x 5 rfl Cov.nil)))) (x5x 1 rfl (x5x 2 rfl HE.nil)) ((s2s (l.take i)).length, x) ⟨c1, Nat.le_refl _⟩ [] (Cov.cons' (t := 6) rfl (by simp) Cov.nil) (HE.row rfl (by rw [List.take_length, List.drop_length]) HE.nil) rfl fun q γ5 hi => ?_
   try dsimp only [List.cons_append, List.nil_append]
   obtain ⟨m, u⟩ := q
   obtain ⟨m1, m2⟩ := hi
   dsimp only at m1 m2 ⊢
   refine x7x fun K18 hK18 => ?_
   refine x6x x9x (by rfl) ?_
   refine x1x rfl ?_
   refine x1x rfl ?_
   refine y4y rfl rfl rfl ?_
   refine y0y rfl (fun hc19 => ?_) (fun hc19 => ?_)
   rotate_left
   ·try simp at hc19
    obtain rfl : k = m := by omega
    refine v0v ?_
    refine hK17 _ _ ?_
    clear hK18 K18 hK17 K17
    refine y2y x9x (by rfl) ?_
    refine x1x rfl ?_
    refine x1x rfl ?_
    refine x1x rfl ?_
    refine x1x rfl ?_
    refine u0u rfl rfl u4u rfl z3z rfl hx ?_
    refine z5z rfl z3z rfl rfl ?_
    refine q6q (j := k) rfl rfl u4u rfl z3z rfl rfl (q0q (c3y c1)) ?_
    refine a0n (el' := x) rfl rfl z3z rfl rfl rfl (c3y c1) rfl (a3k _) rfl rfl ?_
    refine hK4 _ _ ?_
    clear hK4 K4
    refine y2y x9x (by rfl) ?_
    refine x1x rfl ?_
    refine u1u (b := 1) rfl rfl (by omega) ?_
    refine x2x rfl ?_
    exact ⟨i + 1, ⟨by omega, by omega⟩, [_, _, _], (x4x 3 rfl (x4x 4 rfl Cov.nil)), (x4x 0 rfl Cov.nil), (HE.row rfl (by rw [hin, d1f c1]) (HE.kill rfl (HE.kill rfl HE.nil))), HE.nil, rfl⟩
   try simp at hc19
   obtain ⟨z, hz⟩ : ∃ z, (s2s (l.take i))[m - 1]? = some z := w5w (by omega)
   refine y1y ?_
   refine hK18 _ _ ?_
   clear hK18 K18
   refine x7x fun K20 hK20 => ?_
   refine y6y ?_
   refine y2y x9x (by rfl) ?_
   refine x1x rfl ?_
   refine x1x rfl ?_
   refine x1x rfl ?_
   refine x1x rfl ?_
   refine a1w (b := 1) rfl rfl (by omega) (by omega) ?_
   refine q6q (j := m - 1) rfl rfl u4u rfl z3z rfl rfl (q0q (c6v m2 (by omega) hz)) ?_
   refine a0d rfl z3z rfl (c6v m2 (by omega) hz) rfl rfl ?_
   refine q6q (j := m) rfl rfl u4u rfl z3z rfl rfl (q0q (c3y m2)) ?_
   refine a0n (el' := z) rfl rfl z3z rfl rfl rfl (c3y m2) rfl (a3k _) rfl rfl ?_
   refine hK20 _ _ ?_
   clear hK20 K20
   refine y2y x9x (by rfl) ?_
   refine x1x rfl ?_
   refine a1w (b := 1) rfl rfl (by omega) (by omega) ?_
   refine x2x rfl ?_
   exact ⟨(m - 1, z), ⟨⟨by dsimp only; omega, by dsimp only; omega⟩, (by dsimp only; omega)⟩, [], (x4x 6 rfl Cov.nil), (x4x 0 rfl (x4x 3 rfl (x4x 4 rfl (x4x 5 rfl Cov.nil)))), (HE.row rfl (by rw [d4x m2 (by omega) hz]) HE.nil), (x5x 1 rfl (x5x 2 rfl HE.nil)), rfl⟩
  try simp at hg10
  have k0 : 0 < k := by omega
  obtain ⟨y, hy⟩ : ∃ y, (s2s (l.take i))[k - 1]? = some y := w5w (by omega)
  refine x1x rfl ?_
  refine y7y rfl rfl ?_
  refine x1x rfl ?_
  refine y7y rfl rfl ?_
  refine a1w (b := 1) rfl rfl (by omega) (by omega) ?_
  refine y7y rfl rfl ?_
  refine q6q (j := k - 1) rfl rfl u4u rfl z3z rfl rfl (by omega) ?_
  refine y7y rfl rfl ?_
  refine a0d rfl z3z rfl hy rfl rfl ?_
  refine y7y rfl rfl ?_
  refine x1x rfl ?_
  refine y7y rfl rfl ?_
  refine x1x rfl ?_
  refine y7y rfl rfl ?_
  refine u0u rfl rfl u4u rfl z3z rfl hx ?_
  refine y7y rfl rfl ?_
  refine z5z rfl z3z rfl rfl ?_
  refine y7y rfl rfl ?_
  refine a8p rfl rfl (by intro a c h; cases h) (.inl rfl) (d6x _ _ _ _) ?_
  refine z0z rfl rfl ?_
  refine ⟨by kernel_rfl, ?_⟩
  refine y0y rfl (fun hc11 => ?_) (fun hc11 => ?_)
  ·try simp at hc11
   have hyx : y = x := by simpa [a2n] using hc11
   have hsk : s2s (l.take (i + 1)) = s2s (l.take i) := by rw [b2e hx]; exact d6n c8e hss (List.mem_of_getElem? (hyx ▸ hy))
   refine v0v ?_
   refine hK4 _ _ ?_
   clear hK9 K9 hK4 K4
   refine y2y x9x (by rfl) ?_
   refine x1x rfl ?_
   refine u1u (b := 1) rfl rfl (by omega) ?_
   refine x2x rfl ?_
   exact ⟨i + 1, ⟨by omega, by omega⟩, [_, _, _], (x4x 3 rfl (x4x 4 rfl Cov.nil)), (x4x 0 rfl Cov.nil), (HE.row rfl (by rw [hsk]) (HE.kill rfl (HE.kill rfl HE.nil))), HE.nil, rfl⟩
  try simp at hc11
  try have hyx : ¬ y = x := by simpa [a2n] using hc11
  have hin : s2s (l.take (i + 1)) = (s2s (l.take i)).take k ++ x :: (s2s (l.take i)).drop k := by rw [b2e hx]; exact d1b c8e hss c2 (fun y2 h0 h2 => ⟨c3 y2 h0 h2, by (rw [hy] at h2; cases h2; exact hyx)⟩) c1
  refine y1y ?_
  refine hK9 _ _ ?_
  clear hK9 K9
  refine x6x x9x (by rfl) ?_
  refine x1x rfl ?_
  refine x1x rfl ?_
  refine x1x rfl ?_
  refine u0u rfl rfl u4u rfl z3z rfl hx ?_
  refine z5z rfl z3z rfl rfl ?_
  refine s4s (id := 1) u4u rfl z3z rfl rfl rfl rfl rfl rfl ?_
  refine s5s (zs := (s2s (l.take i) ++ [x]).map v9v) rfl rfl u4u rfl z3z rfl rfl rfl rfl (by rfl) (a1c _ _ _) (by have hb56 : T76.bytes = 56 := rfl; rw [List.length_map, hb56]; simp only [List.length_append, List.length_cons, List.length_nil]; omega) ?_
  refine x2x rfl ?_
  refine x7x fun K12 hK12 => ?_
  refine x6x x9x (by rfl) ?_
  refine x1x rfl ?_
  refine a1v rfl u4u rfl rfl (by exact List.length_map _) ?_
  refine a1w (b := 1) rfl rfl (by (simp; done)) (by (simp; omega)) ?_
  refine x2x rfl ?_
  refine y6y ?_
  refine u5u (ι := Nat × Ev) (fun q γ4 => [(6, .pv (.int .i64 (q.1 : Int)))]) (fun q γ4 => [(0, ((γ1 0 + 1), .row 76 7 (((s2s (l.take i)).take q.1 ++ q.2 :: (s2s (l.take i)).drop q.1).map v9v)))]) (fun q => k ≤ q.1 ∧ q.1 ≤ (s2s (l.take i)).length) (fun q => q.1) (x4x 0 rfl (x4x 3 rfl (x4x 4 rfl (x4x 5 rfl Cov.nil)))) (x5x 1 rfl (x5x 2 rfl HE.nil)) ((s2s (l.take i)).length, x) ⟨c1, Nat.le_refl _⟩ [] (Cov.cons' (t := 6) rfl (by simp) Cov.nil) (HE.row rfl (by rw [List.take_length, List.drop_length]) HE.nil) rfl fun q γ4 hi => ?_
  try dsimp only [List.cons_append, List.nil_append]
  obtain ⟨m, u⟩ := q
  obtain ⟨m1, m2⟩ := hi
  dsimp only at m1 m2 ⊢
  refine x7x fun K13 hK13 => ?_
  refine x6x x9x (by rfl) ?_
  refine x1x rfl ?_
  refine x1x rfl ?_
  refine y4y rfl rfl rfl ?_
  refine y0y rfl (fun hc14 => ?_) (fun hc14 => ?_)
  rotate_left
  ·try simp at hc14
   obtain rfl : k = m := by omega
   refine v0v ?_
   refine hK12 _ _ ?_
   clear hK13 K13 hK12 K12
   refine y2y x9x (by rfl) ?_
   refine x1x rfl ?_
   refine x1x rfl ?_
   refine x1x rfl ?_
   refine x1x rfl ?_
   refine u0u rfl rfl u4u rfl z3z rfl hx ?_
   refine z5z rfl z3z rfl rfl ?_
   refine q6q (j := k) rfl rfl u4u rfl z3z rfl rfl (q0q (c3y c1)) ?_
   refine a0n (el' := x) rfl rfl z3z rfl rfl rfl (c3y c1) rfl (a3k _) rfl rfl ?_
   refine hK4 _ _ ?_
   clear hK4 K4
   refine y2y x9x (by rfl) ?_
   refine x1x rfl ?_
   refine u1u (b := 1) rfl rfl (by omega) ?_
   refine x2x rfl ?_
   exact ⟨i + 1, ⟨by omega, by omega⟩, [_, _, _], (x4x 3 rfl (x4x 4 rfl Cov.nil)), (x4x 0 rfl Cov.nil), (HE.row rfl (by rw [hin, d1f c1]) (HE.kill rfl (HE.kill rfl HE.nil))), HE.nil, rfl⟩
  try simp at hc14
  obtain ⟨z, hz⟩ : ∃ z, (s2s (l.take i))[m - 1]? = some z := w5w (by omega)
  refine y1y ?_
  refine hK13 _ _ ?_
  clear hK13 K13
  refine x7x fun K15 hK15 => ?_
  refine y6y ?_
  refine y2y x9x (by rfl) ?_
  refine x1x rfl ?_
  refine x1x rfl ?_
  refine x1x rfl ?_
  refine x1x rfl ?_
  refine a1w (b := 1) rfl rfl (by omega) (by omega) ?_
  refine q6q (j := m - 1) rfl rfl u4u rfl z3z rfl rfl (q0q (c6v m2 (by omega) hz)) ?_
  refine a0d rfl z3z rfl (c6v m2 (by omega) hz) rfl rfl ?_
  refine q6q (j := m) rfl rfl u4u rfl z3z rfl rfl (q0q (c3y m2)) ?_
  refine a0n (el' := z) rfl rfl z3z rfl rfl rfl (c3y m2) rfl (a3k _) rfl rfl ?_
  refine hK15 _ _ ?_
  clear hK15 K15
  refine y2y x9x (by rfl) ?_
  refine x1x rfl ?_
  refine a1w (b := 1) rfl rfl (by omega) (by omega) ?_
  refine x2x rfl ?_
  exact ⟨(m - 1, z), ⟨⟨by dsimp only; omega, by dsimp only; omega⟩, (by dsimp only; omega)⟩, [], (x4x 6 rfl Cov.nil), (x4x 0 rfl (x4x 3 rfl (x4x 4 rfl (x4x 5 rfl Cov.nil)))), (HE.row rfl (by rw [d4x m2 (by omega) hz]) HE.nil), (x5x 1 rfl (x5x 2 rfl HE.nil)), rfl⟩
end
section
theorem a7r (c : Bool) (n : Nd) (proc : Int) (hs : (a0l n).length + (a0i n 3).length ≤ 5000000) (hlen : n.lanes.length ≤ 1048576) (hv3 : n.views.length = 3) : a0z Tryz.prog 144 [.agg (a1i c n), .pv (.int .i64 proc)] (r7r true (a6u n proc)) := by
 refine z4z x9x (fn := Tryz.f144) (by kernel_rfl) (by kernel_rfl) rfl (outs := [r7r true (a6u n proc)]) (by rfl) (v7v rfl) 6 ?_
 have hla : (a0l n ++ a0i n 3).length = (a0l n).length + (a0i n 3).length := List.length_append
 refine x6x x9x (by rfl) ?_
 refine v4v (id := 0) rfl rfl rfl ?_
 refine x2x rfl ?_
 refine x6x x9x (by rfl) ?_
 refine y8y rfl z6z rfl rfl rfl ?_
 refine v2v [5] [_] (b1p c n (by omega) hlen) rfl rfl rfl (by decide) rfl rfl (by repeat (first | exact InH.nil | refine InH.cons rfl ?_)) (by (simp only [pI, z8z, z9z, p8p, gl, nx, p6p, Nat.beq]; rfl)) (by (simp only [pI, z8z, z9z, p8p, gl, nx, p6p, Nat.beq]; rfl)) ?_
 refine x2x rfl ?_
 refine x7x fun K1 hK1 => ?_
 refine x6x x9x (by rfl) ?_
 refine x2x rfl ?_
 refine y6y ?_
 refine u5u (ι := Nat) (fun i γ1 => [(5, .ref 5 (γ1 5)), (6, .pv (.int .i64 (i : Int)))]) (fun i γ1 => [(5, ((γ1 5), .row 76 7 ((a0l n ++ a0i n i).map v9v))), (1, ((γ1 1), .dead))]) (fun i => i ≤ 3) (fun i => 3 - i) (x4x 1 rfl (x4x 2 rfl Cov.nil)) (x5x 0 rfl (x5x 2 rfl (x5x 3 rfl (x5x 4 rfl HE.nil)))) 0 (by omega) [0, _, 0, 0, 0, _] (x4x 5 rfl (x4x 6 rfl Cov.nil)) (HE.row rfl (by simp [a0i]) (HE.kill rfl HE.nil)) rfl fun i γ1 hi => ?_
 try dsimp only [List.cons_append, List.nil_append]
 refine x7x fun K2 hK2 => ?_
 refine x6x x9x (by rfl) ?_
 refine x1x rfl ?_
 refine x0x rfl z6z rfl rfl p1p rfl rfl ?_
 refine x3x rfl p1p rfl rfl ?_
 refine u3u rfl p1p rfl ?_
 refine y4y rfl rfl rfl ?_
 refine y0y rfl (fun hc3 => ?_) (fun hc3 => ?_)
 ·try simp at hc3
  obtain ⟨v, hv⟩ : ∃ v, n.views[i]? = some v := w5w (by omega)
  have hg : n.views.getD i vi0 = v := by rw [List.getD_eq_getElem?_getD, hv]; rfl
  have hol := b7x n (i := i + 1) (by omega)
  rw [a0o] at hol
  refine y1y ?_
  refine hK2 _ _ ?_
  clear hK2 K2
  refine x7x fun K4 hK4 => ?_
  refine y6y ?_
  refine x6x x9x (by rfl) ?_
  refine x1x rfl ?_
  refine x0x rfl z6z rfl rfl y9y rfl rfl ?_
  refine x3x rfl y9y rfl rfl ?_
  refine y4y rfl rfl rfl ?_
  refine y0y rfl (fun hc5 => ?_) (fun hc5 => ?_)
  rotate_left
  ·try simp at hc5
   have hve : a9m n i = [] := by rw [a9m, if_pos (by exact hc5)]
   refine y1y ?_
   refine hK4 _ _ ?_
   clear hK4 K4
   refine y2y x9x (by rfl) ?_
   refine x1x rfl ?_
   refine y4y rfl rfl rfl ?_
   refine x2x rfl ?_
   exact ⟨i + 1, ⟨by omega, by omega⟩, [0, _, 0, 0, 0, _], (x4x 5 rfl (Cov.cons' (t := 6) rfl (by rw [u9u (by omega) (by omega)]; rfl) Cov.nil)), (x4x 1 rfl (x4x 2 rfl Cov.nil)), (HE.row rfl (by rw [a0o, hve]; simp) (HE.kill rfl HE.nil)), (x5x 0 rfl (x5x 2 rfl (x5x 3 rfl (x5x 4 rfl HE.nil)))), rfl⟩
  try simp at hc5
  have hve : a9m n i = v.events := by rw [a9m, if_neg (by exact hc5), hg]
  rw [hve] at hol
  simp only [List.length_append] at hol
  refine y2y x9x (by rfl) ?_
  refine x1x rfl ?_
  refine x0x rfl z6z rfl rfl p1p rfl rfl ?_
  refine x3x rfl p1p rfl rfl ?_
  refine x1x rfl ?_
  refine u0u rfl rfl p1p rfl v6v rfl hv ?_
  refine x0x rfl v6v rfl rfl u4u rfl rfl ?_
  refine z7z rfl u4u rfl ?_
  refine a1e (zs := (a0l n ++ a0i n i ++ v.events).map v9v) rfl rfl u4u rfl z3z rfl rfl rfl (by exact a0m (fun _ => rfl) _) (b4q _ _ _) (by have hb56 : T76.bytes = 56 := rfl; rw [List.length_map, hb56]; simp only [List.length_append, List.length_cons, List.length_nil]; omega) ?_
  refine x2x rfl ?_
  refine hK4 _ _ ?_
  clear hK4 K4
  refine y2y x9x (by rfl) ?_
  refine x1x rfl ?_
  refine y4y rfl rfl rfl ?_
  refine x2x rfl ?_
  exact ⟨i + 1, ⟨by omega, by omega⟩, [0, _, 0, 0, 0, _], (x4x 5 rfl (Cov.cons' (t := 6) rfl (by rw [u9u (by omega) (by omega)]; rfl) Cov.nil)), (x4x 1 rfl (x4x 2 rfl Cov.nil)), (HE.row rfl (by rw [a0o, hve]; simp) (HE.kill rfl HE.nil)), (x5x 0 rfl (x5x 2 rfl (x5x 3 rfl (x5x 4 rfl HE.nil)))), rfl⟩
 try simp at hc3
 obtain rfl : i = 3 := by omega
 have hall : (a0l n ++ a0i n 3).length ≤ 5000000 := by rw [List.length_append]; omega
 refine v0v ?_
 refine hK1 _ _ ?_
 clear hK2 K2 hK1 K1
 refine a3v 5 rfl rfl (fun _ => rfl) ?_
 refine x6x x9x (by rfl) ?_
 refine s3s (id := 2) u4u rfl z3z rfl ?_
 refine x2x rfl ?_
 refine x7x fun K6 hK6 => ?_
 refine x6x x9x (by rfl) ?_
 refine x2x rfl ?_
 refine y6y ?_
 refine u5u (ι := Nat) (fun j γ2 => [(7, .ref 2 (γ2 2)), (8, .pv (.int .i64 (j : Int)))]) (fun j γ2 => [(2, ((γ2 2), .row 76 7 ((((a0l n ++ a0i n 3).take j).filter (a6t proc n.g)).map v9v))), (3, ((γ2 3), .dead)), (4, ((γ2 4), .dead))]) (fun j => j ≤ (a0l n ++ a0i n 3).length) (fun j => (a0l n ++ a0i n 3).length - j) (x4x 1 rfl (x4x 2 rfl (x4x 5 rfl Cov.nil))) (x5x 0 rfl (x5x 1 rfl (x5x 5 rfl HE.nil))) 0 (by omega) [0, 0, _, _, _] (x4x 7 rfl (x4x 8 rfl Cov.nil)) (HE.row rfl (by rw [List.take_zero]; rfl) (HE.kill rfl (HE.kill rfl HE.nil))) rfl fun j γ2 hi => ?_
 try dsimp only [List.cons_append, List.nil_append]
 refine x7x fun K7 hK7 => ?_
 refine x6x x9x (by rfl) ?_
 refine x1x rfl ?_
 refine x1x rfl ?_
 refine u3u rfl u4u rfl ?_
 refine y4y rfl rfl rfl ?_
 refine y0y rfl (fun hc8 => ?_) (fun hc8 => ?_)
 rotate_left
 ·try simp at hc8
  obtain rfl : j = (a0l n ++ a0i n 3).length := by omega
  rw [List.take_length]
  refine v0v ?_
  refine hK6 _ _ ?_
  clear hK7 K7 hK6 K6
  refine a3v 7 rfl rfl (fun _ => rfl) ?_
  refine x6x x9x (by rfl) ?_
  refine x1x rfl ?_
  refine z1z rfl rfl rfl (a9h true ((a0l n ++ a0i n 3).filter (a6t proc n.g)) (Nat.le_trans (List.length_filter_le _ _) (by rw [List.length_append]; omega))) ?_
  refine x2x rfl ?_
  refine y3y ⟨.inr rfl, ?_⟩
  refine z2z rfl rfl rfl
 try simp at hc8
 obtain ⟨p, hp⟩ : ∃ p, (a0l n ++ a0i n 3)[j]? = some p := w5w (by omega)
 have hfl : (((a0l n ++ a0i n 3).take j).filter (a6t proc n.g)).length ≤ 5000000 := Nat.le_trans (List.length_filter_le _ _) (by rw [List.length_take]; omega)
 refine y1y ?_
 refine hK7 _ _ ?_
 clear hK7 K7
 refine x7x fun K9 hK9 => ?_
 refine y6y ?_
 refine q5q x9x r6r (by rfl) ?_
 refine x1x rfl ?_
 refine x1x rfl ?_
 refine u0u rfl rfl u4u rfl z3z rfl hp ?_
 refine x0x rfl z3z rfl rfl y9y rfl rfl ?_
 refine z7z rfl y9y rfl ?_
 refine x1x rfl ?_
 refine y4y rfl rfl rfl ?_
 refine x1x rfl ?_
 refine a0b rfl rfl (fun hg10 => ?_) (fun hg10 => ?_)
 rotate_left
 ·try simp at hg10
  have hw : ¬ a6t proc n.g p = true := by simp only [a6t, decide_eq_true_eq]; omega
  refine x8x rfl rfl ?_
  refine x8x rfl rfl ?_
  refine x8x rfl rfl ?_
  refine x8x rfl rfl ?_
  refine x8x rfl rfl ?_
  refine x8x rfl rfl ?_
  refine x8x rfl rfl ?_
  refine y5y rfl rfl ?_
  refine ⟨by kernel_rfl, ?_⟩
  refine y0y rfl (fun hc12 => ?_) (fun hc12 => ?_)
  ·simp at hc12
  try simp at hc12
  try have hw : ¬ a6t proc n.g p = true := by simp only [a6t, decide_eq_true_eq]; omega
  refine y1y ?_
  refine hK9 _ _ ?_
  clear hK9 K9
  refine y2y x9x (by rfl) ?_
  refine x1x rfl ?_
  refine y4y rfl rfl rfl ?_
  refine x2x rfl ?_
  exact ⟨j + 1, ⟨by omega, by omega⟩, [0, 0, _, _, _], (x4x 7 rfl (Cov.cons' (t := 8) rfl (by rw [u9u (by omega) (by omega)]; rfl) Cov.nil)), (x4x 1 rfl (x4x 2 rfl (x4x 5 rfl Cov.nil))), (HE.row rfl (by rw [a1g hp]; rw [if_neg hw, List.append_nil]) (HE.kill rfl (HE.kill rfl HE.nil))), (x5x 0 rfl (x5x 1 rfl (x5x 5 rfl HE.nil))), rfl⟩
 try simp at hg10
 have hw1 : p.to = proc := by exact hg10
 refine x1x rfl ?_
 refine y7y rfl rfl ?_
 refine x1x rfl ?_
 refine y7y rfl rfl ?_
 refine u0u rfl rfl u4u rfl z3z rfl hp ?_
 refine y7y rfl rfl ?_
 refine x0x rfl z3z rfl rfl y9y rfl rfl ?_
 refine y7y rfl rfl ?_
 refine z7z rfl y9y rfl ?_
 refine y7y rfl rfl ?_
 refine x0x rfl z6z rfl rfl y9y rfl rfl ?_
 refine y7y rfl rfl ?_
 refine x3x rfl y9y rfl rfl ?_
 refine y7y rfl rfl ?_
 refine y4y rfl rfl rfl ?_
 refine z0z rfl rfl ?_
 refine ⟨by kernel_rfl, ?_⟩
 refine y0y rfl (fun hc11 => ?_) (fun hc11 => ?_)
 rotate_left
 ·try simp at hc11
  try have hw : ¬ a6t proc n.g p = true := by simp only [a6t, decide_eq_true_eq]; omega
  refine y1y ?_
  refine hK9 _ _ ?_
  clear hK9 K9
  refine y2y x9x (by rfl) ?_
  refine x1x rfl ?_
  refine y4y rfl rfl rfl ?_
  refine x2x rfl ?_
  exact ⟨j + 1, ⟨by omega, by omega⟩, [0, 0, _, _, _], (x4x 7 rfl (Cov.cons' (t := 8) rfl (by rw [u9u (by omega) (by omega)]; rfl) Cov.nil)), (x4x 1 rfl (x4x 2 rfl (x4x 5 rfl Cov.nil))), (HE.row rfl (by rw [a1g hp]; rw [if_neg hw, List.append_nil]) (HE.kill rfl (HE.kill rfl HE.nil))), (x5x 0 rfl (x5x 1 rfl (x5x 5 rfl HE.nil))), rfl⟩
 try simp at hc11
 have hw : a6t proc n.g p = true := by simp only [a6t, decide_eq_true_eq]; omega
 refine y2y x9x (by rfl) ?_
 refine x1x rfl ?_
 refine x1x rfl ?_
 refine x1x rfl ?_
 refine u0u rfl rfl u4u rfl z3z rfl hp ?_
 refine z5z rfl z3z rfl rfl ?_
 refine s4s (id := 3) u4u rfl z3z rfl rfl rfl rfl rfl rfl ?_
 refine s5s (zs := (((a0l n ++ a0i n 3).take j).filter (a6t proc n.g) ++ [p]).map v9v) rfl rfl u4u rfl z3z rfl rfl rfl rfl (by rfl) (a1c _ _ _) (by have hb56 : T76.bytes = 56 := rfl; rw [List.length_map, hb56]; simp only [List.length_append, List.length_cons, List.length_nil]; omega) ?_
 refine x2x rfl ?_
 refine hK9 _ _ ?_
 clear hK9 K9
 refine y2y x9x (by rfl) ?_
 refine x1x rfl ?_
 refine y4y rfl rfl rfl ?_
 refine x2x rfl ?_
 exact ⟨j + 1, ⟨by omega, by omega⟩, [0, 0, _, _, _], (x4x 7 rfl (Cov.cons' (t := 8) rfl (by rw [u9u (by omega) (by omega)]; rfl) Cov.nil)), (x4x 1 rfl (x4x 2 rfl (x4x 5 rfl Cov.nil))), (HE.row rfl (by rw [a1g hp]; rw [if_pos hw]) (HE.kill rfl (HE.kill rfl HE.nil))), (x5x 0 rfl (x5x 1 rfl (x5x 5 rfl HE.nil))), rfl⟩
end
section
theorem b4j (c : Bool) (n : Nd) : a0z Tryz.prog 69 [.agg (a1i c n)] (.pv (.bool (kb (a1r n)))) := by
 refine z4z x9x (fn := Tryz.f69) (by kernel_rfl) (by kernel_rfl) rfl (outs := [.pv (.bool (kb (a1r n)))]) (by rfl) (v7v rfl) 1 ?_
 have hpl := a6n n.id 4
 refine x6x x9x (by rfl) ?_
 refine v4v (id := 0) rfl rfl rfl ?_
 refine x2x rfl ?_
 refine x7x fun K1 hK1 => ?_
 refine q5q x9x r6r (by rfl) ?_
 refine x0x rfl z6z rfl rfl y9y rfl rfl ?_
 refine x3x rfl y9y rfl rfl ?_
 refine z1z rfl rfl rfl (q3q ..) ?_
 refine w6w rfl ?_
 refine x1x rfl ?_
 refine a0b rfl rfl (fun hg2 => ?_) (fun hg2 => ?_)
 rotate_left
 ·try simp at hg2
  have hX : ¬ (0 ≤ n.id ∧ n.id ≤ 2) := by omega
  refine x8x rfl rfl ?_
  refine x8x rfl rfl ?_
  refine x8x rfl rfl ?_
  refine x8x rfl rfl ?_
  refine z0z rfl rfl ?_
  refine x1x rfl ?_
  refine x8x rfl rfl ?_
  refine x8x rfl rfl ?_
  refine x8x rfl rfl ?_
  refine x8x rfl rfl ?_
  refine z0z rfl rfl ?_
  refine x1x rfl ?_
  refine x8x rfl rfl ?_
  refine x8x rfl rfl ?_
  refine x8x rfl rfl ?_
  refine x8x rfl rfl ?_
  refine x8x rfl rfl ?_
  refine z0z rfl rfl ?_
  refine x1x rfl ?_
  refine x8x rfl rfl ?_
  refine x8x rfl rfl ?_
  refine x8x rfl rfl ?_
  refine x8x rfl rfl ?_
  refine x8x rfl rfl ?_
  refine z0z rfl rfl ?_
  refine x1x rfl ?_
  refine x8x rfl rfl ?_
  refine x8x rfl rfl ?_
  refine x8x rfl rfl ?_
  refine x8x rfl rfl ?_
  refine z0z rfl rfl ?_
  refine x1x rfl ?_
  refine x8x rfl rfl ?_
  refine x8x rfl rfl ?_
  refine x8x rfl rfl ?_
  refine z0z rfl rfl ?_
  refine ⟨by kernel_rfl, ?_⟩
  refine y0y rfl (fun hc33 => ?_) (fun hc33 => ?_)
  rotate_left
  ·simp at hc33
  try simp at hc33
  try have hX : ¬ a7k n := a5g (by simpa using hc33)
  refine x6x x9x (by rfl) ?_
  refine x2x rfl ?_
  refine y3y ⟨.inr rfl, ?_⟩
  clear hK1 K1
  refine z2z rfl ?_ rfl
  exact congrArg (fun b : Bool => [AV.pv (.bool b)]) (a5l (fun h => by obtain ⟨⟨q1, q2, q3, q4, q5, q6, q7, q8, q9⟩, q0⟩ := h; exact hX q1.1))
 try simp at hg2
 have f1 : 0 ≤ n.id ∧ n.id ≤ 2 := by exact hg2
 refine x0x rfl z6z rfl rfl y9y rfl rfl ?_
 refine y7y rfl rfl ?_
 refine x3x rfl y9y rfl rfl ?_
 refine y7y rfl rfl ?_
 refine z1z rfl rfl rfl (a1z ..) ?_
 refine y7y rfl rfl ?_
 refine z1z rfl rfl rfl (q3q ..) ?_
 refine y7y rfl rfl ?_
 refine w6w rfl ?_
 refine y5y rfl rfl ?_
 refine x1x rfl ?_
 refine a0b rfl rfl (fun hg3 => ?_) (fun hg3 => ?_)
 rotate_left
 ·try simp at hg3
  have hX : ¬ (1 ≤ n.inc ∧ n.inc ≤ 9999) := by omega
  refine x8x rfl rfl ?_
  refine x8x rfl rfl ?_
  refine x8x rfl rfl ?_
  refine z0z rfl rfl ?_
  refine x1x rfl ?_
  refine x8x rfl rfl ?_
  refine x8x rfl rfl ?_
  refine x8x rfl rfl ?_
  refine x8x rfl rfl ?_
  refine x8x rfl rfl ?_
  refine z0z rfl rfl ?_
  refine x1x rfl ?_
  refine x8x rfl rfl ?_
  refine x8x rfl rfl ?_
  refine x8x rfl rfl ?_
  refine x8x rfl rfl ?_
  refine x8x rfl rfl ?_
  refine z0z rfl rfl ?_
  refine x1x rfl ?_
  refine x8x rfl rfl ?_
  refine x8x rfl rfl ?_
  refine x8x rfl rfl ?_
  refine x8x rfl rfl ?_
  refine z0z rfl rfl ?_
  refine x1x rfl ?_
  refine x8x rfl rfl ?_
  refine x8x rfl rfl ?_
  refine x8x rfl rfl ?_
  refine z0z rfl rfl ?_
  refine ⟨by kernel_rfl, ?_⟩
  refine y0y rfl (fun hc32 => ?_) (fun hc32 => ?_)
  rotate_left
  ·simp at hc32
  try simp at hc32
  try have hX : ¬ a7k n := a5g (by simpa using hc32)
  refine x6x x9x (by rfl) ?_
  refine x2x rfl ?_
  refine y3y ⟨.inr rfl, ?_⟩
  clear hK1 K1
  refine z2z rfl ?_ rfl
  exact congrArg (fun b : Bool => [AV.pv (.bool b)]) (a5l (fun h => by obtain ⟨⟨q1, q2, q3, q4, q5, q6, q7, q8, q9⟩, q0⟩ := h; exact hX q1.2.1))
 try simp at hg3
 have f2 : 1 ≤ n.inc ∧ n.inc ≤ 9999 := by exact hg3
 refine x0x rfl z6z rfl rfl y9y rfl rfl ?_
 refine y7y rfl rfl ?_
 refine x3x rfl y9y rfl rfl ?_
 refine y7y rfl rfl ?_
 refine z1z rfl rfl rfl (q3q ..) ?_
 refine y7y rfl rfl ?_
 refine w6w rfl ?_
 refine y5y rfl rfl ?_
 refine x1x rfl ?_
 refine a0b rfl rfl (fun hg4 => ?_) (fun hg4 => ?_)
 rotate_left
 ·try simp at hg4
  have hX : ¬ (0 ≤ n.g ∧ n.g ≤ 41) := by omega
  refine x8x rfl rfl ?_
  refine x8x rfl rfl ?_
  refine x8x rfl rfl ?_
  refine x8x rfl rfl ?_
  refine z0z rfl rfl ?_
  refine x1x rfl ?_
  refine x8x rfl rfl ?_
  refine x8x rfl rfl ?_
  refine x8x rfl rfl ?_
  refine x8x rfl rfl ?_
  refine x8x rfl rfl ?_
  refine z0z rfl rfl ?_
  refine x1x rfl ?_
  refine x8x rfl rfl ?_
  refine x8x rfl rfl ?_
  refine x8x rfl rfl ?_
  refine x8x rfl rfl ?_
  refine z0z rfl rfl ?_
  refine x1x rfl ?_
  refine x8x rfl rfl ?_
  refine x8x rfl rfl ?_
  refine x8x rfl rfl ?_
  refine z0z rfl rfl ?_
  refine ⟨by kernel_rfl, ?_⟩
  refine y0y rfl (fun hc31 => ?_) (fun hc31 => ?_)
  rotate_left
  ·simp at hc31
  try simp at hc31
  try have hX : ¬ a7k n := a5g (by simpa using hc31)
  refine x6x x9x (by rfl) ?_
  refine x2x rfl ?_
  refine y3y ⟨.inr rfl, ?_⟩
  clear hK1 K1
  refine z2z rfl ?_ rfl
  exact congrArg (fun b : Bool => [AV.pv (.bool b)]) (a5l (fun h => by obtain ⟨⟨q1, q2, q3, q4, q5, q6, q7, q8, q9⟩, q0⟩ := h; exact hX q1.2.2.1))
 try simp at hg4
 have f3 : 0 ≤ n.g ∧ n.g ≤ 41 := by exact hg4
 refine x0x rfl z6z rfl rfl y9y rfl rfl ?_
 refine y7y rfl rfl ?_
 refine x3x rfl y9y rfl rfl ?_
 refine y7y rfl rfl ?_
 refine z1z rfl rfl rfl (a1z ..) ?_
 refine y7y rfl rfl ?_
 refine z1z rfl rfl rfl (q3q ..) ?_
 refine y7y rfl rfl ?_
 refine w6w rfl ?_
 refine y5y rfl rfl ?_
 refine x1x rfl ?_
 refine a0b rfl rfl (fun hg5 => ?_) (fun hg5 => ?_)
 rotate_left
 ·try simp at hg5
  have hX : ¬ (0 ≤ n.led ∧ n.led ≤ 9999) := by omega
  refine x8x rfl rfl ?_
  refine x8x rfl rfl ?_
  refine x8x rfl rfl ?_
  refine x8x rfl rfl ?_
  refine z0z rfl rfl ?_
  refine x1x rfl ?_
  refine x8x rfl rfl ?_
  refine x8x rfl rfl ?_
  refine x8x rfl rfl ?_
  refine x8x rfl rfl ?_
  refine z0z rfl rfl ?_
  refine x1x rfl ?_
  refine x8x rfl rfl ?_
  refine x8x rfl rfl ?_
  refine x8x rfl rfl ?_
  refine z0z rfl rfl ?_
  refine ⟨by kernel_rfl, ?_⟩
  refine y0y rfl (fun hc30 => ?_) (fun hc30 => ?_)
  rotate_left
  ·simp at hc30
  try simp at hc30
  try have hX : ¬ a7k n := a5g (by simpa using hc30)
  refine x6x x9x (by rfl) ?_
  refine x2x rfl ?_
  refine y3y ⟨.inr rfl, ?_⟩
  clear hK1 K1
  refine z2z rfl ?_ rfl
  exact congrArg (fun b : Bool => [AV.pv (.bool b)]) (a5l (fun h => by obtain ⟨⟨q1, q2, q3, q4, q5, q6, q7, q8, q9⟩, q0⟩ := h; exact hX q1.2.2.2.1))
 try simp at hg5
 have f4 : 0 ≤ n.led ∧ n.led ≤ 9999 := by exact hg5
 refine x0x rfl z6z rfl rfl u4u rfl rfl ?_
 refine y7y rfl rfl ?_
 refine x3x rfl u4u rfl rfl ?_
 refine y7y rfl rfl ?_
 refine z1z rfl rfl rfl (a5v ..) ?_
 refine y7y rfl rfl ?_
 refine z1z rfl rfl rfl (a6p ..) ?_
 refine y7y rfl rfl ?_
 refine w6w rfl ?_
 refine y5y rfl rfl ?_
 refine x1x rfl ?_
 refine a0b rfl rfl (fun hg6 => ?_) (fun hg6 => ?_)
 rotate_left
 ·try simp at hg6
  have hX : ¬ a8k okE a2p n.kept 100 = true := by simpa using hg6
  refine x8x rfl rfl ?_
  refine x8x rfl rfl ?_
  refine x8x rfl rfl ?_
  refine z0z rfl rfl ?_
  refine x1x rfl ?_
  refine x8x rfl rfl ?_
  refine x8x rfl rfl ?_
  refine x8x rfl rfl ?_
  refine z0z rfl rfl ?_
  refine ⟨by kernel_rfl, ?_⟩
  refine y0y rfl (fun hc29 => ?_) (fun hc29 => ?_)
  rotate_left
  ·simp at hc29
  try simp at hc29
  try have hX : ¬ a7k n := a5g (by simpa using hc29)
  refine x6x x9x (by rfl) ?_
  refine x2x rfl ?_
  refine y3y ⟨.inr rfl, ?_⟩
  clear hK1 K1
  refine z2z rfl ?_ rfl
  exact congrArg (fun b : Bool => [AV.pv (.bool b)]) (a5l (fun h => by obtain ⟨⟨q1, q2, q3, q4, q5, q6, q7, q8, q9⟩, q0⟩ := h; exact hX q2))
 try simp at hg6
 have f5 : a8k okE a2p n.kept 100 = true := by exact hg6
 refine x0x rfl z6z rfl rfl p9p rfl rfl ?_
 refine y7y rfl rfl ?_
 refine x3x rfl p9p rfl rfl ?_
 refine y7y rfl rfl ?_
 refine z1z rfl rfl rfl (b4c ..) ?_
 refine y7y rfl rfl ?_
 refine w6w rfl ?_
 refine y5y rfl rfl ?_
 refine x1x rfl ?_
 refine a0b rfl rfl (fun hg7 => ?_) (fun hg7 => ?_)
 rotate_left
 ·try simp at hg7
  have hX : ¬ a8k okO b2d n.outs 96 = true := by simpa using hg7
  refine x8x rfl rfl ?_
  refine x8x rfl rfl ?_
  refine z0z rfl rfl ?_
  refine ⟨by kernel_rfl, ?_⟩
  refine y0y rfl (fun hc28 => ?_) (fun hc28 => ?_)
  rotate_left
  ·simp at hc28
  try simp at hc28
  try have hX : ¬ a7k n := a5g (by simpa using hc28)
  refine x6x x9x (by rfl) ?_
  refine x2x rfl ?_
  refine y3y ⟨.inr rfl, ?_⟩
  clear hK1 K1
  refine z2z rfl ?_ rfl
  exact congrArg (fun b : Bool => [AV.pv (.bool b)]) (a5l (fun h => by obtain ⟨⟨q1, q2, q3, q4, q5, q6, q7, q8, q9⟩, q0⟩ := h; exact hX q3))
 try simp at hg7
 have f6 : a8k okO b2d n.outs 96 = true := by exact hg7
 refine y8y rfl z6z rfl rfl rfl ?_
 refine y7y rfl rfl ?_
 refine z1z rfl rfl rfl (b8h ..) ?_
 refine y7y rfl rfl ?_
 refine w6w rfl ?_
 refine y5y rfl rfl ?_
 refine ⟨by kernel_rfl, ?_⟩
 refine y0y rfl (fun hc8 => ?_) (fun hc8 => ?_)
 ·try simp at hc8
  try have hX : ¬ a7k n := a5g (by simpa using hc8)
  refine x6x x9x (by rfl) ?_
  refine x2x rfl ?_
  refine y3y ⟨.inr rfl, ?_⟩
  clear hK1 K1
  refine z2z rfl ?_ rfl
  exact congrArg (fun b : Bool => [AV.pv (.bool b)]) (a5l (fun h => by obtain ⟨⟨q1, q2, q3, q4, q5, q6, q7, q8, q9⟩, q0⟩ := h; exact hX ⟨q6, q7, q1.2.2.2.2.1, q1.2.2.2.2.2.1, q1.2.2.2.2.2.2, q9⟩))
 try simp at hc8
 have fF : a7k n := b1e.1 (by simpa using hc8)
 have fo96 := (a2l f6).1
 refine y1y ?_
 refine hK1 _ _ ?_
 clear hK1 K1
 refine a8q (ι := Unit) (fun _i γ1 => []) (fun _i γ1 => []) (fun _i => ∀ (i : Nat) a, n.outs[i]? = some a → a.time < n.g) (x4x 1 rfl Cov.nil) (x5x 0 rfl HE.nil) ?_ fun _i γ1 hi => ?_
 ·refine q5q x9x r6r (by rfl) ?_
  refine x0x rfl z6z rfl rfl p9p rfl rfl ?_
  refine x3x rfl p9p rfl rfl ?_
  refine u3u rfl p9p rfl ?_
  refine y4y rfl rfl rfl ?_
  refine x1x rfl ?_
  refine a0b rfl rfl (fun hg9 => ?_) (fun hg9 => ?_)
  rotate_left
  ·try simp at hg9
   have g0 : n.outs.length = 0 := by (rw [hg9]; rfl)
   have fO : ∀ (i : Nat) a, n.outs[i]? = some a → a.time < n.g := fun i a ha => by have := (List.getElem?_eq_some_iff.1 ha).1; omega
   refine x8x rfl rfl ?_
   refine x8x rfl rfl ?_
   refine x8x rfl rfl ?_
   refine x8x rfl rfl ?_
   refine x8x rfl rfl ?_
   refine x8x rfl rfl ?_
   refine x8x rfl rfl ?_
   refine x8x rfl rfl ?_
   refine x8x rfl rfl ?_
   refine x8x rfl rfl ?_
   refine x8x rfl rfl ?_
   refine y5y rfl rfl ?_
   refine ⟨by kernel_rfl, ?_⟩
   refine y0y rfl (fun hc11 => ?_) (fun hc11 => ?_)
   ·simp at hc11
   try simp at hc11
   try have fO : ∀ (i : Nat) a, n.outs[i]? = some a → a.time < n.g := c3z f6 ho (by omega)
   refine y1y ?_
   exact ⟨(), fO, [], Cov.nil, (x4x 1 rfl Cov.nil), HE.nil, (x5x 0 rfl HE.nil), rfl⟩
  try simp at hg9
  have g0 : 0 < n.outs.length := by omega
  obtain ⟨o, ho⟩ : ∃ o, n.outs[n.outs.length - 1]? = some o := w5w (by omega)
  refine x0x rfl z6z rfl rfl p9p rfl rfl ?_
  refine y7y rfl rfl ?_
  refine x3x rfl p9p rfl rfl ?_
  refine y7y rfl rfl ?_
  refine x0x rfl z6z rfl rfl p9p rfl rfl ?_
  refine y7y rfl rfl ?_
  refine x3x rfl p9p rfl rfl ?_
  refine y7y rfl rfl ?_
  refine u3u rfl p9p rfl ?_
  refine y7y rfl rfl ?_
  refine a1w (b := 1) rfl rfl (by omega) (by omega) ?_
  refine y7y rfl rfl ?_
  refine u0u rfl rfl p9p rfl v5v rfl ho ?_
  refine y7y rfl rfl ?_
  refine x0x rfl v5v rfl rfl y9y rfl rfl ?_
  refine y7y rfl rfl ?_
  refine z7z rfl y9y rfl ?_
  refine y7y rfl rfl ?_
  refine x0x rfl z6z rfl rfl y9y rfl rfl ?_
  refine y7y rfl rfl ?_
  refine x3x rfl y9y rfl rfl ?_
  refine y7y rfl rfl ?_
  refine y4y rfl rfl rfl ?_
  refine z0z rfl rfl ?_
  refine ⟨by kernel_rfl, ?_⟩
  refine y0y rfl (fun hc10 => ?_) (fun hc10 => ?_)
  rotate_left
  ·try simp at hc10
   try have fO : ∀ (i : Nat) a, n.outs[i]? = some a → a.time < n.g := c3z f6 ho (by omega)
   refine y1y ?_
   exact ⟨(), fO, [], Cov.nil, (x4x 1 rfl Cov.nil), HE.nil, (x5x 0 rfl HE.nil), rfl⟩
  try simp at hc10
  have hX : ¬ o.time < n.g := by omega
  refine x6x x9x (by rfl) ?_
  refine x2x rfl ?_
  refine y3y ⟨.inr rfl, ?_⟩
  refine z2z rfl ?_ rfl
  exact congrArg (fun b : Bool => [AV.pv (.bool b)]) (a5l (fun h => by obtain ⟨⟨q1, q2, q3, q4, q5, q6, q7, q8, q9⟩, q0⟩ := h; exact hX (q4 _ _ ho)))
 ·try dsimp only [List.cons_append, List.nil_append]
  have fO := hi
  refine x6x x9x (by rfl) ?_
  refine x0x rfl z6z rfl rfl y9y rfl rfl ?_
  refine x3x rfl y9y rfl rfl ?_
  refine z1z rfl rfl rfl (b8m ..) ?_
  refine x2x rfl ?_
  refine x7x fun K12 hK12 => ?_
  refine x6x x9x (by rfl) ?_
  refine x0x rfl z6z rfl rfl w2w rfl rfl ?_
  refine x3x rfl w2w rfl rfl ?_
  refine u3u rfl w2w rfl ?_
  refine x1x rfl ?_
  refine u3u rfl w2w rfl ?_
  refine y4y rfl rfl rfl ?_
  refine y0y rfl (fun hc13 => ?_) (fun hc13 => ?_)
  ·try simp at hc13
   refine x6x x9x (by rfl) ?_
   refine x2x rfl ?_
   refine y3y ⟨.inr rfl, ?_⟩
   clear hK12 K12
   refine z2z rfl ?_ rfl
   exact congrArg (fun b : Bool => [AV.pv (.bool b)]) (a5l (fun h => by obtain ⟨⟨q1, q2, q3, q4, q5, q6, q7, q8, q9⟩, q0⟩ := h; omega))
  try simp at hc13
  have fL : n.lanes.length = (a1d n.id 4).length := by omega
  refine y1y ?_
  refine hK12 _ _ ?_
  clear hK12 K12
  refine x7x fun K14 hK14 => ?_
  refine x6x x9x (by rfl) ?_
  refine x2x rfl ?_
  refine y6y ?_
  refine u5u (ι := Nat) (fun i γ2 => [(4, .pv (.int .i64 (i : Int)))]) (fun i γ2 => []) (fun i => i ≤ (a1d n.id 4).length ∧ c8f n.lanes (fun j l => (a1d n.id 4)[j]? = some l.proc ∧ b4x l = true) i) (fun i => (a1d n.id 4).length - i) (x4x 1 rfl (x4x 3 rfl Cov.nil)) (x5x 0 rfl HE.nil) 0 ⟨by omega, a3x⟩ [] (x4x 4 rfl Cov.nil) HE.nil rfl fun i γ2 hi => ?_
  try dsimp only [List.cons_append, List.nil_append]
  obtain ⟨b1, b2⟩ := hi
  refine x7x fun K15 hK15 => ?_
  refine x6x x9x (by rfl) ?_
  refine x1x rfl ?_
  refine x1x rfl ?_
  refine u3u rfl w2w rfl ?_
  refine y4y rfl rfl rfl ?_
  refine y0y rfl (fun hc16 => ?_) (fun hc16 => ?_)
  ·try simp at hc16
   obtain ⟨l, hl⟩ : ∃ l, n.lanes[i]? = some l := w5w (by omega)
   obtain ⟨p, hp⟩ : ∃ p, (a1d n.id 4)[i]? = some p := w5w (by omega)
   refine y1y ?_
   refine hK15 _ _ ?_
   clear hK15 K15
   refine x7x fun K17 hK17 => ?_
   refine y6y ?_
   refine q5q x9x r6r (by rfl) ?_
   refine x0x rfl z6z rfl rfl w2w rfl rfl ?_
   refine x3x rfl w2w rfl rfl ?_
   refine x1x rfl ?_
   refine u0u rfl rfl w2w rfl v8v rfl hl ?_
   refine z5z rfl v8v rfl rfl ?_
   refine z1z rfl rfl rfl (c2l ..) ?_
   refine w6w rfl ?_
   refine x1x rfl ?_
   refine a0b rfl rfl (fun hg18 => ?_) (fun hg18 => ?_)
   rotate_left
   ·try simp at hg18
    have hX : ¬ b4x l = true := by simpa using hg18
    refine x8x rfl rfl ?_
    refine x8x rfl rfl ?_
    refine x8x rfl rfl ?_
    refine x8x rfl rfl ?_
    refine x8x rfl rfl ?_
    refine x8x rfl rfl ?_
    refine x8x rfl rfl ?_
    refine x8x rfl rfl ?_
    refine x8x rfl rfl ?_
    refine x8x rfl rfl ?_
    refine x8x rfl rfl ?_
    refine z0z rfl rfl ?_
    refine ⟨by kernel_rfl, ?_⟩
    refine y0y rfl (fun hc20 => ?_) (fun hc20 => ?_)
    rotate_left
    ·simp at hc20
    try simp at hc20
    try have hX : ¬ l.proc = p := by first | exact hc20 | (simpa [d0y] using hc20)
    refine x6x x9x (by rfl) ?_
    refine x2x rfl ?_
    refine y3y ⟨.inr rfl, ?_⟩
    clear hK17 K17 hK14 K14
    refine z2z rfl ?_ rfl
    exact congrArg (fun b : Bool => [AV.pv (.bool b)]) (a5l (fun h => by obtain ⟨⟨q1, q2, q3, q4, q5, q6, q7, q8, q9⟩, q0⟩ := h; exact hX (q8 _ _ hl).2))
   try simp at hg18
   have hlo : b4x l = true := by exact hg18
   refine x0x rfl z6z rfl rfl w2w rfl rfl ?_
   refine y7y rfl rfl ?_
   refine x3x rfl w2w rfl rfl ?_
   refine y7y rfl rfl ?_
   refine x1x rfl ?_
   refine y7y rfl rfl ?_
   refine u0u rfl rfl w2w rfl v8v rfl hl ?_
   refine y7y rfl rfl ?_
   refine x0x rfl v8v rfl rfl y9y rfl rfl ?_
   refine y7y rfl rfl ?_
   refine z7z rfl y9y rfl ?_
   refine y7y rfl rfl ?_
   refine x1x rfl ?_
   refine y7y rfl rfl ?_
   refine x1x rfl ?_
   refine y7y rfl rfl ?_
   refine u0u rfl rfl w2w rfl v8v rfl hp ?_
   refine y7y rfl rfl ?_
   refine x0x rfl v8v rfl rfl y9y rfl rfl ?_
   refine y7y rfl rfl ?_
   refine z7z rfl y9y rfl ?_
   refine y7y rfl rfl ?_
   refine y4y rfl rfl rfl ?_
   refine y5y rfl rfl ?_
   refine ⟨by kernel_rfl, ?_⟩
   refine y0y rfl (fun hc19 => ?_) (fun hc19 => ?_)
   rotate_left
   ·try simp at hc19
    have hpe : l.proc = p := by exact hc19
    refine y1y ?_
    refine hK17 _ _ ?_
    clear hK17 K17
    refine y2y x9x (by rfl) ?_
    refine x1x rfl ?_
    refine u1u (b := 1) rfl rfl (by omega) ?_
    refine x2x rfl ?_
    exact ⟨i + 1, ⟨⟨by omega, a2t b2 hl ⟨by rw [hp, hpe], hlo⟩⟩, by omega⟩, [], (x4x 4 rfl Cov.nil), (x4x 1 rfl (x4x 3 rfl Cov.nil)), HE.nil, (x5x 0 rfl HE.nil), rfl⟩
   try simp at hc19
   try have hX : ¬ l.proc = p := by exact hc19
   refine x6x x9x (by rfl) ?_
   refine x2x rfl ?_
   refine y3y ⟨.inr rfl, ?_⟩
   clear hK17 K17 hK14 K14
   refine z2z rfl ?_ rfl
   exact congrArg (fun b : Bool => [AV.pv (.bool b)]) (a5l (fun h => by obtain ⟨⟨q1, q2, q3, q4, q5, q6, q7, q8, q9⟩, q0⟩ := h; have := (q8 _ _ hl).1; rw [hp] at this; exact hX (Option.some.inj this).symm))
  try simp at hc16
  have fN : d3o n := a5m b2 (by omega)
  refine v0v ?_
  refine hK14 _ _ ?_
  clear hK15 K15 hK14 K14
  refine x7x fun K21 hK21 => ?_
  refine x6x x9x (by rfl) ?_
  refine x2x rfl ?_
  refine y6y ?_
  refine u5u (ι := Nat) (fun j γ3 => [(5, .pv (.int .i64 (j : Int)))]) (fun j γ3 => []) (fun j => j ≤ (a1d n.id 4).length ∧ c8f n.lanes (fun j l => ∀ p, (a1d n.id 4)[j]? = some p → l.done.length ≤ same l.done (a6u n p) ∧ (a6u n p).length ≤ 100) j) (fun j => (a1d n.id 4).length - j) (x4x 1 rfl (x4x 3 rfl Cov.nil)) (x5x 0 rfl HE.nil) 0 ⟨by omega, a3x⟩ [] (x4x 5 rfl Cov.nil) HE.nil rfl fun j γ3 hi => ?_
  try dsimp only [List.cons_append, List.nil_append]
  obtain ⟨d1, d2⟩ := hi
  refine x7x fun K22 hK22 => ?_
  refine x6x x9x (by rfl) ?_
  refine x1x rfl ?_
  refine x1x rfl ?_
  refine u3u rfl w2w rfl ?_
  refine y4y rfl rfl rfl ?_
  refine y0y rfl (fun hc23 => ?_) (fun hc23 => ?_)
  rotate_left
  ·try simp at hc23
   have fC := fun (i : Nat) p l (a : (a1d n.id 4)[i]? = some p) (b : n.lanes[i]? = some l) => a5m d2 (by omega) i l b p a
   refine v0v ?_
   refine hK21 _ _ ?_
   clear hK22 K22 hK21 K21
   refine x6x x9x (by rfl) ?_
   refine x2x rfl ?_
   refine y3y ⟨.inr rfl, ?_⟩
   refine z2z rfl ?_ rfl
   exact congrArg (fun b : Bool => [AV.pv (.bool b)]) (d6l ⟨⟨⟨f1, f2, f3, f4, fF.2.2.1, fF.2.2.2.1, fF.2.2.2.2.1⟩, f5, f6, fO, fL, fF.1, fF.2.1, fN, fF.2.2.2.2.2⟩, fC⟩)
  try simp at hc23
  obtain ⟨l, hl⟩ : ∃ l, n.lanes[j]? = some l := w5w (by omega)
  obtain ⟨p, hp⟩ : ∃ p, (a1d n.id 4)[j]? = some p := w5w (by omega)
  obtain ⟨hdl, _⟩ := a6b (fN j l hl).2
  refine y1y ?_
  refine hK22 _ _ ?_
  clear hK22 K22
  refine x7x fun K24 hK24 => ?_
  refine y6y ?_
  refine q5q x9x r6r (by rfl) ?_
  refine x0x rfl z6z rfl rfl w2w rfl rfl ?_
  refine x3x rfl w2w rfl rfl ?_
  refine x1x rfl ?_
  refine u0u rfl rfl w2w rfl v8v rfl hl ?_
  refine z5z rfl v8v rfl rfl ?_
  refine y8y rfl z6z rfl rfl rfl ?_
  refine x1x rfl ?_
  refine x1x rfl ?_
  refine u0u rfl rfl w2w rfl v8v rfl hp ?_
  refine x0x rfl v8v rfl rfl y9y rfl rfl ?_
  refine z7z rfl y9y rfl ?_
  refine z1z rfl rfl rfl (a7r c n p (by have := c5n f5 (by omega) fN; have := c1h fF.1 fF.2.1 fF.2.2.2.2.2; omega) (by omega) fF.1) ?_
  refine z1z rfl rfl rfl (b1o ..) ?_
  refine x0x rfl z6z rfl rfl w2w rfl rfl ?_
  refine x3x rfl w2w rfl rfl ?_
  refine x1x rfl ?_
  refine u0u rfl rfl w2w rfl v8v rfl hl ?_
  refine x0x rfl v8v rfl rfl w0w rfl rfl ?_
  refine z7z rfl w0w rfl ?_
  refine u3u rfl w0w rfl ?_
  refine y4y rfl rfl rfl ?_
  refine x1x rfl ?_
  refine a0b rfl rfl (fun hg25 => ?_) (fun hg25 => ?_)
  rotate_left
  ·try simp at hg25
   refine x8x rfl rfl ?_
   refine x8x rfl rfl ?_
   refine x8x rfl rfl ?_
   refine x8x rfl rfl ?_
   refine x8x rfl rfl ?_
   refine x8x rfl rfl ?_
   refine x8x rfl rfl ?_
   refine x8x rfl rfl ?_
   refine x8x rfl rfl ?_
   refine z0z rfl rfl ?_
   refine ⟨by kernel_rfl, ?_⟩
   refine y0y rfl (fun hc27 => ?_) (fun hc27 => ?_)
   rotate_left
   ·simp at hc27
   try simp at hc27
   refine x6x x9x (by rfl) ?_
   refine x2x rfl ?_
   refine y3y ⟨.inr rfl, ?_⟩
   clear hK24 K24 hK21 K21
   refine z2z rfl ?_ rfl
   exact congrArg (fun b : Bool => [AV.pv (.bool b)]) (a5l (fun h => by obtain ⟨⟨q1, q2, q3, q4, q5, q6, q7, q8, q9⟩, q0⟩ := h; have := q0 _ _ _ hp hl; omega))
  try simp at hg25
  refine y8y rfl z6z rfl rfl rfl ?_
  refine y7y rfl rfl ?_
  refine x1x rfl ?_
  refine y7y rfl rfl ?_
  refine x1x rfl ?_
  refine y7y rfl rfl ?_
  refine u0u rfl rfl w2w rfl v8v rfl hp ?_
  refine y7y rfl rfl ?_
  refine x0x rfl v8v rfl rfl y9y rfl rfl ?_
  refine y7y rfl rfl ?_
  refine z7z rfl y9y rfl ?_
  refine y7y rfl rfl ?_
  refine z1z rfl rfl rfl (a7r c n p (by have := c5n f5 (by omega) fN; have := c1h fF.1 fF.2.1 fF.2.2.2.2.2; omega) (by omega) fF.1) ?_
  refine y7y rfl rfl ?_
  refine u3u rfl u4u rfl ?_
  refine y7y rfl rfl ?_
  refine z1z rfl rfl rfl (a5v ..) ?_
  refine y7y rfl rfl ?_
  refine y4y rfl rfl rfl ?_
  refine y5y rfl rfl ?_
  refine ⟨by kernel_rfl, ?_⟩
  refine y0y rfl (fun hc26 => ?_) (fun hc26 => ?_)
  rotate_left
  ·try simp at hc26
   refine y1y ?_
   refine hK24 _ _ ?_
   clear hK24 K24
   refine y2y x9x (by rfl) ?_
   refine x1x rfl ?_
   refine u1u (b := 1) rfl rfl (by omega) ?_
   refine x2x rfl ?_
   exact ⟨j + 1, ⟨⟨by omega, a2t d2 hl (fun p2 hp2 => by rw [hp] at hp2; cases hp2; omega)⟩, by omega⟩, [], (x4x 5 rfl Cov.nil), (x4x 1 rfl (x4x 3 rfl Cov.nil)), HE.nil, (x5x 0 rfl HE.nil), rfl⟩
  try simp at hc26
  refine x6x x9x (by rfl) ?_
  refine x2x rfl ?_
  refine y3y ⟨.inr rfl, ?_⟩
  clear hK24 K24 hK21 K21
  refine z2z rfl ?_ rfl
  exact congrArg (fun b : Bool => [AV.pv (.bool b)]) (a5l (fun h => by obtain ⟨⟨q1, q2, q3, q4, q5, q6, q7, q8, q9⟩, q0⟩ := h; have := q0 _ _ _ hp hl; omega))
end
section
theorem a7s (c : Bool) (l : La) (f t : Nat) (hlen : l.done.length ≤ 1000000) (hf : f ≤ 1000000) (ht : t ≤ 1000000) (hb : ∀ p ∈ l.done, p.sends.length ≤ 1000000 ∧ p.outs.length ≤ 1000000) : a0z Tryz.prog 122 [.agg (a0v c l), .pv (.int .i64 (f : Int)), .pv (.int .i64 (t : Int))] (.agg (a0v true (a1h l f t))) := by
 refine z4z x9x (fn := Tryz.f122) (by kernel_rfl) (by kernel_rfl) rfl (outs := [.agg (a0v true (a1h l f t))]) (by rfl) (v7v rfl) 11 ?_
 refine x6x x9x (by rfl) ?_
 refine v4v (id := 0) rfl rfl rfl ?_
 refine v3v (id := 1) v8v a9u rfl ?_
 refine x6x x9x (by rfl) ?_
 refine x0x rfl v8v rfl rfl y9y rfl rfl ?_
 refine x3x rfl y9y rfl rfl ?_
 refine x0x rfl v8v rfl rfl r4r rfl rfl ?_
 refine x3x rfl r4r rfl rfl ?_
 refine a0c v8v rfl a9u rfl (by simp only [pI, y9y, T3, r4r, T62, w0w, T63, a2w, r2r, AV.okc, AV.one, Value.oneCell', List.map_cons, List.map_nil, List.getElem?_cons_zero, List.getElem?_cons_succ, List.take_succ_cons, List.take_zero, List.drop_succ_cons, List.drop_zero, List.cons_append, List.nil_append, List.length_cons, List.length_nil, if_true, and_self, Nat.reduceAdd, Nat.reduceLeDiff]; rfl) ?_
 refine v3v (id := 2) v8v a9u rfl ?_
 refine u2u rfl rfl v8v rfl rfl rfl rfl ?_
 refine x7x fun K1 hK1 => ?_
 refine x6x x9x (by rfl) ?_
 refine x1x rfl ?_
 refine x2x rfl ?_
 refine y6y ?_
 refine a4g 2 4 10 78 12 rfl rfl rfl rfl rfl ?_
 refine u5u (ι := Nat) (fun i γ1 => [(8, .pv (.int .i64 (i : Int)))]) (fun i γ1 => [(10, ((γ1 10), .row 78 12 (((l.done.take i).drop f).map (a0s true)))), (2, ((0 + 1), .box 65 [pI l.proc, pI l.base.x, pI l.base.y, pI l.base.count, .ref 10 (γ1 10)])), (3, ((γ1 3), .dead)), (4, ((γ1 4), .dead)), (5, ((γ1 5), .dead)), (6, ((γ1 6), .dead)), (7, ((γ1 7), .dead)), (8, ((γ1 8), .dead)), (9, ((γ1 9), .dead))]) (fun i => f ≤ i ∧ (i = f ∨ (i ≤ t ∧ i ≤ l.done.length))) (fun i => l.done.length - i) (x4x 2 rfl (x4x 3 rfl (x4x 6 rfl (x4x 7 rfl Cov.nil)))) (x5x 0 rfl (x5x 1 rfl HE.nil)) f ⟨Nat.le_refl _, .inl rfl⟩ [0, 0, 0, _, _, _, _, _, _, _, _] (x4x 8 rfl Cov.nil) (HE.row rfl (by rw [List.drop_of_length_le (by rw [List.length_take]; omega)]; rfl) (HE.box rfl rfl (HE.kill rfl (HE.kill rfl (HE.kill rfl (HE.kill rfl (HE.kill rfl (HE.kill rfl (HE.kill rfl HE.nil))))))))) rfl fun i γ1 hi => ?_
 try dsimp only [List.cons_append, List.nil_append]
 obtain ⟨k1, k2⟩ := hi
 refine x7x fun K2 hK2 => ?_
 refine x6x x9x (by rfl) ?_
 refine x1x rfl ?_
 refine x1x rfl ?_
 refine y4y rfl rfl rfl ?_
 refine x1x rfl ?_
 refine a0b rfl rfl (fun hg3 => ?_) (fun hg3 => ?_)
 rotate_left
 ·try simp at hg3
  refine x8x rfl rfl ?_
  refine x8x rfl rfl ?_
  refine x8x rfl rfl ?_
  refine x8x rfl rfl ?_
  refine y5y rfl rfl ?_
  refine y0y rfl (fun hc6 => ?_) (fun hc6 => ?_)
  ·simp at hc6
  try simp at hc6
  have hfin : (l.done.take i).drop f = (l.done.take t).drop f := d1g k1 k2 (by omega)
  refine v0v ?_
  refine hK1 _ _ ?_
  clear hK2 K2 hK1 K1
  refine x6x x9x (by rfl) ?_
  refine y8y rfl v8v rfl rfl rfl ?_
  refine u2u rfl rfl v8v rfl rfl rfl rfl ?_
  refine y3y ⟨.inr rfl, ?_⟩
  rw [a1h, ← hfin]
  exact ⟨_, _, rfl, .agg rfl (.cl rfl (.cl rfl (.cl rfl (.cl rfl (.ref rfl (Le.ow_map _ (fun _ => rfl) (fun _ => rfl)) .nil))))) .nil⟩
 try simp at hg3
 refine x1x rfl ?_
 refine y7y rfl rfl ?_
 refine x0x rfl v8v rfl rfl w0w rfl rfl ?_
 refine y7y rfl rfl ?_
 refine x3x rfl w0w rfl rfl ?_
 refine y7y rfl rfl ?_
 refine u3u rfl w0w rfl ?_
 refine y7y rfl rfl ?_
 refine y4y rfl rfl rfl ?_
 refine z0z rfl rfl ?_
 refine y0y rfl (fun hc4 => ?_) (fun hc4 => ?_)
 rotate_left
 ·try simp at hc4
  have hfin : (l.done.take i).drop f = (l.done.take t).drop f := d1g k1 k2 (by omega)
  refine v0v ?_
  refine hK1 _ _ ?_
  clear hK2 K2 hK1 K1
  refine x6x x9x (by rfl) ?_
  refine y8y rfl v8v rfl rfl rfl ?_
  refine u2u rfl rfl v8v rfl rfl rfl rfl ?_
  refine y3y ⟨.inr rfl, ?_⟩
  rw [a1h, ← hfin]
  exact ⟨_, _, rfl, .agg rfl (.cl rfl (.cl rfl (.cl rfl (.cl rfl (.ref rfl (Le.ow_map _ (fun _ => rfl) (fun _ => rfl)) .nil))))) .nil⟩
 try simp at hc4
 obtain ⟨p, hp⟩ : ∃ p, l.done[i]? = some p := w5w (by omega)
 have g1 : i < t := by omega
 obtain ⟨hps, hpo⟩ := hb p (List.mem_of_getElem? hp)
 refine y1y ?_
 refine hK2 _ _ ?_
 clear hK2 K2
 refine x7x fun K5 hK5 => ?_
 refine y6y ?_
 refine x6x x9x (by rfl) ?_
 refine x0x rfl v8v rfl rfl w0w rfl rfl ?_
 refine x3x rfl w0w rfl rfl ?_
 refine x1x rfl ?_
 refine u0u rfl rfl w0w rfl w1w rfl hp ?_
 refine z5z rfl w1w rfl rfl ?_
 refine v3v (id := 3) w1w b5o rfl ?_
 refine u2u rfl rfl w1w rfl rfl rfl rfl ?_
 refine r8r x9x r6r (by rfl) ?_
 refine x0x rfl v8v rfl rfl w0w rfl rfl ?_
 refine x3x rfl w0w rfl rfl ?_
 refine x0x rfl w1w rfl rfl z3z rfl rfl ?_
 refine x3x (out := .agg (v9v p.ev)) rfl z3z rfl rfl ?_
 refine x0x rfl w1w rfl rfl r4r rfl rfl ?_
 refine x3x (out := .agg (s9s p.after)) rfl r4r rfl rfl ?_
 refine s3s (id := 4) u4u rfl z3z rfl ?_
 refine x0x rfl w1w rfl rfl u4u rfl rfl ?_
 refine x3x rfl u4u rfl rfl ?_
 refine a8r x9x (zs := (p.sends).map v9v) rfl rfl u4u rfl z3z rfl rfl rfl (by exact a0m (fun _ => rfl) _) rfl (by (simp only [List.length_map, List.length_append, List.length_cons, List.length_nil, List.length_take, List.length_range, List.length_drop, T76]; omega)) (Le.ow_map _ (fun _ => rfl) (fun _ => rfl)) ?_
 refine s3s (id := 6) p9p rfl v5v rfl ?_
 refine x0x rfl w1w rfl rfl p9p rfl rfl ?_
 refine x3x rfl p9p rfl rfl ?_
 refine a8r x9x (zs := (p.outs).map a0y) rfl rfl p9p rfl v5v rfl rfl rfl (by exact a0m (fun _ => rfl) _) rfl (by (simp only [List.length_map, List.length_append, List.length_cons, List.length_nil, List.length_take, List.length_range, List.length_drop, T104]; omega)) (Le.ow_map _ (fun _ => rfl) (fun _ => rfl)) ?_
 refine a0c w1w rfl b5o rfl (by simp only [pI, u4u, T24, p9p, T25, r4r, T62, z3z, T76, a2w, r2r, AV.okc, AV.one, Value.oneCell', List.map_cons, List.map_nil, List.getElem?_cons_zero, List.getElem?_cons_succ, List.take_succ_cons, List.take_zero, List.drop_succ_cons, List.drop_zero, List.cons_append, List.nil_append, List.length_cons, List.length_nil, if_true, and_self, Nat.reduceAdd, Nat.reduceLeDiff]; rfl) ?_
 refine s4s (id := 8) w0w rfl w1w rfl rfl rfl rfl rfl rfl ?_
 refine s5s (zs := ((l.done.take i).drop f ++ [p]).map (a0s true)) rfl rfl w0w rfl w1w rfl rfl rfl rfl (by rfl) (a1c _ _ _) (by (simp only [List.length_map, List.length_append, List.length_cons, List.length_nil, List.length_take, List.length_range, List.length_drop, T78]; omega)) ?_
 refine x0x rfl v8v rfl rfl w0w rfl rfl ?_
 refine u8u rfl rfl w0w rfl rfl rfl rfl rfl (by simp only [a0p]; rfl) ?_
 refine ⟨by kernel_rfl, ?_⟩
 refine hK5 _ _ ?_
 clear hK5 K5
 refine y2y x9x (by rfl) ?_
 refine x1x rfl ?_
 refine u1u (b := 1) rfl rfl (by omega) ?_
 refine x2x rfl ?_
 exact ⟨i + 1, ⟨⟨by omega, .inr ⟨by omega, by omega⟩⟩, by omega⟩, [0, 0, 0, _, _, _, _, _, _, _, _], (x4x 8 rfl Cov.nil), (x4x 2 rfl (x4x 3 rfl (x4x 6 rfl (x4x 7 rfl Cov.nil)))), (HE.row rfl (by rw [p2p hp, List.drop_append_of_le_length (by rw [List.length_take]; omega)]) (HE.box rfl rfl (HE.kill rfl (HE.kill rfl (HE.kill rfl (HE.kill rfl (HE.kill rfl (HE.kill rfl (HE.kill rfl HE.nil))))))))), (x5x 0 rfl (x5x 1 rfl HE.nil)), rfl⟩
theorem b5f (c : Bool) (n : Nd) (hl : n.lanes.length ≤ 1000000) (hk : n.kept.length ≤ 1000000) (ho : n.outs.length ≤ 1000000) (hd : ∀ l ∈ n.lanes, lb l) : Meth Tryz.prog 77 3 [] [.agg (a1i c n)] [(0, (0, .dead)), (1, (0, .dead)), (2, (0, .dead))] (.agg [pI n.id, .pv (.bool n.up), pI n.inc, pI n.g, .ref 0 0, r7r true n.kept, a1j true n.outs, pI n.led, pI 0, .ref 1 0, .ref 2 0, pI 0, pI 41]) [(0, (0, .row 65 5 ((n.lanes.map a8f).map (a0v true)))), (1, (0, .row 141 3 ([vi0, vi0, vi0].map (a1n true)))), (2, (0, .row 3 1 ([0, 0, 0].map a2h)))] := by
 refine u7u x9x (fn := Tryz.f77) (by kernel_rfl) (by kernel_rfl) rfl (O0 := [.agg [pI n.id, .pv (.bool n.up), pI n.inc, pI n.g, .ref 0 0, r7r true n.kept, a1j true n.outs, pI n.led, pI 0, .ref 1 0, .ref 2 0, pI 0, pI 41]]) 3 13 (v7v rfl) (by rfl) (by repeat (first | exact BndH.nil | refine BndH.dead ?_)) (by repeat (first | exact BndH.nil | refine BndH.row (u6u fun _ => rfl) ?_)) (by rfl) fun γ => ?_
 show Ex Tryz.prog _ _ [(0, .agg (a1i c n))] [(0, ((γ 0), .dead)), (1, ((γ 1), .dead)), (2, ((γ 2), .dead)), (15, (0, .dead)), (14, (0, .dead)), (13, (0, .dead)), (12, (0, .dead)), (11, (0, .dead)), (10, (0, .dead)), (9, (0, .dead)), (8, (0, .dead)), (7, (0, .dead)), (6, (0, .dead)), (5, (0, .dead)), (4, (0, .dead)), (3, (0, .dead))] _
 refine x6x x9x (by rfl) ?_
 refine v4v (id := 3) rfl rfl rfl ?_
 refine v3v (id := 4) z6z a4v rfl ?_
 refine q5q x9x r6r (by rfl) ?_
 refine x0x rfl z6z rfl rfl y9y rfl rfl ?_
 refine x3x rfl y9y rfl rfl ?_
 refine x0x rfl z6z rfl rfl b5n rfl rfl ?_
 refine x3x rfl b5n rfl rfl ?_
 refine x0x rfl z6z rfl rfl y9y rfl rfl ?_
 refine x3x rfl y9y rfl rfl ?_
 refine x0x rfl z6z rfl rfl y9y rfl rfl ?_
 refine x3x rfl y9y rfl rfl ?_
 refine s3s (id := 5) u4u rfl z3z rfl ?_
 refine x0x rfl z6z rfl rfl u4u rfl rfl ?_
 refine x3x rfl u4u rfl rfl ?_
 refine a8r x9x (zs := (n.kept).map v9v) rfl rfl u4u rfl z3z rfl rfl rfl (by exact a0m (fun _ => rfl) _) rfl (by (simp only [List.length_map, List.length_append, List.length_cons, List.length_nil, List.length_take, List.length_range, List.length_drop, T76]; omega)) (Le.ow_map _ (fun _ => rfl) (fun _ => rfl)) ?_
 refine s3s (id := 7) p9p rfl v5v rfl ?_
 refine x0x rfl z6z rfl rfl p9p rfl rfl ?_
 refine x3x rfl p9p rfl rfl ?_
 refine a8r x9x (zs := (n.outs).map a0y) rfl rfl p9p rfl v5v rfl rfl rfl (by exact a0m (fun _ => rfl) _) rfl (by (simp only [List.length_map, List.length_append, List.length_cons, List.length_nil, List.length_take, List.length_range, List.length_drop, T104]; omega)) (Le.ow_map _ (fun _ => rfl) (fun _ => rfl)) ?_
 refine x0x rfl z6z rfl rfl y9y rfl rfl ?_
 refine x3x rfl y9y rfl rfl ?_
 refine a0c z6z rfl a4v rfl (by simp only [pI, y9y, T3, b5n, T4, p4p, T22, w2w, T23, u4u, T24, p9p, T25, p1p, T26, a2w, r2r, AV.okc, AV.one, Value.oneCell', List.map_cons, List.map_nil, List.getElem?_cons_zero, List.getElem?_cons_succ, List.take_succ_cons, List.take_zero, List.drop_succ_cons, List.drop_zero, List.cons_append, List.nil_append, List.length_cons, List.length_nil, if_true, and_self, Nat.reduceAdd, Nat.reduceLeDiff]; rfl) ?_
 refine v3v (id := 9) z6z a4v rfl ?_
 refine u2u rfl rfl z6z rfl rfl rfl rfl ?_
 refine ⟨by kernel_rfl, ?_⟩
 refine x7x fun K1 hK1 => ?_
 refine x6x x9x (by rfl) ?_
 refine x2x rfl ?_
 refine y6y ?_
 refine a4g 9 4 0 65 5 rfl rfl rfl rfl rfl ?_
 refine u5u (ι := Nat) (fun i γ1 => [(4, .pv (.int .i64 (i : Int)))]) (fun i γ1 => [(0, ((γ1 0), .row 65 5 (((n.lanes.take i).map a8f).map (a0v true)))), (9, ((0 + 1), .box 28 [pI n.id, .pv (.bool n.up), pI n.inc, pI n.g, .ref 0 (γ1 0), r7r true n.kept, a1j true n.outs, pI n.led, pI 0, .pv (.slice none 0 0), .pv (.slice none 0 0), pI 0, pI 41])), (10, ((γ1 10), .dead)), (11, ((γ1 11), .dead))]) (fun i => i ≤ n.lanes.length) (fun i => n.lanes.length - i) (x4x 1 rfl (x4x 2 rfl (x4x 3 rfl Cov.nil))) (x5x 1 rfl (x5x 2 rfl (x5x 3 rfl (x5x 4 rfl (x5x 5 rfl (x5x 6 rfl (x5x 7 rfl (x5x 8 rfl (x5x 12 rfl (x5x 13 rfl (x5x 14 rfl (x5x 15 rfl HE.nil)))))))))))) 0 (by omega) [_, 0, 0, 0, 0, 0, 0, 0, 0, 0, _, _] (x4x 4 rfl Cov.nil) (HE.row rfl (by rw [List.take_zero]; rfl) (HE.box rfl rfl (HE.kill rfl (HE.kill rfl HE.nil)))) rfl fun i γ1 hi => ?_
 try dsimp only [List.cons_append, List.nil_append]
 refine x7x fun K2 hK2 => ?_
 refine x6x x9x (by rfl) ?_
 refine x1x rfl ?_
 refine x0x rfl z6z rfl rfl w2w rfl rfl ?_
 refine x3x rfl w2w rfl rfl ?_
 refine u3u rfl w2w rfl ?_
 refine y4y rfl rfl rfl ?_
 refine y0y rfl (fun hc3 => ?_) (fun hc3 => ?_)
 ·try simp at hc3
  obtain ⟨a, ha⟩ : ∃ a, n.lanes[i]? = some a := w5w (by omega)
  have had := hd a (List.mem_of_getElem? ha)
  refine y1y ?_
  refine hK2 _ _ ?_
  clear hK2 K2
  refine x7x fun K4 hK4 => ?_
  refine y6y ?_
  refine r8r x9x r6r (by rfl) ?_
  refine x0x rfl z6z rfl rfl w2w rfl rfl ?_
  refine x3x rfl w2w rfl rfl ?_
  refine x0x rfl z6z rfl rfl w2w rfl rfl ?_
  refine x3x rfl w2w rfl rfl ?_
  refine x1x rfl ?_
  refine u0u rfl rfl w2w rfl v8v rfl ha ?_
  refine z5z rfl v8v rfl rfl ?_
  refine z1z rfl rfl rfl (a7s c a 0 0 had.1 (by omega) (by omega) had.2) ?_
  refine s4s (id := 10) w2w rfl v8v rfl rfl rfl rfl rfl rfl ?_
  refine s5s (zs := ((n.lanes.take i).map a8f ++ [a8f a]).map (a0v true)) rfl rfl w2w rfl v8v rfl rfl rfl rfl (by rfl) (a1c _ _ _) (by (simp only [List.length_map, List.length_append, List.length_cons, List.length_nil, List.length_take, List.length_range, List.length_drop, T65]; omega)) ?_
  refine x0x rfl z6z rfl rfl w2w rfl rfl ?_
  refine u8u rfl rfl w2w rfl rfl rfl rfl rfl (by simp only [a0p]; rfl) ?_
  refine ⟨by kernel_rfl, ?_⟩
  refine hK4 _ _ ?_
  clear hK4 K4
  refine y2y x9x (by rfl) ?_
  refine x1x rfl ?_
  refine y4y rfl rfl rfl ?_
  refine x2x rfl ?_
  exact ⟨i + 1, ⟨by omega, by omega⟩, [_, 0, 0, 0, 0, 0, 0, 0, 0, 0, _, _], (Cov.cons' (t := 4) rfl (by rw [u9u (by omega) (by omega)]; rfl) Cov.nil), (x4x 1 rfl (x4x 2 rfl (x4x 3 rfl Cov.nil))), (HE.row rfl (by simp only [p2p ha, List.map_append, List.map_cons, List.map_nil]) (HE.box rfl rfl (HE.kill rfl (HE.kill rfl HE.nil)))), (x5x 1 rfl (x5x 2 rfl (x5x 3 rfl (x5x 4 rfl (x5x 5 rfl (x5x 6 rfl (x5x 7 rfl (x5x 8 rfl (x5x 12 rfl (x5x 13 rfl (x5x 14 rfl (x5x 15 rfl HE.nil)))))))))))), rfl⟩
 try simp at hc3
 obtain rfl : i = n.lanes.length := by omega
 refine v0v ?_
 refine hK1 _ _ ?_
 clear hK2 K2 hK1 K1
 refine x7x fun K5 hK5 => ?_
 refine x6x x9x (by rfl) ?_
 refine x2x rfl ?_
 refine y6y ?_
 refine a4g 9 9 1 141 3 rfl rfl rfl rfl rfl ?_
 refine a4g 9 10 2 3 1 rfl rfl rfl rfl rfl ?_
 refine u5u (ι := Nat) (fun i γ2 => [(5, .pv (.int .i64 (i : Int)))]) (fun i γ2 => [(1, ((γ2 1), .row 141 3 ((List.range i).map fun _ => c7b))), (2, ((γ2 2), .row 3 1 ((List.range i).map fun _ => a2h 0))), (9, ((0 + 1), .box 28 [pI n.id, .pv (.bool n.up), pI n.inc, pI n.g, .ref 0 (γ1 0), r7r true n.kept, a1j true n.outs, pI n.led, pI 0, .ref 1 (γ2 1), .ref 2 (γ2 2), pI 0, pI 41])), (12, ((γ2 12), .dead)), (13, ((γ2 13), .dead)), (14, ((γ2 14), .dead)), (15, ((γ2 15), .dead))]) (fun i => i ≤ 3) (fun i => 3 - i) (x4x 2 rfl (x4x 3 rfl Cov.nil)) (x5x 0 rfl (x5x 3 rfl (x5x 4 rfl (x5x 5 rfl (x5x 6 rfl (x5x 7 rfl (x5x 8 rfl (x5x 10 rfl (x5x 11 rfl HE.nil))))))))) 0 (by omega) [0, _, _, 0, 0, 0, 0, 0, 0, 0, 0, 0, _, _, _, _] (x4x 5 rfl Cov.nil) (HE.row rfl rfl (HE.row rfl rfl (HE.box rfl rfl (HE.kill rfl (HE.kill rfl (HE.kill rfl (HE.kill rfl HE.nil))))))) rfl fun i γ2 hi => ?_
 try dsimp only [List.cons_append, List.nil_append]
 refine x7x fun K6 hK6 => ?_
 refine x6x x9x (by rfl) ?_
 refine x1x rfl ?_
 refine y4y rfl rfl rfl ?_
 refine y0y rfl (fun hc7 => ?_) (fun hc7 => ?_)
 rotate_left
 ·try simp at hc7
  obtain rfl : i = 3 := by omega
  rw [List.take_length]
  refine v0v ?_
  refine hK5 _ _ ?_
  clear hK6 K6 hK5 K5
  refine x6x x9x (by rfl) ?_
  refine y8y rfl z6z rfl rfl rfl ?_
  refine u2u rfl rfl z6z rfl rfl rfl rfl ?_
  refine d4q (f := fun _ => c7b) (f' := fun _ => a1n true vi0) (l := List.range 3) 1 rfl (fun _ => .same (.same (.le rfl .nil rfl .nil))) ?_
  refine y3y ?_
  exact ⟨.inr rfl, [_, _, _], rfl, rfl, HE.row rfl rfl (HE.row rfl rfl (HE.row rfl rfl HE.nil))⟩
 try simp at hc7
 refine y1y ?_
 refine hK6 _ _ ?_
 clear hK6 K6
 refine x7x fun K8 hK8 => ?_
 refine y6y ?_
 refine x6x x9x (by rfl) ?_
 refine x0x rfl z6z rfl rfl p1p rfl rfl ?_
 refine x3x rfl p1p rfl rfl ?_
 refine a0c v6v rfl a3s rfl (by simp only [pI, y9y, T3, u4u, T24, a2w, r2r, AV.okc, AV.one, Value.oneCell', List.map_cons, List.map_nil, List.getElem?_cons_zero, List.getElem?_cons_succ, List.take_succ_cons, List.take_zero, List.drop_succ_cons, List.drop_zero, List.cons_append, List.nil_append, List.length_cons, List.length_nil, if_true, and_self, Nat.reduceAdd, Nat.reduceLeDiff]; rfl) ?_
 refine s4s (id := 12) p1p rfl v6v rfl rfl rfl rfl rfl rfl ?_
 refine s5s (zs := (List.range i).map (fun _ => c7b) ++ [c7b]) rfl rfl p1p rfl v6v rfl rfl rfl rfl (by rfl) rfl (by (simp only [List.length_map, List.length_append, List.length_cons, List.length_nil, List.length_take, List.length_range, List.length_drop, T141]; omega)) ?_
 refine x0x rfl z6z rfl rfl p1p rfl rfl ?_
 refine u8u rfl rfl p1p rfl rfl rfl rfl rfl (by simp only [a0p]; rfl) ?_
 refine y2y x9x (by rfl) ?_
 refine x0x rfl z6z rfl rfl p4p rfl rfl ?_
 refine x3x rfl p4p rfl rfl ?_
 refine b7d (id := 14) p4p rfl y9y rfl rfl rfl rfl rfl ?_
 refine s5s (zs := (List.range i).map (fun _ => a2h 0) ++ [a2h 0]) rfl rfl p4p rfl y9y rfl rfl rfl rfl (by rfl) rfl (by (simp only [List.length_map, List.length_append, List.length_cons, List.length_nil, List.length_take, List.length_range, List.length_drop, T3]; omega)) ?_
 refine x0x rfl z6z rfl rfl p4p rfl rfl ?_
 refine u8u rfl rfl p4p rfl rfl rfl rfl rfl (by simp only [a0p]; rfl) ?_
 refine hK8 _ _ ?_
 clear hK8 K8
 refine y2y x9x (by rfl) ?_
 refine x1x rfl ?_
 refine y4y rfl rfl rfl ?_
 refine x2x rfl ?_
 exact ⟨i + 1, ⟨by omega, by omega⟩, [0, _, _, 0, 0, 0, 0, 0, 0, 0, 0, 0, _, _, _, _], (Cov.cons' (t := 5) rfl (by rw [u9u (by omega) (by omega)]; rfl) Cov.nil), (x4x 2 rfl (x4x 3 rfl Cov.nil)), (HE.row rfl (by rw [List.range_succ, List.map_append]; rfl) (HE.row rfl (by rw [List.range_succ, List.map_append]; rfl) (HE.box rfl rfl (HE.kill rfl (HE.kill rfl (HE.kill rfl (HE.kill rfl HE.nil))))))), (x5x 0 rfl (x5x 3 rfl (x5x 4 rfl (x5x 5 rfl (x5x 6 rfl (x5x 7 rfl (x5x 8 rfl (x5x 10 rfl (x5x 11 rfl HE.nil))))))))), rfl⟩
end
section
theorem b4k (c : Bool) (l : La) (h : lb l) : a0z Tryz.prog 122 [.agg (a0v c l), .pv (.int .i64 ((0 : Nat) : Int)), .pv (.int .i64 (l.done.length : Int))] (.agg (a0v true l)) := by
 have := a7s c l 0 l.done.length h.1 (by omega) h.1 h.2
 rw [b7z] at this
 exact this
set_option maxHeartbeats 1000000 in
theorem a5e (c : Bool) (n : Nd) (h : nb n) : Meth Tryz.prog 110 3 [] [.agg (a1i c n)] [(0, (0, .dead)), (1, (0, .dead)), (2, (0, .dead))] (.agg [pI n.id, .pv (.bool n.up), pI n.inc, pI n.g, .ref 0 0, r7r true n.kept, a1j true n.outs, pI n.led, pI n.version, .ref 1 0, .ref 2 0, pI n.round, pI n.low]) [(0, (0, .row 65 5 ((n.lanes).map (a0v true)))), (1, (0, .row 141 3 ((n.views).map (a1n true)))), (2, (0, .row 3 1 (n.known.map a2h)))] := by
 refine u7u x9x (fn := Tryz.f110) (by kernel_rfl) (by kernel_rfl) rfl (O0 := [.agg [pI n.id, .pv (.bool n.up), pI n.inc, pI n.g, .ref 0 0, r7r true n.kept, a1j true n.outs, pI n.led, pI n.version, .ref 1 0, .ref 2 0, pI n.round, pI n.low]]) 3 10 (v7v rfl) (by rfl) (by repeat (first | exact BndH.nil | refine BndH.dead ?_)) (by repeat (first | exact BndH.nil | refine BndH.row (u6u fun _ => rfl) ?_)) (by rfl) fun γ => ?_
 show Ex Tryz.prog _ _ [(0, .agg (a1i c n))] [(0, ((γ 0), .dead)), (1, ((γ 1), .dead)), (2, ((γ 2), .dead)), (12, (0, .dead)), (11, (0, .dead)), (10, (0, .dead)), (9, (0, .dead)), (8, (0, .dead)), (7, (0, .dead)), (6, (0, .dead)), (5, (0, .dead)), (4, (0, .dead)), (3, (0, .dead))] _
 obtain ⟨b1, b2, b3, b4, b5, b6, b7⟩ := h
 refine x6x x9x (by rfl) ?_
 refine v4v (id := 3) rfl rfl rfl ?_
 refine v3v (id := 4) z6z a4v rfl ?_
 refine x6x x9x (by rfl) ?_
 refine y8y rfl z6z rfl rfl rfl ?_
 refine v2v [0, 11, 12] [_, _, _] (b5f c n b1 b2 b3 b4) rfl rfl rfl (by decide) rfl rfl (by repeat (first | exact InH.nil | refine InH.cons rfl ?_)) (by (simp only [pI, z8z, z9z, p8p, gl, nx, p6p, Nat.beq]; rfl)) (by (simp only [pI, z8z, z9z, p8p, gl, nx, p6p, Nat.beq]; rfl)) ?_
 refine v3v (id := 5) z6z a4v rfl ?_
 refine u2u rfl rfl z6z rfl rfl rfl rfl ?_
 refine x7x fun K1 hK1 => ?_
 refine x6x x9x (by rfl) ?_
 refine x2x rfl ?_
 refine y6y ?_
 refine u5u (ι := Nat) (fun i γ1 => [(4, .pv (.int .i64 (i : Int)))]) (fun i γ1 => [(0, ((γ 0 + 1), .row 65 5 ((n.lanes.take i ++ (n.lanes.drop i).map a8f).map (a0v true))))]) (fun i => i ≤ n.lanes.length) (fun i => n.lanes.length - i) (x4x 1 rfl (x4x 2 rfl (x4x 3 rfl Cov.nil))) (x5x 1 rfl (x5x 2 rfl (x5x 3 rfl (x5x 4 rfl (x5x 5 rfl (x5x 6 rfl (x5x 7 rfl (x5x 8 rfl (x5x 9 rfl (x5x 10 rfl (x5x 11 rfl (x5x 12 rfl HE.nil)))))))))))) 0 (by omega) [] (x4x 4 rfl Cov.nil) (HE.row rfl (by rw [List.take_zero, List.drop_zero]; rfl) HE.nil) rfl fun i γ1 hi => ?_
 try dsimp only [List.cons_append, List.nil_append]
 refine x7x fun K2 hK2 => ?_
 refine x6x x9x (by rfl) ?_
 refine x1x rfl ?_
 refine x0x rfl z6z rfl rfl w2w rfl rfl ?_
 refine x3x rfl w2w rfl rfl ?_
 refine u3u rfl w2w rfl ?_
 refine y4y rfl rfl rfl ?_
 refine y0y rfl (fun hc3 => ?_) (fun hc3 => ?_)
 ·try simp at hc3
  obtain ⟨p, hp⟩ : ∃ p, n.lanes[i]? = some p := w5w (by omega)
  have hpl := b4 p (List.mem_of_getElem? hp)
  have hAl : ((n.lanes.take i).map (a0v true)).length = i := by rw [List.length_map, List.length_take]; omega
  rw [r1r hp, List.map_cons, List.map_append, List.map_cons]
  refine y1y ?_
  refine hK2 _ _ ?_
  clear hK2 K2
  refine x7x fun K4 hK4 => ?_
  refine y6y ?_
  refine r8r x9x r6r (by rfl) ?_
  refine x0x rfl z6z rfl rfl w2w rfl rfl ?_
  refine x3x rfl w2w rfl rfl ?_
  refine x1x rfl ?_
  refine x0x rfl z6z rfl rfl w2w rfl rfl ?_
  refine x3x rfl w2w rfl rfl ?_
  refine x1x rfl ?_
  refine u0u rfl rfl w2w rfl v8v rfl hp ?_
  refine z5z rfl v8v rfl rfl ?_
  refine x0x rfl z6z rfl rfl w2w rfl rfl ?_
  refine x3x rfl w2w rfl rfl ?_
  refine x1x rfl ?_
  refine u0u rfl rfl w2w rfl v8v rfl hp ?_
  refine x0x rfl v8v rfl rfl w0w rfl rfl ?_
  refine z7z rfl w0w rfl ?_
  refine u3u rfl w0w rfl ?_
  refine z1z rfl rfl rfl (b4k c p hpl) ?_
  refine r0r rfl rfl w2w rfl v8v rfl rfl hAl ?_
  refine a2x hAl rfl rfl v8v rfl rfl rfl rfl (a3t rfl) rfl ?_
  refine ⟨by kernel_rfl, ?_⟩
  refine hK4 _ _ ?_
  clear hK4 K4
  refine y2y x9x (by rfl) ?_
  refine x1x rfl ?_
  refine y4y rfl rfl rfl ?_
  refine x2x rfl ?_
  exact ⟨i + 1, ⟨by omega, by omega⟩, [], (Cov.cons' (t := 4) rfl (by rw [u9u (by omega) (by omega)]; rfl) Cov.nil), (x4x 1 rfl (x4x 2 rfl (x4x 3 rfl Cov.nil))), (HE.row rfl (by simp only [p2p hp, List.map_append, List.append_assoc]; rfl) HE.nil), (x5x 1 rfl (x5x 2 rfl (x5x 3 rfl (x5x 4 rfl (x5x 5 rfl (x5x 6 rfl (x5x 7 rfl (x5x 8 rfl (x5x 9 rfl (x5x 10 rfl (x5x 11 rfl (x5x 12 rfl HE.nil)))))))))))), rfl⟩
 try simp at hc3
 obtain rfl : i = n.lanes.length := by omega
 rw [List.take_length, List.drop_length, List.map_nil, List.append_nil]
 refine v0v ?_
 refine hK1 _ _ ?_
 clear hK2 K2 hK1 K1
 refine x6x x9x (by rfl) ?_
 refine x0x rfl z6z rfl rfl y9y rfl rfl ?_
 refine x3x rfl y9y rfl rfl ?_
 refine x0x rfl z6z rfl rfl y9y rfl rfl ?_
 refine u8u rfl rfl y9y rfl rfl rfl rfl rfl (by simp only [a0p]; rfl) ?_
 refine x6x x9x (by rfl) ?_
 refine x0x rfl z6z rfl rfl y9y rfl rfl ?_
 refine x3x rfl y9y rfl rfl ?_
 refine x0x rfl z6z rfl rfl y9y rfl rfl ?_
 refine u8u rfl rfl y9y rfl rfl rfl rfl rfl (by simp only [a0p]; rfl) ?_
 refine x6x x9x (by rfl) ?_
 refine x0x rfl z6z rfl rfl y9y rfl rfl ?_
 refine x3x rfl y9y rfl rfl ?_
 refine x0x rfl z6z rfl rfl y9y rfl rfl ?_
 refine u8u rfl rfl y9y rfl rfl rfl rfl rfl (by simp only [a0p]; rfl) ?_
 refine x6x x9x (by rfl) ?_
 refine s3s (id := 1) p1p rfl v6v rfl ?_
 refine x0x rfl z6z rfl rfl p1p rfl rfl ?_
 refine u8u rfl rfl p1p rfl rfl rfl rfl rfl (by simp only [a0p]; rfl) ?_
 refine x7x fun K5 hK5 => ?_
 refine x6x x9x (by rfl) ?_
 refine x2x rfl ?_
 refine y6y ?_
 refine u5u (ι := Nat) (fun j γ2 => [(5, .pv (.int .i64 (j : Int)))]) (fun j γ2 => [(1, ((γ2 1), .row 141 3 ((n.views.take j).map (a1n true)))), (5, ((0 + 1), .box 28 [pI n.id, .pv (.bool n.up), pI n.inc, pI n.g, .ref 0 (γ 0 + 1), r7r true n.kept, a1j true n.outs, pI n.led, pI n.version, .ref 1 (γ2 1), .ref 12 (0 + 1), pI n.round, pI n.low])), (6, ((γ2 6), .dead)), (7, ((γ2 7), .dead)), (8, ((γ2 8), .dead)), (9, ((γ2 9), .dead))]) (fun j => j ≤ n.views.length) (fun j => n.views.length - j) (x4x 1 rfl (x4x 2 rfl (x4x 3 rfl Cov.nil))) (x5x 0 rfl (x5x 2 rfl (x5x 3 rfl (x5x 4 rfl (x5x 10 rfl (x5x 11 rfl (x5x 12 rfl HE.nil))))))) 0 (by omega) [0, _, 0, 0, 0, 0, _, _, _, _] (x4x 5 rfl Cov.nil) (HE.row rfl (by rw [List.take_zero]; rfl) (HE.box rfl rfl (HE.kill rfl (HE.kill rfl (HE.kill rfl (HE.kill rfl HE.nil)))))) rfl fun j γ2 hi => ?_
 try dsimp only [List.cons_append, List.nil_append]
 refine x7x fun K6 hK6 => ?_
 refine x6x x9x (by rfl) ?_
 refine x1x rfl ?_
 refine x0x rfl z6z rfl rfl p1p rfl rfl ?_
 refine x3x rfl p1p rfl rfl ?_
 refine u3u rfl p1p rfl ?_
 refine y4y rfl rfl rfl ?_
 refine y0y rfl (fun hc7 => ?_) (fun hc7 => ?_)
 rotate_left
 ·try simp at hc7
  obtain rfl : j = n.views.length := by omega
  rw [List.take_length]
  refine v0v ?_
  refine hK5 _ _ ?_
  clear hK6 K6 hK5 K5
  refine x6x x9x (by rfl) ?_
  refine s3s (id := 2) p4p rfl y9y rfl ?_
  refine x0x rfl z6z rfl rfl p4p rfl rfl ?_
  refine x3x rfl p4p rfl rfl ?_
  refine a1e (zs := n.known.map a2h) rfl rfl p4p rfl y9y rfl rfl rfl (by exact a0m (fun _ => rfl) _) rfl (by (simp only [List.length_map, List.length_append, List.length_cons, List.length_nil, List.length_take, List.length_range, List.length_drop, T3]; omega)) ?_
  refine x0x rfl z6z rfl rfl p4p rfl rfl ?_
  refine u8u rfl rfl p4p rfl rfl rfl rfl rfl (by simp only [a0p]; rfl) ?_
  refine x6x x9x (by rfl) ?_
  refine y8y rfl z6z rfl rfl rfl ?_
  refine u2u rfl rfl z6z rfl rfl rfl rfl ?_
  refine y3y ?_
  exact ⟨.inr rfl, [_, _, _], rfl, rfl, HE.row rfl rfl (HE.row rfl rfl (HE.row rfl rfl HE.nil))⟩
 try simp at hc7
 obtain ⟨v, hv⟩ : ∃ v, n.views[j]? = some v := w5w (by omega)
 have hve := b6 v (List.mem_of_getElem? hv)
 refine y1y ?_
 refine hK6 _ _ ?_
 clear hK6 K6
 refine x7x fun K8 hK8 => ?_
 refine y6y ?_
 refine r8r x9x r6r (by rfl) ?_
 refine x0x rfl z6z rfl rfl p1p rfl rfl ?_
 refine x3x rfl p1p rfl rfl ?_
 refine x0x rfl z6z rfl rfl p1p rfl rfl ?_
 refine x3x rfl p1p rfl rfl ?_
 refine x1x rfl ?_
 refine u0u rfl rfl p1p rfl v6v rfl hv ?_
 refine x0x rfl v6v rfl rfl y9y rfl rfl ?_
 refine z7z rfl y9y rfl ?_
 refine x0x rfl z6z rfl rfl p1p rfl rfl ?_
 refine x3x rfl p1p rfl rfl ?_
 refine x1x rfl ?_
 refine u0u rfl rfl p1p rfl v6v rfl hv ?_
 refine x0x rfl v6v rfl rfl y9y rfl rfl ?_
 refine z7z rfl y9y rfl ?_
 refine s3s (id := 6) u4u rfl z3z rfl ?_
 refine x0x rfl z6z rfl rfl p1p rfl rfl ?_
 refine x3x rfl p1p rfl rfl ?_
 refine x1x rfl ?_
 refine u0u rfl rfl p1p rfl v6v rfl hv ?_
 refine x0x rfl v6v rfl rfl u4u rfl rfl ?_
 refine z7z rfl u4u rfl ?_
 refine a8r x9x (zs := (v.events).map v9v) rfl rfl u4u rfl z3z rfl rfl rfl (by exact a0m (fun _ => rfl) _) rfl (by (simp only [List.length_map, List.length_append, List.length_cons, List.length_nil, List.length_take, List.length_range, List.length_drop, T76]; omega)) (Le.ow_map _ (fun _ => rfl) (fun _ => rfl)) ?_
 refine a0c v6v rfl a3s rfl (by simp only [pI, y9y, T3, u4u, T24, a2w, r2r, AV.okc, AV.one, Value.oneCell', List.map_cons, List.map_nil, List.getElem?_cons_zero, List.getElem?_cons_succ, List.take_succ_cons, List.take_zero, List.drop_succ_cons, List.drop_zero, List.cons_append, List.nil_append, List.length_cons, List.length_nil, if_true, and_self, Nat.reduceAdd, Nat.reduceLeDiff]; rfl) ?_
 refine s4s (id := 8) p1p rfl v6v rfl rfl rfl rfl rfl rfl ?_
 refine s5s (zs := (n.views.take j ++ [v]).map (a1n true)) rfl rfl p1p rfl v6v rfl rfl rfl rfl (by rfl) (a1c _ _ _) (by (simp only [List.length_map, List.length_append, List.length_cons, List.length_nil, List.length_take, List.length_range, List.length_drop, T141]; omega)) ?_
 refine x0x rfl z6z rfl rfl p1p rfl rfl ?_
 refine u8u rfl rfl p1p rfl rfl rfl rfl rfl (by simp only [a0p]; rfl) ?_
 refine ⟨by kernel_rfl, ?_⟩
 refine hK8 _ _ ?_
 clear hK8 K8
 refine y2y x9x (by rfl) ?_
 refine x1x rfl ?_
 refine y4y rfl rfl rfl ?_
 refine x2x rfl ?_
 exact ⟨j + 1, ⟨by omega, by omega⟩, [0, _, 0, 0, 0, 0, _, _, _, _], (Cov.cons' (t := 5) rfl (by rw [u9u (by omega) (by omega)]; rfl) Cov.nil), (x4x 1 rfl (x4x 2 rfl (x4x 3 rfl Cov.nil))), (HE.row rfl (by rw [p2p hv]) (HE.box rfl rfl (HE.kill rfl (HE.kill rfl (HE.kill rfl (HE.kill rfl HE.nil)))))), (x5x 0 rfl (x5x 2 rfl (x5x 3 rfl (x5x 4 rfl (x5x 10 rfl (x5x 11 rfl (x5x 12 rfl HE.nil))))))), rfl⟩
end
section
theorem b0k (c : Bool) (n : Nd) (t : Nat) (ht : t < 3) (hk3 : n.known.length = 3) (hs : (a0l n).length ≤ 5000000) (hlen : n.lanes.length ≤ 1048576) : a0z Tryz.prog 99 [.agg (a1i c n), .pv (.int .i64 (t : Int))] (r7r true (a1s n (t : Int))) := by
 refine z4z x9x (fn := Tryz.f99) (by kernel_rfl) (by kernel_rfl) rfl (outs := [r7r true (a1s n (t : Int))]) (by rfl) (v7v rfl) 5 ?_
 obtain ⟨kn, hkn⟩ : ∃ kn, n.known[t]? = some kn := w5w (by omega)
 rw [c4a hkn]
 refine x6x x9x (by rfl) ?_
 refine v4v (id := 0) rfl rfl rfl ?_
 refine x2x rfl ?_
 refine x6x x9x (by rfl) ?_
 refine y8y rfl z6z rfl rfl rfl ?_
 refine v2v [4] [_] (b1p c n (by omega) hlen) rfl rfl rfl (by decide) rfl rfl (by repeat (first | exact InH.nil | refine InH.cons rfl ?_)) (by (simp only [pI, z8z, z9z, p8p, gl, nx, p6p, Nat.beq]; rfl)) (by (simp only [pI, z8z, z9z, p8p, gl, nx, p6p, Nat.beq]; rfl)) ?_
 refine x2x rfl ?_
 refine a3v 5 rfl rfl (fun _ => rfl) ?_
 refine x6x x9x (by rfl) ?_
 refine s3s (id := 1) u4u rfl z3z rfl ?_
 refine x2x rfl ?_
 refine x7x fun K1 hK1 => ?_
 refine x6x x9x (by rfl) ?_
 refine x2x rfl ?_
 refine y6y ?_
 refine u5u (ι := Nat) (fun j γ1 => [(6, .ref 1 (γ1 1)), (7, .pv (.int .i64 (j : Int)))]) (fun j γ1 => [(1, ((γ1 1), .row 76 7 ((((a0l n).take j).filter (a5n (t : Int) kn)).map v9v))), (2, ((γ1 2), .dead)), (3, ((γ1 3), .dead))]) (fun j => j ≤ (a0l n).length) (fun j => (a0l n).length - j) (x4x 1 rfl (x4x 2 rfl (x4x 5 rfl Cov.nil))) (x5x 0 rfl (x5x 4 rfl HE.nil)) 0 (by omega) [0, _, _, _] (x4x 6 rfl (x4x 7 rfl Cov.nil)) (HE.row rfl (by rw [List.take_zero]; rfl) (HE.kill rfl (HE.kill rfl HE.nil))) rfl fun j γ1 hi => ?_
 try dsimp only [List.cons_append, List.nil_append]
 refine x7x fun K2 hK2 => ?_
 refine x6x x9x (by rfl) ?_
 refine x1x rfl ?_
 refine x1x rfl ?_
 refine u3u rfl u4u rfl ?_
 refine y4y rfl rfl rfl ?_
 refine y0y rfl (fun hc3 => ?_) (fun hc3 => ?_)
 rotate_left
 ·try simp at hc3
  obtain rfl : j = (a0l n).length := by omega
  rw [List.take_length]
  refine v0v ?_
  refine hK1 _ _ ?_
  clear hK2 K2 hK1 K1
  refine a3v 6 rfl rfl (fun _ => rfl) ?_
  refine x6x x9x (by rfl) ?_
  refine x1x rfl ?_
  refine z1z rfl rfl rfl (a9h true ((a0l n).filter (a5n (t : Int) kn)) (Nat.le_trans (List.length_filter_le _ _) (by omega))) ?_
  refine x2x rfl ?_
  refine y3y ⟨.inr rfl, ?_⟩
  refine z2z rfl rfl rfl
 try simp at hc3
 obtain ⟨p, hp⟩ : ∃ p, (a0l n)[j]? = some p := w5w (by omega)
 have hfl : (((a0l n).take j).filter (a5n (t : Int) kn)).length ≤ 5000000 := Nat.le_trans (List.length_filter_le _ _) (by rw [List.length_take]; omega)
 refine y1y ?_
 refine hK2 _ _ ?_
 clear hK2 K2
 refine x7x fun K4 hK4 => ?_
 refine y6y ?_
 refine q5q x9x r6r (by rfl) ?_
 refine x1x rfl ?_
 refine x1x rfl ?_
 refine u0u rfl rfl u4u rfl z3z rfl hp ?_
 refine x0x rfl z3z rfl rfl y9y rfl rfl ?_
 refine z7z rfl y9y rfl ?_
 refine z1z rfl rfl rfl (a5u ..) ?_
 refine x1x rfl ?_
 refine y4y rfl rfl rfl ?_
 refine x1x rfl ?_
 refine a0b rfl rfl (fun hg5 => ?_) (fun hg5 => ?_)
 rotate_left
 ·try simp at hg5
  have hw : ¬ a5n (t : Int) kn p = true := by simp only [a5n, decide_eq_true_eq]; omega
  refine x8x rfl rfl ?_
  refine x8x rfl rfl ?_
  refine x8x rfl rfl ?_
  refine x8x rfl rfl ?_
  refine x8x rfl rfl ?_
  refine x8x rfl rfl ?_
  refine x8x rfl rfl ?_
  refine x8x rfl rfl ?_
  refine x8x rfl rfl ?_
  refine x8x rfl rfl ?_
  refine y5y rfl rfl ?_
  refine ⟨by kernel_rfl, ?_⟩
  refine y0y rfl (fun hc7 => ?_) (fun hc7 => ?_)
  ·simp at hc7
  try simp at hc7
  try have hw : ¬ a5n (t : Int) kn p = true := by simp only [a5n, decide_eq_true_eq]; omega
  refine y1y ?_
  refine hK4 _ _ ?_
  clear hK4 K4
  refine y2y x9x (by rfl) ?_
  refine x1x rfl ?_
  refine y4y rfl rfl rfl ?_
  refine x2x rfl ?_
  exact ⟨j + 1, ⟨by omega, by omega⟩, [0, _, _, _], (x4x 6 rfl (Cov.cons' (t := 7) rfl (by rw [u9u (by omega) (by omega)]; rfl) Cov.nil)), (x4x 1 rfl (x4x 2 rfl (x4x 5 rfl Cov.nil))), (HE.row rfl (by rw [a1g hp]; rw [if_neg hw, List.append_nil]) (HE.kill rfl (HE.kill rfl HE.nil))), (x5x 0 rfl (x5x 4 rfl HE.nil)), rfl⟩
 try simp at hg5
 have hw1 : s0s p.to = (t : Int) := by exact hg5
 refine x1x rfl ?_
 refine y7y rfl rfl ?_
 refine x1x rfl ?_
 refine y7y rfl rfl ?_
 refine u0u rfl rfl u4u rfl z3z rfl hp ?_
 refine y7y rfl rfl ?_
 refine x0x rfl z3z rfl rfl y9y rfl rfl ?_
 refine y7y rfl rfl ?_
 refine z7z rfl y9y rfl ?_
 refine y7y rfl rfl ?_
 refine x0x rfl z6z rfl rfl p4p rfl rfl ?_
 refine y7y rfl rfl ?_
 refine x3x rfl p4p rfl rfl ?_
 refine y7y rfl rfl ?_
 refine x1x rfl ?_
 refine y7y rfl rfl ?_
 refine u0u rfl rfl p4p rfl y9y rfl hkn ?_
 refine y7y rfl rfl ?_
 refine z7z rfl y9y rfl ?_
 refine y7y rfl rfl ?_
 refine y4y rfl rfl rfl ?_
 refine z0z rfl rfl ?_
 refine ⟨by kernel_rfl, ?_⟩
 refine y0y rfl (fun hc6 => ?_) (fun hc6 => ?_)
 rotate_left
 ·try simp at hc6
  try have hw : ¬ a5n (t : Int) kn p = true := by simp only [a5n, decide_eq_true_eq]; omega
  refine y1y ?_
  refine hK4 _ _ ?_
  clear hK4 K4
  refine y2y x9x (by rfl) ?_
  refine x1x rfl ?_
  refine y4y rfl rfl rfl ?_
  refine x2x rfl ?_
  exact ⟨j + 1, ⟨by omega, by omega⟩, [0, _, _, _], (x4x 6 rfl (Cov.cons' (t := 7) rfl (by rw [u9u (by omega) (by omega)]; rfl) Cov.nil)), (x4x 1 rfl (x4x 2 rfl (x4x 5 rfl Cov.nil))), (HE.row rfl (by rw [a1g hp]; rw [if_neg hw, List.append_nil]) (HE.kill rfl (HE.kill rfl HE.nil))), (x5x 0 rfl (x5x 4 rfl HE.nil)), rfl⟩
 try simp at hc6
 have hw : a5n (t : Int) kn p = true := by simp only [a5n, decide_eq_true_eq]; omega
 refine y2y x9x (by rfl) ?_
 refine x1x rfl ?_
 refine x1x rfl ?_
 refine x1x rfl ?_
 refine u0u rfl rfl u4u rfl z3z rfl hp ?_
 refine z5z rfl z3z rfl rfl ?_
 refine s4s (id := 2) u4u rfl z3z rfl rfl rfl rfl rfl rfl ?_
 refine s5s (zs := (((a0l n).take j).filter (a5n (t : Int) kn) ++ [p]).map v9v) rfl rfl u4u rfl z3z rfl rfl rfl rfl (by rfl) (a1c _ _ _) (by (simp only [List.length_map, List.length_append, List.length_cons, List.length_nil, List.length_take, List.length_range, T76] at *; omega)) ?_
 refine x2x rfl ?_
 refine hK4 _ _ ?_
 clear hK4 K4
 refine y2y x9x (by rfl) ?_
 refine x1x rfl ?_
 refine y4y rfl rfl rfl ?_
 refine x2x rfl ?_
 exact ⟨j + 1, ⟨by omega, by omega⟩, [0, _, _, _], (x4x 6 rfl (Cov.cons' (t := 7) rfl (by rw [u9u (by omega) (by omega)]; rfl) Cov.nil)), (x4x 1 rfl (x4x 2 rfl (x4x 5 rfl Cov.nil))), (HE.row rfl (by rw [a1g hp]; rw [if_pos hw]) (HE.kill rfl (HE.kill rfl HE.nil))), (x5x 0 rfl (x5x 4 rfl HE.nil)), rfl⟩
end
end Go.Proofs.YtpadkogpeobboaaGreat.Am
