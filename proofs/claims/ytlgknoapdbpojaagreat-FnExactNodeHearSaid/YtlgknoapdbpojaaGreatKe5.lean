/- Part 5 of the texts that the proof of LawFnExactNodeHear leans on, merged by program. -/
import Derived.Test.YtlgknoapdbpojaaGreatKe4
set_option linter.unusedVariables false
set_option linter.unusedSimpArgs false
set_option maxHeartbeats 4000000
set_option autoImplicit true
set_option relaxedAutoImplicit true
namespace Go.Proofs.YtlgknoapdbpojaaGreat.Am
open Go Go.RowKit
section
theorem c2o (c c' : Bool) (l l' : List Ev) : r0r Tryz.prog 251 [w7w c l, w7w c' l'] (.pv (.bool (decide (l = l')))) := by
 refine pX Tryz.f251 [.pv (.bool (decide (l = l')))] 0 ?_
 refine y8y 0 rfl fun hlen => ?_
 refine dc 9 (fun K K' => aI ?_ ?_)<;>intro o<;>try simp at o
 ·refine dv 3 ?_
  refine x1x rfl ?_ rfl
  exact d8n (by omega)
 refine dv 5 fun K K' => ?_
 refine x4x (ι := Nat) (fun i γ1 => [(5, pI (i : Int))]) (fun i γ1 => []) (fun i => i ≤ l.length ∧ l.length = l'.length ∧ l.take i = l'.take i) (fun i => l.length - i) (a0f [0, 1] rfl) HE.nil 0 ⟨by omega, by omega, rfl⟩ [] y2y y1y rfl fun i γ1 hi => ?_
 obtain ⟨h1, h2, h3⟩ := hi
 refine dc 6 (fun K K' => aS ?_ ?_)<;>intro o<;>try simp at o
 ·refine dv 4 ?_
  refine x1x rfl ?_ rfl
  exact eqT h3 (by omega) (by omega)
 refine dv 6 fun K K' => ?_
 obtain ⟨x, hx⟩ := gE l i
 refine dv 4 ?_
 obtain ⟨y, hy⟩ := gE l' i
 refine dv 2 ?_
 refine a9w rfl rfl (by intro p q h; cases h) (.inr rfl) (e4m _ _ _ _) ?_
 refine dc 0 (aS ?_ ?_)<;>intro hc7<;>try simp at hc7
 ·have hxy : x = y := by simpa [a3k] using hc7
  refine dv 3 ?_
  refine a0m (.int .i64 ((i + 1 : Nat) : Int)) rfl rfl rfl (a7p rfl (by omega) (by omega) (by have := hlen; omega)) ?_
  refine dv 1 ?_
  exact ⟨i + 1, ⟨⟨by omega, h2, a3s h3 hx hy (by assumption)⟩, by omega⟩, [], y2y, y2y, y1y, y1y, rfl⟩
 have hxy : ¬ x = y := by simpa [a3k] using hc7
 refine dv 3 ?_
 refine x1x rfl ?_ rfl
 exact d8o hx hy (by assumption)
theorem b1e (c : Bool) (a b : List Ev) (g : Int) : r0r Tryz.prog 169 [w7w c a, w7w c b, .pv (.int .i64 g)] (.pv (.int .i64 (chg g a (chg g b 41 a) b))) := by
 refine pX Tryz.f169 [.pv (.int .i64 (chg g a (chg g b 41 a) b))] 0 ?_
 refine dv 8 fun K K' => ?_
 refine x4x (ι := Nat) (fun k γ1 => [(0, w7w c (swK a b k)), (1, w7w c (swK b a k)), (7, pI (e2g g a b k)), (8, pI (k : Int))]) (fun k γ1 => []) (fun k => k ≤ 2) (fun k => 2 - k) (x5x 2 rfl Cov.nil) HE.nil 0 (by omega) [] (Cov.cons' (t := 0) rfl (rfl) (Cov.cons' (t := 1) rfl (rfl) (Cov.cons' (t := 7) rfl (rfl) (x5x 8 rfl Cov.nil)))) y1y rfl fun k γ1 hi => ?_
 refine dc 4 (fun K K' => aS ?_ ?_)<;>intro o<;>try simp at o
 ·obtain rfl : k = 2 := by omega
  refine dv 5 ?_
  exact x1x rfl rfl rfl
 refine dv 7 fun K K' K K' => ?_
 refine y8y 0 rfl fun hlen0 => ?_
 refine x4x (ι := Nat) (fun i γ2 => [(7, pI (chg g (swK b a k) (e2g g a b k) ((swK a b k).take i))), (9, pI (i : Int))]) (fun i γ2 => []) (fun i => i ≤ (swK a b k).length) (fun i => (swK a b k).length - i) (a0f [0, 1, 2, 8] rfl) HE.nil 0 (by omega) [] (Cov.cons' (t := 7) rfl (by rw [List.take_zero]; rfl) (x5x 9 rfl Cov.nil)) y1y rfl fun i γ2 hi => ?_
 refine dc 6 (fun K K' => aS ?_ ?_)<;>intro o<;>try simp at o
 ·obtain rfl : i = (swK a b k).length := by omega
  refine dv 12 ?_
  refine x2x (b := 1) rfl rfl (by omega) (dv 1 ?_)
  exact ⟨k + 1, ⟨by omega, by omega⟩, [], (Cov.cons' (t := 0) rfl (by rw [d2h (by omega)]) (Cov.cons' (t := 1) rfl (by rw [d2h (by omega)]) (Cov.cons' (t := 7) rfl (by rw [d7p (by omega), List.take_length]) (x5x 8 rfl Cov.nil)))), y2y, y1y, y1y, rfl⟩
 obtain ⟨x, hx⟩ := gE (swK a b k) i
 refine dv 9 fun K K' K K' => ?_
 refine y8y 1 rfl fun hlen1 => ?_
 refine x4x (ι := Nat) (fun j γ3 => [(10, .pv (.bool (decide (x ∈ (swK b a k).take j)))), (11, pI (j : Int))]) (fun j γ3 => []) (fun j => j ≤ (swK b a k).length) (fun j => (swK b a k).length - j) (a0f [0, 1, 2, 7, 8, 9] rfl) HE.nil 0 (by omega) [] (Cov.cons' (t := 10) rfl (by simp) (x5x 11 rfl Cov.nil)) y1y rfl fun j γ3 hi => ?_
 refine dc 6 (fun K K' => aI ?_ ?_)<;>intro o<;>try simp at o
 ·obtain ⟨z, hz⟩ := gE (swK b a k) j
  refine dc 6 (fun K K' => aS ?_ ?_)<;>intro hg13<;>try simp at hg13
  ·have hin : x ∈ (swK b a k).take j := by simpa using hg13
   refine dv 12 ?_
   refine x2x (b := 1) rfl rfl (by omega) (dv 1 ?_)
   exact ⟨j + 1, ⟨by omega, by omega⟩, [], (Cov.cons' (t := 10) rfl (by rw [z3z hz]; (simp [hin]; done)) (x5x 11 rfl Cov.nil)), y2y, y1y, y1y, rfl⟩
  have hin : ¬ x ∈ (swK b a k).take j := by simpa using hg13
  refine dv 8 ?_
  refine a9w rfl rfl (by intro a c h; cases h) (.inl rfl) (e4m _ _ _ _) ?_
  refine dv 4 ?_
  refine x2x (b := 1) rfl rfl (by omega) (dv 1 ?_)
  exact ⟨j + 1, ⟨by omega, by omega⟩, [], (Cov.cons' (t := 10) rfl (by rw [z3z hz]; (simp [hin]; rfl)) (x5x 11 rfl Cov.nil)), y2y, y1y, y1y, rfl⟩
 obtain rfl : j = (swK b a k).length := by omega
 rw [List.take_length]
 refine dc 5 (aS ?_ ?_)<;>intro hg14<;>try simp at hg14
 ·have hn : ¬ (g ≤ x.time ∧ x.time < chg g (swK b a k) (e2g g a b k) ((swK a b k).take i) ∧ ¬ x ∈ swK b a k) := fun q => q.2.2 (by simpa using hg14)
  refine dv 20 ?_
  refine x2x (b := 1) rfl rfl (by omega) (dv 1 ?_)
  exact ⟨i + 1, ⟨by omega, by omega⟩, [], (Cov.cons' (t := 7) rfl (by rw [a6i hx, if_neg hn]) (x5x 9 rfl Cov.nil)), y2y, y1y, y1y, rfl⟩
 have hm : ¬ x ∈ swK b a k := by simpa using hg14
 refine dc 9 (aS ?_ ?_)<;>intro o<;>try simp at o
 ·have hn : ¬ (g ≤ x.time ∧ x.time < chg g (swK b a k) (e2g g a b k) ((swK a b k).take i) ∧ ¬ x ∈ swK b a k) := fun q => (by have := q.1; omega)
  refine dv 11 ?_
  refine x2x (b := 1) rfl rfl (by omega) (dv 1 ?_)
  exact ⟨i + 1, ⟨by omega, by omega⟩, [], (Cov.cons' (t := 7) rfl (by rw [a6i hx, if_neg hn]) (x5x 9 rfl Cov.nil)), y2y, y1y, y1y, rfl⟩
 refine dc 8 (aS ?_ ?_)<;>intro o<;>try simp at o
 ·have hn : ¬ (g ≤ x.time ∧ x.time < chg g (swK b a k) (e2g g a b k) ((swK a b k).take i) ∧ ¬ x ∈ swK b a k) := by exact fun q => (by have := q.2.1; omega)
  refine dv 3 ?_
  refine x2x (b := 1) rfl rfl (by omega) (dv 1 ?_)
  exact ⟨i + 1, ⟨by omega, by omega⟩, [], (Cov.cons' (t := 7) rfl (by rw [a6i hx, if_neg hn]) (x5x 9 rfl Cov.nil)), y2y, y1y, y1y, rfl⟩
 have hy : g ≤ x.time ∧ x.time < chg g (swK b a k) (e2g g a b k) ((swK a b k).take i) ∧ ¬ x ∈ swK b a k := ⟨by omega, by omega, hm⟩
 refine dv 9 ?_
 refine x2x (b := 1) rfl rfl (by omega) (dv 1 ?_)
 exact ⟨i + 1, ⟨by omega, by omega⟩, [], (Cov.cons' (t := 7) rfl (by (rw [a6i hx, if_pos hy] <;> rfl)) (x5x 9 rfl Cov.nil)), y2y, y1y, y1y, rfl⟩
theorem c1n (n : Nd) (hw : wk n) : Meth Tryz.prog 171 3 [0, 1, 2] [.agg [pI n.id, .pv (.bool n.up), pI n.inc, pI n.g, .ref 0 0, w7w true n.kept, r9r true n.outs, pI n.led, pI n.version, .ref 1 0, .ref 2 0, pI n.round, pI n.low]] [(0, (0, .row 44 5 ((n.lanes).map (q8q true)))), (1, (0, .row 190 3 ((n.views).map (a1f true)))), (2, (0, .row 3 1 (n.known.map r5r)))] (.agg [pI (nl n (v6v n n.lanes)).id, .pv (.bool (nl n (v6v n n.lanes)).up), pI (nl n (v6v n n.lanes)).inc, pI (nl n (v6v n n.lanes)).g, .ref 0 0, w7w true (nl n (v6v n n.lanes)).kept, r9r true (nl n (v6v n n.lanes)).outs, pI (nl n (v6v n n.lanes)).led, pI (nl n (v6v n n.lanes)).version, .ref 1 0, .ref 2 0, pI (nl n (v6v n n.lanes)).round, pI (nl n (v6v n n.lanes)).low]) [(0, (0, .row 44 5 ((v6v n n.lanes).map (q8q true))))] := by
 refine mX Tryz.f171 [.agg [pI (nl n (v6v n n.lanes)).id, .pv (.bool (nl n (v6v n n.lanes)).up), pI (nl n (v6v n n.lanes)).inc, pI (nl n (v6v n n.lanes)).g, .ref 0 0, w7w true (nl n (v6v n n.lanes)).kept, r9r true (nl n (v6v n n.lanes)).outs, pI (nl n (v6v n n.lanes)).led, pI (nl n (v6v n n.lanes)).version, .ref 1 0, .ref 2 0, pI (nl n (v6v n n.lanes)).round, pI (nl n (v6v n n.lanes)).low]] 3 2 fun γ => ?_
 refine dv 1 ?_
 refine x9x (id := 3) rfl rfl rfl (x3x (id := 4) a0o a0p rfl (dv 4 fun K K' => ?_))
 refine x4x (ι := List La × Bool) (fun p γ1 => [(3, .pv (.bool (p.2)))]) (fun p γ1 => [(0, ((γ 0), .row 44 5 ((p.1).map (q8q true))))]) (fun p => (p.2 = true → v6v n p.1 = v6v n n.lanes) ∧ (p.2 = false → p.1 = v6v n n.lanes) ∧ wk (nl n p.1)) (fun p => 2 * c5g p.1 + p.2.toNat) (a0f [1, 2] rfl) (a2k [1, 2, 3, 4] rfl) (n.lanes, true) ⟨fun _ => rfl, fun h => (by cases h), hw⟩ [] y2y y1y rfl fun p γ1 hi => ?_
 obtain ⟨ls, q⟩ := p
 obtain ⟨h1, h2, h3⟩ := hi
 dsimp only at h1 h2 h3 ⊢
 refine dc 3 (fun K K' => aS ?_ ?_)<;>intro hc3<;>try simp at hc3
 ·have hq : q = false := by simpa using hc3
  subst hq
  have hfin : ls = v6v n n.lanes := h2 rfl
  refine dv 4 ?_
  subst hfin
  refine dv 1 ?_
  exact ⟨[γ 0, γ 1, γ 2], rfl, rfl, y1y⟩
 have hq : q = true := hc3
 subst hq
 refine dv 7 ?_
 refine x4x (ι := Nat) (fun i γ2 => [(3, .pv (.bool (b0j n ls i))), (4, pI (i : Int))]) (fun i γ2 => [(0, ((γ 0), .row 44 5 ((a0b n ls i).map (q8q true))))]) (fun i => i ≤ ls.length) (fun i => ls.length - i) (a0f [1, 2] rfl) (a2k [1, 2, 3, 4] rfl) 0 (by omega) [] (Cov.cons' (t := 3) rfl (rfl) (x5x 4 rfl Cov.nil)) y1y rfl fun i γ2 hi => ?_
 refine dc 7 (fun K K' => aS ?_ ?_)<;>intro o<;>try simp at o
 ·have hpl : (a0b n ls i).length = ls.length := b6d n ls i
  obtain rfl : i = ls.length := by omega
  refine dv 1 ?_
  exact ⟨(a0b n ls ls.length, b0j n ls ls.length), ⟨⟨fun h => (c5h h).trans (h1 rfl), fun h => (c5i h).trans (h1 rfl), b4m h3 _⟩, (d7m n ls ls.length)⟩, [], y2y, y2y, y1y, y1y, rfl⟩
 have hpl : (a0b n ls i).length = ls.length := b6d n ls i
 obtain ⟨l, hp⟩ := gE (a0b n ls i) i
 have h4 := b4m h3 i
 have h41 : (a0b n ls i).length ≤ 4 := h4.1
 have hb4 := h4.2.2.2.2.1 l (List.mem_of_getElem? hp)
 refine dv 7 fun K K' => ?_
 refine z0z (j := i) rfl rfl a5v rfl s0s rfl rfl (u3u hp) ?_
 refine dv 5 ?_
 refine z0z (j := i) rfl rfl a5v rfl s0s rfl rfl (u3u hp) ?_
 refine dv 2 ?_
 refine a2l rfl rfl rfl (c5m (n := nl n (a0b n ls i)) rfl rfl rfl (.cl rfl .nil)) (a5p false (nl n (a0b n ls i)) l.proc (d7j h4) (by have := h4.1; omega) h4.2.2.1) (a9o _) ?_
 refine x0x rfl rfl rfl (a8t true true l (s6s (nl n (a0b n ls i)) l.proc)) ?_
 refine dv 6 ?_
 refine z0z (j := i) rfl rfl a5v rfl s0s rfl rfl (u3u hp) ?_
 refine dc 4 (aS ?_ ?_)<;>intro o<;>try simp at o
 ·have hk := d0i (n := n) hp (by show ¬ same l.done (s6s (nl n (a0b n ls i)) l.proc) < l.done.length; omega)
  refine dv 3 ?_
  refine u2u rfl rfl rfl (dv 1 ?_)
  exact ⟨i + 1, ⟨by omega, by omega⟩, [], (Cov.cons' (t := 3) rfl (by rw [b2y, hk.2, Bool.or_false]) (Cov.cons' (t := 4) rfl (by rw [x6x (by omega) (by omega)]; rfl) Cov.nil)), y2y, (HE.row rfl (by rw [a9n, hk.1]) HE.nil), y1y, rfl⟩
 have hk := d0h (n := n) hp (by show same l.done (s6s (nl n (a0b n ls i)) l.proc) < l.done.length; omega)
 refine dv 7 ?_
 refine z0z (j := i) rfl rfl a5v rfl s0s rfl rfl (u3u hp) ?_
 refine dv 2 ?_
 refine x0x rfl rfl rfl (a3x true l 0 (keep n (a0b n ls i) l) (by omega) (by omega) (by have := e4h n (a0b n ls i) l; omega) (fun p hp => by have := hb4.2 p hp; omega)) ?_
 refine z0z (j := i) rfl rfl a5v rfl s0s rfl rfl (u3u hp) ?_
 refine w8w (el' := a0x l 0 (keep n (a0b n ls i) l)) rfl rfl s0s rfl rfl rfl hp rfl (a3p rfl) rfl rfl ?_
 refine dv 4 ?_
 refine u2u rfl rfl rfl (dv 1 ?_)
 exact ⟨i + 1, ⟨by omega, by omega⟩, [], (Cov.cons' (t := 3) rfl (by rw [b2y, hk.2, Bool.or_true]) (Cov.cons' (t := 4) rfl (by rw [x6x (by omega) (by omega)]; rfl) Cov.nil)), y2y, (HE.row rfl (by rw [a9n, hk.1]) HE.nil), y1y, rfl⟩
theorem b8j (c : Bool) (n m : Nd) (hn : wk n) (hm : wk m) (hid : n.id = m.id) (hv : 0 ≤ n.version ∧ n.version ≤ 9998) : Meth Tryz.prog 170 3 [0, 1, 2] [.agg (r4r c n), .agg [pI m.id, .pv (.bool m.up), pI m.inc, pI m.g, .ref 0 0, w7w true m.kept, r9r true m.outs, pI m.led, pI m.version, .ref 1 0, .ref 2 0, pI m.round, pI m.low]] [(0, (0, .row 44 5 ((m.lanes).map (q8q true)))), (1, (0, .row 190 3 ((m.views).map (a1f true)))), (2, (0, .row 3 1 (m.known.map r5r)))] (.agg [pI ({ m with version := a3m n m 3 } : Nd).id, .pv (.bool ({ m with version := a3m n m 3 } : Nd).up), pI ({ m with version := a3m n m 3 } : Nd).inc, pI ({ m with version := a3m n m 3 } : Nd).g, .ref 0 0, w7w true ({ m with version := a3m n m 3 } : Nd).kept, r9r true ({ m with version := a3m n m 3 } : Nd).outs, pI ({ m with version := a3m n m 3 } : Nd).led, pI ({ m with version := a3m n m 3 } : Nd).version, .ref 1 0, .ref 2 0, pI ({ m with version := a3m n m 3 } : Nd).round, pI ({ m with version := a3m n m 3 } : Nd).low]) [] := by
 refine mX Tryz.f170 [.agg [pI ({ m with version := a3m n m 3 } : Nd).id, .pv (.bool ({ m with version := a3m n m 3 } : Nd).up), pI ({ m with version := a3m n m 3 } : Nd).inc, pI ({ m with version := a3m n m 3 } : Nd).g, .ref 0 0, w7w true ({ m with version := a3m n m 3 } : Nd).kept, r9r true ({ m with version := a3m n m 3 } : Nd).outs, pI ({ m with version := a3m n m 3 } : Nd).led, pI ({ m with version := a3m n m 3 } : Nd).version, .ref 1 0, .ref 2 0, pI ({ m with version := a3m n m 3 } : Nd).round, pI ({ m with version := a3m n m 3 } : Nd).low]] 3 3 fun γ => ?_
 refine dv 1 ?_
 refine x9x (id := 3) rfl rfl rfl (x9x (id := 4) rfl rfl rfl (x3x (id := 5) a0o a0p rfl (dv 4 fun K K' => ?_)))
 refine x4x (ι := Nat) (fun k γ1 => [(5, pI (k : Int))]) (fun k γ1 => [(4, ((0 + 1), .box 65 [pI m.id, .pv (.bool m.up), pI m.inc, pI m.g, .ref 0 (γ 0), w7w true m.kept, r9r true m.outs, pI m.led, pI (a3m n m k), .ref 1 (γ 1), .ref 2 (γ 2), pI m.round, pI m.low]))]) (fun k => k ≤ 3) (fun k => 3 - k) (a0f [2, 3, 4] rfl) (a2k [0, 1, 2, 3, 5] rfl) 0 (by omega) [] y2y (HE.box rfl (by rfl) HE.nil) rfl fun k γ1 hi => ?_
 refine dc 4 (fun K K' => aS ?_ ?_)<;>intro o<;>try simp at o
 ·obtain rfl : k = 3 := by omega
  refine dv 5 ?_
  exact ⟨[γ 0, γ 1, γ 2], rfl, rfl, y1y⟩
 refine dc 9 (fun K K' => aS ?_ ?_)<;>intro hg5<;>try simp at hg5
 ·have hs : (k : Int) = m.id ∨ a2p n (k : Int) = a2p m (k : Int) := .inl hg5
  refine dv 12 ?_
  refine u2u rfl rfl rfl (dv 1 ?_)
  exact ⟨k + 1, ⟨by omega, by omega⟩, [], (Cov.cons' (t := 5) rfl (by rw [x6x (by omega) (by omega)]; rfl) Cov.nil), y2y, (HE.box rfl (by rw [d7n hid hs]) HE.nil), y1y, rfl⟩
 have hi0 : ¬ (k : Int) = m.id := hg5
 refine dv 2 ?_
 refine x0x rfl rfl rfl (b2l c n k (by omega) hn.2.2.2.1 (by have := c5f hn; omega) (by have := hn.1; omega)) ?_
 refine dv 2 ?_
 refine a2l rfl rfl rfl (c5m (n := ({ m with version := a3m n m k } : Nd)) rfl rfl rfl (.cl rfl .nil)) (b2l false ({ m with version := a3m n m k } : Nd) k (by omega) hm.2.2.2.1 (by have := c5f hm; show (r7r m).length ≤ 5000000; omega) (by have := hm.1; show m.lanes.length ≤ 1048576; omega)) (a9o _) ?_
 refine dv 0 ?_
 refine x0x rfl rfl rfl (c2o true true (a2p n (k : Int)) (a2p m (k : Int))) ?_
 refine dc 2 (aS ?_ ?_)<;>intro hc6<;>try simp at hc6
 ·have hs : (k : Int) = m.id ∨ a2p n (k : Int) = a2p m (k : Int) := .inr hc6
  refine dv 3 ?_
  refine u2u rfl rfl rfl (dv 1 ?_)
  exact ⟨k + 1, ⟨by omega, by omega⟩, [], (Cov.cons' (t := 5) rfl (by rw [x6x (by omega) (by omega)]; rfl) Cov.nil), y2y, (HE.box rfl (by rw [d7n hid hs]) HE.nil), y1y, rfl⟩
 have hd : ¬ a2p n (k : Int) = a2p m (k : Int) := hc6
 refine dv 3 ?_
 refine a0m (.int .i64 (n.version + 1)) rfl rfl rfl (a7p rfl rfl (by omega) (by omega)) ?_
 refine dv 4 ?_
 refine u2u rfl rfl rfl (dv 1 ?_)
 exact ⟨k + 1, ⟨by omega, by omega⟩, [], (Cov.cons' (t := 5) rfl (by rw [x6x (by omega) (by omega)]; rfl) Cov.nil), y2y, (HE.box rfl (by (rw [e4k hid hi0 hd] <;> rfl)) HE.nil), y1y, rfl⟩
end
section
theorem c1o (c : Bool) (n : Nd) (f inc ver g : Int) (es : List Ev) : r0r Tryz.prog 70 [.agg (r4r c n), .pv (.int .i64 f), .pv (.int .i64 inc), .pv (.int .i64 ver), .pv (.int .i64 g), w7w c es] (.agg (r4r true (w5w n f inc ver g es))) := by
 refine pX Tryz.f70 [.agg (r4r true (w5w n f inc ver g es))] 12 ?_
 refine dv 1 ?_
 refine x9x (id := 0) rfl rfl rfl (x3x (id := 1) a0o a0p rfl (dv 3 fun K K' => ?_))
 refine x0x rfl rfl rfl (a1p c n) (dc 1 (aI ?_ ?_))<;>intro hc2<;>try simp at hc2
 ·have fX : ¬ w3w n := a4s (by simpa using hc2)
  refine dv 1 ?_
  refine rlB a0o a0p ?_
  refine dv 2 ?_
  (rw [e2h fX]; exact ⟨_, _, rfl, e6u⟩)
 have fK : w3w n := a4r.1 (by simpa using hc2)
 have fS := fK.1
 have fB := v2v fS
 have fV := fS.2.2.2.2.2.1
 have fQ := fS.2.2.2.2.2.2.1
 have fb := d0e fS
 refine dv 3 ?_
 refine rlM [6, 7, 8] [_, _, _] (z7z c n fb) rfl rfl rfl ?_
 refine x3x (id := 2) a0o a0p rfl (dc 7 (fun K K' => aS ?_ ?_))<;>intro hg4<;>try simp at hg4
 ·have fU : ¬ a1j n f inc ver g es := by (rintro ⟨m1, m2, m3, m4, m5, m6, m7, m8, m9⟩; (simp_all; done))
  refine dv 37 ?_
  (rw [b3k fK fU]; exact ⟨_, _, rfl, c1a (n := n) rfl rfl rfl⟩)
 have fUp : n.up = true := hg4
 refine dv 1 ?_
 refine x0x rfl rfl rfl (z1z ..) (dc 3 (aS ?_ ?_))<;>intro h<;>try simp at h
 ·have fU : ¬ a1j n f inc ver g es := by (rintro ⟨m1, m2, m3, m4, m5, m6, m7, m8, m9⟩; omega)
  refine dv 32 ?_
  (rw [b3k fK fU]; exact ⟨_, _, rfl, c1a (n := n) rfl rfl rfl⟩)
 refine dc 6 (aS ?_ ?_)<;>intro hg6<;>try simp at hg6
 ·have fU : ¬ a1j n f inc ver g es := by (rintro ⟨m1, m2, m3, m4, m5, m6, m7, m8, m9⟩; omega)
  refine dv 26 ?_
  (rw [b3k fK fU]; exact ⟨_, _, rfl, c1a (n := n) rfl rfl rfl⟩)
 have f4 : ¬ f = n.id := hg6
 refine dv 3 ?_
 refine rlB p7p a4c ?_
 refine dv 0 ?_
 refine x0x rfl rfl rfl (b0z c ⟨inc, ver, es⟩) ?_
 refine dc 3 (aS ?_ ?_)<;>intro hg7<;>try simp at hg7
 ·have fvi : ¬ d3w ⟨inc, ver, es⟩ := a4s (by simpa using hg7)
  have fU : ¬ a1j n f inc ver g es := by (rintro ⟨m1, m2, m3, m4, m5, m6, m7, m8, m9⟩; exact fvi ⟨⟨by show 0 ≤ inc; omega, m5.2⟩, m6, m8⟩)
  refine dv 18 ?_
  (rw [b3k fK fU]; exact ⟨_, _, rfl, c1a (n := n) rfl rfl rfl⟩)
 have fvi : d3w ⟨inc, ver, es⟩ := a4r.1 (by simpa using hg7)
 have fv1 := fvi.1
 have fv2 := fvi.2.1
 have fv3 : a6t okE a1i es 100 = true := fvi.2.2
 dsimp only at fv1 fv2
 refine dc 4 (aS ?_ ?_)<;>intro h<;>try simp at h
 ·have fU : ¬ a1j n f inc ver g es := by (rintro ⟨m1, m2, m3, m4, m5, m6, m7, m8, m9⟩; omega)
  refine dv 14 ?_
  (rw [b3k fK fU]; exact ⟨_, _, rfl, c1a (n := n) rfl rfl rfl⟩)
 refine dv 1 ?_
 refine x0x rfl rfl rfl (z1z ..) (dc 3 (aS ?_ ?_))<;>intro h<;>try simp at h
 ·have fU : ¬ a1j n f inc ver g es := by (rintro ⟨m1, m2, m3, m4, m5, m6, m7, m8, m9⟩; omega)
  refine dv 9 ?_
  (rw [b3k fK fU]; exact ⟨_, _, rfl, c1a (n := n) rfl rfl rfl⟩)
 refine dv 2 ?_
 refine x0x rfl rfl rfl (p1p ..) (dc 2 (aI ?_ ?_))<;>intro h<;>try simp at h
 ·have fU : ¬ a1j n f inc ver g es := by (rintro ⟨m1, m2, m3, m4, m5, m6, m7, m8, m9⟩; omega)
  refine dv 4 ?_
  (rw [b3k fK fU]; exact ⟨_, _, rfl, c1a (n := n) rfl rfl rfl⟩)
 refine dv 5 fun K K' => ?_
 refine y8y 5 rfl fun hlen => ?_
 refine x4x (ι := Nat) (fun i γ1 => [(14, pI (i : Int))]) (fun i γ1 => []) (fun i => i ≤ es.length ∧ c8f es (fun _ e => q0q e.to = n.id ∧ (e.from' = -1 ∨ q0q e.from' = f)) i) (fun i => es.length - i) (a0f [1, 2, 3, 4, 5, 6, 12, 13] rfl) (a2k [0, 1, 2, 3, 4, 5, 6, 7, 8, 9, 10, 11] rfl) 0 ⟨by omega, a0z⟩ [] y2y y1y rfl fun i γ1 hi => ?_
 obtain ⟨k1, k2⟩ := hi
 refine dc 6 (fun K K' => aI ?_ ?_)<;>intro h<;>try simp at h
 ·obtain ⟨e, he⟩ := gE es i
  have heo : b8v e := of_decide_eq_true ((r8r fv3).2 e (List.mem_of_getElem? he))
  have heb := heo.2.2.1
  refine dv 9 fun K K' => ?_
  refine x0x rfl rfl rfl (a4y ..) (dc 4 (aS ?_ ?_))<;>intro hg15<;>try simp at hg15
  ·have fE : ¬ (q0q e.to = n.id ∧ (e.from' = -1 ∨ q0q e.from' = f)) := fun q => (by have := q.1; omega)
   refine dv 17 ?_
   have fU : ¬ a1j n f inc ver g es := fun q => fE (q.2.2.2.2.2.2.2.2 e (List.mem_of_getElem? he))
   refine dv 4 ?_
   (rw [b3k fK fU]; exact ⟨_, _, rfl, c1a (n := n) rfl rfl rfl⟩)
  have e1 : q0q e.to = n.id := hg15
  refine dc 7 (aS ?_ ?_)<;>intro h<;>try simp at h
  ·have hE : q0q e.to = n.id ∧ (e.from' = -1 ∨ q0q e.from' = f) := ⟨e1, .inl (by omega)⟩
   refine dv 13 ?_
   refine u2u rfl rfl rfl (dv 1 ?_)
   exact ⟨i + 1, ⟨⟨by omega, a0e k2 he hE⟩, by omega⟩, [], (Cov.cons' (t := 14) rfl (by rw [x6x (by omega) (by omega)]; rfl) Cov.nil), y2y, y1y, y1y, rfl⟩
  refine dv 5 ?_
  refine x0x rfl rfl rfl (a4y ..) (dc 4 (aS ?_ ?_))<;>intro hc17<;>try simp at hc17
  ·have hE : q0q e.to = n.id ∧ (e.from' = -1 ∨ q0q e.from' = f) := ⟨e1, .inr hc17⟩
   refine dv 3 ?_
   refine u2u rfl rfl rfl (dv 1 ?_)
   exact ⟨i + 1, ⟨⟨by omega, a0e k2 he hE⟩, by omega⟩, [], (Cov.cons' (t := 14) rfl (by rw [x6x (by omega) (by omega)]; rfl) Cov.nil), y2y, y1y, y1y, rfl⟩
  have fE : ¬ (q0q e.to = n.id ∧ (e.from' = -1 ∨ q0q e.from' = f)) := by (rintro ⟨q1, q2 | q2⟩ <;> omega)
  have fU : ¬ a1j n f inc ver g es := fun q => fE (q.2.2.2.2.2.2.2.2 e (List.mem_of_getElem? he))
  refine dv 4 ?_
  (rw [b3k fK fU]; exact ⟨_, _, rfl, c1a (n := n) rfl rfl rfl⟩)
 have hall := a2z k2 (by omega)
 have fH : a1j n f inc ver g es := ⟨fUp, by omega, by omega, f4, by omega, by omega, by omega, fv3, fun e he => by obtain ⟨i, hi⟩ := List.getElem?_of_mem he; exact hall i e hi⟩
 obtain ⟨k, rfl⟩ : ∃ k : Nat, f = (k : Int) := ⟨f.toNat, by have := fH.2.2.1; omega⟩
 have hk3 : k < 3 := by have := fH.2.2.1; omega
 obtain ⟨kn, hkn⟩ := gE n.known k
 obtain ⟨v, hv⟩ := gE n.views k
 have hes : es.length ≤ 100 := by have := (r8r fH.2.2.2.2.2.2.2.1).1; omega
 obtain ⟨M, hM⟩ : ∃ M, M = b6e n k inc ver g es := ⟨_, rfl⟩
 have hv9 : n.version ≤ 9998 := by have := fH.2.1; omega
 have hv0 := fS.1.2.2.2.2.1.1
 refine dv 1 ?_
 refine a7b (ι := Unit) (fun _i γ2 => []) (fun _i γ2 => [(8, ((0 + 1), .row 3 1 ((n.known.set k (max kn g)).map r5r)))]) (fun _i => True) (a0f [1, 2, 3, 5, 6, 12, 13] rfl) (a2k [0, 1, 2, 3, 4, 5, 6, 7, 9, 10, 11] rfl) ?_ fun _i γ2 hi => ?_
 ·refine dv 5 ?_
  refine z0z (j := k) rfl rfl a0i rfl w1w rfl rfl (u3u hkn) ?_
  refine dc 2 (aS ?_ ?_)<;>intro h<;>try simp at h
  ·have hmx : max kn g = kn := by omega
   refine dv 1 ?_
   exact ⟨(), trivial, [], y2y, y2y, (HE.row rfl (by rw [hmx, e0q hkn]) HE.nil), y1y, rfl⟩
  have hmx : max kn g = g := by omega
  refine dv 5 ?_
  refine z0z (j := k) rfl rfl a0i rfl w1w rfl rfl (u3u hkn) ?_
  refine a6r (el' := g) rfl rfl w1w rfl rfl rfl hkn rfl (by omega) (.val rfl rfl .nil) rfl rfl ?_
  exact ⟨(), trivial, [], y2y, y2y, (HE.row rfl (by (rw [hmx]; done)) HE.nil), y1y, rfl⟩
 ·try dsimp only [d2l, d2m]
  refine dv 6 ?_
  refine x3x (id := 3) p7p a4c rfl (dv 1 ?_)
  refine a7b (ι := Unit) (fun _i γ3 => []) (fun _i γ3 => [(2, ((0 + 1), .box 65 [pI M.id, .pv (.bool M.up), pI M.inc, pI M.g, .ref 6 (0 + 1), w7w true M.kept, r9r true M.outs, pI M.led, pI M.version, .ref 7 (0 + 1), .ref 8 (0 + 1), pI M.round, pI M.low])), (6, ((0 + 1), .row 44 5 ((M.lanes).map (q8q true)))), (7, ((0 + 1), .row 190 3 ((M.views).map (a1f true)))), (8, ((0 + 1), .row 3 1 (M.known.map r5r))), (4, ((γ3 4), .dead)), (5, ((γ3 5), .dead))]) (fun _i => True) (a0f [6, 12, 13] rfl) (a2k [0, 1, 3, 9, 10, 11] rfl) ?_ fun _i γ3 hi => ?_
  ·refine dc 6 (aS ?_ ?_)<;>intro h<;>try simp at h
   ·refine dv 11 ?_
    have hL : b7f v inc ver := .inl (by omega)
    refine dv 6 ?_
    refine x0x rfl rfl rfl (b1e c v.events es n.g) (dc 7 (fun K K' => aS ?_ ?_))<;>intro h<;>try simp at h
    ·have hlow : n.low = M.low := by rw [hM, q3q hv hkn hL]; show _ = chg n.g v.events (chg n.g es n.low v.events) es; rw [b8y n.g v.events es (m := n.low) (by have := fS.1.2.2.2.2.2.2; omega)]; omega
     refine dv 7 ?_
     refine v4v (id := 4) w2w rfl y9y rfl (dv 1 ?_)
     refine a5x z9z (zs := es.map y3y) rfl rfl w2w rfl y9y rfl rfl rfl (w4w (fun _ => rfl) _) rfl (by simp only [a3c, T56]; omega) (Le.ow_map _ (fun _ => rfl) (fun _ => rfl)) ?_
     refine rlB p7p a4c ?_
     refine z0z (j := k) rfl rfl a9e rfl p7p rfl rfl (u3u hv) ?_
     refine w8w (el' := ⟨inc, ver, es⟩) rfl rfl p7p rfl rfl rfl hv rfl (a3p rfl) rfl rfl ?_
     refine dv 0 ?_
     exact ⟨(), trivial, [0, 0, 0, 0, _, _], y2y, y2y, (HE.box rfl (by rw [← hlow]; (rw [hM, q3q hv hkn hL] <;> rfl)) (HE.row rfl (by (rw [hM, q3q hv hkn hL] <;> rfl)) (HE.row rfl (by (rw [hM, q3q hv hkn hL] <;> rfl)) (HE.row rfl (by (rw [hM, q3q hv hkn hL] <;> rfl)) (HE.kill rfl (HE.kill rfl HE.nil)))))), y1y, rfl⟩
    have hlow : chg n.g v.events (chg n.g es 41 v.events) es = M.low := by rw [hM, q3q hv hkn hL]; show _ = chg n.g v.events (chg n.g es n.low v.events) es; rw [b8y n.g v.events es (m := n.low) (by have := fS.1.2.2.2.2.2.2; omega)]; omega
    refine dv 10 ?_
    refine v4v (id := 4) w2w rfl y9y rfl (dv 1 ?_)
    refine a5x z9z (zs := es.map y3y) rfl rfl w2w rfl y9y rfl rfl rfl (w4w (fun _ => rfl) _) rfl (by simp only [a3c, T56]; omega) (Le.ow_map _ (fun _ => rfl) (fun _ => rfl)) ?_
    refine rlB p7p a4c ?_
    refine z0z (j := k) rfl rfl a9e rfl p7p rfl rfl (u3u hv) ?_
    refine w8w (el' := ⟨inc, ver, es⟩) rfl rfl p7p rfl rfl rfl hv rfl (a3p rfl) rfl rfl ?_
    refine dv 0 ?_
    exact ⟨(), trivial, [0, 0, 0, 0, _, _], y2y, y2y, (HE.box rfl (by rw [← hlow]; (rw [hM, q3q hv hkn hL] <;> rfl)) (HE.row rfl (by (rw [hM, q3q hv hkn hL] <;> rfl)) (HE.row rfl (by (rw [hM, q3q hv hkn hL] <;> rfl)) (HE.row rfl (by (rw [hM, q3q hv hkn hL] <;> rfl)) (HE.kill rfl (HE.kill rfl HE.nil)))))), y1y, rfl⟩
   refine dc 5 (aS ?_ ?_)<;>intro h<;>try simp at h
   ·refine dv 6 ?_
    have hL : ¬ b7f v inc ver := by rintro (q | ⟨q1, q2⟩) <;> omega
    have hlow : n.low = M.low := by rw [hM, a1b hv hkn hL]
    refine dv 1 ?_
    exact ⟨(), trivial, [0, 0, 0, 0, _, _], y2y, y2y, (HE.box rfl (by rw [← hlow]; (rw [hM, a1b hv hkn hL] <;> rfl)) (HE.row rfl (by (rw [hM, a1b hv hkn hL] <;> rfl)) (HE.row rfl (by (rw [hM, a1b hv hkn hL] <;> rfl)) (HE.row rfl (by (rw [hM, a1b hv hkn hL] <;> rfl)) (HE.kill rfl (HE.kill rfl HE.nil)))))), y1y, rfl⟩
   refine dc 6 (aS ?_ ?_)<;>intro h<;>try simp at h
   ·have hL : ¬ b7f v inc ver := by rintro (q | ⟨q1, q2⟩) <;> omega
    have hlow : n.low = M.low := by rw [hM, a1b hv hkn hL]
    refine dv 1 ?_
    exact ⟨(), trivial, [0, 0, 0, 0, _, _], y2y, y2y, (HE.box rfl (by rw [← hlow]; (rw [hM, a1b hv hkn hL] <;> rfl)) (HE.row rfl (by (rw [hM, a1b hv hkn hL] <;> rfl)) (HE.row rfl (by (rw [hM, a1b hv hkn hL] <;> rfl)) (HE.row rfl (by (rw [hM, a1b hv hkn hL] <;> rfl)) (HE.kill rfl (HE.kill rfl HE.nil)))))), y1y, rfl⟩
   have hL : b7f v inc ver := .inr ⟨by omega, by omega⟩
   refine dv 6 ?_
   refine x0x rfl rfl rfl (b1e c v.events es n.g) (dc 7 (fun K K' => aS ?_ ?_))<;>intro h<;>try simp at h
   ·have hlow : n.low = M.low := by rw [hM, q3q hv hkn hL]; show _ = chg n.g v.events (chg n.g es n.low v.events) es; rw [b8y n.g v.events es (m := n.low) (by have := fS.1.2.2.2.2.2.2; omega)]; omega
    refine dv 7 ?_
    refine v4v (id := 4) w2w rfl y9y rfl (dv 1 ?_)
    refine a5x z9z (zs := es.map y3y) rfl rfl w2w rfl y9y rfl rfl rfl (w4w (fun _ => rfl) _) rfl (by simp only [a3c, T56]; omega) (Le.ow_map _ (fun _ => rfl) (fun _ => rfl)) ?_
    refine rlB p7p a4c ?_
    refine z0z (j := k) rfl rfl a9e rfl p7p rfl rfl (u3u hv) ?_
    refine w8w (el' := ⟨inc, ver, es⟩) rfl rfl p7p rfl rfl rfl hv rfl (a3p rfl) rfl rfl ?_
    refine dv 0 ?_
    exact ⟨(), trivial, [0, 0, 0, 0, _, _], y2y, y2y, (HE.box rfl (by rw [← hlow]; (rw [hM, q3q hv hkn hL] <;> rfl)) (HE.row rfl (by (rw [hM, q3q hv hkn hL] <;> rfl)) (HE.row rfl (by (rw [hM, q3q hv hkn hL] <;> rfl)) (HE.row rfl (by (rw [hM, q3q hv hkn hL] <;> rfl)) (HE.kill rfl (HE.kill rfl HE.nil)))))), y1y, rfl⟩
   have hlow : chg n.g v.events (chg n.g es 41 v.events) es = M.low := by rw [hM, q3q hv hkn hL]; show _ = chg n.g v.events (chg n.g es n.low v.events) es; rw [b8y n.g v.events es (m := n.low) (by have := fS.1.2.2.2.2.2.2; omega)]; omega
   refine dv 10 ?_
   refine v4v (id := 4) w2w rfl y9y rfl (dv 1 ?_)
   refine a5x z9z (zs := es.map y3y) rfl rfl w2w rfl y9y rfl rfl rfl (w4w (fun _ => rfl) _) rfl (by simp only [a3c, T56]; omega) (Le.ow_map _ (fun _ => rfl) (fun _ => rfl)) ?_
   refine rlB p7p a4c ?_
   refine z0z (j := k) rfl rfl a9e rfl p7p rfl rfl (u3u hv) ?_
   refine w8w (el' := ⟨inc, ver, es⟩) rfl rfl p7p rfl rfl rfl hv rfl (a3p rfl) rfl rfl ?_
   refine dv 0 ?_
   exact ⟨(), trivial, [0, 0, 0, 0, _, _], y2y, y2y, (HE.box rfl (by rw [← hlow]; (rw [hM, q3q hv hkn hL] <;> rfl)) (HE.row rfl (by (rw [hM, q3q hv hkn hL] <;> rfl)) (HE.row rfl (by (rw [hM, q3q hv hkn hL] <;> rfl)) (HE.row rfl (by (rw [hM, q3q hv hkn hL] <;> rfl)) (HE.kill rfl (HE.kill rfl HE.nil)))))), y1y, rfl⟩
  ·try dsimp only [d2l, d2m]
   obtain ⟨w1, w2, w3⟩ := d2j n k inc ver g es
   rw [← hM] at w1 w2 w3
   have hwM : wk M := by rw [hM]; exact d2i (e0c fS) hes
   have hpcM : M.lanes.length = (a0j M.id 4).length := by rw [w1, w3]; exact fS.2.2.2.2.1
   have hwA : wk (nl M (v6v M M.lanes)) := c5j _ (Nat.le_refl _) hwM
   have hLA : (v6v M M.lanes).length ≤ 4 := hwA.1
   refine dv 3 ?_
   refine rlM [6, 7, 8] [_, _, _] (c1n M hwM) rfl rfl rfl ?_
   refine rlM [6, 7, 8] [_, _, _] (b8j c n (nl M (v6v M M.lanes)) (e0c fS) hwA w1.symm ⟨by omega, by omega⟩) rfl rfl rfl ?_
   refine dv 2 fun K K' => ?_
   refine b1t (b := c6p true (c0z n M).lanes) 2 4 rfl rfl rfl (.ref rfl (Le.ow_map _ (fun _ => rfl) (fun _ => rfl)) .nil) rfl rfl rfl rfl ?_
   refine b1t (b := c6q true (c0z n M).views) 2 9 rfl rfl rfl (.ref rfl (Le.ow_map _ (fun _ => rfl) (fun _ => rfl)) .nil) rfl rfl rfl rfl ?_
   refine b1t (b := a5d true (c0z n M).known) 2 10 rfl rfl rfl (.ref rfl (Le.ow_map _ (fun _ => rfl) (fun _ => rfl)) .nil) rfl rfl rfl rfl ?_
   refine dv 2 ?_
   refine x0x rfl rfl rfl (a1p true (c0z n M)) ?_
   refine dc 1 (aI ?_ ?_)<;>intro hc31<;>try simp at hc31
   ·have fX2 : ¬ w3w (c0z n M) := a4s (by simpa using hc31)
    refine dv 2 ?_
    refine rlM [9, 10, 11] [_, _, _] (z7z c n fb) rfl rfl rfl ?_
    refine dv 2 ?_
    (rw [d7r fK fH, ← hM, c0x fX2]; exact ⟨_, _, rfl, c1a (n := n) rfl rfl rfl⟩)
   have fK2 : w3w (c0z n M) := a4r.1 (by simpa using hc31)
   have fb2 := d0e fK2.1
   refine dv 3 ?_
   refine rlM [9, 10, 11] [_, _, _] (z7z true (c0z n M) fb2) rfl rfl rfl ?_
   refine dv 2 ?_
   (rw [d7r fK fH, ← hM, c0w fK2]; exact ⟨_, _, rfl, c1a (n := c0z n M) rfl rfl rfl⟩)
end
section
theorem c1p (c : Bool) (n : Nd) (w : Wo) : r0r Tryz.prog 74 [.agg (r4r c n), .agg (a5z c w)] (.tup [.agg (r4r true (y4y n w).1), b8e true (y4y n w).2]) := by
 refine pX Tryz.f74 [.agg (r4r true (y4y n w).1), b8e true (y4y n w).2] 12 ?_
 refine dv 1 ?_
 refine x9x (id := 0) rfl rfl rfl (x9x (id := 1) rfl rfl rfl (x3x (id := 2) a0o a0p rfl (dv 2 ?_)))
 refine v4v (id := 3) b1g rfl a0v rfl (dv 4 fun K K' => ?_)
 refine x0x rfl rfl rfl (a1p ..) (dc 1 (aI ?_ ?_))<;>intro hc2<;>try simp at hc2
 ·have fX : ¬ w3w n := a4s (by simpa using hc2)
  refine dv 1 ?_
  refine rlB a0o a0p ?_
  refine dv 4 ?_
  (rw [d8e fX]; exact ⟨_, _, rfl, d0l (b7h (l := ([] : List Wo)) rfl .nil)⟩)
 have fK : w3w n := a4r.1 (by simpa using hc2)
 have fS := fK.1
 have fb := d0e fS
 refine dc 7 (fun K K' => aS ?_ ?_)<;>intro hg4<;>try simp at hg4
 ·have fU : ¬ a3i n w := fun h => by have := h.1; simp_all
  refine dv 18 ?_
  try have fU : ¬ a3i n w := fun h => by have := h.2.2.1; have := h.2.2.2; omega
  refine dv 2 ?_
  refine rlM [9, 10, 11] [_, _, _] (z7z c n fb) rfl rfl rfl ?_
  refine dv 4 ?_
  (rw [b6f fK fU]; exact ⟨_, _, rfl, a3h rfl rfl rfl (b7h (l := ([] : List Wo)) rfl .nil)⟩)
 have fUp : n.up = true := hg4
 refine dv 1 ?_
 refine x0x rfl rfl rfl (c6l ..) (dc 3 (aS ?_ ?_))<;>intro hg5<;>try simp at hg5
 ·try have fU : ¬ a3i n w := fun h => absurd h.2.1 hg5
  refine dv 13 ?_
  try have fU : ¬ a3i n w := fun h => by have := h.2.2.1; have := h.2.2.2; omega
  refine dv 2 ?_
  refine rlM [9, 10, 11] [_, _, _] (z7z c n fb) rfl rfl rfl ?_
  refine dv 4 ?_
  (rw [b6f fK fU]; exact ⟨_, _, rfl, a3h rfl rfl rfl (b7h (l := ([] : List Wo)) rfl .nil)⟩)
 have fW : b2e w := hg5
 refine dc 7 (aS ?_ ?_)<;>intro j<;>try simp at j
 ·try have fU : ¬ a3i n w := fun h => by have := h.2.2.1; omega
  refine dv 6 ?_
  try have fU : ¬ a3i n w := fun h => by have := h.2.2.1; have := h.2.2.2; omega
  refine dv 2 ?_
  refine rlM [9, 10, 11] [_, _, _] (z7z c n fb) rfl rfl rfl ?_
  refine dv 4 ?_
  (rw [b6f fK fU]; exact ⟨_, _, rfl, a3h rfl rfl rfl (b7h (l := ([] : List Wo)) rfl .nil)⟩)
 refine dc 6 (aI ?_ ?_)<;>intro j<;>try simp at j
 ·try have fU : ¬ a3i n w := fun h => by have := h.2.2.1; have := h.2.2.2; omega
  refine dv 2 ?_
  refine rlM [9, 10, 11] [_, _, _] (z7z c n fb) rfl rfl rfl ?_
  refine dv 4 ?_
  (rw [b6f fK fU]; exact ⟨_, _, rfl, a3h rfl rfl rfl (b7h (l := ([] : List Wo)) rfl .nil)⟩)
 have fM : a3i n w := ⟨fUp, fW, by omega, by omega⟩
 refine dc 9 (fun K K' => aI ?_ ?_)<;>intro hc9<;>try simp at hc9
 ·have k1 : w.kind = 1 := hc9
  refine dv 12 ?_
  refine x0x rfl rfl rfl (c1o c n w.from' w.inc w.version w.g w.events) ?_
  refine dv 4 ?_
  (rw [a4u fK fM, d0n k1]; exact ⟨_, _, rfl, d8g (b7h (l := ([] : List Wo)) rfl .nil)⟩)
 have n1 : ¬ w.kind = 1 := hc9
 refine dc 3 (aI ?_ ?_)<;>intro hc10<;>try simp at hc10
 ·have k2 : w.kind = 2 := hc10
  refine dv 4 ?_
  refine x0x rfl rfl rfl (b7q ..) (dv 4 ?_)
  refine x3x (id := 4) a0o a0p rfl (x3x (id := 5) a0v a9f rfl (dc 5 (aI ?_ ?_)))<;>intro hc11<;>try simp at hc11
  ·have hr : (x7x n w.round).2.2 = true := hc11
   refine dv 3 ?_
   refine v7v (id := 6) b1g rfl a0v rfl rfl rfl rfl rfl rfl (dv 3 ?_)
   (rw [a4u fK fM, c5n k2 hr]; exact ⟨_, _, rfl, d8g (b7h (l := [(x7x n w.round).2.1]) rfl .nil)⟩)
  have hr : ¬ (x7x n w.round).2.2 = true := by simpa using hc11
  have hE : y4y n w = (n, []) := by rw [a4u fK fM, c5o k2 hr]
  refine dv 3 ?_
  refine rlM [9, 10, 11] [_, _, _] (z7z c n fb) rfl rfl rfl ?_
  refine dv 4 ?_
  (rw [hE]; exact ⟨_, _, rfl, a3h rfl rfl rfl (b7h (l := ([] : List Wo)) rfl .nil)⟩)
 have n2 : ¬ w.kind = 2 := hc10
 refine dc 3 (aS ?_ ?_)<;>intro hc12<;>try simp at hc12
 ·have n4 : ¬ w.kind = 4 := hc12
  refine dc 3 (aS ?_ ?_)<;>intro hc16<;>try simp at hc16
  ·have n6 : ¬ w.kind = 6 := hc16
   have hE : y4y n w = (n, []) := by rw [a4u fK fM, c5s n1 n2 n4 n6]
   refine dv 3 ?_
   refine rlM [9, 10, 11] [_, _, _] (z7z c n fb) rfl rfl rfl ?_
   refine dv 4 ?_
   (rw [hE]; exact ⟨_, _, rfl, a3h rfl rfl rfl (b7h (l := ([] : List Wo)) rfl .nil)⟩)
  have k6 : w.kind = 6 := hc16
  refine dc 6 (aS ?_ ?_)<;>intro hc17<;>try simp at hc17
  ·have h6 : ¬ w.inc = n.inc := hc17
   have hE : y4y n w = (n, []) := by rw [a4u fK fM, c5r k6 h6]
   refine dv 3 ?_
   refine rlM [9, 10, 11] [_, _, _] (z7z c n fb) rfl rfl rfl ?_
   refine dv 4 ?_
   (rw [hE]; exact ⟨_, _, rfl, a3h rfl rfl rfl (b7h (l := ([] : List Wo)) rfl .nil)⟩)
  have h6 : w.inc = n.inc := hc17
  refine dv 6 ?_
  refine x0x rfl rfl rfl (b7s ..) (dv 3 ?_)
  refine x3x (id := 8) a0o a0p rfl (dv 8 ?_)
  (rw [a4u fK fM, c5q k6 h6]; exact ⟨_, _, rfl, d8g (b7h (l := ([] : List Wo)) rfl .nil)⟩)
 have k4 : w.kind = 4 := hc12
 refine dc 7 (aS ?_ ?_)<;>intro j<;>try simp at j
 ·refine dv 4 ?_
  have h4 : ¬ (w.round = n.round ∧ 0 < w.round) := by omega
  have hE : y4y n w = (n, []) := by rw [a4u fK fM, b6g k4 h4]
  refine dv 3 ?_
  refine rlM [9, 10, 11] [_, _, _] (z7z c n fb) rfl rfl rfl ?_
  refine dv 4 ?_
  (rw [hE]; exact ⟨_, _, rfl, a3h rfl rfl rfl (b7h (l := ([] : List Wo)) rfl .nil)⟩)
 refine dc 4 (aS ?_ ?_)<;>intro j<;>try simp at j
 ·have h4 : ¬ (w.round = n.round ∧ 0 < w.round) := by omega
  have hE : y4y n w = (n, []) := by rw [a4u fK fM, b6g k4 h4]
  refine dv 3 ?_
  refine rlM [9, 10, 11] [_, _, _] (z7z c n fb) rfl rfl rfl ?_
  refine dv 4 ?_
  (rw [hE]; exact ⟨_, _, rfl, a3h rfl rfl rfl (b7h (l := ([] : List Wo)) rfl .nil)⟩)
 have h4 : w.round = n.round ∧ 0 < w.round := by omega
 refine dv 2 ?_
 refine rlM [9, 10, 11] [_, _, _] (z7z c n fb) rfl rfl rfl ?_
 refine dv 8 ?_
 refine rlB a0v a9f ?_
 refine v7v (id := 7) b1g rfl a0v rfl rfl rfl rfl rfl rfl (dv 3 ?_)
 (rw [a4u fK fM, c5p k4 h4]; exact ⟨_, _, rfl, a3h rfl rfl rfl (e8s (k := 5) (f := n.id) (t := 0) (i := n.inc) (v := n.version) (r := n.round) (g := 0) rfl .nil)⟩)
end
section
theorem a2v (l : List Int) (k : Nat) (hk : k + szs zI l ≤ 1000000000) : Meth Tryz.prog 197 1 [0] [.ref 0 0, .pv (.int .i64 (k : Int))] [(0, (0, .row 3 1 (l.map r5r)))] (.pv (.int .i64 ((k + szs zI l : Nat) : Int))) [(0, (0, .row 3 1 ((mks zI kI k l).map r5r)))] := by
 refine mX Tryz.f197 [.pv (.int .i64 ((k + szs zI l : Nat) : Int))] 1 0 fun γ => ?_
 have hml := a4o zI kI k l
 have hll := a4p zI (fun p => by unfold zI; omega) l
 refine dv 6 fun K K' => ?_
 refine x4x (ι := Nat) (fun i γ1 => [(1, pI ((k + szs zI (l.take i) : Nat) : Int)), (5, pI (i : Int))]) (fun i γ1 => [(0, ((γ 0), .row 3 1 (((mks zI kI k l).take i).map r5r ++ (l.drop i).map r5r)))]) (fun i => i ≤ l.length) (fun i => l.length - i) (x5x 0 rfl Cov.nil) HE.nil 0 (by omega) [] (Cov.cons' (t := 1) rfl (by rw [List.take_zero]; rfl) (x5x 5 rfl Cov.nil)) (HE.row rfl (by rw [List.take_zero, List.drop_zero]; rfl) HE.nil) rfl fun i γ1 hi => ?_
 refine dv 4 fun K K' => ?_
 refine a9x (n := l.length) rfl a0i rfl rfl (by rw [List.length_append, List.length_map, List.length_map, List.length_take, List.length_drop]; omega) ?_
 refine dc 1 (aS ?_ ?_)<;>intro h<;>try simp at h
 ·obtain rfl : i = l.length := by omega
  refine dv 5 ?_
  exact ⟨[γ 0], rfl, congrArg (fun v : Nat => some [AV.pv (.int .i64 (v : Int))]) (by rw [List.take_length]), HE.row rfl (by rw [List.take_of_length_le (by omega), List.drop_length, List.map_nil, List.append_nil]) HE.nil⟩
 obtain ⟨p, hp⟩ := gE l i
 have hmk := a4q zI kI (k := k) hp
 have hat := a2n zI hp
 have hzp : zI p = 1 := rfl
 have hAl : (((mks zI kI k l).take i).map r5r).length = i := by rw [List.length_map, List.length_take]; omega
 rw [v1v hp, List.map_cons]
 rw [show r5r p = [pI p] from rfl]
 obtain ⟨q, hq⟩ : ∃ q, q = k + szs zI (l.take i) := ⟨_, rfl⟩
 rw [← hq] at hmk ⊢
 refine dv 7 fun K K' => ?_
 refine u0u rfl rfl a0i rfl w1w rfl rfl hAl (z6z hAl rfl rfl w1w rfl rfl rfl rfl rfl rfl rfl (by simp only [b0t]; rfl) ?_)
 refine dv 2 ?_
 refine x2x (b := 1) rfl rfl (by omega) (dv 3 ?_)
 refine x2x (b := 1) rfl rfl (by omega) (dv 1 ?_)
 exact ⟨i + 1, ⟨by omega, by omega⟩, [], (Cov.cons' (t := 1) rfl (by rw [r6r zI hp]; exact congrArg (fun v : Nat => AV.pv (.int .i64 (v : Int))) (by omega)) (x5x 5 rfl Cov.nil)), (x5x 0 rfl Cov.nil), (HE.row rfl (by rw [z3z hmk, List.map_append, List.append_assoc]; rfl) HE.nil), HE.nil, rfl⟩
theorem a1e (l : List Ev) (k : Nat) (hk : k + szs zEv l ≤ 1000000000) : Meth Tryz.prog 195 1 [0] [.ref 0 0, .pv (.int .i64 (k : Int))] [(0, (0, .row 56 7 (l.map y3y)))] (.pv (.int .i64 ((k + szs zEv l : Nat) : Int))) [(0, (0, .row 56 7 ((mks zEv kEv k l).map y3y)))] := by
 refine u9u z9z (fn := Tryz.f195) (by kernel_rfl) (by kernel_rfl) rfl (O0 := [.pv (.int .i64 ((k + szs zEv l : Nat) : Int))]) 1 0 (a0w rfl) (by rfl) (by repeat (first | exact BndH.nil | refine BndH.row (y5y fun _ => rfl) ?_)) (by repeat (first | exact BndH.nil | refine BndH.row (y5y fun _ => rfl) ?_)) (by rfl) fun γ => ?_
 show Ex Tryz.prog _ _ [(0, .ref 0 (γ 0)), (1, .pv (.int .i64 (k : Int)))] [(0, ((γ 0), .row 56 7 (l.map y3y)))] _
 have hml := a4o zEv kEv k l
 have hll := a4p zEv (fun p => by unfold zEv; omega) l
 refine dv 6 fun K K' => ?_
 refine x4x (ι := Nat) (fun i γ1 => [(1, pI ((k + szs zEv (l.take i) : Nat) : Int)), (5, pI (i : Int))]) (fun i γ1 => [(0, ((γ 0), .row 56 7 (((mks zEv kEv k l).take i).map y3y ++ (l.drop i).map y3y)))]) (fun i => i ≤ l.length) (fun i => l.length - i) (x5x 0 rfl Cov.nil) HE.nil 0 (by omega) [] (Cov.cons' (t := 1) rfl (by rw [List.take_zero]; rfl) (x5x 5 rfl Cov.nil)) (HE.row rfl (by rw [List.take_zero, List.drop_zero]; rfl) HE.nil) rfl fun i γ1 hi => ?_
 refine dv 4 fun K K' => ?_
 refine a9x (n := l.length) rfl w2w rfl rfl (by rw [List.length_append, List.length_map, List.length_map, List.length_take, List.length_drop]; omega) ?_
 refine dc 1 (aS ?_ ?_)<;>intro h<;>try simp at h
 ·obtain rfl : i = l.length := by omega
  refine dv 5 ?_
  exact ⟨[γ 0], rfl, congrArg (fun v : Nat => some [AV.pv (.int .i64 (v : Int))]) (by rw [List.take_length]), HE.row rfl (by rw [List.take_of_length_le (by omega), List.drop_length, List.map_nil, List.append_nil]) HE.nil⟩
 obtain ⟨p, hp⟩ := gE l i
 have hmk := a4q zEv kEv (k := k) hp
 have hat := a2n zEv hp
 have hzp : zEv p = 7 := rfl
 have hAl : (((mks zEv kEv k l).take i).map y3y).length = i := by rw [List.length_map, List.length_take]; omega
 rw [v1v hp, List.map_cons]
 rw [show y3y p = [pI p.time, pI p.to, pI p.from', pI p.count, pI p.n, pI p.kind, pI p.arg] from rfl]
 obtain ⟨q, hq⟩ : ∃ q, q = k + szs zEv (l.take i) := ⟨_, rfl⟩
 rw [← hq] at hmk ⊢
 refine dv 7 fun K K' => ?_
 refine u0u rfl rfl w2w rfl y9y rfl rfl hAl (x8x rfl y9y rfl rfl w1w rfl rfl (z6z hAl rfl rfl w1w rfl rfl rfl rfl rfl rfl rfl (by simp only [b0t]; rfl) ?_))
 refine dv 2 ?_
 refine x2x (b := 1) rfl rfl (by omega) (dv 5 ?_)
 refine u0u rfl rfl w2w rfl y9y rfl rfl hAl (x8x rfl y9y rfl rfl w1w rfl rfl (z6z hAl rfl rfl w1w rfl rfl rfl rfl rfl rfl rfl (by simp only [b0t]; rfl) ?_))
 refine dv 2 ?_
 refine x2x (b := 1) rfl rfl (by omega) (dv 5 ?_)
 refine u0u rfl rfl w2w rfl y9y rfl rfl hAl (x8x rfl y9y rfl rfl w1w rfl rfl (z6z hAl rfl rfl w1w rfl rfl rfl rfl rfl rfl rfl (by simp only [b0t]; rfl) ?_))
 refine dv 2 ?_
 refine x2x (b := 1) rfl rfl (by omega) (dv 5 ?_)
 refine u0u rfl rfl w2w rfl y9y rfl rfl hAl (x8x rfl y9y rfl rfl w1w rfl rfl (z6z hAl rfl rfl w1w rfl rfl rfl rfl rfl rfl rfl (by simp only [b0t]; rfl) ?_))
 refine dv 2 ?_
 refine x2x (b := 1) rfl rfl (by omega) (dv 5 ?_)
 refine u0u rfl rfl w2w rfl y9y rfl rfl hAl (x8x rfl y9y rfl rfl w1w rfl rfl (z6z hAl rfl rfl w1w rfl rfl rfl rfl rfl rfl rfl (by simp only [b0t]; rfl) ?_))
 refine dv 2 ?_
 refine x2x (b := 1) rfl rfl (by omega) (dv 5 ?_)
 refine u0u rfl rfl w2w rfl y9y rfl rfl hAl (x8x rfl y9y rfl rfl w1w rfl rfl (z6z hAl rfl rfl w1w rfl rfl rfl rfl rfl rfl rfl (by simp only [b0t]; rfl) ?_))
 refine dv 2 ?_
 refine x2x (b := 1) rfl rfl (by omega) (dv 5 ?_)
 refine u0u rfl rfl w2w rfl y9y rfl rfl hAl (x8x rfl y9y rfl rfl w1w rfl rfl (z6z hAl rfl rfl w1w rfl rfl rfl rfl rfl rfl rfl (by simp only [b0t]; rfl) ?_))
 refine dv 2 ?_
 refine x2x (b := 1) rfl rfl (by omega) (dv 3 ?_)
 refine x2x (b := 1) rfl rfl (by omega) (dv 1 ?_)
 exact ⟨i + 1, ⟨by omega, by omega⟩, [], (Cov.cons' (t := 1) rfl (by rw [r6r zEv hp]; exact congrArg (fun v : Nat => AV.pv (.int .i64 (v : Int))) (by omega)) (x5x 5 rfl Cov.nil)), (x5x 0 rfl Cov.nil), (HE.row rfl (by rw [z3z hmk, List.map_append, List.append_assoc]; rfl) HE.nil), HE.nil, rfl⟩
theorem a5b (l : List Ou) (k : Nat) (hk : k + szs zOu l ≤ 1000000000) : Meth Tryz.prog 102 1 [0] [.ref 0 0, .pv (.int .i64 (k : Int))] [(0, (0, .row 141 5 (l.map v8v)))] (.pv (.int .i64 ((k + szs zOu l : Nat) : Int))) [(0, (0, .row 141 5 ((mks zOu kOu k l).map v8v)))] := by
 refine u9u z9z (fn := Tryz.f102) (by kernel_rfl) (by kernel_rfl) rfl (O0 := [.pv (.int .i64 ((k + szs zOu l : Nat) : Int))]) 1 0 (a0w rfl) (by rfl) (by repeat (first | exact BndH.nil | refine BndH.row (y5y fun _ => rfl) ?_)) (by repeat (first | exact BndH.nil | refine BndH.row (y5y fun _ => rfl) ?_)) (by rfl) fun γ => ?_
 show Ex Tryz.prog _ _ [(0, .ref 0 (γ 0)), (1, .pv (.int .i64 (k : Int)))] [(0, ((γ 0), .row 141 5 (l.map v8v)))] _
 have hml := a4o zOu kOu k l
 have hll := a4p zOu (fun p => by unfold zOu; omega) l
 refine dv 6 fun K K' => ?_
 refine x4x (ι := Nat) (fun i γ1 => [(1, pI ((k + szs zOu (l.take i) : Nat) : Int)), (5, pI (i : Int))]) (fun i γ1 => [(0, ((γ 0), .row 141 5 (((mks zOu kOu k l).take i).map v8v ++ (l.drop i).map v8v)))]) (fun i => i ≤ l.length) (fun i => l.length - i) (x5x 0 rfl Cov.nil) HE.nil 0 (by omega) [] (Cov.cons' (t := 1) rfl (by rw [List.take_zero]; rfl) (x5x 5 rfl Cov.nil)) (HE.row rfl (by rw [List.take_zero, List.drop_zero]; rfl) HE.nil) rfl fun i γ1 hi => ?_
 refine dv 4 fun K K' => ?_
 refine a9x (n := l.length) rfl q5q rfl rfl (by rw [List.length_append, List.length_map, List.length_map, List.length_take, List.length_drop]; omega) ?_
 refine dc 1 (aS ?_ ?_)<;>intro h<;>try simp at h
 ·obtain rfl : i = l.length := by omega
  refine dv 5 ?_
  exact ⟨[γ 0], rfl, congrArg (fun v : Nat => some [AV.pv (.int .i64 (v : Int))]) (by rw [List.take_length]), HE.row rfl (by rw [List.take_of_length_le (by omega), List.drop_length, List.map_nil, List.append_nil]) HE.nil⟩
 obtain ⟨p, hp⟩ := gE l i
 have hmk := a4q zOu kOu (k := k) hp
 have hat := a2n zOu hp
 have hzp : zOu p = 5 := rfl
 have hAl : (((mks zOu kOu k l).take i).map v8v).length = i := by rw [List.length_map, List.length_take]; omega
 rw [v1v hp, List.map_cons]
 rw [show v8v p = [pI p.time, pI p.proc, pI p.count, pI p.n, pI p.value] from rfl]
 obtain ⟨q, hq⟩ : ∃ q, q = k + szs zOu (l.take i) := ⟨_, rfl⟩
 rw [← hq] at hmk ⊢
 refine dv 7 fun K K' => ?_
 refine u0u rfl rfl q5q rfl u1u rfl rfl hAl (x8x rfl u1u rfl rfl w1w rfl rfl (z6z hAl rfl rfl w1w rfl rfl rfl rfl rfl rfl rfl (by simp only [b0t]; rfl) ?_))
 refine dv 2 ?_
 refine x2x (b := 1) rfl rfl (by omega) (dv 5 ?_)
 refine u0u rfl rfl q5q rfl u1u rfl rfl hAl (x8x rfl u1u rfl rfl w1w rfl rfl (z6z hAl rfl rfl w1w rfl rfl rfl rfl rfl rfl rfl (by simp only [b0t]; rfl) ?_))
 refine dv 2 ?_
 refine x2x (b := 1) rfl rfl (by omega) (dv 5 ?_)
 refine u0u rfl rfl q5q rfl u1u rfl rfl hAl (x8x rfl u1u rfl rfl w1w rfl rfl (z6z hAl rfl rfl w1w rfl rfl rfl rfl rfl rfl rfl (by simp only [b0t]; rfl) ?_))
 refine dv 2 ?_
 refine x2x (b := 1) rfl rfl (by omega) (dv 5 ?_)
 refine u0u rfl rfl q5q rfl u1u rfl rfl hAl (x8x rfl u1u rfl rfl w1w rfl rfl (z6z hAl rfl rfl w1w rfl rfl rfl rfl rfl rfl rfl (by simp only [b0t]; rfl) ?_))
 refine dv 2 ?_
 refine x2x (b := 1) rfl rfl (by omega) (dv 5 ?_)
 refine u0u rfl rfl q5q rfl u1u rfl rfl hAl (x8x rfl u1u rfl rfl w1w rfl rfl (z6z hAl rfl rfl w1w rfl rfl rfl rfl rfl rfl rfl (by simp only [b0t]; rfl) ?_))
 refine dv 2 ?_
 refine x2x (b := 1) rfl rfl (by omega) (dv 3 ?_)
 refine x2x (b := 1) rfl rfl (by omega) (dv 1 ?_)
 exact ⟨i + 1, ⟨by omega, by omega⟩, [], (Cov.cons' (t := 1) rfl (by rw [r6r zOu hp]; exact congrArg (fun v : Nat => AV.pv (.int .i64 (v : Int))) (by omega)) (x5x 5 rfl Cov.nil)), (x5x 0 rfl Cov.nil), (HE.row rfl (by rw [z3z hmk, List.map_append, List.append_assoc]; rfl) HE.nil), HE.nil, rfl⟩
theorem b8k (l : List Pa) (k : Nat) (hk : k + szs zPa l ≤ 1000000000) : Meth Tryz.prog 267 1 [0] [.ref 0 0, .pv (.int .i64 (k : Int))] [(0, (0, .row 58 12 (l.map a3g)))] (.pv (.int .i64 ((k + szs zPa l : Nat) : Int))) [(0, (0, .row 58 12 ((mks zPa kPa k l).map a3g)))] := by
 refine u9u z9z (fn := Tryz.f267) (by kernel_rfl) (by kernel_rfl) rfl (O0 := [.pv (.int .i64 ((k + szs zPa l : Nat) : Int))]) 1 1 (a0w rfl) (by rfl) (by repeat (first | exact BndH.nil | refine BndH.row (y5y fun _ => rfl) ?_)) (by repeat (first | exact BndH.nil | refine BndH.row (y5y fun _ => rfl) ?_)) (by rfl) fun γ => ?_
 show Ex Tryz.prog _ _ [(0, .ref 0 (γ 0)), (1, .pv (.int .i64 (k : Int)))] [(0, ((γ 0), .row 58 12 (l.map a3g))), (1, (0, .dead))] _
 have hml := a4o zPa kPa k l
 have hll := a4p zPa (fun p => by unfold zPa; omega) l
 refine dv 6 fun K K' => ?_
 refine x4x (ι := Nat) (fun i γ1 => [(1, pI ((k + szs zPa (l.take i) : Nat) : Int)), (5, pI (i : Int))]) (fun i γ1 => [(1, ((γ1 1), .dead)), (0, ((γ 0), .row 58 12 (((mks zPa kPa k l).take i).map a3g ++ (l.drop i).map a3g)))]) (fun i => i ≤ l.length) (fun i => l.length - i) (x5x 0 rfl Cov.nil) HE.nil 0 (by omega) [0, _] (Cov.cons' (t := 1) rfl (by rw [List.take_zero]; rfl) (x5x 5 rfl Cov.nil)) (HE.kill rfl (HE.row rfl (by rw [List.take_zero, List.drop_zero]; rfl) HE.nil)) rfl fun i γ1 hi => ?_
 refine dv 4 fun K K' => ?_
 refine a9x (n := l.length) rfl a1m rfl rfl (by rw [List.length_append, List.length_map, List.length_map, List.length_take, List.length_drop]; omega) ?_
 refine dc 1 (aS ?_ ?_)<;>intro h<;>try simp at h
 ·obtain rfl : i = l.length := by omega
  refine dv 5 ?_
  exact ⟨[γ 0], rfl, congrArg (fun v : Nat => some [AV.pv (.int .i64 (v : Int))]) (by rw [List.take_length]), HE.row rfl (by rw [List.take_of_length_le (by omega), List.drop_length, List.map_nil, List.append_nil]) HE.nil⟩
 obtain ⟨p, hp⟩ := gE l i
 have hmk := a4q zPa kPa (k := k) hp
 have hat := a2n zPa hp
 have hzp : zPa p = 10 + szs zEv p.sends + szs zOu p.outs := rfl
 have hAl : (((mks zPa kPa k l).take i).map a3g).length = i := by rw [List.length_map, List.length_take]; omega
 rw [v1v hp, List.map_cons]
 rw [show a3g p = [pI p.ev.time, pI p.ev.to, pI p.ev.from', pI p.ev.count, pI p.ev.n, pI p.ev.kind, pI p.ev.arg, pI p.after.x, pI p.after.y, pI p.after.count, .row .ow 56 7 (p.sends.map y3y), .row .ow 141 5 (p.outs.map v8v)] from rfl]
 obtain ⟨q, hq⟩ : ∃ q, q = k + szs zPa (l.take i) := ⟨_, rfl⟩
 rw [← hq] at hmk ⊢
 refine dv 7 fun K K' => ?_
 refine u0u rfl rfl a1m rfl s1s rfl rfl hAl (x8x rfl s1s rfl rfl y9y rfl rfl (x8x rfl y9y rfl rfl w1w rfl rfl (z6z hAl rfl rfl w1w rfl rfl rfl rfl rfl rfl rfl (by simp only [b0t]; rfl) ?_)))
 refine dv 2 ?_
 refine x2x (b := 1) rfl rfl (by omega) (dv 5 ?_)
 refine u0u rfl rfl a1m rfl s1s rfl rfl hAl (x8x rfl s1s rfl rfl y9y rfl rfl (x8x rfl y9y rfl rfl w1w rfl rfl (z6z hAl rfl rfl w1w rfl rfl rfl rfl rfl rfl rfl (by simp only [b0t]; rfl) ?_)))
 refine dv 2 ?_
 refine x2x (b := 1) rfl rfl (by omega) (dv 5 ?_)
 refine u0u rfl rfl a1m rfl s1s rfl rfl hAl (x8x rfl s1s rfl rfl y9y rfl rfl (x8x rfl y9y rfl rfl w1w rfl rfl (z6z hAl rfl rfl w1w rfl rfl rfl rfl rfl rfl rfl (by simp only [b0t]; rfl) ?_)))
 refine dv 2 ?_
 refine x2x (b := 1) rfl rfl (by omega) (dv 5 ?_)
 refine u0u rfl rfl a1m rfl s1s rfl rfl hAl (x8x rfl s1s rfl rfl y9y rfl rfl (x8x rfl y9y rfl rfl w1w rfl rfl (z6z hAl rfl rfl w1w rfl rfl rfl rfl rfl rfl rfl (by simp only [b0t]; rfl) ?_)))
 refine dv 2 ?_
 refine x2x (b := 1) rfl rfl (by omega) (dv 5 ?_)
 refine u0u rfl rfl a1m rfl s1s rfl rfl hAl (x8x rfl s1s rfl rfl y9y rfl rfl (x8x rfl y9y rfl rfl w1w rfl rfl (z6z hAl rfl rfl w1w rfl rfl rfl rfl rfl rfl rfl (by simp only [b0t]; rfl) ?_)))
 refine dv 2 ?_
 refine x2x (b := 1) rfl rfl (by omega) (dv 5 ?_)
 refine u0u rfl rfl a1m rfl s1s rfl rfl hAl (x8x rfl s1s rfl rfl y9y rfl rfl (x8x rfl y9y rfl rfl w1w rfl rfl (z6z hAl rfl rfl w1w rfl rfl rfl rfl rfl rfl rfl (by simp only [b0t]; rfl) ?_)))
 refine dv 2 ?_
 refine x2x (b := 1) rfl rfl (by omega) (dv 5 ?_)
 refine u0u rfl rfl a1m rfl s1s rfl rfl hAl (x8x rfl s1s rfl rfl y9y rfl rfl (x8x rfl y9y rfl rfl w1w rfl rfl (z6z hAl rfl rfl w1w rfl rfl rfl rfl rfl rfl rfl (by simp only [b0t]; rfl) ?_)))
 refine dv 2 ?_
 refine x2x (b := 1) rfl rfl (by omega) (dv 5 ?_)
 refine u0u rfl rfl a1m rfl s1s rfl rfl hAl (x8x rfl s1s rfl rfl a1l rfl rfl (x8x rfl a1l rfl rfl w1w rfl rfl (z6z hAl rfl rfl w1w rfl rfl rfl rfl rfl rfl rfl (by simp only [b0t]; rfl) ?_)))
 refine dv 2 ?_
 refine x2x (b := 1) rfl rfl (by omega) (dv 5 ?_)
 refine u0u rfl rfl a1m rfl s1s rfl rfl hAl (x8x rfl s1s rfl rfl a1l rfl rfl (x8x rfl a1l rfl rfl w1w rfl rfl (z6z hAl rfl rfl w1w rfl rfl rfl rfl rfl rfl rfl (by simp only [b0t]; rfl) ?_)))
 refine dv 2 ?_
 refine x2x (b := 1) rfl rfl (by omega) (dv 5 ?_)
 refine u0u rfl rfl a1m rfl s1s rfl rfl hAl (x8x rfl s1s rfl rfl a1l rfl rfl (x8x rfl a1l rfl rfl w1w rfl rfl (z6z hAl rfl rfl w1w rfl rfl rfl rfl rfl rfl rfl (by simp only [b0t]; rfl) ?_)))
 refine dv 2 ?_
 refine x2x (b := 1) rfl rfl (by omega) (dv 1 ?_)
 refine a5r 0 10 1 hAl rfl rfl rfl rfl rfl (dv 3 ?_)
 refine u0u rfl rfl a1m rfl s1s rfl rfl hAl (dv 1 ?_)
 refine a7y hAl rfl w2w rfl rfl (dv 1 ?_)
 refine rlM [1] [_] (a1e p.sends (q + 10) (by omega)) rfl rfl rfl ?_
 refine dv 1 ?_
 refine a7z 0 10 1 hAl rfl rfl rfl (y5y fun _ => rfl) rfl rfl ?_
 refine a5r 0 11 1 hAl rfl rfl rfl rfl rfl (dv 3 ?_)
 refine u0u rfl rfl a1m rfl s1s rfl rfl hAl (dv 1 ?_)
 refine a7y hAl rfl q5q rfl rfl (dv 1 ?_)
 refine rlM [1] [_] (a5b p.outs (q + 10 + szs zEv p.sends) (by omega)) rfl rfl rfl ?_
 refine dv 1 ?_
 refine a7z 0 11 1 hAl rfl rfl rfl (y5y fun _ => rfl) rfl rfl ?_
 refine dv 2 ?_
 refine x2x (b := 1) rfl rfl (by omega) (dv 1 ?_)
 exact ⟨i + 1, ⟨by omega, by omega⟩, [0, _], (Cov.cons' (t := 1) rfl (by rw [r6r zPa hp]; exact congrArg (fun v : Nat => AV.pv (.int .i64 (v : Int))) (by omega)) (x5x 5 rfl Cov.nil)), (x5x 0 rfl Cov.nil), (HE.kill rfl (HE.row rfl (by rw [z3z hmk, List.map_append, List.append_assoc]; rfl) HE.nil)), HE.nil, rfl⟩
theorem b8l (l : List La) (k : Nat) (hk : k + szs zLa l ≤ 1000000000) : Meth Tryz.prog 194 1 [0] [.ref 0 0, .pv (.int .i64 (k : Int))] [(0, (0, .row 44 5 (l.map a0l)))] (.pv (.int .i64 ((k + szs zLa l : Nat) : Int))) [(0, (0, .row 44 5 ((mks zLa kLa k l).map a0l)))] := by
 refine u9u z9z (fn := Tryz.f194) (by kernel_rfl) (by kernel_rfl) rfl (O0 := [.pv (.int .i64 ((k + szs zLa l : Nat) : Int))]) 1 1 (a0w rfl) (by rfl) (by repeat (first | exact BndH.nil | refine BndH.row (y5y fun _ => rfl) ?_)) (by repeat (first | exact BndH.nil | refine BndH.row (y5y fun _ => rfl) ?_)) (by rfl) fun γ => ?_
 show Ex Tryz.prog _ _ [(0, .ref 0 (γ 0)), (1, .pv (.int .i64 (k : Int)))] [(0, ((γ 0), .row 44 5 (l.map a0l))), (1, (0, .dead))] _
 have hml := a4o zLa kLa k l
 have hll := a4p zLa (fun p => by unfold zLa; omega) l
 refine dv 6 fun K K' => ?_
 refine x4x (ι := Nat) (fun i γ1 => [(1, pI ((k + szs zLa (l.take i) : Nat) : Int)), (5, pI (i : Int))]) (fun i γ1 => [(1, ((γ1 1), .dead)), (0, ((γ 0), .row 44 5 (((mks zLa kLa k l).take i).map a0l ++ (l.drop i).map a0l)))]) (fun i => i ≤ l.length) (fun i => l.length - i) (x5x 0 rfl Cov.nil) HE.nil 0 (by omega) [0, _] (Cov.cons' (t := 1) rfl (by rw [List.take_zero]; rfl) (x5x 5 rfl Cov.nil)) (HE.kill rfl (HE.row rfl (by rw [List.take_zero, List.drop_zero]; rfl) HE.nil)) rfl fun i γ1 hi => ?_
 refine dv 4 fun K K' => ?_
 refine a9x (n := l.length) rfl a5v rfl rfl (by rw [List.length_append, List.length_map, List.length_map, List.length_take, List.length_drop]; omega) ?_
 refine dc 1 (aS ?_ ?_)<;>intro h<;>try simp at h
 ·obtain rfl : i = l.length := by omega
  refine dv 5 ?_
  exact ⟨[γ 0], rfl, congrArg (fun v : Nat => some [AV.pv (.int .i64 (v : Int))]) (by rw [List.take_length]), HE.row rfl (by rw [List.take_of_length_le (by omega), List.drop_length, List.map_nil, List.append_nil]) HE.nil⟩
 obtain ⟨p, hp⟩ := gE l i
 have hmk := a4q zLa kLa (k := k) hp
 have hat := a2n zLa hp
 have hzp : zLa p = 4 + szs zPa p.done := rfl
 have hAl : (((mks zLa kLa k l).take i).map a0l).length = i := by rw [List.length_map, List.length_take]; omega
 rw [v1v hp, List.map_cons]
 rw [show a0l p = [pI p.proc, pI p.base.x, pI p.base.y, pI p.base.count, .row .ow 58 12 (p.done.map a3g)] from rfl]
 obtain ⟨q, hq⟩ : ∃ q, q = k + szs zLa (l.take i) := ⟨_, rfl⟩
 rw [← hq] at hmk ⊢
 refine dv 7 fun K K' => ?_
 refine u0u rfl rfl a5v rfl s0s rfl rfl hAl (x8x rfl s0s rfl rfl w1w rfl rfl (z6z hAl rfl rfl w1w rfl rfl rfl rfl rfl rfl rfl (by simp only [b0t]; rfl) ?_))
 refine dv 2 ?_
 refine x2x (b := 1) rfl rfl (by omega) (dv 5 ?_)
 refine u0u rfl rfl a5v rfl s0s rfl rfl hAl (x8x rfl s0s rfl rfl a1l rfl rfl (x8x rfl a1l rfl rfl w1w rfl rfl (z6z hAl rfl rfl w1w rfl rfl rfl rfl rfl rfl rfl (by simp only [b0t]; rfl) ?_)))
 refine dv 2 ?_
 refine x2x (b := 1) rfl rfl (by omega) (dv 5 ?_)
 refine u0u rfl rfl a5v rfl s0s rfl rfl hAl (x8x rfl s0s rfl rfl a1l rfl rfl (x8x rfl a1l rfl rfl w1w rfl rfl (z6z hAl rfl rfl w1w rfl rfl rfl rfl rfl rfl rfl (by simp only [b0t]; rfl) ?_)))
 refine dv 2 ?_
 refine x2x (b := 1) rfl rfl (by omega) (dv 5 ?_)
 refine u0u rfl rfl a5v rfl s0s rfl rfl hAl (x8x rfl s0s rfl rfl a1l rfl rfl (x8x rfl a1l rfl rfl w1w rfl rfl (z6z hAl rfl rfl w1w rfl rfl rfl rfl rfl rfl rfl (by simp only [b0t]; rfl) ?_)))
 refine dv 2 ?_
 refine x2x (b := 1) rfl rfl (by omega) (dv 1 ?_)
 refine a5r 0 4 1 hAl rfl rfl rfl rfl rfl (dv 3 ?_)
 refine u0u rfl rfl a5v rfl s0s rfl rfl hAl (dv 1 ?_)
 refine a7y hAl rfl a1m rfl rfl (dv 1 ?_)
 refine rlM [1] [_] (b8k p.done (q + 4) (by omega)) rfl rfl rfl ?_
 refine dv 1 ?_
 refine a7z 0 4 1 hAl rfl rfl rfl (y5y fun _ => rfl) rfl rfl ?_
 refine dv 2 ?_
 refine x2x (b := 1) rfl rfl (by omega) (dv 1 ?_)
 exact ⟨i + 1, ⟨by omega, by omega⟩, [0, _], (Cov.cons' (t := 1) rfl (by rw [r6r zLa hp]; exact congrArg (fun v : Nat => AV.pv (.int .i64 (v : Int))) (by omega)) (x5x 5 rfl Cov.nil)), (x5x 0 rfl Cov.nil), (HE.kill rfl (HE.row rfl (by rw [z3z hmk, List.map_append, List.append_assoc]; rfl) HE.nil)), HE.nil, rfl⟩
theorem b8m (l : List Vi) (k : Nat) (hk : k + szs zVi l ≤ 1000000000) : Meth Tryz.prog 196 1 [0] [.ref 0 0, .pv (.int .i64 (k : Int))] [(0, (0, .row 190 3 (l.map a0u)))] (.pv (.int .i64 ((k + szs zVi l : Nat) : Int))) [(0, (0, .row 190 3 ((mks zVi kVi k l).map a0u)))] := by
 refine mX Tryz.f196 [.pv (.int .i64 ((k + szs zVi l : Nat) : Int))] 1 1 fun γ => ?_
 have hml := a4o zVi kVi k l
 have hll := a4p zVi (fun p => by unfold zVi; omega) l
 refine dv 6 fun K K' => ?_
 refine x4x (ι := Nat) (fun i γ1 => [(1, pI ((k + szs zVi (l.take i) : Nat) : Int)), (5, pI (i : Int))]) (fun i γ1 => [(1, ((γ1 1), .dead)), (0, ((γ 0), .row 190 3 (((mks zVi kVi k l).take i).map a0u ++ (l.drop i).map a0u)))]) (fun i => i ≤ l.length) (fun i => l.length - i) (x5x 0 rfl Cov.nil) HE.nil 0 (by omega) [0, _] (Cov.cons' (t := 1) rfl (by rw [List.take_zero]; rfl) (x5x 5 rfl Cov.nil)) (HE.kill rfl (HE.row rfl (by rw [List.take_zero, List.drop_zero]; rfl) HE.nil)) rfl fun i γ1 hi => ?_
 refine dv 4 fun K K' => ?_
 refine a9x (n := l.length) rfl a9e rfl rfl (by rw [List.length_append, List.length_map, List.length_map, List.length_take, List.length_drop]; omega) ?_
 refine dc 1 (aS ?_ ?_)<;>intro h<;>try simp at h
 ·obtain rfl : i = l.length := by omega
  refine dv 5 ?_
  exact ⟨[γ 0], rfl, congrArg (fun v : Nat => some [AV.pv (.int .i64 (v : Int))]) (by rw [List.take_length]), HE.row rfl (by rw [List.take_of_length_le (by omega), List.drop_length, List.map_nil, List.append_nil]) HE.nil⟩
 obtain ⟨p, hp⟩ := gE l i
 have hmk := a4q zVi kVi (k := k) hp
 have hat := a2n zVi hp
 have hzp : zVi p = 2 + szs zEv p.events := rfl
 have hAl : (((mks zVi kVi k l).take i).map a0u).length = i := by rw [List.length_map, List.length_take]; omega
 rw [v1v hp, List.map_cons]
 rw [show a0u p = [pI p.inc, pI p.version, .row .ow 56 7 (p.events.map y3y)] from rfl]
 obtain ⟨q, hq⟩ : ∃ q, q = k + szs zVi (l.take i) := ⟨_, rfl⟩
 rw [← hq] at hmk ⊢
 refine dv 7 fun K K' => ?_
 refine u0u rfl rfl a9e rfl p7p rfl rfl hAl (x8x rfl p7p rfl rfl w1w rfl rfl (z6z hAl rfl rfl w1w rfl rfl rfl rfl rfl rfl rfl (by simp only [b0t]; rfl) ?_))
 refine dv 2 ?_
 refine x2x (b := 1) rfl rfl (by omega) (dv 5 ?_)
 refine u0u rfl rfl a9e rfl p7p rfl rfl hAl (x8x rfl p7p rfl rfl w1w rfl rfl (z6z hAl rfl rfl w1w rfl rfl rfl rfl rfl rfl rfl (by simp only [b0t]; rfl) ?_))
 refine dv 2 ?_
 refine x2x (b := 1) rfl rfl (by omega) (dv 1 ?_)
 refine a5r 0 2 1 hAl rfl rfl rfl rfl rfl (dv 3 ?_)
 refine u0u rfl rfl a9e rfl p7p rfl rfl hAl (dv 1 ?_)
 refine a7y hAl rfl w2w rfl rfl (dv 1 ?_)
 refine rlM [1] [_] (a1e p.events (q + 2) (by omega)) rfl rfl rfl ?_
 refine dv 1 ?_
 refine a7z 0 2 1 hAl rfl rfl rfl (y5y fun _ => rfl) rfl rfl ?_
 refine dv 2 ?_
 refine x2x (b := 1) rfl rfl (by omega) (dv 1 ?_)
 exact ⟨i + 1, ⟨by omega, by omega⟩, [0, _], (Cov.cons' (t := 1) rfl (by rw [r6r zVi hp]; exact congrArg (fun v : Nat => AV.pv (.int .i64 (v : Int))) (by omega)) (x5x 5 rfl Cov.nil)), y2y, (HE.kill rfl (HE.row rfl (by rw [z3z hmk, List.map_append, List.append_assoc]; rfl) HE.nil)), y1y, rfl⟩
theorem b2m (n : Nd) (k : Nat) (hk : k + zNd n ≤ 1000000000) : Meth Tryz.prog 81 5 [0, 1, 2, 3, 4] [.agg [pI n.id, .pv (.bool n.up), pI n.inc, pI n.g, .ref 0 0, .ref 1 0, .ref 2 0, pI n.led, pI n.version, .ref 3 0, .ref 4 0, pI n.round, pI n.low], .pv (.int .i64 (k : Int))] [(0, (0, .row 44 5 (n.lanes.map a0l))), (1, (0, .row 56 7 (n.kept.map y3y))), (2, (0, .row 141 5 (n.outs.map v8v))), (3, (0, .row 190 3 (n.views.map a0u))), (4, (0, .row 3 1 (n.known.map r5r)))] (.pv (.int .i64 ((k + zNd n : Nat) : Int))) [(0, (0, .row 44 5 ((kNd k n).lanes.map a0l))), (1, (0, .row 56 7 ((kNd k n).kept.map y3y))), (2, (0, .row 141 5 ((kNd k n).outs.map v8v))), (3, (0, .row 190 3 ((kNd k n).views.map a0u))), (4, (0, .row 3 1 ((kNd k n).known.map r5r)))] := by
 refine mX Tryz.f81 [.pv (.int .i64 ((k + zNd n : Nat) : Int))] 5 1 fun γ => ?_
 have hz : zNd n = szs zLa n.lanes + szs zEv n.kept + szs zOu n.outs + szs zVi n.views + szs zI n.known := rfl
 refine dv 1 ?_
 refine x9x (id := 5) rfl rfl rfl (dv 5 ?_)
 refine rlM [0] [_] (b8l n.lanes k (by omega)) rfl rfl rfl ?_
 refine dv 5 ?_
 refine rlM [1] [_] (a1e n.kept (k + szs zLa n.lanes) (by omega)) rfl rfl rfl ?_
 refine dv 5 ?_
 refine rlM [2] [_] (a5b n.outs (k + szs zLa n.lanes + szs zEv n.kept) (by omega)) rfl rfl rfl ?_
 refine dv 5 ?_
 refine rlM [3] [_] (b8m n.views (k + szs zLa n.lanes + szs zEv n.kept + szs zOu n.outs) (by omega)) rfl rfl rfl ?_
 refine dv 5 ?_
 refine rlM [4] [_] (a2v n.known (k + szs zLa n.lanes + szs zEv n.kept + szs zOu n.outs + szs zVi n.views) (by omega)) rfl rfl rfl ?_
 refine dv 5 ?_
 exact ⟨[γ 0, γ 1, γ 2, γ 3, γ 4], rfl, congrArg (fun v : Nat => some [AV.pv (.int .i64 (v : Int))]) (by omega), y1y⟩
end
section
theorem b3v (a b : Ev) : r0r Tryz.prog 265 [.agg (y3y a), .agg (y3y b)] (.pv (.bool (decide (a = b)))) := by
 refine pX Tryz.f265 [.pv (.bool (decide (a = b)))] 2 ?_
 refine dv 1 ?_
 refine x9x (id := 0) rfl rfl rfl (x9x (id := 1) rfl rfl rfl (dc 8 (fun K K' => aI ?_ ?_)))<;>intro j<;>try simp at j
 ·refine dv 3 ?_
  refine x1x rfl ?_ rfl
  repeat clear K' K
  exact kF (by intro h; subst h; simp_all)
 refine dc 8 (fun K K' => aI ?_ ?_)<;>intro j<;>try simp at j
 ·refine dv 3 ?_
  refine x1x rfl ?_ rfl
  repeat clear K' K
  exact kF (by intro h; subst h; simp_all)
 refine dc 8 (fun K K' => aI ?_ ?_)<;>intro j<;>try simp at j
 ·refine dv 3 ?_
  refine x1x rfl ?_ rfl
  repeat clear K' K
  exact kF (by intro h; subst h; simp_all)
 refine dc 8 (fun K K' => aI ?_ ?_)<;>intro j<;>try simp at j
 ·refine dv 3 ?_
  refine x1x rfl ?_ rfl
  repeat clear K' K
  exact kF (by intro h; subst h; simp_all)
 refine dc 8 (fun K K' => aI ?_ ?_)<;>intro j<;>try simp at j
 ·refine dv 3 ?_
  refine x1x rfl ?_ rfl
  repeat clear K' K
  exact kF (by intro h; subst h; simp_all)
 refine dc 8 (fun K K' => aI ?_ ?_)<;>intro j<;>try simp at j
 ·refine dv 3 ?_
  refine x1x rfl ?_ rfl
  repeat clear K' K
  exact kF (by intro h; subst h; simp_all)
 refine dc 8 (fun K K' => aI ?_ ?_)<;>intro j<;>try simp at j
 ·refine dv 3 ?_
  refine x1x rfl ?_ rfl
  repeat clear K' K
  exact kF (by intro h; subst h; simp_all)
 refine dv 4 ?_
 refine x1x rfl ?_ rfl
 repeat clear K' K
 exact kT (by cases a; cases b; simp_all)
theorem c9d (a b : Ou) : r0r Tryz.prog 211 [.agg (v8v a), .agg (v8v b)] (.pv (.bool (decide (a = b)))) := by
 refine pX Tryz.f211 [.pv (.bool (decide (a = b)))] 2 ?_
 refine dv 1 ?_
 refine x9x (id := 0) rfl rfl rfl (x9x (id := 1) rfl rfl rfl (dc 8 (fun K K' => aI ?_ ?_)))<;>intro j<;>try simp at j
 ·refine dv 3 ?_
  refine x1x rfl ?_ rfl
  repeat clear K' K
  exact kF (by intro h; subst h; simp_all)
 refine dc 8 (fun K K' => aI ?_ ?_)<;>intro j<;>try simp at j
 ·refine dv 3 ?_
  refine x1x rfl ?_ rfl
  repeat clear K' K
  exact kF (by intro h; subst h; simp_all)
 refine dc 8 (fun K K' => aI ?_ ?_)<;>intro j<;>try simp at j
 ·refine dv 3 ?_
  refine x1x rfl ?_ rfl
  repeat clear K' K
  exact kF (by intro h; subst h; simp_all)
 refine dc 8 (fun K K' => aI ?_ ?_)<;>intro j<;>try simp at j
 ·refine dv 3 ?_
  refine x1x rfl ?_ rfl
  repeat clear K' K
  exact kF (by intro h; subst h; simp_all)
 refine dc 8 (fun K K' => aI ?_ ?_)<;>intro j<;>try simp at j
 ·refine dv 3 ?_
  refine x1x rfl ?_ rfl
  repeat clear K' K
  exact kF (by intro h; subst h; simp_all)
 refine dv 4 ?_
 refine x1x rfl ?_ rfl
 repeat clear K' K
 exact kT (by cases a; cases b; simp_all)
theorem b3w (a b : St) : r0r Tryz.prog 298 [.agg (p0p a), .agg (p0p b)] (.pv (.bool (decide (a = b)))) := by
 refine pX Tryz.f298 [.pv (.bool (decide (a = b)))] 2 ?_
 refine dv 1 ?_
 refine x9x (id := 0) rfl rfl rfl (x9x (id := 1) rfl rfl rfl (dc 8 (fun K K' => aI ?_ ?_)))<;>intro j<;>try simp at j
 ·refine dv 3 ?_
  refine x1x rfl ?_ rfl
  repeat clear K' K
  exact kF (by intro h; subst h; simp_all)
 refine dc 8 (fun K K' => aI ?_ ?_)<;>intro j<;>try simp at j
 ·refine dv 3 ?_
  refine x1x rfl ?_ rfl
  repeat clear K' K
  exact kF (by intro h; subst h; simp_all)
 refine dc 8 (fun K K' => aI ?_ ?_)<;>intro j<;>try simp at j
 ·refine dv 3 ?_
  refine x1x rfl ?_ rfl
  repeat clear K' K
  exact kF (by intro h; subst h; simp_all)
 refine dv 4 ?_
 refine x1x rfl ?_ rfl
 repeat clear K' K
 exact kT (by cases a; cases b; simp_all)
theorem b0r (c c' : Bool) (l l' : List Int) : r0r Tryz.prog 193 [a5d c l, a5d c' l'] (.pv (.bool (decide (l = l')))) := by
 refine pX Tryz.f193 [.pv (.bool (decide (l = l')))] 0 ?_
 refine y8y 0 rfl fun hlen => ?_
 refine dc 9 (fun K K' => aI ?_ ?_)<;>intro j<;>try simp at j
 ·refine dv 3 ?_
  refine x1x rfl ?_ rfl
  exact d8n (by omega)
 refine dv 5 fun K K' => ?_
 refine x4x (ι := Nat) (fun i γ1 => [(5, pI (i : Int))]) (fun i γ1 => []) (fun i => i ≤ l.length ∧ l.length = l'.length ∧ l.take i = l'.take i) (fun i => l.length - i) (a0f [0, 1] rfl) HE.nil 0 ⟨by omega, by omega, rfl⟩ [] y2y y1y rfl fun i γ1 hi => ?_
 obtain ⟨h1, h2, h3⟩ := hi
 refine dc 6 (fun K K' => aS ?_ ?_)<;>intro j<;>try simp at j
 ·refine dv 4 ?_
  refine x1x rfl ?_ rfl
  exact eqT h3 (by omega) (by omega)
 refine dv 6 fun K K' => ?_
 obtain ⟨x, hx⟩ := gE l i
 refine dv 4 ?_
 obtain ⟨y, hy⟩ := gE l' i
 refine dc 3 (aS ?_ ?_)<;>intro j<;>try simp at j
 ·refine dv 3 ?_
  refine a0m (.int .i64 ((i + 1 : Nat) : Int)) rfl rfl rfl (a7p rfl (by omega) (by omega) (by have := hlen; omega)) ?_
  refine dv 1 ?_
  exact ⟨i + 1, ⟨⟨by omega, h2, a3s h3 hx hy (by assumption)⟩, by omega⟩, [], y2y, y2y, y1y, y1y, rfl⟩
 refine dv 3 ?_
 refine x1x rfl ?_ rfl
 exact d8o hx hy (by assumption)
theorem a5c (c c' : Bool) (l l' : List Ev) : r0r Tryz.prog 191 [w7w c l, w7w c' l'] (.pv (.bool (decide (l = l')))) := by
 refine pX Tryz.f191 [.pv (.bool (decide (l = l')))] 0 ?_
 refine y8y 0 rfl fun hlen => ?_
 refine dc 9 (fun K K' => aI ?_ ?_)<;>intro j<;>try simp at j
 ·refine dv 3 ?_
  refine x1x rfl ?_ rfl
  exact d8n (by omega)
 refine dv 5 fun K K' => ?_
 refine x4x (ι := Nat) (fun i γ1 => [(5, pI (i : Int))]) (fun i γ1 => []) (fun i => i ≤ l.length ∧ l.length = l'.length ∧ l.take i = l'.take i) (fun i => l.length - i) (a0f [0, 1] rfl) HE.nil 0 ⟨by omega, by omega, rfl⟩ [] y2y y1y rfl fun i γ1 hi => ?_
 obtain ⟨h1, h2, h3⟩ := hi
 refine dc 6 (fun K K' => aS ?_ ?_)<;>intro j<;>try simp at j
 ·refine dv 4 ?_
  refine x1x rfl ?_ rfl
  exact eqT h3 (by omega) (by omega)
 refine dv 6 fun K K' => ?_
 obtain ⟨x, hx⟩ := gE l i
 refine dv 4 ?_
 obtain ⟨y, hy⟩ := gE l' i
 refine dv 2 ?_
 refine x0x rfl rfl rfl (b3v ..) (dc 1 (aS ?_ ?_))<;>intro j<;>try simp at j
 ·refine dv 3 ?_
  refine a0m (.int .i64 ((i + 1 : Nat) : Int)) rfl rfl rfl (a7p rfl (by omega) (by omega) (by have := hlen; omega)) ?_
  refine dv 1 ?_
  exact ⟨i + 1, ⟨⟨by omega, h2, a3s h3 hx hy (by assumption)⟩, by omega⟩, [], y2y, y2y, y1y, y1y, rfl⟩
 refine dv 3 ?_
 refine x1x rfl ?_ rfl
 exact d8o hx hy (by assumption)
theorem b0s (c c' : Bool) (l l' : List Ou) : r0r Tryz.prog 97 [r9r c l, r9r c' l'] (.pv (.bool (decide (l = l')))) := by
 refine pX Tryz.f97 [.pv (.bool (decide (l = l')))] 0 ?_
 refine y8y 0 rfl fun hlen => ?_
 refine dc 9 (fun K K' => aI ?_ ?_)<;>intro j<;>try simp at j
 ·refine dv 3 ?_
  refine x1x rfl ?_ rfl
  exact d8n (by omega)
 refine dv 5 fun K K' => ?_
 refine x4x (ι := Nat) (fun i γ1 => [(5, pI (i : Int))]) (fun i γ1 => []) (fun i => i ≤ l.length ∧ l.length = l'.length ∧ l.take i = l'.take i) (fun i => l.length - i) (a0f [0, 1] rfl) HE.nil 0 ⟨by omega, by omega, rfl⟩ [] y2y y1y rfl fun i γ1 hi => ?_
 obtain ⟨h1, h2, h3⟩ := hi
 refine dc 6 (fun K K' => aS ?_ ?_)<;>intro j<;>try simp at j
 ·refine dv 4 ?_
  refine x1x rfl ?_ rfl
  exact eqT h3 (by omega) (by omega)
 refine dv 6 fun K K' => ?_
 obtain ⟨x, hx⟩ := gE l i
 refine dv 4 ?_
 obtain ⟨y, hy⟩ := gE l' i
 refine dv 2 ?_
 refine x0x rfl rfl rfl (c9d ..) (dc 1 (aS ?_ ?_))<;>intro j<;>try simp at j
 ·refine dv 3 ?_
  refine a0m (.int .i64 ((i + 1 : Nat) : Int)) rfl rfl rfl (a7p rfl (by omega) (by omega) (by have := hlen; omega)) ?_
  refine dv 1 ?_
  exact ⟨i + 1, ⟨⟨by omega, h2, a3s h3 hx hy (by assumption)⟩, by omega⟩, [], y2y, y2y, y1y, y1y, rfl⟩
 refine dv 3 ?_
 refine x1x rfl ?_ rfl
 exact d8o hx hy (by assumption)
theorem c6m (c c' : Bool) (a b : Pa) : r0r Tryz.prog 317 [.agg (a0t c a), .agg (a0t c' b)] (.pv (.bool (decide (a = b)))) := by
 refine pX Tryz.f317 [.pv (.bool (decide (a = b)))] 2 ?_
 refine dv 1 ?_
 refine x9x (id := 0) rfl rfl rfl (x9x (id := 1) rfl rfl rfl (dv 4 fun K K' => ?_))
 refine u6u (out := .agg (y3y a.ev)) rfl y9y rfl rfl ?_
 refine dv 1 ?_
 refine u6u (out := .agg (y3y b.ev)) rfl y9y rfl rfl ?_
 refine x0x rfl rfl rfl (b3v ..) (dc 1 (aI ?_ ?_))<;>intro j<;>try simp at j
 ·refine dv 3 ?_
  refine x1x rfl ?_ rfl
  repeat clear K' K
  exact kF (by intro h; subst h; simp_all)
 refine dv 4 fun K K' => ?_
 refine u6u (out := .agg (p0p a.after)) rfl a1l rfl rfl ?_
 refine dv 1 ?_
 refine u6u (out := .agg (p0p b.after)) rfl a1l rfl rfl ?_
 refine x0x rfl rfl rfl (b3w ..) (dc 1 (aI ?_ ?_))<;>intro j<;>try simp at j
 ·refine dv 3 ?_
  refine x1x rfl ?_ rfl
  repeat clear K' K
  exact kF (by intro h; subst h; simp_all)
 refine dv 7 fun K K' => ?_
 refine x0x rfl rfl rfl (a5c ..) (dc 1 (aI ?_ ?_))<;>intro j<;>try simp at j
 ·refine dv 3 ?_
  refine x1x rfl ?_ rfl
  repeat clear K' K
  exact kF (by intro h; subst h; simp_all)
 refine dv 7 fun K K' => ?_
 refine x0x rfl rfl rfl (b0s ..) (dc 1 (aI ?_ ?_))<;>intro j<;>try simp at j
 ·refine dv 3 ?_
  refine x1x rfl ?_ rfl
  repeat clear K' K
  exact kF (by intro h; subst h; simp_all)
 refine dv 4 ?_
 refine x1x rfl ?_ rfl
 repeat clear K' K
 exact kT (by cases a; cases b; simp_all)
theorem c2p (c c' : Bool) (l l' : List Pa) : r0r Tryz.prog 299 [a3b c l, a3b c' l'] (.pv (.bool (decide (l = l')))) := by
 refine pX Tryz.f299 [.pv (.bool (decide (l = l')))] 0 ?_
 refine y8y 0 rfl fun hlen => ?_
 refine dc 9 (fun K K' => aI ?_ ?_)<;>intro j<;>try simp at j
 ·refine dv 3 ?_
  refine x1x rfl ?_ rfl
  exact d8n (by omega)
 refine dv 5 fun K K' => ?_
 refine x4x (ι := Nat) (fun i γ1 => [(5, pI (i : Int))]) (fun i γ1 => []) (fun i => i ≤ l.length ∧ l.length = l'.length ∧ l.take i = l'.take i) (fun i => l.length - i) (a0f [0, 1] rfl) HE.nil 0 ⟨by omega, by omega, rfl⟩ [] y2y y1y rfl fun i γ1 hi => ?_
 obtain ⟨h1, h2, h3⟩ := hi
 refine dc 6 (fun K K' => aS ?_ ?_)<;>intro j<;>try simp at j
 ·refine dv 4 ?_
  refine x1x rfl ?_ rfl
  exact eqT h3 (by omega) (by omega)
 refine dv 6 fun K K' => ?_
 obtain ⟨x, hx⟩ := gE l i
 refine dv 4 ?_
 obtain ⟨y, hy⟩ := gE l' i
 refine dv 2 ?_
 refine x0x rfl rfl rfl (c6m ..) (dc 1 (aS ?_ ?_))<;>intro j<;>try simp at j
 ·refine dv 3 ?_
  refine a0m (.int .i64 ((i + 1 : Nat) : Int)) rfl rfl rfl (a7p rfl (by omega) (by omega) (by have := hlen; omega)) ?_
  refine dv 1 ?_
  exact ⟨i + 1, ⟨⟨by omega, h2, a3s h3 hx hy (by assumption)⟩, by omega⟩, [], y2y, y2y, y1y, y1y, rfl⟩
 refine dv 3 ?_
 refine x1x rfl ?_ rfl
 exact d8o hx hy (by assumption)
theorem c6n (c c' : Bool) (a b : La) : r0r Tryz.prog 264 [.agg (q8q c a), .agg (q8q c' b)] (.pv (.bool (decide (a = b)))) := by
 refine pX Tryz.f264 [.pv (.bool (decide (a = b)))] 2 ?_
 refine dv 1 ?_
 refine x9x (id := 0) rfl rfl rfl (x9x (id := 1) rfl rfl rfl (dc 8 (fun K K' => aI ?_ ?_)))<;>intro j<;>try simp at j
 ·refine dv 3 ?_
  refine x1x rfl ?_ rfl
  repeat clear K' K
  exact kF (by intro h; subst h; simp_all)
 refine dv 4 fun K K' => ?_
 refine u6u (out := .agg (p0p a.base)) rfl a1l rfl rfl ?_
 refine dv 1 ?_
 refine u6u (out := .agg (p0p b.base)) rfl a1l rfl rfl ?_
 refine x0x rfl rfl rfl (b3w ..) (dc 1 (aI ?_ ?_))<;>intro j<;>try simp at j
 ·refine dv 3 ?_
  refine x1x rfl ?_ rfl
  repeat clear K' K
  exact kF (by intro h; subst h; simp_all)
 refine dv 7 fun K K' => ?_
 refine x0x rfl rfl rfl (c2p ..) (dc 1 (aI ?_ ?_))<;>intro j<;>try simp at j
 ·refine dv 3 ?_
  refine x1x rfl ?_ rfl
  repeat clear K' K
  exact kF (by intro h; subst h; simp_all)
 refine dv 4 ?_
 refine x1x rfl ?_ rfl
 repeat clear K' K
 exact kT (by cases a; cases b; simp_all)
theorem c2q (c c' : Bool) (l l' : List La) : r0r Tryz.prog 190 [c6p c l, c6p c' l'] (.pv (.bool (decide (l = l')))) := by
 refine pX Tryz.f190 [.pv (.bool (decide (l = l')))] 0 ?_
 refine y8y 0 rfl fun hlen => ?_
 refine dc 9 (fun K K' => aI ?_ ?_)<;>intro j<;>try simp at j
 ·refine dv 3 ?_
  refine x1x rfl ?_ rfl
  exact d8n (by omega)
 refine dv 5 fun K K' => ?_
 refine x4x (ι := Nat) (fun i γ1 => [(5, pI (i : Int))]) (fun i γ1 => []) (fun i => i ≤ l.length ∧ l.length = l'.length ∧ l.take i = l'.take i) (fun i => l.length - i) (a0f [0, 1] rfl) HE.nil 0 ⟨by omega, by omega, rfl⟩ [] y2y y1y rfl fun i γ1 hi => ?_
 obtain ⟨h1, h2, h3⟩ := hi
 refine dc 6 (fun K K' => aS ?_ ?_)<;>intro j<;>try simp at j
 ·refine dv 4 ?_
  refine x1x rfl ?_ rfl
  exact eqT h3 (by omega) (by omega)
 refine dv 6 fun K K' => ?_
 obtain ⟨x, hx⟩ := gE l i
 refine dv 4 ?_
 obtain ⟨y, hy⟩ := gE l' i
 refine dv 2 ?_
 refine x0x rfl rfl rfl (c6n ..) (dc 1 (aS ?_ ?_))<;>intro j<;>try simp at j
 ·refine dv 3 ?_
  refine a0m (.int .i64 ((i + 1 : Nat) : Int)) rfl rfl rfl (a7p rfl (by omega) (by omega) (by have := hlen; omega)) ?_
  refine dv 1 ?_
  exact ⟨i + 1, ⟨⟨by omega, h2, a3s h3 hx hy (by assumption)⟩, by omega⟩, [], y2y, y2y, y1y, y1y, rfl⟩
 refine dv 3 ?_
 refine x1x rfl ?_ rfl
 exact d8o hx hy (by assumption)
theorem c6o (c c' : Bool) (a b : Vi) : r0r Tryz.prog 266 [.agg (a1f c a), .agg (a1f c' b)] (.pv (.bool (decide (a = b)))) := by
 refine pX Tryz.f266 [.pv (.bool (decide (a = b)))] 2 ?_
 refine dv 1 ?_
 refine x9x (id := 0) rfl rfl rfl (x9x (id := 1) rfl rfl rfl (dc 8 (fun K K' => aI ?_ ?_)))<;>intro j<;>try simp at j
 ·refine dv 3 ?_
  refine x1x rfl ?_ rfl
  repeat clear K' K
  exact kF (by intro h; subst h; simp_all)
 refine dc 8 (fun K K' => aI ?_ ?_)<;>intro j<;>try simp at j
 ·refine dv 3 ?_
  refine x1x rfl ?_ rfl
  repeat clear K' K
  exact kF (by intro h; subst h; simp_all)
 refine dv 7 fun K K' => ?_
 refine x0x rfl rfl rfl (a5c ..) (dc 1 (aI ?_ ?_))<;>intro j<;>try simp at j
 ·refine dv 3 ?_
  refine x1x rfl ?_ rfl
  repeat clear K' K
  exact kF (by intro h; subst h; simp_all)
 refine dv 4 ?_
 refine x1x rfl ?_ rfl
 repeat clear K' K
 exact kT (by cases a; cases b; simp_all)
theorem c2r (c c' : Bool) (l l' : List Vi) : r0r Tryz.prog 192 [c6q c l, c6q c' l'] (.pv (.bool (decide (l = l')))) := by
 refine pX Tryz.f192 [.pv (.bool (decide (l = l')))] 0 ?_
 refine y8y 0 rfl fun hlen => ?_
 refine dc 9 (fun K K' => aI ?_ ?_)<;>intro j<;>try simp at j
 ·refine dv 3 ?_
  refine x1x rfl ?_ rfl
  exact d8n (by omega)
 refine dv 5 fun K K' => ?_
 refine x4x (ι := Nat) (fun i γ1 => [(5, pI (i : Int))]) (fun i γ1 => []) (fun i => i ≤ l.length ∧ l.length = l'.length ∧ l.take i = l'.take i) (fun i => l.length - i) (a0f [0, 1] rfl) HE.nil 0 ⟨by omega, by omega, rfl⟩ [] y2y y1y rfl fun i γ1 hi => ?_
 obtain ⟨h1, h2, h3⟩ := hi
 refine dc 6 (fun K K' => aS ?_ ?_)<;>intro j<;>try simp at j
 ·refine dv 4 ?_
  refine x1x rfl ?_ rfl
  exact eqT h3 (by omega) (by omega)
 refine dv 6 fun K K' => ?_
 obtain ⟨x, hx⟩ := gE l i
 refine dv 4 ?_
 obtain ⟨y, hy⟩ := gE l' i
 refine dv 2 ?_
 refine x0x rfl rfl rfl (c6o ..) (dc 1 (aS ?_ ?_))<;>intro j<;>try simp at j
 ·refine dv 3 ?_
  refine a0m (.int .i64 ((i + 1 : Nat) : Int)) rfl rfl rfl (a7p rfl (by omega) (by omega) (by have := hlen; omega)) ?_
  refine dv 1 ?_
  exact ⟨i + 1, ⟨⟨by omega, h2, a3s h3 hx hy (by assumption)⟩, by omega⟩, [], y2y, y2y, y1y, y1y, rfl⟩
 refine dv 3 ?_
 refine x1x rfl ?_ rfl
 exact d8o hx hy (by assumption)
theorem a6q (c c' : Bool) (a b : Nd) : r0r Tryz.prog 78 [.agg (r4r c a), .agg (r4r c' b)] (.pv (.bool (decide (a = b)))) := by
 refine pX Tryz.f78 [.pv (.bool (decide (a = b)))] 2 ?_
 refine dv 1 ?_
 refine x9x (id := 0) rfl rfl rfl (x9x (id := 1) rfl rfl rfl (dc 8 (fun K K' => aI ?_ ?_)))<;>intro j<;>try simp at j
 ·refine dv 3 ?_
  refine x1x rfl ?_ rfl
  repeat clear K' K
  exact kF (by intro h; subst h; simp_all)
 refine dv 7 fun K K' => ?_
 refine a9w rfl rfl (by intro p q h h'; cases h; cases h'; rfl) (.inr rfl) (d9h Tryz.underlying4 _ _ _ _) ?_
 refine dc 0 (aI ?_ ?_)<;>intro j<;>try simp at j
 ·refine dv 3 ?_
  refine x1x rfl ?_ rfl
  repeat clear K' K
  exact kF (by intro h; subst h; simp_all)
 refine dc 8 (fun K K' => aI ?_ ?_)<;>intro j<;>try simp at j
 ·refine dv 3 ?_
  refine x1x rfl ?_ rfl
  repeat clear K' K
  exact kF (by intro h; subst h; simp_all)
 refine dc 8 (fun K K' => aI ?_ ?_)<;>intro j<;>try simp at j
 ·refine dv 3 ?_
  refine x1x rfl ?_ rfl
  repeat clear K' K
  exact kF (by intro h; subst h; simp_all)
 refine dv 7 fun K K' => ?_
 refine x0x rfl rfl rfl (c2q ..) (dc 1 (aI ?_ ?_))<;>intro j<;>try simp at j
 ·refine dv 3 ?_
  refine x1x rfl ?_ rfl
  repeat clear K' K
  exact kF (by intro h; subst h; simp_all)
 refine dv 7 fun K K' => ?_
 refine x0x rfl rfl rfl (a5c ..) (dc 1 (aI ?_ ?_))<;>intro j<;>try simp at j
 ·refine dv 3 ?_
  refine x1x rfl ?_ rfl
  repeat clear K' K
  exact kF (by intro h; subst h; simp_all)
 refine dv 7 fun K K' => ?_
 refine x0x rfl rfl rfl (b0s ..) (dc 1 (aI ?_ ?_))<;>intro j<;>try simp at j
 ·refine dv 3 ?_
  refine x1x rfl ?_ rfl
  repeat clear K' K
  exact kF (by intro h; subst h; simp_all)
 refine dc 8 (fun K K' => aI ?_ ?_)<;>intro j<;>try simp at j
 ·refine dv 3 ?_
  refine x1x rfl ?_ rfl
  repeat clear K' K
  exact kF (by intro h; subst h; simp_all)
 refine dc 8 (fun K K' => aI ?_ ?_)<;>intro j<;>try simp at j
 ·refine dv 3 ?_
  refine x1x rfl ?_ rfl
  repeat clear K' K
  exact kF (by intro h; subst h; simp_all)
 refine dv 7 fun K K' => ?_
 refine x0x rfl rfl rfl (c2r ..) (dc 1 (aI ?_ ?_))<;>intro j<;>try simp at j
 ·refine dv 3 ?_
  refine x1x rfl ?_ rfl
  repeat clear K' K
  exact kF (by intro h; subst h; simp_all)
 refine dv 7 fun K K' => ?_
 refine x0x rfl rfl rfl (b0r ..) (dc 1 (aI ?_ ?_))<;>intro j<;>try simp at j
 ·refine dv 3 ?_
  refine x1x rfl ?_ rfl
  repeat clear K' K
  exact kF (by intro h; subst h; simp_all)
 refine dc 8 (fun K K' => aI ?_ ?_)<;>intro j<;>try simp at j
 ·refine dv 3 ?_
  refine x1x rfl ?_ rfl
  repeat clear K' K
  exact kF (by intro h; subst h; simp_all)
 refine dc 8 (fun K K' => aI ?_ ?_)<;>intro j<;>try simp at j
 ·refine dv 3 ?_
  refine x1x rfl ?_ rfl
  repeat clear K' K
  exact kF (by intro h; subst h; simp_all)
 refine dv 4 ?_
 refine x1x rfl ?_ rfl
 repeat clear K' K
 exact kT (by cases a; cases b; simp_all)
end
section
theorem a7m (c : Bool) (l : List Int) (k : Nat) (hk : k + szs zI l ≤ 1000000000) : r0r Tryz.prog 201 [a5d c (mks zI kI k l), .pv (.int .i64 (k : Int))] (.pv (.int .i64 ((k + szs zI l : Nat) : Int))) := by
 refine pX Tryz.f201 [.pv (.int .i64 ((k + szs zI l : Nat) : Int))] 0 ?_
 have hml := a4o zI kI k l
 have hll := a4p zI (fun p => by unfold zI; omega) l
 refine dv 6 fun K K' => ?_
 refine x4x (ι := Nat) (fun i γ1 => [(1, pI ((k + szs zI (l.take i) : Nat) : Int)), (5, pI (i : Int))]) (fun i γ1 => []) (fun i => i ≤ l.length) (fun i => l.length - i) (x5x 0 rfl Cov.nil) HE.nil 0 (by omega) [] (Cov.cons' (t := 1) rfl (by rw [List.take_zero]; rfl) (x5x 5 rfl Cov.nil)) y1y rfl fun i γ1 hi => ?_
 refine dc 6 (fun K K' => aS ?_ ?_)<;>intro h<;>try simp at h
 ·obtain rfl : i = l.length := by omega
  refine dv 5 ?_
  refine x1x rfl ?_ rfl
  rw [List.take_length]
 obtain ⟨p, hp⟩ := gE l i
 have hmk := a4q zI kI (k := k) hp
 have hat := a2n zI hp
 have hzp : zI p = 1 := rfl
 obtain ⟨q, hq⟩ : ∃ q, q = k + szs zI (l.take i) := ⟨_, rfl⟩
 rw [← hq] at hmk ⊢
 refine dv 11 fun K K' K K' => ?_
 refine y6y rfl (fun hc6 => ?_) (fun hc6 => ?_)
 ·(simp [kI, kEv, kOu, kPa, kLa, kVi, mEv, mOu, mSt] at hc6; done)
 try simp at hc6
 refine dv 3 ?_
 refine x2x (b := 1) rfl rfl (by omega) (dv 3 ?_)
 refine x2x (b := 1) rfl rfl (by omega) (dv 1 ?_)
 exact ⟨i + 1, ⟨by omega, by omega⟩, [], (Cov.cons' (t := 1) rfl (by rw [r6r zI hp]; exact congrArg (fun v : Nat => AV.pv (.int .i64 (v : Int))) (by omega)) (x5x 5 rfl Cov.nil)), y2y, y1y, y1y, rfl⟩
theorem a3e (c : Bool) (l : List Ev) (k : Nat) (hk : k + szs zEv l ≤ 1000000000) : r0r Tryz.prog 199 [w7w c (mks zEv kEv k l), .pv (.int .i64 (k : Int))] (.pv (.int .i64 ((k + szs zEv l : Nat) : Int))) := by
 refine pX Tryz.f199 [.pv (.int .i64 ((k + szs zEv l : Nat) : Int))] 0 ?_
 have hml := a4o zEv kEv k l
 have hll := a4p zEv (fun p => by unfold zEv; omega) l
 refine dv 6 fun K K' => ?_
 refine x4x (ι := Nat) (fun i γ1 => [(1, pI ((k + szs zEv (l.take i) : Nat) : Int)), (5, pI (i : Int))]) (fun i γ1 => []) (fun i => i ≤ l.length) (fun i => l.length - i) (x5x 0 rfl Cov.nil) HE.nil 0 (by omega) [] (Cov.cons' (t := 1) rfl (by rw [List.take_zero]; rfl) (x5x 5 rfl Cov.nil)) y1y rfl fun i γ1 hi => ?_
 refine dc 6 (fun K K' => aS ?_ ?_)<;>intro h<;>try simp at h
 ·obtain rfl : i = l.length := by omega
  refine dv 5 ?_
  refine x1x rfl ?_ rfl
  rw [List.take_length]
 obtain ⟨p, hp⟩ := gE l i
 have hmk := a4q zEv kEv (k := k) hp
 have hat := a2n zEv hp
 have hzp : zEv p = 7 := rfl
 obtain ⟨q, hq⟩ : ∃ q, q = k + szs zEv (l.take i) := ⟨_, rfl⟩
 rw [← hq] at hmk ⊢
 refine dv 12 fun K K' K K' => ?_
 refine y6y rfl (fun hc6 => ?_) (fun hc6 => ?_)
 ·(simp [kI, kEv, kOu, kPa, kLa, kVi, mEv, mOu, mSt] at hc6; done)
 try simp at hc6
 refine dv 3 ?_
 refine x2x (b := 1) rfl rfl (by omega) (dv 10 fun K K' => ?_)
 refine y6y rfl (fun hc8 => ?_) (fun hc8 => ?_)
 ·(simp [kI, kEv, kOu, kPa, kLa, kVi, mEv, mOu, mSt] at hc8; done)
 try simp at hc8
 refine dv 3 ?_
 refine x2x (b := 1) rfl rfl (by omega) (dv 10 fun K K' => ?_)
 refine y6y rfl (fun hc10 => ?_) (fun hc10 => ?_)
 ·(simp [kI, kEv, kOu, kPa, kLa, kVi, mEv, mOu, mSt] at hc10; done)
 try simp at hc10
 refine dv 3 ?_
 refine x2x (b := 1) rfl rfl (by omega) (dv 10 fun K K' => ?_)
 refine y6y rfl (fun hc12 => ?_) (fun hc12 => ?_)
 ·(simp [kI, kEv, kOu, kPa, kLa, kVi, mEv, mOu, mSt] at hc12; done)
 try simp at hc12
 refine dv 3 ?_
 refine x2x (b := 1) rfl rfl (by omega) (dv 10 fun K K' => ?_)
 refine y6y rfl (fun hc14 => ?_) (fun hc14 => ?_)
 ·(simp [kI, kEv, kOu, kPa, kLa, kVi, mEv, mOu, mSt] at hc14; done)
 try simp at hc14
 refine dv 3 ?_
 refine x2x (b := 1) rfl rfl (by omega) (dv 10 fun K K' => ?_)
 refine y6y rfl (fun hc16 => ?_) (fun hc16 => ?_)
 ·(simp [kI, kEv, kOu, kPa, kLa, kVi, mEv, mOu, mSt] at hc16; done)
 try simp at hc16
 refine dv 3 ?_
 refine x2x (b := 1) rfl rfl (by omega) (dv 10 fun K K' => ?_)
 refine y6y rfl (fun hc18 => ?_) (fun hc18 => ?_)
 ·(simp [kI, kEv, kOu, kPa, kLa, kVi, mEv, mOu, mSt] at hc18; done)
 try simp at hc18
 refine dv 3 ?_
 refine x2x (b := 1) rfl rfl (by omega) (dv 3 ?_)
 refine x2x (b := 1) rfl rfl (by omega) (dv 1 ?_)
 exact ⟨i + 1, ⟨by omega, by omega⟩, [], (Cov.cons' (t := 1) rfl (by rw [r6r zEv hp]; exact congrArg (fun v : Nat => AV.pv (.int .i64 (v : Int))) (by omega)) (x5x 5 rfl Cov.nil)), y2y, y1y, y1y, rfl⟩
theorem a7n (c : Bool) (l : List Ou) (k : Nat) (hk : k + szs zOu l ≤ 1000000000) : r0r Tryz.prog 106 [r9r c (mks zOu kOu k l), .pv (.int .i64 (k : Int))] (.pv (.int .i64 ((k + szs zOu l : Nat) : Int))) := by
 refine pX Tryz.f106 [.pv (.int .i64 ((k + szs zOu l : Nat) : Int))] 0 ?_
 have hml := a4o zOu kOu k l
 have hll := a4p zOu (fun p => by unfold zOu; omega) l
 refine dv 6 fun K K' => ?_
 refine x4x (ι := Nat) (fun i γ1 => [(1, pI ((k + szs zOu (l.take i) : Nat) : Int)), (5, pI (i : Int))]) (fun i γ1 => []) (fun i => i ≤ l.length) (fun i => l.length - i) (x5x 0 rfl Cov.nil) HE.nil 0 (by omega) [] (Cov.cons' (t := 1) rfl (by rw [List.take_zero]; rfl) (x5x 5 rfl Cov.nil)) y1y rfl fun i γ1 hi => ?_
 refine dc 6 (fun K K' => aS ?_ ?_)<;>intro h<;>try simp at h
 ·obtain rfl : i = l.length := by omega
  refine dv 5 ?_
  refine x1x rfl ?_ rfl
  rw [List.take_length]
 obtain ⟨p, hp⟩ := gE l i
 have hmk := a4q zOu kOu (k := k) hp
 have hat := a2n zOu hp
 have hzp : zOu p = 5 := rfl
 obtain ⟨q, hq⟩ : ∃ q, q = k + szs zOu (l.take i) := ⟨_, rfl⟩
 rw [← hq] at hmk ⊢
 refine dv 12 fun K K' K K' => ?_
 refine y6y rfl (fun hc6 => ?_) (fun hc6 => ?_)
 ·(simp [kI, kEv, kOu, kPa, kLa, kVi, mEv, mOu, mSt] at hc6; done)
 try simp at hc6
 refine dv 3 ?_
 refine x2x (b := 1) rfl rfl (by omega) (dv 10 fun K K' => ?_)
 refine y6y rfl (fun hc8 => ?_) (fun hc8 => ?_)
 ·(simp [kI, kEv, kOu, kPa, kLa, kVi, mEv, mOu, mSt] at hc8; done)
 try simp at hc8
 refine dv 3 ?_
 refine x2x (b := 1) rfl rfl (by omega) (dv 10 fun K K' => ?_)
 refine y6y rfl (fun hc10 => ?_) (fun hc10 => ?_)
 ·(simp [kI, kEv, kOu, kPa, kLa, kVi, mEv, mOu, mSt] at hc10; done)
 try simp at hc10
 refine dv 3 ?_
 refine x2x (b := 1) rfl rfl (by omega) (dv 10 fun K K' => ?_)
 refine y6y rfl (fun hc12 => ?_) (fun hc12 => ?_)
 ·(simp [kI, kEv, kOu, kPa, kLa, kVi, mEv, mOu, mSt] at hc12; done)
 try simp at hc12
 refine dv 3 ?_
 refine x2x (b := 1) rfl rfl (by omega) (dv 10 fun K K' => ?_)
 refine y6y rfl (fun hc14 => ?_) (fun hc14 => ?_)
 ·(simp [kI, kEv, kOu, kPa, kLa, kVi, mEv, mOu, mSt] at hc14; done)
 try simp at hc14
 refine dv 3 ?_
 refine x2x (b := 1) rfl rfl (by omega) (dv 3 ?_)
 refine x2x (b := 1) rfl rfl (by omega) (dv 1 ?_)
 exact ⟨i + 1, ⟨by omega, by omega⟩, [], (Cov.cons' (t := 1) rfl (by rw [r6r zOu hp]; exact congrArg (fun v : Nat => AV.pv (.int .i64 (v : Int))) (by omega)) (x5x 5 rfl Cov.nil)), y2y, y1y, y1y, rfl⟩
theorem b8n (c : Bool) (l : List Pa) (k : Nat) (hk : k + szs zPa l ≤ 1000000000) : r0r Tryz.prog 268 [a3b c (mks zPa kPa k l), .pv (.int .i64 (k : Int))] (.pv (.int .i64 ((k + szs zPa l : Nat) : Int))) := by
 refine pX Tryz.f268 [.pv (.int .i64 ((k + szs zPa l : Nat) : Int))] 0 ?_
 have hml := a4o zPa kPa k l
 have hll := a4p zPa (fun p => by unfold zPa; omega) l
 refine dv 6 fun K K' => ?_
 refine x4x (ι := Nat) (fun i γ1 => [(1, pI ((k + szs zPa (l.take i) : Nat) : Int)), (5, pI (i : Int))]) (fun i γ1 => []) (fun i => i ≤ l.length) (fun i => l.length - i) (x5x 0 rfl Cov.nil) HE.nil 0 (by omega) [] (Cov.cons' (t := 1) rfl (by rw [List.take_zero]; rfl) (x5x 5 rfl Cov.nil)) y1y rfl fun i γ1 hi => ?_
 refine dc 6 (fun K K' => aS ?_ ?_)<;>intro h<;>try simp at h
 ·obtain rfl : i = l.length := by omega
  refine dv 5 ?_
  refine x1x rfl ?_ rfl
  rw [List.take_length]
 obtain ⟨p, hp⟩ := gE l i
 have hmk := a4q zPa kPa (k := k) hp
 have hat := a2n zPa hp
 have hzp : zPa p = 10 + szs zEv p.sends + szs zOu p.outs := rfl
 obtain ⟨q, hq⟩ : ∃ q, q = k + szs zPa (l.take i) := ⟨_, rfl⟩
 rw [← hq] at hmk ⊢
 refine dv 13 fun K K' K K' => ?_
 refine y6y rfl (fun hc6 => ?_) (fun hc6 => ?_)
 ·(simp [kI, kEv, kOu, kPa, kLa, kVi, mEv, mOu, mSt] at hc6; done)
 try simp at hc6
 refine dv 3 ?_
 refine x2x (b := 1) rfl rfl (by omega) (dv 11 fun K K' => ?_)
 refine y6y rfl (fun hc8 => ?_) (fun hc8 => ?_)
 ·(simp [kI, kEv, kOu, kPa, kLa, kVi, mEv, mOu, mSt] at hc8; done)
 try simp at hc8
 refine dv 3 ?_
 refine x2x (b := 1) rfl rfl (by omega) (dv 11 fun K K' => ?_)
 refine y6y rfl (fun hc10 => ?_) (fun hc10 => ?_)
 ·(simp [kI, kEv, kOu, kPa, kLa, kVi, mEv, mOu, mSt] at hc10; done)
 try simp at hc10
 refine dv 3 ?_
 refine x2x (b := 1) rfl rfl (by omega) (dv 11 fun K K' => ?_)
 refine y6y rfl (fun hc12 => ?_) (fun hc12 => ?_)
 ·(simp [kI, kEv, kOu, kPa, kLa, kVi, mEv, mOu, mSt] at hc12; done)
 try simp at hc12
 refine dv 3 ?_
 refine x2x (b := 1) rfl rfl (by omega) (dv 11 fun K K' => ?_)
 refine y6y rfl (fun hc14 => ?_) (fun hc14 => ?_)
 ·(simp [kI, kEv, kOu, kPa, kLa, kVi, mEv, mOu, mSt] at hc14; done)
 try simp at hc14
 refine dv 3 ?_
 refine x2x (b := 1) rfl rfl (by omega) (dv 11 fun K K' => ?_)
 refine y6y rfl (fun hc16 => ?_) (fun hc16 => ?_)
 ·(simp [kI, kEv, kOu, kPa, kLa, kVi, mEv, mOu, mSt] at hc16; done)
 try simp at hc16
 refine dv 3 ?_
 refine x2x (b := 1) rfl rfl (by omega) (dv 11 fun K K' => ?_)
 refine y6y rfl (fun hc18 => ?_) (fun hc18 => ?_)
 ·(simp [kI, kEv, kOu, kPa, kLa, kVi, mEv, mOu, mSt] at hc18; done)
 try simp at hc18
 refine dv 3 ?_
 refine x2x (b := 1) rfl rfl (by omega) (dv 11 fun K K' => ?_)
 refine y6y rfl (fun hc20 => ?_) (fun hc20 => ?_)
 ·(simp [kI, kEv, kOu, kPa, kLa, kVi, mEv, mOu, mSt] at hc20; omega)
 try simp at hc20
 refine dv 3 ?_
 refine x2x (b := 1) rfl rfl (by omega) (dv 11 fun K K' => ?_)
 refine y6y rfl (fun hc22 => ?_) (fun hc22 => ?_)
 ·(simp [kI, kEv, kOu, kPa, kLa, kVi, mEv, mOu, mSt] at hc22; omega)
 try simp at hc22
 refine dv 3 ?_
 refine x2x (b := 1) rfl rfl (by omega) (dv 11 fun K K' => ?_)
 refine y6y rfl (fun hc24 => ?_) (fun hc24 => ?_)
 ·(simp [kI, kEv, kOu, kPa, kLa, kVi, mEv, mOu, mSt] at hc24; omega)
 try simp at hc24
 refine dv 3 ?_
 refine x2x (b := 1) rfl rfl (by omega) (dv 8 ?_)
 refine x0x rfl rfl rfl (a3e c p.sends (q + 10) (by omega)) ?_
 refine dv 5 fun K K' => ?_
 refine y6y rfl (fun hc26 => ?_) (fun hc26 => ?_)
 ·(simp [kI, kEv, kOu, kPa, kLa, kVi, mEv, mOu, mSt] at hc26; omega)
 try simp at hc26
 refine dv 8 ?_
 refine x0x rfl rfl rfl (a7n c p.outs (q + 10 + szs zEv p.sends) (by omega)) ?_
 refine dv 4 ?_
 refine y6y rfl (fun hc27 => ?_) (fun hc27 => ?_)
 ·(simp [kI, kEv, kOu, kPa, kLa, kVi, mEv, mOu, mSt] at hc27; omega)
 try simp at hc27
 refine dv 3 ?_
 refine x2x (b := 1) rfl rfl (by omega) (dv 1 ?_)
 exact ⟨i + 1, ⟨by omega, by omega⟩, [], (Cov.cons' (t := 1) rfl (by rw [r6r zPa hp]; exact congrArg (fun v : Nat => AV.pv (.int .i64 (v : Int))) (by omega)) (x5x 5 rfl Cov.nil)), y2y, y1y, y1y, rfl⟩
theorem b8o (c : Bool) (l : List La) (k : Nat) (hk : k + szs zLa l ≤ 1000000000) : r0r Tryz.prog 198 [c6p c (mks zLa kLa k l), .pv (.int .i64 (k : Int))] (.pv (.int .i64 ((k + szs zLa l : Nat) : Int))) := by
 refine pX Tryz.f198 [.pv (.int .i64 ((k + szs zLa l : Nat) : Int))] 0 ?_
 have hml := a4o zLa kLa k l
 have hll := a4p zLa (fun p => by unfold zLa; omega) l
 refine dv 6 fun K K' => ?_
 refine x4x (ι := Nat) (fun i γ1 => [(1, pI ((k + szs zLa (l.take i) : Nat) : Int)), (5, pI (i : Int))]) (fun i γ1 => []) (fun i => i ≤ l.length) (fun i => l.length - i) (x5x 0 rfl Cov.nil) HE.nil 0 (by omega) [] (Cov.cons' (t := 1) rfl (by rw [List.take_zero]; rfl) (x5x 5 rfl Cov.nil)) y1y rfl fun i γ1 hi => ?_
 refine dc 6 (fun K K' => aS ?_ ?_)<;>intro h<;>try simp at h
 ·obtain rfl : i = l.length := by omega
  refine dv 5 ?_
  refine x1x rfl ?_ rfl
  rw [List.take_length]
 obtain ⟨p, hp⟩ := gE l i
 have hmk := a4q zLa kLa (k := k) hp
 have hat := a2n zLa hp
 have hzp : zLa p = 4 + szs zPa p.done := rfl
 obtain ⟨q, hq⟩ : ∃ q, q = k + szs zLa (l.take i) := ⟨_, rfl⟩
 rw [← hq] at hmk ⊢
 refine dv 12 fun K K' K K' => ?_
 refine y6y rfl (fun hc6 => ?_) (fun hc6 => ?_)
 ·(simp [kI, kEv, kOu, kPa, kLa, kVi, mEv, mOu, mSt] at hc6; done)
 try simp at hc6
 refine dv 3 ?_
 refine x2x (b := 1) rfl rfl (by omega) (dv 11 fun K K' => ?_)
 refine y6y rfl (fun hc8 => ?_) (fun hc8 => ?_)
 ·(simp [kI, kEv, kOu, kPa, kLa, kVi, mEv, mOu, mSt] at hc8; done)
 try simp at hc8
 refine dv 3 ?_
 refine x2x (b := 1) rfl rfl (by omega) (dv 11 fun K K' => ?_)
 refine y6y rfl (fun hc10 => ?_) (fun hc10 => ?_)
 ·(simp [kI, kEv, kOu, kPa, kLa, kVi, mEv, mOu, mSt] at hc10; done)
 try simp at hc10
 refine dv 3 ?_
 refine x2x (b := 1) rfl rfl (by omega) (dv 11 fun K K' => ?_)
 refine y6y rfl (fun hc12 => ?_) (fun hc12 => ?_)
 ·(simp [kI, kEv, kOu, kPa, kLa, kVi, mEv, mOu, mSt] at hc12; done)
 try simp at hc12
 refine dv 3 ?_
 refine x2x (b := 1) rfl rfl (by omega) (dv 8 ?_)
 refine x0x rfl rfl rfl (b8n c p.done (q + 4) (by omega)) ?_
 refine dv 4 ?_
 refine y6y rfl (fun hc13 => ?_) (fun hc13 => ?_)
 ·(simp [kI, kEv, kOu, kPa, kLa, kVi, mEv, mOu, mSt] at hc13; omega)
 try simp at hc13
 refine dv 3 ?_
 refine x2x (b := 1) rfl rfl (by omega) (dv 1 ?_)
 exact ⟨i + 1, ⟨by omega, by omega⟩, [], (Cov.cons' (t := 1) rfl (by rw [r6r zLa hp]; exact congrArg (fun v : Nat => AV.pv (.int .i64 (v : Int))) (by omega)) (x5x 5 rfl Cov.nil)), y2y, y1y, y1y, rfl⟩
theorem b8p (c : Bool) (l : List Vi) (k : Nat) (hk : k + szs zVi l ≤ 1000000000) : r0r Tryz.prog 200 [c6q c (mks zVi kVi k l), .pv (.int .i64 (k : Int))] (.pv (.int .i64 ((k + szs zVi l : Nat) : Int))) := by
 refine pX Tryz.f200 [.pv (.int .i64 ((k + szs zVi l : Nat) : Int))] 0 ?_
 have hml := a4o zVi kVi k l
 have hll := a4p zVi (fun p => by unfold zVi; omega) l
 refine dv 6 fun K K' => ?_
 refine x4x (ι := Nat) (fun i γ1 => [(1, pI ((k + szs zVi (l.take i) : Nat) : Int)), (5, pI (i : Int))]) (fun i γ1 => []) (fun i => i ≤ l.length) (fun i => l.length - i) (x5x 0 rfl Cov.nil) HE.nil 0 (by omega) [] (Cov.cons' (t := 1) rfl (by rw [List.take_zero]; rfl) (x5x 5 rfl Cov.nil)) y1y rfl fun i γ1 hi => ?_
 refine dc 6 (fun K K' => aS ?_ ?_)<;>intro h<;>try simp at h
 ·obtain rfl : i = l.length := by omega
  refine dv 5 ?_
  refine x1x rfl ?_ rfl
  rw [List.take_length]
 obtain ⟨p, hp⟩ := gE l i
 have hmk := a4q zVi kVi (k := k) hp
 have hat := a2n zVi hp
 have hzp : zVi p = 2 + szs zEv p.events := rfl
 obtain ⟨q, hq⟩ : ∃ q, q = k + szs zVi (l.take i) := ⟨_, rfl⟩
 rw [← hq] at hmk ⊢
 refine dv 12 fun K K' K K' => ?_
 refine y6y rfl (fun hc6 => ?_) (fun hc6 => ?_)
 ·(simp [kI, kEv, kOu, kPa, kLa, kVi, mEv, mOu, mSt] at hc6; done)
 try simp at hc6
 refine dv 3 ?_
 refine x2x (b := 1) rfl rfl (by omega) (dv 10 fun K K' => ?_)
 refine y6y rfl (fun hc8 => ?_) (fun hc8 => ?_)
 ·(simp [kI, kEv, kOu, kPa, kLa, kVi, mEv, mOu, mSt] at hc8; done)
 try simp at hc8
 refine dv 3 ?_
 refine x2x (b := 1) rfl rfl (by omega) (dv 8 ?_)
 refine x0x rfl rfl rfl (a3e c p.events (q + 2) (by omega)) ?_
 refine dv 4 ?_
 refine y6y rfl (fun hc9 => ?_) (fun hc9 => ?_)
 ·(simp [kI, kEv, kOu, kPa, kLa, kVi, mEv, mOu, mSt] at hc9; omega)
 try simp at hc9
 refine dv 3 ?_
 refine x2x (b := 1) rfl rfl (by omega) (dv 1 ?_)
 exact ⟨i + 1, ⟨by omega, by omega⟩, [], (Cov.cons' (t := 1) rfl (by rw [r6r zVi hp]; exact congrArg (fun v : Nat => AV.pv (.int .i64 (v : Int))) (by omega)) (x5x 5 rfl Cov.nil)), y2y, y1y, y1y, rfl⟩
theorem b2n (c : Bool) (n : Nd) (k : Nat) (hk : k + zNd n ≤ 1000000000) : r0r Tryz.prog 84 [.agg (r4r c (kNd k n)), .pv (.int .i64 (k : Int))] (.pv (.int .i64 ((k + zNd n : Nat) : Int))) := by
 refine pX Tryz.f84 [.pv (.int .i64 ((k + zNd n : Nat) : Int))] 1 ?_
 have hz : zNd n = szs zLa n.lanes + szs zEv n.kept + szs zOu n.outs + szs zVi n.views + szs zI n.known := rfl
 refine dv 1 ?_
 refine x9x (id := 0) rfl rfl rfl (dv 5 ?_)
 refine x0x rfl rfl rfl (b8o c n.lanes k (by omega)) ?_
 refine dv 5 fun K K' => ?_
 refine y6y rfl (fun hc2 => ?_) (fun hc2 => ?_)
 ·(simp [kI, kEv, kOu, kPa, kLa, kVi, mEv, mOu, mSt] at hc2; omega)
 try simp at hc2
 refine dv 5 ?_
 refine x0x rfl rfl rfl (a3e c n.kept (k + szs zLa n.lanes) (by omega)) ?_
 refine dv 5 fun K K' => ?_
 refine y6y rfl (fun hc4 => ?_) (fun hc4 => ?_)
 ·(simp [kI, kEv, kOu, kPa, kLa, kVi, mEv, mOu, mSt] at hc4; omega)
 try simp at hc4
 refine dv 5 ?_
 refine x0x rfl rfl rfl (a7n c n.outs (k + szs zLa n.lanes + szs zEv n.kept) (by omega)) ?_
 refine dv 5 fun K K' => ?_
 refine y6y rfl (fun hc6 => ?_) (fun hc6 => ?_)
 ·(simp [kI, kEv, kOu, kPa, kLa, kVi, mEv, mOu, mSt] at hc6; omega)
 try simp at hc6
 refine dv 5 ?_
 refine x0x rfl rfl rfl (b8p c n.views (k + szs zLa n.lanes + szs zEv n.kept + szs zOu n.outs) (by omega)) ?_
 refine dv 5 fun K K' => ?_
 refine y6y rfl (fun hc8 => ?_) (fun hc8 => ?_)
 ·(simp [kI, kEv, kOu, kPa, kLa, kVi, mEv, mOu, mSt] at hc8; omega)
 try simp at hc8
 refine dv 5 ?_
 refine x0x rfl rfl rfl (a7m c n.known (k + szs zLa n.lanes + szs zEv n.kept + szs zOu n.outs + szs zVi n.views) (by omega)) ?_
 refine dv 5 fun K K' => ?_
 refine y6y rfl (fun hc10 => ?_) (fun hc10 => ?_)
 ·(simp [kI, kEv, kOu, kPa, kLa, kVi, mEv, mOu, mSt] at hc10; omega)
 try simp at hc10
 refine dv 5 ?_
 refine x1x rfl ?_ rfl
 exact congrArg (fun v : Nat => [AV.pv (.int .i64 (v : Int))]) (by omega)
end
section
theorem b6o (c c' : Bool) (a b : Wo) : r0r Tryz.prog 80 [.agg (a5z c a), .agg (a5z c' b)] (.pv (.bool (decide (a = b)))) := by
 refine pX Tryz.f80 [.pv (.bool (decide (a = b)))] 2 ?_
 refine dv 1 ?_
 refine x9x (id := 0) rfl rfl rfl (x9x (id := 1) rfl rfl rfl (dc 8 (fun K K' => aI ?_ ?_)))<;>intro j<;>try simp at j
 ·refine dv 3 ?_
  refine x1x rfl ?_ rfl
  repeat clear K' K
  exact kF (by intro h; subst h; simp_all)
 refine dc 8 (fun K K' => aI ?_ ?_)<;>intro j<;>try simp at j
 ·refine dv 3 ?_
  refine x1x rfl ?_ rfl
  repeat clear K' K
  exact kF (by intro h; subst h; simp_all)
 refine dc 8 (fun K K' => aI ?_ ?_)<;>intro j<;>try simp at j
 ·refine dv 3 ?_
  refine x1x rfl ?_ rfl
  repeat clear K' K
  exact kF (by intro h; subst h; simp_all)
 refine dc 8 (fun K K' => aI ?_ ?_)<;>intro j<;>try simp at j
 ·refine dv 3 ?_
  refine x1x rfl ?_ rfl
  repeat clear K' K
  exact kF (by intro h; subst h; simp_all)
 refine dc 8 (fun K K' => aI ?_ ?_)<;>intro j<;>try simp at j
 ·refine dv 3 ?_
  refine x1x rfl ?_ rfl
  repeat clear K' K
  exact kF (by intro h; subst h; simp_all)
 refine dc 8 (fun K K' => aI ?_ ?_)<;>intro j<;>try simp at j
 ·refine dv 3 ?_
  refine x1x rfl ?_ rfl
  repeat clear K' K
  exact kF (by intro h; subst h; simp_all)
 refine dc 8 (fun K K' => aI ?_ ?_)<;>intro j<;>try simp at j
 ·refine dv 3 ?_
  refine x1x rfl ?_ rfl
  repeat clear K' K
  exact kF (by intro h; subst h; simp_all)
 refine dv 7 fun K K' => ?_
 refine x0x rfl rfl rfl (b0r ..) (dc 1 (aI ?_ ?_))<;>intro j<;>try simp at j
 ·refine dv 3 ?_
  refine x1x rfl ?_ rfl
  repeat clear K' K
  exact kF (by intro h; subst h; simp_all)
 refine dv 7 fun K K' => ?_
 refine x0x rfl rfl rfl (b0r ..) (dc 1 (aI ?_ ?_))<;>intro j<;>try simp at j
 ·refine dv 3 ?_
  refine x1x rfl ?_ rfl
  repeat clear K' K
  exact kF (by intro h; subst h; simp_all)
 refine dv 7 fun K K' => ?_
 refine x0x rfl rfl rfl (a5c ..) (dc 1 (aI ?_ ?_))<;>intro j<;>try simp at j
 ·refine dv 3 ?_
  refine x1x rfl ?_ rfl
  repeat clear K' K
  exact kF (by intro h; subst h; simp_all)
 refine dv 7 fun K K' => ?_
 refine x0x rfl rfl rfl (b0s ..) (dc 1 (aI ?_ ?_))<;>intro j<;>try simp at j
 ·refine dv 3 ?_
  refine x1x rfl ?_ rfl
  repeat clear K' K
  exact kF (by intro h; subst h; simp_all)
 refine dv 4 ?_
 refine x1x rfl ?_ rfl
 repeat clear K' K
 exact kT (by cases a; cases b; simp_all)
theorem a8v (c c' : Bool) (l l' : List Wo) : r0r Tryz.prog 79 [b8e c l, b8e c' l'] (.pv (.bool (decide (l = l')))) := by
 refine pX Tryz.f79 [.pv (.bool (decide (l = l')))] 0 ?_
 refine y8y 0 rfl fun hlen => ?_
 refine dc 9 (fun K K' => aI ?_ ?_)<;>intro j<;>try simp at j
 ·refine dv 3 ?_
  refine x1x rfl ?_ rfl
  exact d8n (by omega)
 refine dv 5 fun K K' => ?_
 refine x4x (ι := Nat) (fun i γ1 => [(5, pI (i : Int))]) (fun i γ1 => []) (fun i => i ≤ l.length ∧ l.length = l'.length ∧ l.take i = l'.take i) (fun i => l.length - i) (a0f [0, 1] rfl) HE.nil 0 ⟨by omega, by omega, rfl⟩ [] y2y y1y rfl fun i γ1 hi => ?_
 obtain ⟨h1, h2, h3⟩ := hi
 refine dc 6 (fun K K' => aS ?_ ?_)<;>intro j<;>try simp at j
 ·refine dv 4 ?_
  refine x1x rfl ?_ rfl
  exact eqT h3 (by omega) (by omega)
 refine dv 6 fun K K' => ?_
 obtain ⟨x, hx⟩ := gE l i
 refine dv 4 ?_
 obtain ⟨y, hy⟩ := gE l' i
 refine dv 2 ?_
 refine x0x rfl rfl rfl (b6o ..) (dc 1 (aS ?_ ?_))<;>intro j<;>try simp at j
 ·refine dv 3 ?_
  refine a0m (.int .i64 ((i + 1 : Nat) : Int)) rfl rfl rfl (a7p rfl (by omega) (by omega) (by have := hlen; omega)) ?_
  refine dv 1 ?_
  exact ⟨i + 1, ⟨⟨by omega, h2, a3s h3 hx hy (by assumption)⟩, by omega⟩, [], y2y, y2y, y1y, y1y, rfl⟩
 refine dv 3 ?_
 refine x1x rfl ?_ rfl
 exact d8o hx hy (by assumption)
end
section
theorem b8q (l : List Wo) (k : Nat) (hk : k + szs zWo l ≤ 1000000000) : Meth Tryz.prog 83 1 [0] [.ref 0 0, .pv (.int .i64 (k : Int))] [(0, (0, .row 79 11 (l.map a7j)))] (.pv (.int .i64 ((k + szs zWo l : Nat) : Int))) [(0, (0, .row 79 11 ((mks zWo kWo k l).map a7j)))] := by
 refine u9u z9z (fn := Tryz.f83) (by kernel_rfl) (by kernel_rfl) rfl (O0 := [.pv (.int .i64 ((k + szs zWo l : Nat) : Int))]) 1 1 (a0w rfl) (by rfl) (by repeat (first | exact BndH.nil | refine BndH.row (y5y fun _ => rfl) ?_)) (by repeat (first | exact BndH.nil | refine BndH.row (y5y fun _ => rfl) ?_)) (by rfl) fun γ => ?_
 show Ex Tryz.prog _ _ [(0, .ref 0 (γ 0)), (1, .pv (.int .i64 (k : Int)))] [(0, ((γ 0), .row 79 11 (l.map a7j))), (1, (0, .dead))] _
 have hml := a4o zWo kWo k l
 have hll := a4p zWo (fun p => by unfold zWo; omega) l
 refine dv 6 fun K K' => ?_
 refine x4x (ι := Nat) (fun i γ1 => [(1, pI ((k + szs zWo (l.take i) : Nat) : Int)), (5, pI (i : Int))]) (fun i γ1 => [(1, ((γ1 1), .dead)), (0, ((γ 0), .row 79 11 (((mks zWo kWo k l).take i).map a7j ++ (l.drop i).map a7j)))]) (fun i => i ≤ l.length) (fun i => l.length - i) (x5x 0 rfl Cov.nil) HE.nil 0 (by omega) [0, _] (Cov.cons' (t := 1) rfl (by rw [List.take_zero]; rfl) (x5x 5 rfl Cov.nil)) (HE.kill rfl (HE.row rfl (by rw [List.take_zero, List.drop_zero]; rfl) HE.nil)) rfl fun i γ1 hi => ?_
 refine dv 4 fun K K' => ?_
 refine a9x (n := l.length) rfl b1g rfl rfl (by rw [List.length_append, List.length_map, List.length_map, List.length_take, List.length_drop]; omega) ?_
 refine dc 1 (aS ?_ ?_)<;>intro h<;>try simp at h
 ·obtain rfl : i = l.length := by omega
  refine dv 5 ?_
  exact ⟨[γ 0], rfl, congrArg (fun v : Nat => some [AV.pv (.int .i64 (v : Int))]) (by rw [List.take_length]), HE.row rfl (by rw [List.take_of_length_le (by omega), List.drop_length, List.map_nil, List.append_nil]) HE.nil⟩
 obtain ⟨p, hp⟩ := gE l i
 have hmk := a4q zWo kWo (k := k) hp
 have hat := a2n zWo hp
 have hzp : zWo p = 7 + szs zI p.incs + szs zI p.versions + szs zEv p.events + szs zOu p.outs := rfl
 have hAl : (((mks zWo kWo k l).take i).map a7j).length = i := by rw [List.length_map, List.length_take]; omega
 rw [v1v hp, List.map_cons]
 rw [show a7j p = [pI p.kind, pI p.from', pI p.to, pI p.inc, pI p.version, pI p.round, pI p.g, .row .ow 3 1 (p.incs.map r5r), .row .ow 3 1 (p.versions.map r5r), .row .ow 56 7 (p.events.map y3y), .row .ow 141 5 (p.outs.map v8v)] from rfl]
 obtain ⟨q, hq⟩ : ∃ q, q = k + szs zWo (l.take i) := ⟨_, rfl⟩
 rw [← hq] at hmk ⊢
 refine dv 7 fun K K' => ?_
 refine u0u rfl rfl b1g rfl a0v rfl rfl hAl (x8x rfl a0v rfl rfl w1w rfl rfl (z6z hAl rfl rfl w1w rfl rfl rfl rfl rfl rfl rfl (by simp only [b0t]; rfl) ?_))
 refine dv 2 ?_
 refine x2x (b := 1) rfl rfl (by omega) (dv 5 ?_)
 refine u0u rfl rfl b1g rfl a0v rfl rfl hAl (x8x rfl a0v rfl rfl w1w rfl rfl (z6z hAl rfl rfl w1w rfl rfl rfl rfl rfl rfl rfl (by simp only [b0t]; rfl) ?_))
 refine dv 2 ?_
 refine x2x (b := 1) rfl rfl (by omega) (dv 5 ?_)
 refine u0u rfl rfl b1g rfl a0v rfl rfl hAl (x8x rfl a0v rfl rfl w1w rfl rfl (z6z hAl rfl rfl w1w rfl rfl rfl rfl rfl rfl rfl (by simp only [b0t]; rfl) ?_))
 refine dv 2 ?_
 refine x2x (b := 1) rfl rfl (by omega) (dv 5 ?_)
 refine u0u rfl rfl b1g rfl a0v rfl rfl hAl (x8x rfl a0v rfl rfl w1w rfl rfl (z6z hAl rfl rfl w1w rfl rfl rfl rfl rfl rfl rfl (by simp only [b0t]; rfl) ?_))
 refine dv 2 ?_
 refine x2x (b := 1) rfl rfl (by omega) (dv 5 ?_)
 refine u0u rfl rfl b1g rfl a0v rfl rfl hAl (x8x rfl a0v rfl rfl w1w rfl rfl (z6z hAl rfl rfl w1w rfl rfl rfl rfl rfl rfl rfl (by simp only [b0t]; rfl) ?_))
 refine dv 2 ?_
 refine x2x (b := 1) rfl rfl (by omega) (dv 5 ?_)
 refine u0u rfl rfl b1g rfl a0v rfl rfl hAl (x8x rfl a0v rfl rfl w1w rfl rfl (z6z hAl rfl rfl w1w rfl rfl rfl rfl rfl rfl rfl (by simp only [b0t]; rfl) ?_))
 refine dv 2 ?_
 refine x2x (b := 1) rfl rfl (by omega) (dv 5 ?_)
 refine u0u rfl rfl b1g rfl a0v rfl rfl hAl (x8x rfl a0v rfl rfl w1w rfl rfl (z6z hAl rfl rfl w1w rfl rfl rfl rfl rfl rfl rfl (by simp only [b0t]; rfl) ?_))
 refine dv 2 ?_
 refine x2x (b := 1) rfl rfl (by omega) (dv 1 ?_)
 refine a5r 0 7 1 hAl rfl rfl rfl rfl rfl (dv 3 ?_)
 refine u0u rfl rfl b1g rfl a0v rfl rfl hAl (dv 1 ?_)
 refine a7y hAl rfl a0i rfl rfl (dv 1 ?_)
 refine rlM [1] [_] (a2v p.incs (q + 7) (by omega)) rfl rfl rfl ?_
 refine dv 1 ?_
 refine a7z 0 7 1 hAl rfl rfl rfl (y5y fun _ => rfl) rfl rfl ?_
 refine a5r 0 8 1 hAl rfl rfl rfl rfl rfl (dv 3 ?_)
 refine u0u rfl rfl b1g rfl a0v rfl rfl hAl (dv 1 ?_)
 refine a7y hAl rfl a0i rfl rfl (dv 1 ?_)
 refine rlM [1] [_] (a2v p.versions (q + 7 + szs zI p.incs) (by omega)) rfl rfl rfl ?_
 refine dv 1 ?_
 refine a7z 0 8 1 hAl rfl rfl rfl (y5y fun _ => rfl) rfl rfl ?_
 refine a5r 0 9 1 hAl rfl rfl rfl rfl rfl (dv 3 ?_)
 refine u0u rfl rfl b1g rfl a0v rfl rfl hAl (dv 1 ?_)
 refine a7y hAl rfl w2w rfl rfl (dv 1 ?_)
 refine rlM [1] [_] (a1e p.events (q + 7 + szs zI p.incs + szs zI p.versions) (by omega)) rfl rfl rfl ?_
 refine dv 1 ?_
 refine a7z 0 9 1 hAl rfl rfl rfl (y5y fun _ => rfl) rfl rfl ?_
 refine a5r 0 10 1 hAl rfl rfl rfl rfl rfl (dv 3 ?_)
 refine u0u rfl rfl b1g rfl a0v rfl rfl hAl (dv 1 ?_)
 refine a7y hAl rfl q5q rfl rfl (dv 1 ?_)
 refine rlM [1] [_] (a5b p.outs (q + 7 + szs zI p.incs + szs zI p.versions + szs zEv p.events) (by omega)) rfl rfl rfl ?_
 refine dv 1 ?_
 refine a7z 0 10 1 hAl rfl rfl rfl (y5y fun _ => rfl) rfl rfl ?_
 refine dv 2 ?_
 refine x2x (b := 1) rfl rfl (by omega) (dv 1 ?_)
 exact ⟨i + 1, ⟨by omega, by omega⟩, [0, _], (Cov.cons' (t := 1) rfl (by rw [r6r zWo hp]; exact congrArg (fun v : Nat => AV.pv (.int .i64 (v : Int))) (by omega)) (x5x 5 rfl Cov.nil)), y2y, (HE.kill rfl (HE.row rfl (by rw [z3z hmk, List.map_append, List.append_assoc]; rfl) HE.nil)), y1y, rfl⟩
theorem b1f (c : Bool) (l : List Wo) (k : Nat) (hk : k + szs zWo l ≤ 1000000000) : r0r Tryz.prog 85 [b8e c (mks zWo kWo k l), .pv (.int .i64 (k : Int))] (.pv (.int .i64 ((k + szs zWo l : Nat) : Int))) := by
 refine pX Tryz.f85 [.pv (.int .i64 ((k + szs zWo l : Nat) : Int))] 0 ?_
 have hml := a4o zWo kWo k l
 have hll := a4p zWo (fun p => by unfold zWo; omega) l
 refine dv 6 fun K K' => ?_
 refine x4x (ι := Nat) (fun i γ1 => [(1, pI ((k + szs zWo (l.take i) : Nat) : Int)), (5, pI (i : Int))]) (fun i γ1 => []) (fun i => i ≤ l.length) (fun i => l.length - i) (x5x 0 rfl Cov.nil) HE.nil 0 (by omega) [] (Cov.cons' (t := 1) rfl (by rw [List.take_zero]; rfl) (x5x 5 rfl Cov.nil)) y1y rfl fun i γ1 hi => ?_
 refine dc 6 (fun K K' => aS ?_ ?_)<;>intro h<;>try simp at h
 ·obtain rfl : i = l.length := by omega
  refine dv 5 ?_
  refine x1x rfl ?_ rfl
  rw [List.take_length]
 obtain ⟨p, hp⟩ := gE l i
 have hmk := a4q zWo kWo (k := k) hp
 have hat := a2n zWo hp
 have hzp : zWo p = 7 + szs zI p.incs + szs zI p.versions + szs zEv p.events + szs zOu p.outs := rfl
 obtain ⟨q, hq⟩ : ∃ q, q = k + szs zWo (l.take i) := ⟨_, rfl⟩
 rw [← hq] at hmk ⊢
 refine dv 12 fun K K' K K' => ?_
 refine y6y rfl (fun hc6 => ?_) (fun hc6 => ?_)
 ·(simp [kI, kEv, kOu, kPa, kLa, kVi, kWo, mEv, mOu, mSt] at hc6; done)
 try simp at hc6
 refine dv 3 ?_
 refine x2x (b := 1) rfl rfl (by omega) (dv 10 fun K K' => ?_)
 refine y6y rfl (fun hc8 => ?_) (fun hc8 => ?_)
 ·(simp [kI, kEv, kOu, kPa, kLa, kVi, kWo, mEv, mOu, mSt] at hc8; done)
 try simp at hc8
 refine dv 3 ?_
 refine x2x (b := 1) rfl rfl (by omega) (dv 10 fun K K' => ?_)
 refine y6y rfl (fun hc10 => ?_) (fun hc10 => ?_)
 ·(simp [kI, kEv, kOu, kPa, kLa, kVi, kWo, mEv, mOu, mSt] at hc10; done)
 try simp at hc10
 refine dv 3 ?_
 refine x2x (b := 1) rfl rfl (by omega) (dv 10 fun K K' => ?_)
 refine y6y rfl (fun hc12 => ?_) (fun hc12 => ?_)
 ·(simp [kI, kEv, kOu, kPa, kLa, kVi, kWo, mEv, mOu, mSt] at hc12; done)
 try simp at hc12
 refine dv 3 ?_
 refine x2x (b := 1) rfl rfl (by omega) (dv 10 fun K K' => ?_)
 refine y6y rfl (fun hc14 => ?_) (fun hc14 => ?_)
 ·(simp [kI, kEv, kOu, kPa, kLa, kVi, kWo, mEv, mOu, mSt] at hc14; done)
 try simp at hc14
 refine dv 3 ?_
 refine x2x (b := 1) rfl rfl (by omega) (dv 10 fun K K' => ?_)
 refine y6y rfl (fun hc16 => ?_) (fun hc16 => ?_)
 ·(simp [kI, kEv, kOu, kPa, kLa, kVi, kWo, mEv, mOu, mSt] at hc16; done)
 try simp at hc16
 refine dv 3 ?_
 refine x2x (b := 1) rfl rfl (by omega) (dv 10 fun K K' => ?_)
 refine y6y rfl (fun hc18 => ?_) (fun hc18 => ?_)
 ·(simp [kI, kEv, kOu, kPa, kLa, kVi, kWo, mEv, mOu, mSt] at hc18; done)
 try simp at hc18
 refine dv 3 ?_
 refine x2x (b := 1) rfl rfl (by omega) (dv 8 ?_)
 refine x0x rfl rfl rfl (a7m c p.incs (q + 7) (by omega)) ?_
 refine dv 5 fun K K' => ?_
 refine y6y rfl (fun hc20 => ?_) (fun hc20 => ?_)
 ·(simp [kI, kEv, kOu, kPa, kLa, kVi, kWo, mEv, mOu, mSt] at hc20; omega)
 try simp at hc20
 refine dv 8 ?_
 refine x0x rfl rfl rfl (a7m c p.versions (q + 7 + szs zI p.incs) (by omega)) ?_
 refine dv 5 fun K K' => ?_
 refine y6y rfl (fun hc22 => ?_) (fun hc22 => ?_)
 ·(simp [kI, kEv, kOu, kPa, kLa, kVi, kWo, mEv, mOu, mSt] at hc22; omega)
 try simp at hc22
 refine dv 8 ?_
 refine x0x rfl rfl rfl (a3e c p.events (q + 7 + szs zI p.incs + szs zI p.versions) (by omega)) ?_
 refine dv 5 fun K K' => ?_
 refine y6y rfl (fun hc24 => ?_) (fun hc24 => ?_)
 ·(simp [kI, kEv, kOu, kPa, kLa, kVi, kWo, mEv, mOu, mSt] at hc24; omega)
 try simp at hc24
 refine dv 8 ?_
 refine x0x rfl rfl rfl (a7n c p.outs (q + 7 + szs zI p.incs + szs zI p.versions + szs zEv p.events) (by omega)) ?_
 refine dv 4 ?_
 refine y6y rfl (fun hc25 => ?_) (fun hc25 => ?_)
 ·(simp [kI, kEv, kOu, kPa, kLa, kVi, kWo, mEv, mOu, mSt] at hc25; omega)
 try simp at hc25
 refine dv 3 ?_
 refine x2x (b := 1) rfl rfl (by omega) (dv 1 ?_)
 exact ⟨i + 1, ⟨by omega, by omega⟩, [], (Cov.cons' (t := 1) rfl (by rw [r6r zWo hp]; exact congrArg (fun v : Nat => AV.pv (.int .i64 (v : Int))) (by omega)) (x5x 5 rfl Cov.nil)), y2y, y1y, y1y, rfl⟩
end
section
theorem c1q (p : Wo) (k : Nat) (hk : k + zWl p ≤ 1000000000) : Meth Tryz.prog 82 4 [0, 1, 2, 3] [.agg [pI p.kind, pI p.from', pI p.to, pI p.inc, pI p.version, pI p.round, pI p.g, .ref 0 0, .ref 1 0, .ref 2 0, .ref 3 0], .pv (.int .i64 (k : Int))] [(0, (0, .row 3 1 (p.incs.map r5r))), (1, (0, .row 3 1 (p.versions.map r5r))), (2, (0, .row 56 7 (p.events.map y3y))), (3, (0, .row 141 5 (p.outs.map v8v)))] (.pv (.int .i64 ((k + zWl p : Nat) : Int))) [(0, (0, .row 3 1 ((kWl k p).incs.map r5r))), (1, (0, .row 3 1 ((kWl k p).versions.map r5r))), (2, (0, .row 56 7 ((kWl k p).events.map y3y))), (3, (0, .row 141 5 ((kWl k p).outs.map v8v)))] := by
 refine mX Tryz.f82 [.pv (.int .i64 ((k + zWl p : Nat) : Int))] 4 1 fun γ => ?_
 have hz : zWl p = szs zI p.incs + szs zI p.versions + szs zEv p.events + szs zOu p.outs := rfl
 refine dv 1 ?_
 refine x9x (id := 4) rfl rfl rfl (dv 5 ?_)
 refine rlM [0] [_] (a2v p.incs k (by omega)) rfl rfl rfl ?_
 refine dv 5 ?_
 refine rlM [1] [_] (a2v p.versions (k + szs zI p.incs) (by omega)) rfl rfl rfl ?_
 refine dv 5 ?_
 refine rlM [2] [_] (a1e p.events (k + szs zI p.incs + szs zI p.versions) (by omega)) rfl rfl rfl ?_
 refine dv 5 ?_
 refine rlM [3] [_] (a5b p.outs (k + szs zI p.incs + szs zI p.versions + szs zEv p.events) (by omega)) rfl rfl rfl ?_
 refine dv 5 ?_
 exact ⟨[γ 0, γ 1, γ 2, γ 3], rfl, congrArg (fun v : Nat => some [AV.pv (.int .i64 (v : Int))]) (by omega), y1y⟩
end
section
theorem b1n (n : Nd) (w : Wo) : r0r Tryz.prog 14 [.agg (r4r true n), .agg (a5z true w)] (.pv (.bool (true))) := by
 refine pX Tryz.f14 [.pv (.bool (true))] 55 ?_
 refine dv 1 ?_
 refine x9x (id := 0) rfl rfl rfl (x9x (id := 1) rfl rfl rfl (dv 6 ?_))
 refine x0x rfl rfl rfl (c5x true n 1048576 (by omega)) ?_
 refine dc 5 (fun K K' => aI ?_ ?_)<;>intro h<;>try simp at h
 ·refine dv 3 ?_
  exact x1x rfl rfl rfl
 have hs21 : cNd n ≤ 1048576 := b1h (by omega)
 have hl_n : cNd n ≤ 1048576 := by omega
 rw [a0s hs21]
 refine dv 4 ?_
 refine x0x rfl rfl rfl (c6b true w (1048576 - cNd n) (by omega)) ?_
 refine dc 5 (fun K K' => aI ?_ ?_)<;>intro h<;>try simp at h
 ·refine dv 3 ?_
  exact x1x rfl rfl rfl
 have hs26 : cWo w ≤ (1048576 - cNd n) := b1h (by omega)
 have hl_w : cWo w ≤ 1048576 := by omega
 have := e2a n
 have := e7h w
 have hzA : 1 + zNd (n) + zWl (w) ≤ 900000000 := by omega
 have hzR : 1 + zNd ((y4y n w).1) + szs zWo ((y4y n w).2) ≤ 900000000 := by (have := e2a (y4y n w).1; have := d3u n w; omega)
 refine dv 3 ?_
 refine rlM [7, 8, 9, 10, 11] [_, _, _, _, _] (a6j true n hl_n) rfl rfl rfl ?_
 refine dv 1 ?_
 refine rlM [12, 13, 14, 15] [_, _, _, _] (a6k true w hl_w) rfl rfl rfl ?_
 refine a2l rfl rfl rfl (b3l rfl rfl rfl rfl rfl (c8x rfl rfl rfl rfl (.nil))) (c1p false n w) (.tup (a2i (e0j _) (a2i (d8c _) e2l))) ?_
 refine dv 3 ?_
 refine x3x (id := 2) a0o a0p rfl (dv 4 ?_)
 refine rlM [16, 17, 18, 19, 20] [_, _, _, _, _] (a6j true n hl_n) rfl rfl rfl ?_
 refine x3x (id := 3) a0o a0p rfl (dv 3 ?_)
 refine rlM [21, 22, 23, 24] [_, _, _, _] (a6k true w hl_w) rfl rfl rfl ?_
 refine x3x (id := 4) a0v a9f rfl (dv 4 ?_)
 refine c4l [25, 26, 27, 28, 29, 30] [_, _, _, _, _, _] (a9q false n w) rfl rfl rfl (LendM.base (b3l rfl rfl rfl rfl rfl (c8x rfl rfl rfl rfl (.nil)))) rfl (by decide) rfl rfl e8t (by (simp only [pI, a8b, a8e, d1r, gl, nx, c1s, Nat.beq]; rfl)) (by (simp only [pI, a8b, a8e, d1r, gl, nx, c1s, Nat.beq]; rfl)) rfl rfl (d6g rfl) (by repeat (first | exact StrH.nil | refine StrH.dead ?_)) (e4r (.row (StrC.map e2m _) (.nil))) ?_
 refine dv 3 ?_
 refine x3x (id := 5) a0o a0p rfl (dv 6 fun K K' => ?_)
 refine a2l rfl rfl rfl (b3l rfl rfl rfl rfl rfl (e0h rfl rfl .nil)) (a6q false true ((y4y n w).1) ((y4y n w).1)) (.pv _) ?_
 refine dv 2 ?_
 refine e3d rfl rfl (fun hg6 => ?_) (fun hg6 => ?_)
 rotate_left
 ·(simp at hg6; done)
 try simp at hg6
 refine dv 2 ?_
 refine a2l rfl rfl rfl (c1d rfl (.cl rfl .nil)) (a8v false true ((y4y n w).2) ((y4y n w).2)) (.pv _) ?_
 refine dv 2 ?_
 refine y6y rfl (fun hc7 => ?_) (fun hc7 => ?_)
 ·(simp at hc7; done)
 try simp at hc7
 refine dv 5 fun K K' => ?_
 refine rlM [31, 32, 33, 34, 35] [_, _, _, _, _] (a6j true n hl_n) rfl rfl rfl ?_
 refine a2l rfl rfl rfl (b3l rfl rfl rfl rfl rfl (b3l rfl rfl rfl rfl rfl (.nil))) (a6q false false n n) (.pv _) ?_
 refine dv 1 ?_
 refine y6y rfl (fun hc9 => ?_) (fun hc9 => ?_)
 ·(simp at hc9; done)
 try simp at hc9
 refine dv 5 fun K K' => ?_
 refine rlM [36, 37, 38, 39] [_, _, _, _] (a6k true w hl_w) rfl rfl rfl ?_
 refine a2l rfl rfl rfl (c8x rfl rfl rfl rfl (c8x rfl rfl rfl rfl (.nil))) (b6o false false w w) (.pv _) ?_
 refine dv 1 ?_
 refine y6y rfl (fun hc11 => ?_) (fun hc11 => ?_)
 ·(simp at hc11; done)
 try simp at hc11
 refine dv 6 ?_
 refine rlM [16, 17, 18, 19, 20] [_, _, _, _, _] (b2m (n) (1) (by omega)) rfl rfl rfl ?_
 refine dv 4 ?_
 refine rlM [21, 22, 23, 24] [_, _, _, _] (c1q (w) (1 + zNd (n)) (by omega)) rfl rfl rfl ?_
 refine v3v rfl (q4q fun K K' => ?_)
 refine exR (q1q rfl (c3g rfl rfl rfl (q1q rfl (e3d rfl rfl (fun hg13 => ?_) (fun hg13 => ?_)))))
 rotate_left
 ·(simp at hg13; omega)
 try simp at hg13
 refine dv 2 ?_
 refine a2l rfl rfl rfl (b3l rfl rfl rfl rfl rfl (e0h rfl rfl .nil)) (a6q false true ((y4y n w).1) ((y4y n w).1)) (.pv _) ?_
 refine dv 3 ?_
 refine e3d rfl rfl (fun hg14 => ?_) (fun hg14 => ?_)
 rotate_left
 ·(simp at hg14; done)
 try simp at hg14
 refine dv 2 ?_
 refine a2l rfl rfl rfl (c1d rfl (.cl rfl .nil)) (a8v false true ((y4y n w).2) ((y4y n w).2)) (.pv _) ?_
 refine dv 2 ?_
 refine y6y rfl (fun hc15 => ?_) (fun hc15 => ?_)
 ·(simp at hc15; done)
 try simp at hc15
 refine dv 6 ?_
 refine rlM [25, 26, 27, 28, 29] [_, _, _, _, _] (b2m ((y4y n w).1) (1) (by omega)) rfl rfl rfl ?_
 refine dv 4 ?_
 refine rlM [30] [_] (b8q ((y4y n w).2) (1 + zNd ((y4y n w).1)) (by omega)) rfl rfl rfl ?_
 refine dv 6 ?_
 refine a2l rfl rfl rfl (b3l (n := (kNd (1) ((y4y n w).1))) rfl rfl rfl rfl rfl (.cl rfl .nil)) (b2n false ((y4y n w).1) (1) (by omega)) (.pv _) ?_
 refine dv 5 fun K K' => ?_
 refine y6y rfl (fun hc17 => ?_) (fun hc17 => ?_)
 ·(simp at hc17; omega)
 try simp at hc17
 refine dv 4 ?_
 refine a2l rfl rfl rfl (c1d rfl (.cl rfl .nil)) (b1f false ((y4y n w).2) (1 + zNd ((y4y n w).1)) (by omega)) (.pv _) ?_
 refine dv 5 fun K K' => ?_
 refine y6y rfl (fun hc19 => ?_) (fun hc19 => ?_)
 ·(simp at hc19; omega)
 try simp at hc19
 refine dv 6 fun K K' => ?_
 refine y6y rfl (fun hc21 => ?_) (fun hc21 => ?_)
 ·(simp at hc21; done)
 try simp at hc21
 refine dv 3 ?_
 refine rlM [40, 41, 42, 43, 44] [_, _, _, _, _] (a6j true n hl_n) rfl rfl rfl ?_
 refine dv 1 ?_
 refine rlM [45, 46, 47, 48] [_, _, _, _] (a6k true w hl_w) rfl rfl rfl ?_
 refine c4l [49, 50, 51, 52, 53, 54] [_, _, _, _, _, _] (a9q false n w) rfl rfl rfl (LendM.base (b3l rfl rfl rfl rfl rfl (c8x rfl rfl rfl rfl (.nil)))) rfl (by decide) rfl rfl e8t (by (simp only [pI, a8b, a8e, d1r, gl, nx, c1s, Nat.beq]; rfl)) (by (simp only [pI, a8b, a8e, d1r, gl, nx, c1s, Nat.beq]; rfl)) rfl rfl (d6g rfl) (by repeat (first | exact StrH.nil | refine StrH.dead ?_)) (e4r (.row (StrC.map e2m _) (.nil))) ?_
 refine dv 3 ?_
 refine x3x (id := 6) a0o a0p rfl (dv 6 fun K K' => ?_)
 refine a2l rfl rfl rfl (b3l rfl rfl rfl rfl rfl (e0h rfl rfl .nil)) (a6q false true ((y4y n w).1) ((y4y n w).1)) (.pv _) ?_
 refine dv 2 ?_
 refine e3d rfl rfl (fun hg23 => ?_) (fun hg23 => ?_)
 rotate_left
 ·(simp at hg23; done)
 try simp at hg23
 refine dv 2 ?_
 refine a2l rfl rfl rfl (c1d rfl (.cl rfl .nil)) (a8v false true ((y4y n w).2) ((y4y n w).2)) (.pv _) ?_
 refine dv 2 ?_
 refine y6y rfl (fun hc24 => ?_) (fun hc24 => ?_)
 ·(simp at hc24; done)
 try simp at hc24
 refine dv 6 ?_
 refine a2l rfl rfl rfl (b3l (n := (kNd (1) ((y4y n w).1))) rfl rfl rfl rfl rfl (.cl rfl .nil)) (b2n false ((y4y n w).1) (1) (by omega)) (.pv _) ?_
 refine dv 5 fun K K' => ?_
 refine y6y rfl (fun hc26 => ?_) (fun hc26 => ?_)
 ·(simp at hc26; omega)
 try simp at hc26
 refine dv 4 ?_
 refine a2l rfl rfl rfl (c1d rfl (.cl rfl .nil)) (b1f false ((y4y n w).2) (1 + zNd ((y4y n w).1)) (by omega)) (.pv _) ?_
 refine dv 5 fun K K' => ?_
 refine y6y rfl (fun hc28 => ?_) (fun hc28 => ?_)
 ·(simp at hc28; omega)
 try simp at hc28
 refine dv 6 fun K K' => ?_
 refine y6y rfl (fun hc30 => ?_) (fun hc30 => ?_)
 ·(simp at hc30; done)
 try simp at hc30
 refine dv 4 ?_
 exact x1x rfl rfl rfl
end
section
def X0 (w : World) : Cx := ⟨fun b => b < w.heap.size, fun b => b < w.heap.size, fun _ _ => none, fun _ _ => none⟩
theorem e0s (w : World) : SRh (X0 w) ⟨w, fun _ => False, fun b => b < w.heap.size, fun b => b < w.heap.size⟩ (fun _ => none) w := by
 refine ⟨fun _ => [], ?_, ?_, ?_, ?_, ?_, ?_, ?_, ?_, ?_, rfl, rfl, rfl, Nat.le_refl _, fun _ _ _ => rfl⟩
 ·intro id g e h; cases h
 ·intro id ge b h; cases h
 ·intro id id' ge ge' b h; cases h
 ·intro b hb; exact ⟨hb, fun id ge h => by cases h⟩
 ·intro b hb; exact hb
 ·intro b hb; exact .inl hb
 ·intro b hb; exact .inl hb
 ·intro id ge b h; cases h
 ·intro id g h; exact ⟨rfl, rfl⟩
theorem d0q (hC : r0r P f avs (.pv u)) (w : World) (vs : List Value) (hl : vs.length = avs.length) (hr : ∀ (i : Nat) (a : AV) (v : Value), avs[i]? = some a → vs[i]? = some v → VR (X0 w) w a v) :
  Calls P f vs.toArray w fun e w' => e = .returned u ∧ Below w.heap.size w w' :=
 (hC.2 (X0 w) _ (fun _ => none) w vs (e0s w) hl hr (fun id ge h => by cases h)).mono fun e w' ⟨v, he, X', hX, hS, hk, hv⟩ => by
  rw [hv.pv_inv] at he
  obtain ⟨F, hS⟩ := hS
  exact ⟨he, hS.os, hS.tape, hS.output, hS.size, fun k hk => hS.keep k hk (fun h => h)⟩
end
section
variable {H : Type} (enc : TypeId × Value → H) (w : World)
theorem d2p : Rd enc Tryz.prog w 276 3 (fun x : St => p0p x) := by
 refine ⟨by rw [(z9z _ _ d1h).cells]; rfl, fun fuel cs x hx => ?_⟩
 obtain ⟨hl, hf⟩ := a5s (z9z _ _ d1h) rfl hx
 obtain ⟨a0, l0, h0⟩ := hf (j := 0) rfl (s2s (z9z _ _ w1w) rfl)
 obtain ⟨a1, l1, h1⟩ := hf (j := 1) rfl (s2s (z9z _ _ w1w) rfl)
 obtain ⟨a2, l2, h2⟩ := hf (j := 2) rfl (s2s (z9z _ _ w1w) rfl)
 exact ⟨⟨a0, a1, a2⟩, rfl, (u7u (o := 0) h0 l0 (u7u (o := 1) h1 l1 (u7u (o := 2) h2 l2 (b1u hl))))⟩
theorem b6p : Rd enc Tryz.prog w 285 7 (fun x : Ev => y3y x) := by
 refine ⟨by rw [(z9z _ _ d4q).cells]; rfl, fun fuel cs x hx => ?_⟩
 obtain ⟨hl, hf⟩ := a5s (z9z _ _ d4q) rfl hx
 obtain ⟨a0, l0, h0⟩ := hf (j := 0) rfl (s2s (z9z _ _ w1w) rfl)
 obtain ⟨a1, l1, h1⟩ := hf (j := 1) rfl (s2s (z9z _ _ w1w) rfl)
 obtain ⟨a2, l2, h2⟩ := hf (j := 2) rfl (s2s (z9z _ _ w1w) rfl)
 obtain ⟨a3, l3, h3⟩ := hf (j := 3) rfl (s2s (z9z _ _ w1w) rfl)
 obtain ⟨a4, l4, h4⟩ := hf (j := 4) rfl (s2s (z9z _ _ w1w) rfl)
 obtain ⟨a5, l5, h5⟩ := hf (j := 5) rfl (s2s (z9z _ _ w1w) rfl)
 obtain ⟨a6, l6, h6⟩ := hf (j := 6) rfl (s2s (z9z _ _ w1w) rfl)
 exact ⟨⟨a0, a1, a2, a3, a4, a5, a6⟩, rfl, (u7u (o := 0) h0 l0 (u7u (o := 1) h1 l1 (u7u (o := 2) h2 l2 (u7u (o := 3) h3 l3 (u7u (o := 4) h4 l4 (u7u (o := 5) h5 l5 (u7u (o := 6) h6 l6 (b1u hl))))))))⟩
theorem d8i : Rd enc Tryz.prog w 287 5 (fun x : Ou => v8v x) := by
 refine ⟨by rw [(z9z _ _ e1g).cells]; rfl, fun fuel cs x hx => ?_⟩
 obtain ⟨hl, hf⟩ := a5s (z9z _ _ e1g) rfl hx
 obtain ⟨a0, l0, h0⟩ := hf (j := 0) rfl (s2s (z9z _ _ w1w) rfl)
 obtain ⟨a1, l1, h1⟩ := hf (j := 1) rfl (s2s (z9z _ _ w1w) rfl)
 obtain ⟨a2, l2, h2⟩ := hf (j := 2) rfl (s2s (z9z _ _ w1w) rfl)
 obtain ⟨a3, l3, h3⟩ := hf (j := 3) rfl (s2s (z9z _ _ w1w) rfl)
 obtain ⟨a4, l4, h4⟩ := hf (j := 4) rfl (s2s (z9z _ _ w1w) rfl)
 exact ⟨⟨a0, a1, a2, a3, a4⟩, rfl, (u7u (o := 0) h0 l0 (u7u (o := 1) h1 l1 (u7u (o := 2) h2 l2 (u7u (o := 3) h3 l3 (u7u (o := 4) h4 l4 (b1u hl))))))⟩
theorem e5a : Rd enc Tryz.prog w 338 12 (fun x : Pa => a0t true x) := by
 refine ⟨by rw [(z9z _ _ e1h).cells]; rfl, fun fuel cs x hx => ?_⟩
 obtain ⟨hl, hf⟩ := a5s (z9z _ _ e1h) rfl hx
 obtain ⟨a0, l0, h0⟩ := hf (j := 0) rfl (b6p enc w)
 obtain ⟨a1, l1, h1⟩ := hf (j := 1) rfl (d2p enc w)
 obtain ⟨a2, l2, h2⟩ := hf (j := 2) rfl (a2y 56 (by decide) (z9z _ _ d9c) rfl (b6p enc w))
 obtain ⟨a3, l3, h3⟩ := hf (j := 3) rfl (a2y 141 (by decide) (z9z _ _ e2z) rfl (d8i enc w))
 exact ⟨⟨a0, a1, a2, a3⟩, rfl, (u7u (o := 0) h0 l0 (u7u (o := 7) h1 l1 (u7u (o := 10) h2 l2 (u7u (o := 11) h3 l3 (b1u hl)))))⟩
theorem e5b : Rd enc Tryz.prog w 279 5 (fun x : La => q8q true x) := by
 refine ⟨by rw [(z9z _ _ e1d).cells]; rfl, fun fuel cs x hx => ?_⟩
 obtain ⟨hl, hf⟩ := a5s (z9z _ _ e1d) rfl hx
 obtain ⟨a0, l0, h0⟩ := hf (j := 0) rfl (s2s (z9z _ _ w1w) rfl)
 obtain ⟨a1, l1, h1⟩ := hf (j := 1) rfl (d2p enc w)
 obtain ⟨a2, l2, h2⟩ := hf (j := 2) rfl (a2y 58 (by decide) (z9z _ _ e5t) rfl (e5a enc w))
 exact ⟨⟨a0, a1, a2⟩, rfl, (u7u (o := 0) h0 l0 (u7u (o := 1) h1 l1 (u7u (o := 4) h2 l2 (b1u hl))))⟩
theorem e5c : Rd enc Tryz.prog w 282 3 (fun x : Vi => a1f true x) := by
 refine ⟨by rw [(z9z _ _ e1f).cells]; rfl, fun fuel cs x hx => ?_⟩
 obtain ⟨hl, hf⟩ := a5s (z9z _ _ e1f) rfl hx
 obtain ⟨a0, l0, h0⟩ := hf (j := 0) rfl (s2s (z9z _ _ w1w) rfl)
 obtain ⟨a1, l1, h1⟩ := hf (j := 1) rfl (s2s (z9z _ _ w1w) rfl)
 obtain ⟨a2, l2, h2⟩ := hf (j := 2) rfl (a2y 56 (by decide) (z9z _ _ d9c) rfl (b6p enc w))
 exact ⟨⟨a0, a1, a2⟩, rfl, (u7u (o := 0) h0 l0 (u7u (o := 1) h1 l1 (u7u (o := 2) h2 l2 (b1u hl))))⟩
theorem e5d : Rd enc Tryz.prog w 99 13 (fun x : Nd => r4r true x) := by
 refine ⟨by rw [(z9z _ _ e5n).cells]; rfl, fun fuel cs x hx => ?_⟩
 obtain ⟨hl, hf⟩ := a5s (z9z _ _ e5n) rfl hx
 obtain ⟨a0, l0, h0⟩ := hf (j := 0) rfl (s2s (z9z _ _ w1w) rfl)
 obtain ⟨a1, l1, h1⟩ := hf (j := 1) rfl (e3o Tryz.underlying4 (by kernel_rfl))
 obtain ⟨a2, l2, h2⟩ := hf (j := 2) rfl (s2s (z9z _ _ w1w) rfl)
 obtain ⟨a3, l3, h3⟩ := hf (j := 3) rfl (s2s (z9z _ _ w1w) rfl)
 obtain ⟨a4, l4, h4⟩ := hf (j := 4) rfl (a2y 44 (by decide) (z9z _ _ e8b) rfl (e5b enc w))
 obtain ⟨a5, l5, h5⟩ := hf (j := 5) rfl (a2y 56 (by decide) (z9z _ _ d9c) rfl (b6p enc w))
 obtain ⟨a6, l6, h6⟩ := hf (j := 6) rfl (a2y 141 (by decide) (z9z _ _ e2z) rfl (d8i enc w))
 obtain ⟨a7, l7, h7⟩ := hf (j := 7) rfl (s2s (z9z _ _ w1w) rfl)
 obtain ⟨a8, l8, h8⟩ := hf (j := 8) rfl (s2s (z9z _ _ w1w) rfl)
 obtain ⟨a9, l9, h9⟩ := hf (j := 9) rfl (a2y 190 (by decide) (z9z _ _ e8c) rfl (e5c enc w))
 obtain ⟨a10, l10, h10⟩ := hf (j := 10) rfl (a2y 3 (by decide) (z9z _ _ a0i) rfl (s2s (z9z _ _ w1w) rfl))
 obtain ⟨a11, l11, h11⟩ := hf (j := 11) rfl (s2s (z9z _ _ w1w) rfl)
 obtain ⟨a12, l12, h12⟩ := hf (j := 12) rfl (s2s (z9z _ _ w1w) rfl)
 exact ⟨⟨a0, a1, a2, a3, a4, a5, a6, a7, a8, a9, a10, a11, a12⟩, rfl, (u7u (o := 0) h0 l0 (u7u (o := 1) h1 l1 (u7u (o := 2) h2 l2 (u7u (o := 3) h3 l3 (u7u (o := 4) h4 l4 (u7u (o := 5) h5 l5 (u7u (o := 6) h6 l6 (u7u (o := 7) h7 l7 (u7u (o := 8) h8 l8 (u7u (o := 9) h9 l9 (u7u (o := 10) h10 l10 (u7u (o := 11) h11 l11 (u7u (o := 12) h12 l12 (b1u hl))))))))))))))⟩
theorem e5f : Rd enc Tryz.prog w 101 11 (fun x : Wo => a5z true x) := by
 refine ⟨by rw [(z9z _ _ e1a).cells]; rfl, fun fuel cs x hx => ?_⟩
 obtain ⟨hl, hf⟩ := a5s (z9z _ _ e1a) rfl hx
 obtain ⟨a0, l0, h0⟩ := hf (j := 0) rfl (s2s (z9z _ _ w1w) rfl)
 obtain ⟨a1, l1, h1⟩ := hf (j := 1) rfl (s2s (z9z _ _ w1w) rfl)
 obtain ⟨a2, l2, h2⟩ := hf (j := 2) rfl (s2s (z9z _ _ w1w) rfl)
 obtain ⟨a3, l3, h3⟩ := hf (j := 3) rfl (s2s (z9z _ _ w1w) rfl)
 obtain ⟨a4, l4, h4⟩ := hf (j := 4) rfl (s2s (z9z _ _ w1w) rfl)
 obtain ⟨a5, l5, h5⟩ := hf (j := 5) rfl (s2s (z9z _ _ w1w) rfl)
 obtain ⟨a6, l6, h6⟩ := hf (j := 6) rfl (s2s (z9z _ _ w1w) rfl)
 obtain ⟨a7, l7, h7⟩ := hf (j := 7) rfl (a2y 3 (by decide) (z9z _ _ a0i) rfl (s2s (z9z _ _ w1w) rfl))
 obtain ⟨a8, l8, h8⟩ := hf (j := 8) rfl (a2y 3 (by decide) (z9z _ _ a0i) rfl (s2s (z9z _ _ w1w) rfl))
 obtain ⟨a9, l9, h9⟩ := hf (j := 9) rfl (a2y 56 (by decide) (z9z _ _ d9c) rfl (b6p enc w))
 obtain ⟨a10, l10, h10⟩ := hf (j := 10) rfl (a2y 141 (by decide) (z9z _ _ e2z) rfl (d8i enc w))
 exact ⟨⟨a0, a1, a2, a3, a4, a5, a6, a7, a8, a9, a10⟩, rfl, (u7u (o := 0) h0 l0 (u7u (o := 1) h1 l1 (u7u (o := 2) h2 l2 (u7u (o := 3) h3 l3 (u7u (o := 4) h4 l4 (u7u (o := 5) h5 l5 (u7u (o := 6) h6 l6 (u7u (o := 7) h7 l7 (u7u (o := 8) h8 l8 (u7u (o := 9) h9 l9 (u7u (o := 10) h10 l10 (b1u hl))))))))))))⟩
variable {enc} {w}
theorem e2n (hr : Rd enc P w t sz e) (h : DataW.Trod enc P w 0 (fun _ => true) true t (.agg cs) d p) : ∃ a, VR (X0 w) w (.agg (e a)) (.agg cs) := by
 obtain ⟨fuel, hf⟩ := h
 obtain ⟨a, _, h2⟩ := hr.2 _ _ _ hf
 refine ⟨a, .cl ?_⟩
 have := CR.agg (ok1 := ltw w) (ok2 := ltw w) (w := w) (cs := e a) cs.toList h2.len h2.one h2.rel
 have e : cs.toList.toArray = cs := by simp
 rw [e] at this
 exact this
end
end Go.Proofs.YtlgknoapdbpojaaGreat.Am
