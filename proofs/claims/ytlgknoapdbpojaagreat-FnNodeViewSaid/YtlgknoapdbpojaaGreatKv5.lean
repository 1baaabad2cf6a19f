/- Part 5 of the texts that the proof of LawFnNodeView leans on, merged by program. -/
import Derived.Test.YtlgknoapdbpojaaGreatKv4
set_option linter.unusedVariables false
set_option linter.unusedSimpArgs false
set_option maxHeartbeats 4000000
set_option autoImplicit true
set_option relaxedAutoImplicit true
namespace Go.Proofs.YtlgknoapdbpojaaGreat.Am
open Go Go.RowKit
section
theorem c6z (W : Tw) (ek en ep ew : Int) (eb : Bool) (hW : c0f W) : MethE Tryz.prog 309 2 [.agg [pI W.time, a5u true W.apps, .ref 0 0, .ref 1 0, pI W.hub.round, w7w true W.hub.ones, w7w true W.hub.twos, w7w true W.hub.outs, r0r true W.sink], .agg [pI ek, pI en, pI ep, pI ew, .pv (.bool eb)]] [(0, (0, .row 65 13 ((W.nodes).map (u1u true)))), (1, (0, .row 79 11 ((W.radio).map (w1w true))))] (ι := Tw × Bool) (fun S' => c0f S'.1 ∧ (S'.2 = false → S'.1.radio = W.radio)) (fun S' => kpB S'.2) (fun S' => .tup [.agg [pI S'.1.time, a5u true S'.1.apps, .ref 0 0, .ref 1 0, pI S'.1.hub.round, w7w true S'.1.hub.ones, w7w true S'.1.hub.twos, w7w true S'.1.hub.outs, r0r true S'.1.sink], .pv (.bool (S'.2))]) (fun S' => [(0, (0, .row 65 13 ((S'.1.nodes).map (u1u true)))), (1, (0, .row 79 11 ((S'.1.radio).map (w1w true))))]) := by
 refine mE (ι := Tw × Bool) Tryz.f309 (fun S' => [.agg [pI S'.1.time, a5u true S'.1.apps, .ref 0 0, .ref 1 0, pI S'.1.hub.round, w7w true S'.1.hub.ones, w7w true S'.1.hub.twos, w7w true S'.1.hub.outs, r0r true S'.1.sink], .pv (.bool (S'.2))]) 2 6 fun γ => ?_
 refine dv 1 ?_
 refine y0y (id := 2) rfl rfl rfl (y0y (id := 3) rfl rfl rfl (x3x (id := 4) b7c c0l rfl (dv 5 fun K K' => ?_)))
 refine x0x rfl rfl rfl (z1z ..) (dc 1 (aI ?_ ?_))<;>intro hc2<;>try simp at hc2
 ·refine dv 5 ?_
  exact ⟨(W, false), ⟨hW, (fun _ => rfl)⟩, [γ 0, γ 1], rfl, rfl, x5x⟩
 have hen : 0 ≤ en ∧ en ≤ 2 := hc2
 obtain ⟨k, rfl⟩ : ∃ k : Nat, en = (k : Int) := ⟨en.toNat, by omega⟩
 obtain ⟨n, hnd, hnI⟩ := b3c hW (i := k) (by omega)
 have hA := hW.1
 have hr40 := hW.2.2.2.1
 refine dv 6 ?_
 refine z0z (j := k) rfl rfl a7u rfl u9u rfl rfl (y7y hnd) ?_
 refine a0g rfl u9u rfl (by assumption) rfl rfl ?_
 refine x3x (id := 5) u9u q1q rfl (dc 8 (fun K K' => aI ?_ ?_))<;>intro o<;>try simp at o
 ·refine dv 2 ?_
  refine x0x rfl rfl rfl (c5u true n) (x3x (id := 6) u9u q1q rfl (dv 7 ?_))
  refine z0z (j := k) rfl rfl a7u rfl u9u rfl rfl (y7y hnd) ?_
  refine v6v (el' := a5f n) rfl rfl u9u rfl rfl rfl hnd rfl (s4s rfl) rfl rfl ?_
  refine dv 10 ?_
  exact ⟨({ W with nodes := W.nodes.set k (a5f n) }, decide ((a5f n).inc > n.inc)), ⟨a6l hW (f6n hnI), (fun _ => rfl)⟩, [γ 0, γ 1], (d5q γ _ gl rfl rfl), rfl, x5x⟩
 refine dc 5 (aI ?_ ?_)<;>intro o<;>try simp at o
 ·refine dv 5 ?_
  exact ⟨(W, false), ⟨hW, (fun _ => rfl)⟩, [γ 0, γ 1], rfl, rfl, x5x⟩
 refine dc 5 (aI ?_ ?_)<;>intro o<;>try simp at o
 ·refine a0i fun B X0 w0 => ?_
  refine txR 5 rfl rfl (dv 5 ?_)
  refine txM [] [] (c5o W.apps n ep hnI hA) rfl rfl rfl rfl fun j hj => ?_
  refine txR 6 rfl rfl (dv 3 ?_)
  refine x3x (id := 7) u9u q1q rfl (dv 2 ?_)
  refine u2u rfl (dv 6 ?_)
  refine z0z (j := k) rfl rfl a7u rfl u9u rfl rfl (y7y hnd) ?_
  refine v6v (el' := j.1) rfl rfl u9u rfl rfl rfl hnd rfl (s4s rfl) rfl rfl ?_
  refine dv 6 ?_
  exact ⟨({ W with nodes := W.nodes.set k j.1 }, j.2), ⟨a6l hW hj, (fun _ => rfl)⟩, [γ 0, γ 1], (d5q γ _ gl rfl rfl), rfl, x5x⟩
 refine dc 5 (aI ?_ ?_)<;>intro o<;>try simp at o
 ·refine dv 4 ?_
  refine x0x rfl rfl rfl (c5v true n) ?_
  refine rlM [1] [_] (a1m W.radio (c4n n) hr40) rfl rfl rfl ?_
  refine dv 7 ?_
  exact ⟨({ W with radio := b2y W.radio (c4n n) }, true), ⟨b5i hW (e8p hnI.1), (fun h => by cases h)⟩, [γ 0, _], rfl, rfl, x5x⟩
 refine dv 7 ?_
 refine x0x rfl rfl rfl (c5t true n) ?_
 refine z0z (j := k) rfl rfl a7u rfl u9u rfl rfl (y7y hnd) ?_
 refine v6v (el' := a8k n) rfl rfl u9u rfl rfl rfl hnd rfl (s4s rfl) rfl rfl ?_
 refine dc 5 (fun K K' => aS ?_ ?_)<;>intro o<;>try simp at o
 ·refine dv 1 ?_
  skip
  refine dv 5 ?_
  exact ⟨({ W with nodes := W.nodes.set k (a8k n) }, true), ⟨a6l hW (f0o hnI), (fun h => by cases h)⟩, [γ 0, γ 1], rfl, rfl, x5x⟩
 obtain rfl : k = 0 := by omega
 refine dv 1 ?_
 refine rlB a7i b7d ?_
 refine dv 1 ?_
 refine a1k rfl rfl a7i rfl rfl rfl rfl (s0s rfl) rfl ?_
 refine dv 0 ?_
 refine e2j 2 rfl (.same (.same (.same (.same (.same (.le (b := w7w true ([] : List Wo)) rfl .nil rfl (.le (b := w7w true ([] : List Wo)) rfl .nil rfl (.le (b := w7w true ([] : List Wo)) rfl .nil rfl (LeCs.refl _))))))))) ?_
 refine dv 5 ?_
 exact ⟨({ W with nodes := W.nodes.set 0 (a8k n), hub := hb0 }, true), ⟨d3q (a6l hW (f0o hnI)) e5a, (fun h => by cases h)⟩, [γ 0, γ 1], rfl, rfl, x5x⟩
end
section
theorem c5w (W : Tw) (ek en ep ew : Int) (eb : Bool) (hW : c0f W) : MethE Tryz.prog 310 2 [.agg [pI W.time, a5u true W.apps, .ref 0 0, .ref 1 0, pI W.hub.round, w7w true W.hub.ones, w7w true W.hub.twos, w7w true W.hub.outs, r0r true W.sink], .agg [pI ek, pI en, pI ep, pI ew, .pv (.bool eb)]] [(0, (0, .row 65 13 ((W.nodes).map (u1u true)))), (1, (0, .row 79 11 ((W.radio).map (w1w true))))] (ι := Tw × Bool) (fun S' => c0f S'.1 ∧ (S'.2 = false → S'.1.radio = W.radio)) (fun S' => kpB S'.2) (fun S' => .tup [.agg [pI S'.1.time, a5u true S'.1.apps, .ref 0 0, .ref 1 0, pI S'.1.hub.round, w7w true S'.1.hub.ones, w7w true S'.1.hub.twos, w7w true S'.1.hub.outs, r0r true S'.1.sink], .pv (.bool (S'.2))]) (fun S' => [(0, (0, .row 65 13 ((S'.1.nodes).map (u1u true)))), (1, (0, .row 79 11 ((S'.1.radio).map (w1w true))))]) := by
 refine mE (ι := Tw × Bool) Tryz.f310 (fun S' => [.agg [pI S'.1.time, a5u true S'.1.apps, .ref 0 0, .ref 1 0, pI S'.1.hub.round, w7w true S'.1.hub.ones, w7w true S'.1.hub.twos, w7w true S'.1.hub.outs, r0r true S'.1.sink], .pv (.bool (S'.2))]) 2 11 fun γ => ?_
 have hr40 := hW.2.2.2.1
 refine dv 1 ?_
 refine y0y (id := 2) rfl rfl rfl (y0y (id := 3) rfl rfl rfl (x3x (id := 4) b7c c0l rfl (dv 7 fun K K' => ?_)))
 refine a3w (n := W.radio.length) rfl r8r rfl rfl (List.length_map _) ?_
 refine s5s (.int .i64 ((W.radio.length : Int) - 1)) rfl rfl rfl (a6s rfl (by omega) (by omega) (by omega)) ?_
 refine x0x rfl rfl rfl (z1z ..) (dc 1 (aI ?_ ?_))<;>intro hc2<;>try simp at hc2
 ·refine dv 5 ?_
  exact ⟨(W, false), ⟨hW, (fun _ => rfl)⟩, [γ 0, γ 1], rfl, rfl, x5x⟩
 have hr40 := hW.2.2.2.1
 have hew : 0 ≤ ew ∧ ew ≤ (W.radio.length : Int) - 1 := hc2
 obtain ⟨j, rfl⟩ : ∃ j : Nat, ew = (j : Int) := ⟨ew.toNat, by omega⟩
 have hjl : j < W.radio.length := by omega
 obtain ⟨x, hx⟩ := gE W.radio j
 have hxr := hW.2.2.2.2.1 x (List.mem_of_getElem? hx)
 obtain ⟨n0, h0, h0I⟩ := b3c hW (i := 0) (by omega)
 have hHb := hW.2.2.2.2.2.1
 refine dv 6 ?_
 refine z0z (j := j) rfl rfl r8r rfl p0p rfl rfl hjl ?_
 refine a0g rfl p0p rfl (by assumption) rfl rfl ?_
 refine x3x (id := 5) p0p b1l rfl (dc 7 (fun K K' => aS ?_ ?_))<;>intro o<;>try simp at o
 ·refine dv 5 ?_
  refine y1y (id := 6) r8r rfl p0p rfl (dv 4 ?_)
  refine c7v v3v rfl r8r rfl p0p rfl rfl rfl rfl (by omega) (by omega) (by (simp only [a0e]; omega)) ?_
  refine b1z (f := w1w true) (l := ([] : List Wo)) (l2 := W.radio) (l' := W.radio.take j) rfl rfl r8r rfl p0p rfl rfl rfl rfl (z9z (fun _ => rfl) _) (by (simp; done)) (by simp only [a0u, b3x, r7r, T79]; omega) ?_
  refine dv 4 ?_
  refine s5s (.int .i64 ((j + 1 : Nat) : Int)) rfl rfl rfl (a6s rfl (by omega) (by omega) (by omega)) ?_
  refine c7v v3v rfl r8r rfl p0p rfl rfl rfl rfl (by omega) (by (simp only [a0e]; omega)) (by omega) ?_
  refine b1z (f := w1w true) (l := W.radio.take j) (l2 := W.radio) (l' := (W.radio.take j ++ W.radio.drop (j + 1))) rfl rfl r8r rfl p0p rfl rfl rfl rfl (z9z (fun _ => rfl) _) (by (simp; done)) (by simp only [a0u, b3x, r7r, T79]; omega) ?_
  refine dv 3 fun K K' => ?_
  (refine e4m 2 6 1 rfl rfl rfl rfl rfl rfl rfl ?_; obtain ⟨r, er, hr1, hr2⟩ : ∃ r, (W.radio.take j ++ W.radio.drop (j + 1)) = r ∧ r.length ≤ 40 ∧ ∀ q ∈ r, d0h q := ⟨_, rfl, e6b hW, e6c hW⟩; rw [er])
  refine dc 4 (aI ?_ ?_)<;>intro o<;>try simp at o
  ·refine dv 5 ?_
   exact ⟨({ W with radio := r }, true), ⟨a7g hW hr1 hr2, (fun h => by cases h)⟩, [γ 0, _], rfl, rfl, x5x⟩
  refine dv 2 ?_
  refine y1y (id := 9) r8r rfl p0p rfl (dv 2 fun K K' => ?_)
  refine p9p (ι := Bool) (fun b γ3 => [(73, .pv (.bool (b)))]) (fun b γ3 => []) (fun b => True) (q6q [2, 4, 6] rfl) (a0p [0, 1, 2, 3, 4, 5, 6, 7, 8, 9, 10, 11, 12] rfl) ?_ fun b γ3 hi => ?_
  ·refine dc 5 (aS ?_ ?_)<;>intro o<;>try simp at o
   ·refine dv 13 ?_
    exact ⟨_, trivial, [], x6x, x6x, x5x, x5x, rfl⟩
   refine dc 4 (aS ?_ ?_)<;>intro o<;>try simp at o
   ·refine dv 9 ?_
    exact ⟨_, trivial, [], x6x, x6x, x5x, x5x, rfl⟩
   refine dc 5 (aS ?_ ?_)<;>intro o<;>try simp at o
   ·refine dv 4 ?_
    exact ⟨_, trivial, [], x6x, x6x, x5x, x5x, rfl⟩
   refine dv 5 ?_
   exact ⟨_, trivial, [], x6x, x6x, x5x, x5x, rfl⟩
  ·try dsimp only [b1e, b1f]
   refine dc 0 (aS ?_ ?_)<;>intro o<;>try simp at o
   ·obtain ⟨q, hq⟩ : ∃ q : Nat, x.to = (q : Int) := ⟨x.to.toNat, by have := hxr.1; omega⟩
    obtain ⟨n, hnd, hnI⟩ := b3c hW (i := q) (by have := hxr.1; omega)
    refine dv 4 ?_
    refine y8y (out := pI x.to) rfl s3s rfl rfl ?_
    rw [hq]
    refine z0z (j := q) rfl rfl a7u rfl u9u rfl rfl (y7y hnd) ?_
    refine a0g rfl u9u rfl (by assumption) rfl rfl ?_
    refine dv 1 ?_
    refine x0x rfl rfl rfl (a9t true n x) (dv 3 ?_)
    refine x3x (id := 12) u9u q1q rfl (dv 6 ?_)
    refine y8y (out := pI x.to) rfl s3s rfl rfl ?_
    rw [hq]
    refine dv 1 ?_
    refine z0z (j := q) rfl rfl a7u rfl u9u rfl rfl (y7y hnd) ?_
    refine v6v (el' := (p5p n x).1) rfl rfl u9u rfl rfl rfl hnd rfl (s4s rfl) rfl rfl ?_
    refine dv 7 ?_
    refine rlM [1] [_] (a1m r (p5p n x).2 hr1) rfl rfl rfl ?_
    refine dv 7 ?_
    exact ⟨({ W with nodes := W.nodes.set q (p5p n x).1, radio := b2y r (p5p n x).2 }, true), ⟨b5i (W := { W with nodes := _, radio := r }) (a7g (a6l hW (e5n hnI x)) hr1 hr2) (d0i hnI.1 x), (fun h => by cases h)⟩, [γ 0, _], rfl, rfl, x5x⟩
   refine dv 2 ?_
   refine y8y (out := .agg (a8o true W.hub)) rfl a7i rfl rfl ?_
   refine dv 2 ?_
   refine z0z (j := 0) rfl rfl a7u rfl u9u rfl rfl (y7y h0) (a0g rfl u9u rfl (by assumption) rfl rfl ?_)
   refine dv 1 ?_
   refine x0x rfl rfl rfl (b0x true W.hub n0 x) (dv 4 ?_)
   refine x3x (id := 10) a7i b7d rfl (x3x (id := 11) u9u q1q rfl (dv 6 ?_))
   refine a1k rfl rfl a7i rfl rfl rfl rfl (s0s rfl) rfl ?_
   refine dv 4 ?_
   refine z0z (j := 0) rfl rfl a7u rfl u9u rfl rfl (y7y h0) ?_
   refine v6v (el' := (w3w W.hub n0 x).2.1) rfl rfl u9u rfl rfl rfl h0 rfl (s4s rfl) rfl rfl ?_
   refine dv 7 ?_
   refine rlM [1] [_] (a1m r (w3w W.hub n0 x).2.2 hr1) rfl rfl rfl ?_
   refine dv 7 ?_
   exact ⟨({ W with nodes := W.nodes.set 0 (w3w W.hub n0 x).2.1, radio := b2y r (w3w W.hub n0 x).2.2, hub := (w3w W.hub n0 x).1 }, true), ⟨b5i (W := { W with nodes := _, radio := r, hub := _ }) (a7g (d3q (a6l hW (d0j h0I hHb x)) (b4v h0I.1 hHb x)) hr1 hr2) (c1e W.hub n0 x), (fun h => by cases h)⟩, [γ 0, _], rfl, rfl, x5x⟩
 refine dc 4 (aS ?_ ?_)<;>intro o<;>try simp at o
 ·refine dv 2 fun K K' => ?_
  (obtain ⟨r, er, hr1, hr2⟩ : ∃ r, W.radio = r ∧ r.length ≤ 40 ∧ ∀ q ∈ r, d0h q := ⟨_, rfl, hW.2.2.2.1, hW.2.2.2.2.1⟩; rw [er])
  refine dc 4 (aI ?_ ?_)<;>intro o<;>try simp at o
  ·refine dv 5 ?_
   exact ⟨({ W with radio := r }, true), ⟨a7g hW hr1 hr2, (fun h => by cases h)⟩, [γ 0, _], rfl, rfl, x5x⟩
  refine dv 2 ?_
  refine y1y (id := 9) r8r rfl p0p rfl (dv 2 fun K K' => ?_)
  refine p9p (ι := Bool) (fun b γ2 => [(73, .pv (.bool (b)))]) (fun b γ2 => []) (fun b => True) (q6q [2, 4, 6] rfl) (a0p [0, 1, 2, 3, 4, 5, 6, 7, 8, 9, 10, 11, 12] rfl) ?_ fun b γ2 hi => ?_
  ·refine dc 5 (aS ?_ ?_)<;>intro o<;>try simp at o
   ·refine dv 13 ?_
    exact ⟨_, trivial, [], x6x, x6x, x5x, x5x, rfl⟩
   refine dc 4 (aS ?_ ?_)<;>intro o<;>try simp at o
   ·refine dv 9 ?_
    exact ⟨_, trivial, [], x6x, x6x, x5x, x5x, rfl⟩
   refine dc 5 (aS ?_ ?_)<;>intro o<;>try simp at o
   ·refine dv 4 ?_
    exact ⟨_, trivial, [], x6x, x6x, x5x, x5x, rfl⟩
   refine dv 5 ?_
   exact ⟨_, trivial, [], x6x, x6x, x5x, x5x, rfl⟩
  ·try dsimp only [b1e, b1f]
   refine dc 0 (aS ?_ ?_)<;>intro o<;>try simp at o
   ·obtain ⟨q, hq⟩ : ∃ q : Nat, x.to = (q : Int) := ⟨x.to.toNat, by have := hxr.1; omega⟩
    obtain ⟨n, hnd, hnI⟩ := b3c hW (i := q) (by have := hxr.1; omega)
    refine dv 4 ?_
    refine y8y (out := pI x.to) rfl s3s rfl rfl ?_
    rw [hq]
    refine z0z (j := q) rfl rfl a7u rfl u9u rfl rfl (y7y hnd) ?_
    refine a0g rfl u9u rfl (by assumption) rfl rfl ?_
    refine dv 1 ?_
    refine x0x rfl rfl rfl (a9t true n x) (dv 3 ?_)
    refine x3x (id := 12) u9u q1q rfl (dv 6 ?_)
    refine y8y (out := pI x.to) rfl s3s rfl rfl ?_
    rw [hq]
    refine dv 1 ?_
    refine z0z (j := q) rfl rfl a7u rfl u9u rfl rfl (y7y hnd) ?_
    refine v6v (el' := (p5p n x).1) rfl rfl u9u rfl rfl rfl hnd rfl (s4s rfl) rfl rfl ?_
    refine dv 7 ?_
    refine rlM [1] [_] (a1m r (p5p n x).2 hr1) rfl rfl rfl ?_
    refine dv 7 ?_
    exact ⟨({ W with nodes := W.nodes.set q (p5p n x).1, radio := b2y r (p5p n x).2 }, true), ⟨b5i (W := { W with nodes := _, radio := r }) (a7g (a6l hW (e5n hnI x)) hr1 hr2) (d0i hnI.1 x), (fun h => by cases h)⟩, [γ 0, _], rfl, rfl, x5x⟩
   refine dv 2 ?_
   refine y8y (out := .agg (a8o true W.hub)) rfl a7i rfl rfl ?_
   refine dv 2 ?_
   refine z0z (j := 0) rfl rfl a7u rfl u9u rfl rfl (y7y h0) (a0g rfl u9u rfl (by assumption) rfl rfl ?_)
   refine dv 1 ?_
   refine x0x rfl rfl rfl (b0x true W.hub n0 x) (dv 4 ?_)
   refine x3x (id := 10) a7i b7d rfl (x3x (id := 11) u9u q1q rfl (dv 6 ?_))
   refine a1k rfl rfl a7i rfl rfl rfl rfl (s0s rfl) rfl ?_
   refine dv 4 ?_
   refine z0z (j := 0) rfl rfl a7u rfl u9u rfl rfl (y7y h0) ?_
   refine v6v (el' := (w3w W.hub n0 x).2.1) rfl rfl u9u rfl rfl rfl h0 rfl (s4s rfl) rfl rfl ?_
   refine dv 7 ?_
   refine rlM [1] [_] (a1m r (w3w W.hub n0 x).2.2 hr1) rfl rfl rfl ?_
   refine dv 7 ?_
   exact ⟨({ W with nodes := W.nodes.set 0 (w3w W.hub n0 x).2.1, radio := b2y r (w3w W.hub n0 x).2.2, hub := (w3w W.hub n0 x).1 }, true), ⟨b5i (W := { W with nodes := _, radio := r, hub := _ }) (a7g (d3q (a6l hW (d0j h0I hHb x)) (b4v h0I.1 hHb x)) hr1 hr2) (c1e W.hub n0 x), (fun h => by cases h)⟩, [γ 0, _], rfl, rfl, x5x⟩
 refine dv 1 ?_
 refine y1y (id := 6) r8r rfl p0p rfl (dv 4 ?_)
 refine c7v v3v rfl r8r rfl p0p rfl rfl rfl rfl (by omega) (by omega) (by (simp only [a0e]; omega)) ?_
 refine b1z (f := w1w true) (l := ([] : List Wo)) (l2 := W.radio) (l' := W.radio.take j) rfl rfl r8r rfl p0p rfl rfl rfl rfl (z9z (fun _ => rfl) _) (by (simp; done)) (by simp only [a0u, b3x, r7r, T79]; omega) ?_
 refine dv 4 ?_
 refine s5s (.int .i64 ((j + 1 : Nat) : Int)) rfl rfl rfl (a6s rfl (by omega) (by omega) (by omega)) ?_
 refine c7v v3v rfl r8r rfl p0p rfl rfl rfl rfl (by omega) (by (simp only [a0e]; omega)) (by omega) ?_
 refine b1z (f := w1w true) (l := W.radio.take j) (l2 := W.radio) (l' := (W.radio.take j ++ W.radio.drop (j + 1))) rfl rfl r8r rfl p0p rfl rfl rfl rfl (z9z (fun _ => rfl) _) (by (simp; done)) (by simp only [a0u, b3x, r7r, T79]; omega) ?_
 refine dv 3 fun K K' => ?_
 (refine e4m 2 6 1 rfl rfl rfl rfl rfl rfl rfl ?_; obtain ⟨r, er, hr1, hr2⟩ : ∃ r, (W.radio.take j ++ W.radio.drop (j + 1)) = r ∧ r.length ≤ 40 ∧ ∀ q ∈ r, d0h q := ⟨_, rfl, e6b hW, e6c hW⟩; rw [er])
 refine dc 4 (aI ?_ ?_)<;>intro o<;>try simp at o
 ·refine dv 5 ?_
  exact ⟨({ W with radio := r }, true), ⟨a7g hW hr1 hr2, (fun h => by cases h)⟩, [γ 0, _], rfl, rfl, x5x⟩
 refine dv 2 ?_
 refine y1y (id := 9) r8r rfl p0p rfl (dv 2 fun K K' => ?_)
 refine p9p (ι := Bool) (fun b γ1 => [(73, .pv (.bool (b)))]) (fun b γ1 => []) (fun b => True) (q6q [2, 4, 6] rfl) (a0p [0, 1, 2, 3, 4, 5, 6, 7, 8, 9, 10, 11, 12] rfl) ?_ fun b γ1 hi => ?_
 ·refine dc 5 (aS ?_ ?_)<;>intro o<;>try simp at o
  ·refine dv 13 ?_
   exact ⟨_, trivial, [], x6x, x6x, x5x, x5x, rfl⟩
  refine dc 4 (aS ?_ ?_)<;>intro o<;>try simp at o
  ·refine dv 9 ?_
   exact ⟨_, trivial, [], x6x, x6x, x5x, x5x, rfl⟩
  refine dc 5 (aS ?_ ?_)<;>intro o<;>try simp at o
  ·refine dv 4 ?_
   exact ⟨_, trivial, [], x6x, x6x, x5x, x5x, rfl⟩
  refine dv 5 ?_
  exact ⟨_, trivial, [], x6x, x6x, x5x, x5x, rfl⟩
 ·try dsimp only [b1e, b1f]
  refine dc 0 (aS ?_ ?_)<;>intro o<;>try simp at o
  ·obtain ⟨q, hq⟩ : ∃ q : Nat, x.to = (q : Int) := ⟨x.to.toNat, by have := hxr.1; omega⟩
   obtain ⟨n, hnd, hnI⟩ := b3c hW (i := q) (by have := hxr.1; omega)
   refine dv 4 ?_
   refine y8y (out := pI x.to) rfl s3s rfl rfl ?_
   rw [hq]
   refine z0z (j := q) rfl rfl a7u rfl u9u rfl rfl (y7y hnd) ?_
   refine a0g rfl u9u rfl (by assumption) rfl rfl ?_
   refine dv 1 ?_
   refine x0x rfl rfl rfl (a9t true n x) (dv 3 ?_)
   refine x3x (id := 12) u9u q1q rfl (dv 6 ?_)
   refine y8y (out := pI x.to) rfl s3s rfl rfl ?_
   rw [hq]
   refine dv 1 ?_
   refine z0z (j := q) rfl rfl a7u rfl u9u rfl rfl (y7y hnd) ?_
   refine v6v (el' := (p5p n x).1) rfl rfl u9u rfl rfl rfl hnd rfl (s4s rfl) rfl rfl ?_
   refine dv 7 ?_
   refine rlM [1] [_] (a1m r (p5p n x).2 hr1) rfl rfl rfl ?_
   refine dv 7 ?_
   exact ⟨({ W with nodes := W.nodes.set q (p5p n x).1, radio := b2y r (p5p n x).2 }, true), ⟨b5i (W := { W with nodes := _, radio := r }) (a7g (a6l hW (e5n hnI x)) hr1 hr2) (d0i hnI.1 x), (fun h => by cases h)⟩, [γ 0, _], rfl, rfl, x5x⟩
  refine dv 2 ?_
  refine y8y (out := .agg (a8o true W.hub)) rfl a7i rfl rfl ?_
  refine dv 2 ?_
  refine z0z (j := 0) rfl rfl a7u rfl u9u rfl rfl (y7y h0) (a0g rfl u9u rfl (by assumption) rfl rfl ?_)
  refine dv 1 ?_
  refine x0x rfl rfl rfl (b0x true W.hub n0 x) (dv 4 ?_)
  refine x3x (id := 10) a7i b7d rfl (x3x (id := 11) u9u q1q rfl (dv 6 ?_))
  refine a1k rfl rfl a7i rfl rfl rfl rfl (s0s rfl) rfl ?_
  refine dv 4 ?_
  refine z0z (j := 0) rfl rfl a7u rfl u9u rfl rfl (y7y h0) ?_
  refine v6v (el' := (w3w W.hub n0 x).2.1) rfl rfl u9u rfl rfl rfl h0 rfl (s4s rfl) rfl rfl ?_
  refine dv 7 ?_
  refine rlM [1] [_] (a1m r (w3w W.hub n0 x).2.2 hr1) rfl rfl rfl ?_
  refine dv 7 ?_
  exact ⟨({ W with nodes := W.nodes.set 0 (w3w W.hub n0 x).2.1, radio := b2y r (w3w W.hub n0 x).2.2, hub := (w3w W.hub n0 x).1 }, true), ⟨b5i (W := { W with nodes := _, radio := r, hub := _ }) (a7g (d3q (a6l hW (d0j h0I hHb x)) (b4v h0I.1 hHb x)) hr1 hr2) (c1e W.hub n0 x), (fun h => by cases h)⟩, [γ 0, _], rfl, rfl, x5x⟩
end
section
theorem c7a (W : Tw) (hW : c0f W) : MethE Tryz.prog 313 2 [.agg [pI W.time, a5u true W.apps, .ref 0 0, .ref 1 0, pI W.hub.round, w7w true W.hub.ones, w7w true W.hub.twos, w7w true W.hub.outs, r0r true W.sink]] [(0, (0, .row 65 13 ((W.nodes).map (u1u true)))), (1, (0, .row 79 11 ((W.radio).map (w1w true))))] (ι := Tw × Bool) (fun S' => c0f S'.1 ∧ S'.1.nodes = W.nodes ∧ S'.1.radio = W.radio) (fun S' => [0, 1]) (fun S' => .tup [.agg [pI S'.1.time, a5u true S'.1.apps, .ref 0 0, .ref 1 0, pI S'.1.hub.round, w7w true S'.1.hub.ones, w7w true S'.1.hub.twos, w7w true S'.1.hub.outs, r0r true S'.1.sink], .pv (.bool (S'.2))]) (fun S' => [(0, (0, .row 65 13 ((W.nodes).map (u1u true)))), (1, (0, .row 79 11 ((W.radio).map (w1w true))))]) := by
 refine mE (ι := Tw × Bool) Tryz.f313 (fun S' => [.agg [pI S'.1.time, a5u true S'.1.apps, .ref 0 0, .ref 1 0, pI S'.1.hub.round, w7w true S'.1.hub.ones, w7w true S'.1.hub.twos, w7w true S'.1.hub.outs, r0r true S'.1.sink], .pv (.bool (S'.2))]) 2 5 fun γ => ?_
 obtain ⟨n0, h0, h0I⟩ := b3c hW (i := 0) (by omega)
 have hol := e9h (h := W.hub) (n := n0)
 have hsl := hW.2.2.2.2.2.2
 refine dv 1 ?_
 refine y0y (id := 2) rfl rfl rfl (x3x (id := 3) b7c c0l rfl (dv 3 ?_))
 refine y8y (out := .agg (a8o true W.hub)) rfl a7i rfl rfl ?_
 refine dv 2 ?_
 refine z0z (j := 0) rfl rfl a7u rfl u9u rfl rfl (y7y h0) (a0g rfl u9u rfl (by assumption) rfl rfl ?_)
 refine x0x rfl rfl rfl (c6y true W.hub n0) (dv 5 fun K K' => ?_)
 refine z0z (j := 0) rfl rfl a7u rfl u9u rfl rfl (y7y h0) (dc 4 (aS ?_ ?_))<;>intro o<;>try simp at o
 ·refine dv 12 ?_
  exact ⟨(W, false), ⟨hW, rfl, rfl⟩, [γ 0, γ 1], rfl, rfl, x5x⟩
 refine dc 7 (aI ?_ ?_)<;>intro o<;>try simp at o
 ·refine dv 5 ?_
  exact ⟨(W, false), ⟨hW, rfl, rfl⟩, [γ 0, γ 1], rfl, rfl, x5x⟩
 refine dv 2 ?_
 refine y1y (id := 4) a1b rfl w9w rfl (dv 2 ?_)
 refine w6w (zs := (W.sink).map q8q) rfl rfl a1b rfl w9w rfl rfl rfl (z9z (fun _ => rfl) _) rfl (by simp only [a0e, r7r, a0b, a0d, a0u, a2z, b3x, T141]; omega) ?_
 refine dv 4 ?_
 refine c2o (f := q8q) (l := (a9o W.hub n0)) rfl a1b rfl w9w rfl rfl rfl (by omega) (by rw [List.length_map]; omega) (by rw [List.length_map]; omega) ?_
 rw [List.length_map, Int.toNat_natCast, Int.toNat_natCast, List.take_length]
 refine w6w (zs := ((W.sink ++ (a9o W.hub n0).drop W.sink.length)).map q8q) rfl rfl a1b rfl w9w rfl rfl rfl (z9z (fun _ => rfl) _) (a7x q8q W.sink _) (by simp only [a0e, r7r, a0b, a0d, a0u, a2z, b3x, T141]; omega) ?_
 refine dv 2 ?_
 refine v9v (b := r0r true (W.sink ++ (a9o W.hub n0).drop W.sink.length)) 2 8 rfl rfl rfl (.ref rfl (Le.ow_map _ (fun _ => rfl) (fun _ => rfl)) .nil) rfl rfl rfl rfl ?_
 refine dv 4 ?_
 refine x0x rfl rfl rfl (a8q true (W.sink ++ (a9o W.hub n0).drop W.sink.length) 96) ?_
 refine dv 3 ?_
 exact ⟨({ W with sink := (W.sink ++ (a9o W.hub n0).drop W.sink.length) }, a9i okO b3q (W.sink ++ (a9o W.hub n0).drop W.sink.length) 96), ⟨f4b hW (by simp only [r7r, b3x]; omega), rfl, rfl⟩, [γ 0, γ 1], rfl, rfl, x5x⟩
end
section
theorem d3r (W : Tw) (ek en ep ew : Int) (eb : Bool) (hW : c0f W) : MethE Tryz.prog 290 2 [.agg [pI W.time, a5u true W.apps, .ref 0 0, .ref 1 0, pI W.hub.round, w7w true W.hub.ones, w7w true W.hub.twos, w7w true W.hub.outs, r0r true W.sink], .agg [pI ek, pI en, pI ep, pI ew, .pv (.bool eb)]] [(0, (0, .row 65 13 ((W.nodes).map (u1u true)))), (1, (0, .row 79 11 ((W.radio).map (w1w true))))] (ι := Tw × Bool) (fun S' => c0f S'.1 ∧ (S'.2 = false → S'.1.radio = W.radio)) (fun S' => kpB S'.2) (fun S' => .tup [.agg [pI S'.1.time, a5u true S'.1.apps, .ref 0 0, .ref 1 0, pI S'.1.hub.round, w7w true S'.1.hub.ones, w7w true S'.1.hub.twos, w7w true S'.1.hub.outs, r0r true S'.1.sink], .pv (.bool (S'.2))]) (fun S' => [(0, (0, .row 65 13 ((S'.1.nodes).map (u1u true)))), (1, (0, .row 79 11 ((S'.1.radio).map (w1w true))))]) := by
 refine mE (ι := Tw × Bool) Tryz.f290 (fun S' => [.agg [pI S'.1.time, a5u true S'.1.apps, .ref 0 0, .ref 1 0, pI S'.1.hub.round, w7w true S'.1.hub.ones, w7w true S'.1.hub.twos, w7w true S'.1.hub.outs, r0r true S'.1.sink], .pv (.bool (S'.2))]) 2 5 fun γ => ?_
 obtain ⟨n0, h0, h0I⟩ := b3c hW (i := 0) (by omega)
 have hHb := hW.2.2.2.2.2.1
 have hr40 := hW.2.2.2.1
 refine dv 1 ?_
 refine y0y (id := 2) rfl rfl rfl (y0y (id := 3) rfl rfl rfl (x3x (id := 4) b7c c0l rfl (dv 4 ?_)))
 refine s5s (.int .i64 (IntKind.i64.wrap (W.time + 1))) rfl rfl rfl rfl ?_
 refine dv 7 fun K K' => ?_
 refine p9p (ι := Bool) (fun b γ1 => [(16, .pv (.bool (b)))]) (fun b γ1 => []) (fun b => True) (q6q [2, 3, 4, 15] rfl) (a0p [0, 1, 2, 3, 4, 5, 6] rfl) ?_ fun b γ1 hi => ?_
 ·refine dc 3 (aI ?_ ?_)<;>intro h<;>try simp at h
  ·refine dv 1 ?_
   exact ⟨_, trivial, [], x6x, x6x, x5x, x5x, rfl⟩
  refine dc 3 (aI ?_ ?_)<;>intro h<;>try simp at h
  ·refine dv 1 ?_
   exact ⟨_, trivial, [], x6x, x6x, x5x, x5x, rfl⟩
  refine dc 3 (aI ?_ ?_)<;>intro h<;>try simp at h
  ·refine dv 1 ?_
   exact ⟨_, trivial, [], x6x, x6x, x5x, x5x, rfl⟩
  refine dv 3 ?_
  exact ⟨_, trivial, [], x6x, x6x, x5x, x5x, rfl⟩
 ·try dsimp only [b1e, b1f]
  refine dc 0 (aI ?_ ?_)<;>intro h<;>try simp at h
  ·refine a0i fun B X0 w0 => ?_
   refine txR 2 rfl rfl (dv 2 ?_)
   refine txM [0, 1] [_, _] (c6z { W with time := (IntKind.i64.wrap (W.time + 1)) } ek en ep ew eb hW) rfl rfl rfl rfl fun j hj => ?_
   obtain ⟨hj1, hj2⟩ := hj
   refine txR 4 rfl rfl (dv 4 ?_)
   refine u2u rfl (dv 1 ?_)
   exact ⟨j, ⟨hj1, hj2⟩, [_, _], (by cases hb : j.2 <;> rfl), rfl, x5x⟩
  refine p9p (ι := Bool) (fun b γ2 => [(26, .pv (.bool (b)))]) (fun b γ2 => []) (fun b => True) (q6q [2, 3, 4, 15] rfl) (a0p [0, 1, 2, 3, 4, 5, 6] rfl) ?_ fun b γ2 hi => ?_
  ·refine dc 3 (aI ?_ ?_)<;>intro h<;>try simp at h
   ·refine dv 1 ?_
    exact ⟨_, trivial, [], x6x, x6x, x5x, x5x, rfl⟩
   refine dv 3 ?_
   exact ⟨_, trivial, [], x6x, x6x, x5x, x5x, rfl⟩
  ·try dsimp only [b1e, b1f]
   refine dc 0 (aI ?_ ?_)<;>intro h<;>try simp at h
   ·refine a0i fun B X0 w0 => ?_
    refine txR 2 rfl rfl (dv 2 ?_)
    refine txM [0, 1] [_, _] (c5w { W with time := (IntKind.i64.wrap (W.time + 1)) } ek en ep ew eb hW) rfl rfl rfl rfl fun j hj => ?_
    obtain ⟨hj1, hj2⟩ := hj
    refine txR 4 rfl rfl (dv 4 ?_)
    refine u2u rfl (dv 1 ?_)
    exact ⟨j, ⟨hj1, hj2⟩, [_, _], (by cases hb : j.2 <;> rfl), rfl, x5x⟩
   refine dc 3 (aS ?_ ?_)<;>intro h<;>try simp at h
   ·refine dc 3 (aS ?_ ?_)<;>intro h<;>try simp at h
    ·refine dv 6 ?_
     exact ⟨({ W with time := (IntKind.i64.wrap (W.time + 1)) }, false), ⟨hW, fun _ => rfl⟩, [γ 0, γ 1], rfl, rfl, x5x⟩
    refine a0i fun B X0 w0 => ?_
    refine txR 1 rfl rfl (dv 1 ?_)
    refine txM [0, 1] [_, _] (c7a { W with time := (IntKind.i64.wrap (W.time + 1)) } hW) rfl rfl rfl rfl fun j hj => ?_
    obtain ⟨hj1, hj2, hj3⟩ := hj
    refine txR 4 rfl rfl (dv 4 ?_)
    refine u2u rfl (dv 1 ?_)
    exact ⟨j, ⟨hj1, fun _ => hj3⟩, [γ 0, γ 1], (d5q γ _ gl rfl rfl), rfl, HE.row rfl (by rw [hj2]) (HE.row rfl (by rw [hj3]) HE.nil)⟩
   refine dv 2 ?_
   refine y8y (out := .agg (a8o true W.hub)) rfl a7i rfl rfl ?_
   refine dv 2 ?_
   refine z0z (j := 0) rfl rfl a7u rfl u9u rfl rfl (y7y h0) (a0g rfl u9u rfl (by assumption) rfl rfl ?_)
   refine x0x rfl rfl rfl (c5r true W.hub n0) (dv 4 ?_)
   refine x3x (id := 5) a7i b7d rfl (x3x (id := 6) u9u q1q rfl (dv 8 ?_))
   refine z0z (j := 0) rfl rfl a7u rfl u9u rfl rfl (y7y h0) (dv 7 ?_)
   refine a1k rfl rfl a7i rfl rfl rfl rfl (s0s rfl) rfl ?_
   refine dv 4 ?_
   refine z0z (j := 0) rfl rfl a7u rfl u9u rfl rfl (y7y h0) ?_
   refine v6v (el' := (q5q W.hub n0).2.1) rfl rfl u9u rfl rfl rfl h0 rfl (s4s rfl) rfl rfl ?_
   refine dv 4 ?_
   refine rlM [1] [_] (a1m W.radio (q5q W.hub n0).2.2 hr40) rfl rfl rfl ?_
   refine dv 8 ?_
   exact ⟨({ W with time := (IntKind.i64.wrap (W.time + 1)), nodes := W.nodes.set 0 (q5q W.hub n0).2.1, radio := b2y W.radio (q5q W.hub n0).2.2, hub := (q5q W.hub n0).1 }, decide ((q5q W.hub n0).2.1.led > n0.led)), ⟨b5i (W := { W with nodes := _, hub := _ }) (d3q (a6l hW (f3s h0I hHb)) (d3k h0I.1 hHb)) (e5f W.hub n0), (by intro hf; rcases c5s ⟨hHb, h0I.1⟩ with ⟨h1, h2⟩ | h2; (rw [h1]; simp [b2y]); exact absurd h2 (of_decide_eq_false hf))⟩, [γ 0, _], (by rcases c5s ⟨hHb, h0I.1⟩ with ⟨h1, h2⟩ | h2; (rw [h1, decide_eq_false h2]; rfl); (rw [decide_eq_true h2]; rfl)), rfl, x5x⟩
end
section
theorem d0r (c : Bool) (bs : List Nat) : Meth Tryz.prog 107 1 [] [v8v c bs] [(0, (0, .dead))] (.ptr 0 0 0) [(0, (0, .box 243 [v8v c (bs.take 2000), .pv (.int .i64 0)]))] := by
 refine mX Tryz.f107 [.ptr 0 0 0] 1 0 fun γ => ?_
 refine dc 7 (fun K K' => aS ?_ ?_)<;>intro o<;>try simp at o
 ·refine dv 3 ?_
  refine rlB e9u e9w ?_
  refine y0y (id := 0) rfl rfl rfl (dv 2 ?_)
  exact ⟨[_], rfl, rfl, HE.box rfl (by show _ = [v8v c (bs.take 2000), _]; rw [List.take_of_length_le (by omega)]; rfl) HE.nil⟩
 refine dv 2 ?_
 refine c2o rfl f0z rfl f4o rfl rfl rfl (by omega) (by omega) (by omega) (dv 3 ?_)
 refine rlB e9u e9w ?_
 refine y0y (id := 0) rfl rfl rfl (dv 2 ?_)
 exact ⟨[_], rfl, rfl, x5x⟩
theorem x1x (c : Bool) (bs : List Nat) (p n : Nat) (hp : p < 1000000000) (hbs : ∀ b ∈ bs, b < 256) : Meth Tryz.prog 109 1 [0] [.ptr 0 0 0, .pv (.int .i64 (n : Int))] [(0, (0, .box 243 [v8v c bs, .pv (.int .i64 ((p : Nat) : Int))]))] (.pv (.int .i64 (pk bs p n : Int))) [(0, (0, .box 243 [v8v c bs, .pv (.int .i64 ((p + 1 : Nat) : Int))]))] := by
 refine mX Tryz.f109 [.pv (.int .i64 (pk bs p n : Int))] 1 0 fun γ => ?_
 refine dv 8 ?_
 refine x8x (b := 1) rfl rfl (by omega) (dc 8 (fun K K' => aS ?_ ?_))<;>intro o<;>try simp at o
 ·refine dv 10 ?_
  refine ⟨[γ 0], rfl, congrArg (fun v : Nat => some [AV.pv (.int .i64 (v : Int))]) (?_ : _ = pk bs p n), HE.box rfl rfl HE.nil⟩
  (rw [pk, if_pos (.inl (by omega))])
 refine dc 7 (aI ?_ ?_)<;>intro hc3<;>try simp at hc3
 ·refine dv 3 ?_
  refine ⟨[γ 0], rfl, congrArg (fun v : Nat => some [AV.pv (.int .i64 (v : Int))]) (?_ : _ = pk bs p n), HE.box rfl rfl HE.nil⟩
  (subst hc3; simp [pk]; done)
 refine dv 6 ?_
 refine s5s (.int .i64 (p : Int)) rfl rfl rfl (a6s rfl (by omega) (by omega) (by omega)) ?_
 refine dc 10 (fun K K' => aI ?_ ?_)<;>intro o<;>try simp at o
 ·refine dv 6 ?_
  have hj : bs[p]? = some (bs.getD (p) 0) := by rw [List.getD_eq_getElem?_getD, List.getElem?_eq_getElem (by omega)]; rfl
  have h256 := hbs _ (List.mem_of_getElem? hj)
  refine b0q (j := p) rfl rfl f0z rfl f4o rfl hj ?_
  refine dv 1 ?_
  refine c8y rfl f4o s3s rfl rfl (by omega) (dv 1 ?_)
  refine c8x rfl rfl (by omega) (dv 2 ?_)
  refine ⟨[γ 0], rfl, congrArg (fun v : Nat => some [AV.pv (.int .i64 (v : Int))]) (?_ : _ = pk bs p n), HE.box rfl rfl HE.nil⟩
  (rw [pk, if_neg (by omega), if_pos (by omega)])
 refine dv 12 ?_
 have hm0 : bs.length ≠ 0 := by intro h0; exact absurd (List.length_eq_zero_iff.1 h0) (by assumption)
 refine c8x rfl rfl hm0 ?_
 have hj1 : bs[p % bs.length]? = some (bs.getD (p % bs.length) 0) := by rw [List.getD_eq_getElem?_getD, List.getElem?_eq_getElem (Nat.mod_lt _ (by omega))]; rfl
 have h1 := hbs _ (List.mem_of_getElem? hj1)
 refine dv 2 ?_
 refine c8y rfl f4o s3s rfl rfl (by omega) (c0o (b := 131) rfl rfl (by omega) (dv 5 ?_))
 refine c0o (b := 7) rfl rfl (by omega) (x8x (b := 3) rfl rfl (by omega) (dv 5 ?_))
 refine c8x rfl rfl (by omega) ?_
 have hj2 : bs[(p * 7 + 3) % bs.length]? = some (bs.getD ((p * 7 + 3) % bs.length) 0) := by rw [List.getD_eq_getElem?_getD, List.getElem?_eq_getElem (Nat.mod_lt _ (by omega))]; rfl
 have h2 := hbs _ (List.mem_of_getElem? hj2)
 have hq := Nat.div_le_self p bs.length
 refine dv 2 ?_
 refine c8y rfl f4o s3s rfl rfl (by omega) (c0o (b := 1117) rfl rfl (by omega) (x8x rfl rfl (by omega) (dv 1 ?_)))
 refine c0o (b := 29) rfl rfl (by omega) (x8x rfl rfl (by omega) (dv 6 ?_))
 refine d4k rfl rfl (by omega) (by omega) (c0o (b := 53) rfl rfl (by omega) (x8x rfl rfl (by omega) (dv 4 ?_)))
 refine d4k (b := 64) rfl rfl (by omega) (by omega) (f1g rfl rfl (by omega) (by omega) (dv 4 ?_))
 refine c8x rfl rfl (by omega) (dv 2 ?_)
 refine ⟨[γ 0], rfl, congrArg (fun v : Nat => some [AV.pv (.int .i64 (v : Int))]) (?_ : _ = pk bs p n), HE.box rfl rfl HE.nil⟩
 (rw [pk, if_neg (by omega), if_neg (by omega)]; rfl)
theorem d0s (c c' : Bool) (l l' : List Int) : a0t Tryz.prog 160 [a4p c l, a4p c' l'] (.pv (.bool (decide (l = l')))) := by
 refine pX Tryz.f160 [.pv (.bool (decide (l = l')))] 0 ?_
 refine u0u 0 rfl fun hlen => ?_
 refine dc 9 (fun K K' => aI ?_ ?_)<;>intro o<;>try simp at o
 ·refine dv 3 ?_
  refine x2x rfl ?_ rfl
  exact e8d (by omega)
 refine dv 5 fun K K' => ?_
 refine x4x (ι := Nat) (fun i γ1 => [(5, pI (i : Int))]) (fun i γ1 => []) (fun i => i ≤ l.length ∧ l.length = l'.length ∧ l.take i = l'.take i) (fun i => l.length - i) (q6q [0, 1] rfl) HE.nil 0 ⟨by omega, by omega, rfl⟩ [] x6x x5x rfl fun i γ1 hi => ?_
 obtain ⟨h1, h2, h3⟩ := hi
 refine dc 6 (fun K K' => aS ?_ ?_)<;>intro o<;>try simp at o
 ·refine dv 4 ?_
  refine x2x rfl ?_ rfl
  exact eqT h3 (by omega) (by omega)
 refine dv 6 fun K K' => ?_
 obtain ⟨x, hx⟩ := gE l i
 refine dv 4 ?_
 obtain ⟨y, hy⟩ := gE l' i
 refine dc 3 (aS ?_ ?_)<;>intro o<;>try simp at o
 ·refine dv 3 ?_
  refine s5s (.int .i64 ((i + 1 : Nat) : Int)) rfl rfl rfl (a6s rfl (by omega) (by omega) (by have := hlen; omega)) ?_
  refine dv 1 ?_
  exact ⟨i + 1, ⟨⟨by omega, h2, a4w h3 hx hy (by assumption)⟩, by omega⟩, [], x6x, x6x, x5x, x5x, rfl⟩
 refine dv 3 ?_
 refine x2x rfl ?_ rfl
 exact d7n hx hy (by assumption)
theorem a9u (c c' : Bool) (l l' : List Ev) : a0t Tryz.prog 28 [q3q c l, q3q c' l'] (.pv (.bool (decide (l = l')))) := by
 refine pX Tryz.f28 [.pv (.bool (decide (l = l')))] 0 ?_
 refine u0u 0 rfl fun hlen => ?_
 refine dc 9 (fun K K' => aI ?_ ?_)<;>intro o<;>try simp at o
 ·refine dv 3 ?_
  refine x2x rfl ?_ rfl
  exact e8d (by omega)
 refine dv 5 fun K K' => ?_
 refine x4x (ι := Nat) (fun i γ1 => [(5, pI (i : Int))]) (fun i γ1 => []) (fun i => i ≤ l.length ∧ l.length = l'.length ∧ l.take i = l'.take i) (fun i => l.length - i) (q6q [0, 1] rfl) HE.nil 0 ⟨by omega, by omega, rfl⟩ [] x6x x5x rfl fun i γ1 hi => ?_
 obtain ⟨h1, h2, h3⟩ := hi
 refine dc 6 (fun K K' => aS ?_ ?_)<;>intro o<;>try simp at o
 ·refine dv 4 ?_
  refine x2x rfl ?_ rfl
  exact eqT h3 (by omega) (by omega)
 refine dv 6 fun K K' => ?_
 obtain ⟨x, hx⟩ := gE l i
 refine dv 4 ?_
 obtain ⟨y, hy⟩ := gE l' i
 refine dv 2 ?_
 refine a6o rfl rfl (by intro a c h; cases h) (.inr rfl) (e3v _ _ _ _) ?_
 refine dc 0 (aS ?_ ?_)<;>intro o<;>try simp at o
 ·refine dv 3 ?_
  refine s5s (.int .i64 ((i + 1 : Nat) : Int)) rfl rfl rfl (a6s rfl (by omega) (by omega) (by have := hlen; omega)) ?_
  refine dv 1 ?_
  exact ⟨i + 1, ⟨⟨by omega, h2, a4w h3 hx hy (by assumption)⟩, by omega⟩, [], x6x, x6x, x5x, x5x, rfl⟩
 refine dv 3 ?_
 refine x2x rfl ?_ rfl
 exact d7n hx hy (by assumption)
theorem b9s (c c' : Bool) (l l' : List Ou) : a0t Tryz.prog 29 [r0r c l, r0r c' l'] (.pv (.bool (decide (l = l')))) := by
 refine pX Tryz.f29 [.pv (.bool (decide (l = l')))] 0 ?_
 refine u0u 0 rfl fun hlen => ?_
 refine dc 9 (fun K K' => aI ?_ ?_)<;>intro o<;>try simp at o
 ·refine dv 3 ?_
  refine x2x rfl ?_ rfl
  exact e8d (by omega)
 refine dv 5 fun K K' => ?_
 refine x4x (ι := Nat) (fun i γ1 => [(5, pI (i : Int))]) (fun i γ1 => []) (fun i => i ≤ l.length ∧ l.length = l'.length ∧ l.take i = l'.take i) (fun i => l.length - i) (q6q [0, 1] rfl) HE.nil 0 ⟨by omega, by omega, rfl⟩ [] x6x x5x rfl fun i γ1 hi => ?_
 obtain ⟨h1, h2, h3⟩ := hi
 refine dc 6 (fun K K' => aS ?_ ?_)<;>intro o<;>try simp at o
 ·refine dv 4 ?_
  refine x2x rfl ?_ rfl
  exact eqT h3 (by omega) (by omega)
 refine dv 6 fun K K' => ?_
 obtain ⟨x, hx⟩ := gE l i
 refine dv 4 ?_
 obtain ⟨y, hy⟩ := gE l' i
 refine dv 2 ?_
 refine a6o rfl rfl (by intro a c h; cases h) (.inr rfl) (f9s _ _ _ _) ?_
 refine dc 0 (aS ?_ ?_)<;>intro o<;>try simp at o
 ·refine dv 3 ?_
  refine s5s (.int .i64 ((i + 1 : Nat) : Int)) rfl rfl rfl (a6s rfl (by omega) (by omega) (by have := hlen; omega)) ?_
  refine dv 1 ?_
  exact ⟨i + 1, ⟨⟨by omega, h2, a4w h3 hx hy (by assumption)⟩, by omega⟩, [], x6x, x6x, x5x, x5x, rfl⟩
 refine dv 3 ?_
 refine x2x rfl ?_ rfl
 exact d7n hx hy (by assumption)
theorem c7b (c c' : Bool) (l l' : List Pa) : a0t Tryz.prog 33 [a6f c l, a6f c' l'] (.pv (.bool (decide (l = l')))) := by
 refine pX Tryz.f33 [.pv (.bool (decide (l = l')))] 0 ?_
 refine u0u 0 rfl fun hlen => ?_
 refine dc 9 (fun K K' => aI ?_ ?_)<;>intro o<;>try simp at o
 ·refine dv 3 ?_
  refine x2x rfl ?_ rfl
  exact e8d (by omega)
 refine dv 5 fun K K' => ?_
 refine x4x (ι := Nat) (fun i γ1 => [(5, pI (i : Int))]) (fun i γ1 => []) (fun i => i ≤ l.length ∧ l.length = l'.length ∧ l.take i = l'.take i) (fun i => l.length - i) (q6q [0, 1] rfl) HE.nil 0 ⟨by omega, by omega, rfl⟩ [] x6x x5x rfl fun i γ1 hi => ?_
 obtain ⟨h1, h2, h3⟩ := hi
 refine dc 6 (fun K K' => aS ?_ ?_)<;>intro o<;>try simp at o
 ·refine dv 4 ?_
  refine x2x rfl ?_ rfl
  exact eqT h3 (by omega) (by omega)
 refine dv 6 fun K K' => ?_
 obtain ⟨x, hx⟩ := gE l i
 refine dv 2 ?_
 refine v4v (out := .agg (y9y x.ev)) rfl z2z rfl ?_
 refine dv 2 ?_
 obtain ⟨y, hy⟩ := gE l' i
 refine dv 2 ?_
 refine v4v (out := .agg (y9y y.ev)) rfl z2z rfl ?_
 refine a6o rfl rfl (by intro a c h; cases h) (.inr rfl) (e3v _ _ _ _) ?_
 refine dc 1 (aS ?_ ?_)<;>intro o<;>try simp at o
 ·refine dv 43 ?_
  refine x2x rfl ?_ rfl
  repeat clear K' K
  exact d7n hx hy (by (intro e; subst e; simp_all))
 refine dv 4 ?_
 refine v4v (out := .agg (s1s x.after)) rfl a5s rfl ?_
 refine dv 4 ?_
 refine v4v (out := .agg (s1s y.after)) rfl a5s rfl ?_
 refine dv 0 ?_
 refine a6o rfl rfl (by intro a c h; cases h) (.inr rfl) (f7x _ _ _ _) ?_
 refine dc 2 (aS ?_ ?_)<;>intro o<;>try simp at o
 ·refine dv 30 ?_
  refine x2x rfl ?_ rfl
  repeat clear K' K
  exact d7n hx hy (by (intro e; subst e; simp_all))
 refine dv 10 ?_
 refine x0x rfl rfl rfl (a9u ..) (dc 3 (aS ?_ ?_))<;>intro o<;>try simp at o
 ·refine dv 16 ?_
  refine x2x rfl ?_ rfl
  repeat clear K' K
  exact d7n hx hy (by (intro e; subst e; simp_all))
 refine dv 10 ?_
 refine x0x rfl rfl rfl (b9s ..) (dc 2 (aS ?_ ?_))<;>intro o<;>try simp at o
 ·refine dv 3 ?_
  refine s5s (.int .i64 ((i + 1 : Nat) : Int)) rfl rfl rfl (a6s rfl (by omega) (by omega) (by have := hlen; omega)) ?_
  refine dv 1 ?_
  repeat clear K' K
  exact ⟨i + 1, ⟨⟨by omega, h2, a4w h3 hx hy (by (cases x; cases y; simp_all))⟩, by omega⟩, [], x6x, x6x, x5x, x5x, rfl⟩
 refine dv 3 ?_
 refine x2x rfl ?_ rfl
 repeat clear K' K
 exact d7n hx hy (by (intro e; subst e; simp_all))
theorem c7d (c c' : Bool) (l l' : List Vi) : a0t Tryz.prog 65 [c1z c l, c1z c' l'] (.pv (.bool (decide (l = l')))) := by
 refine pX Tryz.f65 [.pv (.bool (decide (l = l')))] 0 ?_
 refine u0u 0 rfl fun hlen => ?_
 refine dc 9 (fun K K' => aI ?_ ?_)<;>intro o<;>try simp at o
 ·refine dv 3 ?_
  refine x2x rfl ?_ rfl
  exact e8d (by omega)
 refine dv 5 fun K K' => ?_
 refine x4x (ι := Nat) (fun i γ1 => [(5, pI (i : Int))]) (fun i γ1 => []) (fun i => i ≤ l.length ∧ l.length = l'.length ∧ l.take i = l'.take i) (fun i => l.length - i) (q6q [0, 1] rfl) HE.nil 0 ⟨by omega, by omega, rfl⟩ [] x6x x5x rfl fun i γ1 hi => ?_
 obtain ⟨h1, h2, h3⟩ := hi
 refine dc 6 (fun K K' => aS ?_ ?_)<;>intro o<;>try simp at o
 ·refine dv 4 ?_
  refine x2x rfl ?_ rfl
  exact eqT h3 (by omega) (by omega)
 refine dv 6 fun K K' => ?_
 obtain ⟨x, hx⟩ := gE l i
 refine dv 5 ?_
 obtain ⟨y, hy⟩ := gE l' i
 refine dc 5 (aS ?_ ?_)<;>intro o<;>try simp at o
 ·refine dv 29 ?_
  refine x2x rfl ?_ rfl
  repeat clear K' K
  exact d7n hx hy (by (intro e; subst e; simp_all))
 refine dc 13 (aS ?_ ?_)<;>intro o<;>try simp at o
 ·refine dv 16 ?_
  refine x2x rfl ?_ rfl
  repeat clear K' K
  exact d7n hx hy (by (intro e; subst e; simp_all))
 refine dv 10 ?_
 refine x0x rfl rfl rfl (a9u ..) (dc 2 (aS ?_ ?_))<;>intro o<;>try simp at o
 ·refine dv 3 ?_
  refine s5s (.int .i64 ((i + 1 : Nat) : Int)) rfl rfl rfl (a6s rfl (by omega) (by omega) (by have := hlen; omega)) ?_
  refine dv 1 ?_
  repeat clear K' K
  exact ⟨i + 1, ⟨⟨by omega, h2, a4w h3 hx hy (by (cases x; cases y; simp_all))⟩, by omega⟩, [], x6x, x6x, x5x, x5x, rfl⟩
 refine dv 3 ?_
 refine x2x rfl ?_ rfl
 repeat clear K' K
 exact d7n hx hy (by (intro e; subst e; simp_all))
theorem d0t (c c' : Bool) (a b : La) : a0t Tryz.prog 27 [.agg (q7q c a), .agg (q7q c' b)] (.pv (.bool (decide (a = b)))) := by
 refine pX Tryz.f27 [.pv (.bool (decide (a = b)))] 2 ?_
 refine dv 1 ?_
 refine y0y (id := 0) rfl rfl rfl (y0y (id := 1) rfl rfl rfl (dc 8 (aS ?_ ?_)))<;>intro o<;>try simp at o
 ·refine dv 14 ?_
  refine x2x rfl ?_ rfl
  cases a; cases b; simp_all [a1t]
 refine dv 1 ?_
 refine y8y (out := .agg (s1s a.base)) rfl a5s rfl rfl ?_
 refine dv 1 ?_
 refine y8y (out := .agg (s1s b.base)) rfl a5s rfl rfl ?_
 refine dv 0 ?_
 refine a6o rfl rfl (by intro a c h; cases h) (.inl rfl) (f7x _ _ _ _) ?_
 refine dc 2 (aS ?_ ?_)<;>intro o<;>try simp at o
 ·refine dv 7 ?_
  refine x2x rfl ?_ rfl
  cases a; cases b; simp_all [a1t]
 refine dv 4 ?_
 refine x0x rfl rfl rfl (c7b ..) (dv 3 ?_)
 refine x2x rfl ?_ rfl
 cases a; cases b; simp_all [a1t]
theorem d0u (c c' : Bool) (a b : Nd) : a0t Tryz.prog 64 [.agg (u1u c a), .agg (u1u c' b)] (.pv (.bool (decide (a.lanes = b.lanes)))) := by
 refine pX Tryz.f64 [.pv (.bool (decide (a.lanes = b.lanes)))] 2 ?_
 refine dv 1 ?_
 refine y0y (id := 0) rfl rfl rfl (y0y (id := 1) rfl rfl rfl (dc 10 (fun K K' => aI ?_ ?_)))<;>intro o<;>try simp at o
 ·refine dv 3 ?_
  refine x2x rfl ?_ rfl
  exact e8d (by omega)
 refine dv 5 fun K K' => ?_
 refine u0u 7 rfl fun hlen => ?_
 refine x4x (ι := Nat) (fun i γ1 => [(5, pI (i : Int))]) (fun i γ1 => []) (fun i => i ≤ a.lanes.length ∧ a.lanes.length = b.lanes.length ∧ a.lanes.take i = b.lanes.take i) (fun i => a.lanes.length - i) (q6q [2, 3] rfl) (a0p [0, 1] rfl) 0 ⟨by omega, by omega, rfl⟩ [] x6x x5x rfl fun i γ1 hi => ?_
 obtain ⟨h1, h2, h3⟩ := hi
 refine dc 7 (fun K K' => aS ?_ ?_)<;>intro o<;>try simp at o
 ·refine dv 4 ?_
  refine x2x rfl ?_ rfl
  exact eqT h3 (by omega) (by omega)
 refine dv 7 fun K K' => ?_
 obtain ⟨x, hx⟩ := gE a.lanes i
 refine dv 5 ?_
 obtain ⟨y, hy⟩ := gE b.lanes i
 refine dv 2 ?_
 refine x0x rfl rfl rfl (d0t ..) (dc 1 (aS ?_ ?_))<;>intro o<;>try simp at o
 ·refine dv 3 ?_
  refine s5s (.int .i64 ((i + 1 : Nat) : Int)) rfl rfl rfl (a6s rfl (by omega) (by omega) (by have := hlen; omega)) ?_
  refine dv 1 ?_
  exact ⟨i + 1, ⟨⟨by omega, h2, a4w h3 hx hy (by assumption)⟩, by omega⟩, [], x6x, x6x, x5x, x5x, rfl⟩
 refine dv 3 ?_
 refine x2x rfl ?_ rfl
 exact d7n hx hy (by assumption)
theorem b9t (c c' : Bool) (a b : Nd) : a0t Tryz.prog 59 [.agg (u1u c a), .agg (u1u c' b)] (.pv (.bool (decide (b1s a b)))) := by
 refine pX Tryz.f59 [.pv (.bool (decide (b1s a b)))] 2 ?_
 refine dv 1 ?_
 refine y0y (id := 0) rfl rfl rfl (y0y (id := 1) rfl rfl rfl (dc 9 (fun K K' => aS ?_ ?_)))<;>intro o<;>try simp at o
 ·refine dv 48 ?_
  refine x2x rfl ?_ rfl
  repeat clear K' K
  exact kF (by intro h; have h7 := congrArg List.length h.2.2.2.2.2.2; simp only [a0e] at h7; (simp_all [b1s]; done))
 refine dc 7 (aS ?_ ?_)<;>intro o<;>try simp at o
 ·refine dv 41 ?_
  refine x2x rfl ?_ rfl
  repeat clear K' K
  exact kF (by intro h; have h7 := congrArg List.length h.2.2.2.2.2.2; simp only [a0e] at h7; (simp_all [b1s]; done))
 refine dc 7 (aS ?_ ?_)<;>intro o<;>try simp at o
 ·refine dv 34 ?_
  refine x2x rfl ?_ rfl
  repeat clear K' K
  exact kF (by intro h; have h7 := congrArg List.length h.2.2.2.2.2.2; simp only [a0e] at h7; (simp_all [b1s]; done))
 refine dc 7 (aS ?_ ?_)<;>intro o<;>try simp at o
 ·refine dv 27 ?_
  refine x2x rfl ?_ rfl
  repeat clear K' K
  exact kF (by intro h; have h7 := congrArg List.length h.2.2.2.2.2.2; simp only [a0e] at h7; (simp_all [b1s]; done))
 refine dv 4 ?_
 refine x0x rfl rfl rfl (a9u ..) (dc 3 (aS ?_ ?_))<;>intro o<;>try simp at o
 ·refine dv 19 ?_
  refine x2x rfl ?_ rfl
  repeat clear K' K
  exact kF (by intro h; have h7 := congrArg List.length h.2.2.2.2.2.2; simp only [a0e] at h7; (simp_all [b1s]; done))
 refine dv 4 ?_
 refine x0x rfl rfl rfl (b9s ..) (dc 3 (aS ?_ ?_))<;>intro o<;>try simp at o
 ·refine dv 11 ?_
  refine x2x rfl ?_ rfl
  repeat clear K' K
  exact kF (by intro h; have h7 := congrArg List.length h.2.2.2.2.2.2; simp only [a0e] at h7; (simp_all [b1s]; done))
 refine dc 8 (aI ?_ ?_)<;>intro o<;>try simp at o
 ·refine dv 3 ?_
  refine x2x rfl ?_ rfl
  exact kF (by intro h; have h7 := congrArg List.length h.2.2.2.2.2.2; simp only [a0e] at h7; omega)
 refine dv 5 fun K K' => ?_
 refine u0u 50 rfl fun hlen => ?_
 refine x4x (ι := Nat) (fun i γ1 => [(5, pI (i : Int))]) (fun i γ1 => []) (fun i => i ≤ a.lanes.length ∧ a.lanes.length = b.lanes.length ∧ (a.lanes.map bp).take i = (b.lanes.map bp).take i) (fun i => a.lanes.length - i) (q6q [2, 3] rfl) (a0p [0, 1] rfl) 0 ⟨by omega, by omega, rfl⟩ [] x6x x5x rfl fun i γ1 hi => ?_
 obtain ⟨h1, h2, h3⟩ := hi
 refine dc 7 (fun K K' => aS ?_ ?_)<;>intro o<;>try simp at o
 ·refine dv 4 ?_
  refine x2x rfl ?_ rfl
  repeat clear K' K
  exact kT (by rw [List.take_of_length_le (by simp; omega), List.take_of_length_le (by simp; omega)] at h3; simp_all [b1s])
 refine dv 7 fun K K' => ?_
 obtain ⟨x, hx⟩ := gE a.lanes i
 refine dv 2 ?_
 refine v4v (out := .agg (s1s x.base)) rfl a5s rfl ?_
 refine dv 3 ?_
 obtain ⟨y, hy⟩ := gE b.lanes i
 refine dv 2 ?_
 refine v4v (out := .agg (s1s y.base)) rfl a5s rfl ?_
 refine a6o rfl rfl (by intro a c h; cases h) (.inr rfl) (f7x _ _ _ _) ?_
 refine dc 1 (aS ?_ ?_)<;>intro o<;>try simp at o
 ·refine dv 17 ?_
  refine x2x rfl ?_ rfl
  repeat clear K' K
  exact kF (by intro h; have := e4a h.2.2.2.2.2.2 hx hy; simp_all [bp])
 refine dc 14 (aS ?_ ?_)<;>intro o<;>try simp at o
 ·refine dv 3 ?_
  refine s5s (.int .i64 ((i + 1 : Nat) : Int)) rfl rfl rfl (a6s rfl (by omega) (by omega) (by have := hlen; omega)) ?_
  refine dv 1 ?_
  repeat clear K' K
  exact ⟨i + 1, ⟨⟨by omega, h2, a4w h3 (b2u hx) (b2u hy) (by simp_all [bp])⟩, by omega⟩, [], x6x, x6x, x5x, x5x, rfl⟩
 refine dv 3 ?_
 refine x2x rfl ?_ rfl
 repeat clear K' K
 exact kF (by intro h; have := e4a h.2.2.2.2.2.2 hx hy; simp_all [bp])
theorem d0v (c c' : Bool) (a b : Nd) : a0t Tryz.prog 56 [.agg (u1u c a), .agg (u1u c' b)] (.pv (.bool (decide (a = b)))) := by
 refine pX Tryz.f56 [.pv (.bool (decide (a = b)))] 2 ?_
 refine dv 1 ?_
 refine y0y (id := 0) rfl rfl rfl (y0y (id := 1) rfl rfl rfl (dv 6 ?_))
 refine a6o rfl rfl (by intro p q h h'; cases h; cases h'; rfl) (.inl rfl) (d6o Tryz.underlying4 _ _ _ _) ?_
 refine dc 1 (aS ?_ ?_)<;>intro o<;>try simp at o
 ·refine dv 45 ?_
  refine x2x rfl ?_ rfl
  repeat clear K' K
  exact kF (by intro h; subst h; simp_all [b1s, a1t])
 refine dv 2 ?_
 refine x0x rfl rfl rfl (b9t ..) (dc 2 (aS ?_ ?_))<;>intro o<;>try simp at o
 ·refine dv 40 ?_
  refine x2x rfl ?_ rfl
  repeat clear K' K
  exact kF (by intro h; subst h; simp_all [b1s, a1t])
 refine dv 2 ?_
 refine x0x rfl rfl rfl (d0u ..) (dc 2 (aS ?_ ?_))<;>intro o<;>try simp at o
 ·refine dv 35 ?_
  refine x2x rfl ?_ rfl
  repeat clear K' K
  exact kF (by intro h; subst h; simp_all [b1s, a1t])
 refine dc 7 (aS ?_ ?_)<;>intro o<;>try simp at o
 ·refine dv 28 ?_
  refine x2x rfl ?_ rfl
  repeat clear K' K
  exact kF (by intro h; subst h; simp_all [b1s, a1t])
 refine dv 4 ?_
 refine x0x rfl rfl rfl (c7d ..) (dc 2 (aS ?_ ?_))<;>intro o<;>try simp at o
 ·refine dv 21 ?_
  refine x2x rfl ?_ rfl
  repeat clear K' K
  exact kF (by intro h; subst h; simp_all [b1s, a1t])
 refine dv 4 ?_
 refine x0x rfl rfl rfl (d0s ..) (dc 2 (aS ?_ ?_))<;>intro o<;>try simp at o
 ·refine dv 14 ?_
  refine x2x rfl ?_ rfl
  repeat clear K' K
  exact kF (by intro h; subst h; simp_all [b1s, a1t])
 refine dc 7 (aS ?_ ?_)<;>intro o<;>try simp at o
 ·refine dv 7 ?_
  refine x2x rfl ?_ rfl
  repeat clear K' K
  exact kF (by intro h; subst h; simp_all [b1s, a1t])
 refine dv 8 ?_
 refine x2x rfl ?_ rfl
 repeat clear K' K
 (cases a; cases b; simp_all [b1s, a1t]; rfl)
end
section
theorem z3z (bs : List Nat) (hbs : ∀ b ∈ bs, b < 256) (S : Sm) (c : Nat) (hS : smOk S c) (ek en ep ew : Int) (eb : Bool) (hc : c ≤ 1000000) : MethE Tryz.prog 239 5 [.ptr 0 0 0, .agg [pI ek, pI en, pI ep, pI ew, .pv (.bool eb)]] [(0, (0, .box 171 [.ptr 4 0 0, pI S.w.time, a5u true S.w.apps, .ref 1 0, .ref 2 0, pI S.w.hub.round, w7w true S.w.hub.ones, w7w true S.w.hub.twos, w7w true S.w.hub.outs, r0r true S.w.sink, .ref 3 0])), (1, (0, .row 65 13 ((S.w.nodes).map (u1u true)))), (2, (0, .row 79 11 ((S.w.radio).map (w1w true)))), (3, (0, .row 263 5 ((S.list).map a4c))), (4, (0, .box 243 [v8v true bs, .pv (.int .i64 ((S.p : Nat) : Int))]))] (ι := Sm × Bool) (fun S' => smOk S'.1 (c + 1)) (fun S' => [0, 4]) (fun S' => .pv (.bool (S'.2))) (fun S' => [(0, (0, .box 171 [.ptr 4 0 0, pI S'.1.w.time, a5u true S'.1.w.apps, .ref 1 0, .ref 2 0, pI S'.1.w.hub.round, w7w true S'.1.w.hub.ones, w7w true S'.1.w.hub.twos, w7w true S'.1.w.hub.outs, r0r true S'.1.w.sink, .ref 3 0])), (1, (0, .row 65 13 ((S'.1.w.nodes).map (u1u true)))), (2, (0, .row 79 11 ((S'.1.w.radio).map (w1w true)))), (3, (0, .row 263 5 ((S'.1.list).map a4c))), (4, (0, .box 243 [v8v true bs, .pv (.int .i64 ((S'.1.p : Nat) : Int))]))]) := by
 refine mE (ι := Sm × Bool) Tryz.f239 (fun S' => [.pv (.bool (S'.2))]) 5 4 fun γ => ?_
 have hll := hS.2.1
 refine dv 1 ?_
 refine y0y (id := 5) rfl rfl rfl (dv 1 ?_)
 refine d5h 5 (b6j v3v 0 5 rfl rfl ?_)
 refine dv 5 ?_
 refine b6j v3v 9 1 rfl rfl ?_
 refine x3x (id := 6) b7c c0l rfl (b7r c2b (by rfl) [1, 2] [_, _] (d3r S.w ek en ep ew eb hS.1) rfl rfl rfl rfl (by decide) rfl rfl f3x (fun _ => (by (simp only [pI, a2f, a2g, c0d, gl, nx, a6z, Nat.beq]; rfl))) (fun _ => (by (simp only [pI, a2f, a2g, c0d, gl, nx, a6z, Nat.beq]; rfl))) (S.w, false) ⟨hS.1, fun _ => rfl⟩ fun j hj => ?_)
 obtain ⟨hj1, hj2⟩ := hj
 refine b6k v3v 6 3 rfl rfl ?_
 refine dv 3 ?_
 refine b6k v3v 10 2 rfl rfl ?_
 refine dv 2 ?_
 refine c5e (by kernel_rfl) ?_
 refine dc 3 (fun K K' => aS ?_ ?_)<;>intro hc2<;>try simp at hc2
 ·have hb : j.2 = false := hc2
  obtain ⟨T, b⟩ := j
  obtain rfl : b = false := hb
  refine dv 5 ?_
  exact ⟨(⟨{ S.w with nodes := T.nodes }, S.list, S.p⟩, false), ⟨f4c hS.1 hj1, Nat.le_succ_of_le hll, Nat.le_succ_of_le hS.2.2⟩, [γ 0, _, γ 2, γ 3, γ 4], rfl, rfl, HE.box rfl rfl (HE.row rfl rfl (HE.row rfl (congrArg (List.map (w1w true)) (hj2 rfl)) (HE.row rfl rfl (HE.box rfl rfl HE.nil))))⟩
 have hb : j.2 = true := hc2
 obtain ⟨T, b⟩ := j
 obtain rfl : b = true := hb
 refine dv 5 ?_
 refine a1k rfl rfl b7c rfl rfl rfl rfl (s0s rfl) rfl ?_
 refine dv 7 ?_
 refine y2y (id := 7) e0z rfl a2e rfl rfl rfl rfl rfl rfl ?_
 refine y6y (zs := (S.list ++ [(⟨ek, en, ep, ew, eb⟩ : Te)]).map a4c) rfl rfl e0z rfl a2e rfl rfl rfl rfl (by rfl) (z7z a4c S.list (⟨ek, en, ep, ew, eb⟩ : Te)) (by (simp only [a0e, r7r, a0b, a0d, a0u, a2z, T263]; omega)) ?_
 refine dv 7 ?_
 exact ⟨(⟨T, S.list ++ [(⟨ek, en, ep, ew, eb⟩ : Te)], S.p⟩, true), ⟨hj1, by show (S.list ++ [_]).length ≤ _; rw [List.length_append]; exact Nat.succ_le_succ hll, Nat.le_succ_of_le hS.2.2⟩, [γ 0, _, _, _, γ 4], rfl, rfl, x5x⟩
end
section
theorem w8w (bs : List Nat) (hbs : ∀ b ∈ bs, b < 256) (S : Sm) (c : Nat) (hS : smOk S c) (m odd : Nat) (hc : c + 4 * m ≤ 1000000) : MethE Tryz.prog 280 5 [.ptr 0 0 0, .pv (.int .i64 (m : Int)), .pv (.int .i64 (odd : Int))] [(0, (0, .box 171 [.ptr 4 0 0, pI S.w.time, a5u true S.w.apps, .ref 1 0, .ref 2 0, pI S.w.hub.round, w7w true S.w.hub.ones, w7w true S.w.hub.twos, w7w true S.w.hub.outs, r0r true S.w.sink, .ref 3 0])), (1, (0, .row 65 13 ((S.w.nodes).map (u1u true)))), (2, (0, .row 79 11 ((S.w.radio).map (w1w true)))), (3, (0, .row 263 5 ((S.list).map a4c))), (4, (0, .box 243 [v8v true bs, .pv (.int .i64 ((S.p : Nat) : Int))]))] (ι := Sm) (fun S' => smOk S' (c + 4 * m)) (fun S' => [0, 4]) (fun S' => .tup []) (fun S' => [(0, (0, .box 171 [.ptr 4 0 0, pI S'.w.time, a5u true S'.w.apps, .ref 1 0, .ref 2 0, pI S'.w.hub.round, w7w true S'.w.hub.ones, w7w true S'.w.hub.twos, w7w true S'.w.hub.outs, r0r true S'.w.sink, .ref 3 0])), (1, (0, .row 65 13 ((S'.w.nodes).map (u1u true)))), (2, (0, .row 79 11 ((S'.w.radio).map (w1w true)))), (3, (0, .row 263 5 ((S'.list).map a4c))), (4, (0, .box 243 [v8v true bs, .pv (.int .i64 ((S'.p : Nat) : Int))]))]) := by
 refine mE (ι := Sm) Tryz.f280 (fun S' => []) 5 1 fun γ => ?_
 refine dv 3 ?_
 refine x4x (ι := Sm × Nat) (fun p γ1 => [(6, pI (p.2 : Int))]) (fun p γ1 => [(1, ((γ1 1), .row 65 13 ((p.1.w.nodes).map (u1u true)))), (2, ((γ1 2), .row 79 11 ((p.1.w.radio).map (w1w true)))), (3, ((γ1 3), .row 263 5 ((p.1.list).map a4c))), (0, ((γ 0), .box 171 [.ptr 4 (γ 4) 0, pI p.1.w.time, a5u true p.1.w.apps, .ref 1 (γ1 1), .ref 2 (γ1 2), pI p.1.w.hub.round, w7w true p.1.w.hub.ones, w7w true p.1.w.hub.twos, w7w true p.1.w.hub.outs, r0r true p.1.w.sink, .ref 3 (γ1 3)])), (4, ((γ 4), .box 243 [v8v true bs, pI ((p.1.p : Nat) : Int)])), (5, ((γ1 5), .dead))]) (fun p => smOk p.1 (c + 4 * p.2) ∧ p.2 ≤ m) (fun p => m - p.2) (q6q [0, 1, 2] rfl) HE.nil (S, 0) ⟨hS, Nat.zero_le _⟩ [0, _, _, _, 0, _] x6x x5x rfl fun p γ1 hi => ?_
 obtain ⟨S1, i⟩ := p
 obtain ⟨h1, h2⟩ := hi
 dsimp only at h1 h2 ⊢
 have hp := h1.2.2
 refine dc 6 (fun K K' => aS ?_ ?_)<;>intro h<;>try simp at h
 ·refine dv 9 ?_
  exact ⟨S1, h1.mono (by omega), [γ 0, _, _, _, γ 4], rfl, rfl, x5x⟩
 refine dv 5 ?_
 refine a3w (n := S1.w.radio.length) rfl r8r rfl rfl (List.length_map _) ?_
 refine dc 2 (aS ?_ ?_)<;>intro h<;>try simp at h
 ·refine dv 1 ?_
  exact ⟨S1, h1.mono (by omega), [γ 0, _, _, _, γ 4], rfl, rfl, x5x⟩
 refine dv 4 fun K K' => ?_
 refine rlB a2e a2x ?_
 refine x3x (id := 5) a2e a2x rfl (dv 1 ?_)
 refine p9p (ι := Nat × Int × Int × Bool) (fun q4 γ2 => []) (fun q4 γ2 => [(4, ((γ 4), .box 243 [v8v true bs, pI ((q4.1 : Nat) : Int)])), (5, ((γ1 5 + 1), .box 263 [pI q4.2.1, pI 0, pI 0, pI q4.2.2.1, .pv (.bool q4.2.2.2)]))]) (fun q4 => q4.1 ≤ c + 4 * i + 3) (q6q [0, 1, 2, 6, 7] rfl) (a0p [0, 1, 2, 3] rfl) ?_ fun q4 γ2 hi => ?_
 ·refine dc 4 (aS ?_ ?_)<;>intro h<;>try simp at h
  ·refine dv 9 ?_
   exact ⟨(S1.p, 4, 0, false), (by show S1.p ≤ c + 4 * i + 3; omega), [], x6x, x6x, x5x, x5x, rfl⟩
  refine dv 5 ?_
  refine rlM [4] [_] (x1x true bs (S1.p) (odd) (by have := hp; omega) hbs) rfl rfl rfl ?_
  refine dc 2 (aS ?_ ?_)<;>intro h<;>try simp at h
  ·refine dv 1 ?_
   exact ⟨(S1.p + 1, 4, 0, false), (by show S1.p + 1 ≤ c + 4 * i + 3; omega), [], x6x, x6x, x5x, x5x, rfl⟩
  refine dv 5 ?_
  refine rlM [4] [_] (x1x true bs (S1.p + 1) (4) (by have := hp; omega) hbs) rfl rfl rfl ?_
  refine dc 4 (aI ?_ ?_)<;>intro h<;>try simp at h
  ·refine dv 3 ?_
   exact ⟨(S1.p + 1 + 1, 5, 0, false), (by show S1.p + 1 + 1 ≤ c + 4 * i + 3; omega), [], x6x, x6x, x5x, x5x, rfl⟩
  refine dc 3 (aI ?_ ?_)<;>intro h<;>try simp at h
  ·refine dv 3 ?_
   exact ⟨(S1.p + 1 + 1, 4, 0, true), (by show S1.p + 1 + 1 ≤ c + 4 * i + 3; omega), [], x6x, x6x, x5x, x5x, rfl⟩
  refine dv 10 ?_
  refine a3w (n := S1.w.radio.length) rfl r8r rfl rfl (List.length_map _) ?_
  refine rlM [4] [_] (x1x true bs (S1.p + 1 + 1) (S1.w.radio.length) (by have := hp; omega) hbs) rfl rfl rfl ?_
  refine dv 2 ?_
  exact ⟨(S1.p + 1 + 1 + 1, 4, (pk bs (S1.p + 1 + 1) S1.w.radio.length : Int), false), (by show S1.p + 1 + 1 + 1 ≤ c + 4 * i + 3; omega), [], x6x, x6x, x5x, x5x, rfl⟩
 ·try dsimp only [b1e, b1f]
  obtain ⟨q, ek, ew, eb⟩ := q4
  dsimp only at hi ⊢
  refine a8n fun B X0 w0 => ?_
  refine txR 2 rfl rfl (dv 2 ?_)
  refine txM [0, 1, 2, 3, 4] [_, _, _, _, _] (z3z bs hbs (pSm S1 q) (c + 4 * i + 3) (a3p h1 (by omega) hi) ek 0 0 ew eb (by omega)) rfl rfl rfl rfl fun J hJ => ?_
  obtain ⟨j, jb⟩ := J
  have hj : smOk j (c + 4 * i + 3 + 1) := hJ
  refine u2u rfl (dv 2 ?_)
  refine x8x (b := 1) rfl rfl (by omega) (dv 1 ?_)
  exact ⟨(j, i + 1), ⟨⟨hj.mono (by show _ ≤ c + 4 * (i + 1); omega), by show i + 1 ≤ m; omega⟩, (by show m - (i + 1) < m - i; omega)⟩, [0, _, _, _, 0, _], x6x, x6x, x5x, x5x, rfl⟩
end
section
theorem a6m (bs : List Nat) (hbs : ∀ b ∈ bs, b < 256) (S : Sm) (c : Nat) (hS : smOk S c) (m : Nat) (hm : m ≤ 1000) (hc : c + (2 + m) ≤ 1000000) : MethE Tryz.prog 134 5 [.ptr 0 0 0, .pv (.int .i64 (m : Int))] [(0, (0, .box 171 [.ptr 4 0 0, pI S.w.time, a5u true S.w.apps, .ref 1 0, .ref 2 0, pI S.w.hub.round, w7w true S.w.hub.ones, w7w true S.w.hub.twos, w7w true S.w.hub.outs, r0r true S.w.sink, .ref 3 0])), (1, (0, .row 65 13 ((S.w.nodes).map (u1u true)))), (2, (0, .row 79 11 ((S.w.radio).map (w1w true)))), (3, (0, .row 263 5 ((S.list).map a4c))), (4, (0, .box 243 [v8v true bs, .pv (.int .i64 ((S.p : Nat) : Int))]))] (ι := Sm) (fun S' => smOk S' (c + (2 + m))) (fun S' => [0, 4]) (fun S' => .tup []) (fun S' => [(0, (0, .box 171 [.ptr 4 0 0, pI S'.w.time, a5u true S'.w.apps, .ref 1 0, .ref 2 0, pI S'.w.hub.round, w7w true S'.w.hub.ones, w7w true S'.w.hub.twos, w7w true S'.w.hub.outs, r0r true S'.w.sink, .ref 3 0])), (1, (0, .row 65 13 ((S'.w.nodes).map (u1u true)))), (2, (0, .row 79 11 ((S'.w.radio).map (w1w true)))), (3, (0, .row 263 5 ((S'.list).map a4c))), (4, (0, .box 243 [v8v true bs, .pv (.int .i64 ((S'.p : Nat) : Int))]))]) := by
 refine mE (ι := Sm) Tryz.f134 (fun S' => []) 5 0 fun γ => ?_
 have hp := hS.2.2
 refine dv 5 ?_
 refine rlM [4] [_] (x1x true bs (S.p) (4) (by have := hp; omega) hbs) rfl rfl rfl ?_
 refine dv 1 ?_
 obtain ⟨Pr, ePr, hPr⟩ : ∃ Pr, pk bs S.p 4 = Pr ∧ Pr ≤ 4 := ⟨_, rfl, b2g _ _ _⟩
 rw [ePr]
 refine dv 6 ?_
 refine rlM [4] [_] (x1x true bs (S.p + 1) (m) (by have := hp; omega) hbs) rfl rfl rfl ?_
 refine dv 1 ?_
 obtain ⟨N, eN, hN⟩ : ∃ N, pk bs (S.p + 1) m = N ∧ N ≤ m := ⟨_, rfl, b2g _ _ _⟩
 rw [eN]
 refine dv 1 ?_
 refine x4x (ι := Sm × Nat) (fun p γ1 => [(5, pI (p.2 : Int))]) (fun p γ1 => [(1, ((γ1 1), .row 65 13 ((p.1.w.nodes).map (u1u true)))), (2, ((γ1 2), .row 79 11 ((p.1.w.radio).map (w1w true)))), (3, ((γ1 3), .row 263 5 ((p.1.list).map a4c))), (0, ((γ 0), .box 171 [.ptr 4 (γ 4) 0, pI p.1.w.time, a5u true p.1.w.apps, .ref 1 (γ1 1), .ref 2 (γ1 2), pI p.1.w.hub.round, w7w true p.1.w.hub.ones, w7w true p.1.w.hub.twos, w7w true p.1.w.hub.outs, r0r true p.1.w.sink, .ref 3 (γ1 3)])), (4, ((γ 4), .box 243 [v8v true bs, pI ((p.1.p : Nat) : Int)]))]) (fun p => smOk p.1 (c + 2 + (N - p.2)) ∧ p.2 ≤ N) (fun p => p.2) (q6q [0, 4] rfl) HE.nil (pSm S (S.p + 1 + 1), N) ⟨a3p hS (by show _ ≤ c + 2 + (N - N); omega) (by show _ ≤ c + 2 + (N - N); omega), Nat.le_refl _⟩ [0, _, _, _] x6x x5x rfl fun p γ1 hi => ?_
 obtain ⟨S1, i⟩ := p
 obtain ⟨h1, h2⟩ := hi
 dsimp only at h1 h2 ⊢
 refine dc 4 (fun K K' => aS ?_ ?_)<;>intro h<;>try simp at h
 ·refine dv 1 ?_
  exact ⟨S1, h1.mono (by omega), [γ 0, _, _, _, γ 4], rfl, rfl, x5x⟩
 obtain ⟨i', rfl⟩ : ∃ i', i = i' + 1 := ⟨i - 1, by omega⟩
 refine dv 3 fun K K' => ?_
 refine a8n fun B X0 w0 => ?_
 refine txR 5 rfl rfl (dv 2 ?_)
 refine x0x rfl rfl rfl (a0s ..) (dv 1 ?_)
 refine rlB a2e a2x ?_
 refine txM [0, 1, 2, 3, 4] [_, _, _, _, _] (z3z bs hbs S1 (c + 2 + (N - (i' + 1))) (h1.mono (by omega)) 1 (p1p Pr) Pr 0 false (by omega)) rfl rfl rfl rfl fun J hJ => ?_
 obtain ⟨j, jb⟩ := J
 have hj : smOk j (c + 2 + (N - (i' + 1)) + 1) := hJ
 refine u2u rfl (dv 2 ?_)
 refine p6p (b := 1) rfl rfl (by omega) (by omega) (dv 1 ?_)
 exact ⟨(j, i'), ⟨⟨hj.mono (by show _ ≤ c + 2 + (N - i'); omega), by show i' ≤ N; omega⟩, (by show i' < i' + 1; omega)⟩, [0, _, _, _], x6x, x6x, x5x, x5x, rfl⟩
end
section
theorem a2p (bs : List Nat) (hbs : ∀ b ∈ bs, b < 256) (S : Sm) (c : Nat) (hS : smOk S c) (m odd : Nat) (hc : c + 195 * m ≤ 1000000) : MethE Tryz.prog 249 5 [.ptr 0 0 0, .pv (.int .i64 (m : Int)), .pv (.int .i64 (odd : Int))] [(0, (0, .box 171 [.ptr 4 0 0, pI S.w.time, a5u true S.w.apps, .ref 1 0, .ref 2 0, pI S.w.hub.round, w7w true S.w.hub.ones, w7w true S.w.hub.twos, w7w true S.w.hub.outs, r0r true S.w.sink, .ref 3 0])), (1, (0, .row 65 13 ((S.w.nodes).map (u1u true)))), (2, (0, .row 79 11 ((S.w.radio).map (w1w true)))), (3, (0, .row 263 5 ((S.list).map a4c))), (4, (0, .box 243 [v8v true bs, .pv (.int .i64 ((S.p : Nat) : Int))]))] (ι := Sm) (fun S' => smOk S' (c + 195 * m)) (fun S' => [0, 4]) (fun S' => .tup []) (fun S' => [(0, (0, .box 171 [.ptr 4 0 0, pI S'.w.time, a5u true S'.w.apps, .ref 1 0, .ref 2 0, pI S'.w.hub.round, w7w true S'.w.hub.ones, w7w true S'.w.hub.twos, w7w true S'.w.hub.outs, r0r true S'.w.sink, .ref 3 0])), (1, (0, .row 65 13 ((S'.w.nodes).map (u1u true)))), (2, (0, .row 79 11 ((S'.w.radio).map (w1w true)))), (3, (0, .row 263 5 ((S'.list).map a4c))), (4, (0, .box 243 [v8v true bs, .pv (.int .i64 ((S'.p : Nat) : Int))]))]) := by
 refine mE (ι := Sm) Tryz.f249 (fun S' => []) 5 0 fun γ => ?_
 refine dv 3 ?_
 refine x4x (ι := Sm × Nat) (fun p γ1 => [(6, pI (p.2 : Int))]) (fun p γ1 => [(1, ((γ1 1), .row 65 13 ((p.1.w.nodes).map (u1u true)))), (2, ((γ1 2), .row 79 11 ((p.1.w.radio).map (w1w true)))), (3, ((γ1 3), .row 263 5 ((p.1.list).map a4c))), (0, ((γ 0), .box 171 [.ptr 4 (γ 4) 0, pI p.1.w.time, a5u true p.1.w.apps, .ref 1 (γ1 1), .ref 2 (γ1 2), pI p.1.w.hub.round, w7w true p.1.w.hub.ones, w7w true p.1.w.hub.twos, w7w true p.1.w.hub.outs, r0r true p.1.w.sink, .ref 3 (γ1 3)])), (4, ((γ 4), .box 243 [v8v true bs, pI ((p.1.p : Nat) : Int)]))]) (fun p => smOk p.1 (c + 195 * p.2) ∧ p.2 ≤ m) (fun p => m - p.2) (q6q [0, 1, 2] rfl) HE.nil (S, 0) ⟨hS, Nat.zero_le _⟩ [0, _, _, _] x6x x5x rfl fun p γ1 hi => ?_
 obtain ⟨S1, k⟩ := p
 obtain ⟨h1, h2⟩ := hi
 dsimp only at h1 h2 ⊢
 refine dc 5 (fun K K' => aS ?_ ?_)<;>intro h<;>try simp at h
 ·refine dv 1 ?_
  exact ⟨S1, h1.mono (by omega), [γ 0, _, _, _, γ 4], rfl, rfl, x5x⟩
 refine dv 7 fun K K' K K' => ?_
 refine x4x (ι := Sm × Nat) (fun p γ2 => [(7, pI (p.2 : Int))]) (fun p γ2 => [(1, ((γ2 1), .row 65 13 ((p.1.w.nodes).map (u1u true)))), (2, ((γ2 2), .row 79 11 ((p.1.w.radio).map (w1w true)))), (3, ((γ2 3), .row 263 5 ((p.1.list).map a4c))), (0, ((γ 0), .box 171 [.ptr 4 (γ 4) 0, pI p.1.w.time, a5u true p.1.w.apps, .ref 1 (γ2 1), .ref 2 (γ2 2), pI p.1.w.hub.round, w7w true p.1.w.hub.ones, w7w true p.1.w.hub.twos, w7w true p.1.w.hub.outs, r0r true p.1.w.sink, .ref 3 (γ2 3)])), (4, ((γ 4), .box 243 [v8v true bs, pI ((p.1.p : Nat) : Int)]))]) (fun p => smOk p.1 (c + 195 * k + (30 * p.2)) ∧ p.2 ≤ 4) (fun p => 4 - p.2) (q6q [0, 1, 2, 6] rfl) HE.nil (S1, 0) ⟨h1, Nat.zero_le _⟩ [0, _, _, _] x6x x5x rfl fun p γ2 hi => ?_
 obtain ⟨S2, i⟩ := p
 obtain ⟨j1, j2⟩ := hi
 dsimp only at j1 j2 ⊢
 refine dc 4 (fun K K' => aS ?_ ?_)<;>intro h<;>try simp at h
 ·refine dv 4 ?_
  refine x4x (ι := Sm × Nat) (fun p γ5 => [(9, pI (p.2 : Int))]) (fun p γ5 => [(1, ((γ5 1), .row 65 13 ((p.1.w.nodes).map (u1u true)))), (2, ((γ5 2), .row 79 11 ((p.1.w.radio).map (w1w true)))), (3, ((γ5 3), .row 263 5 ((p.1.list).map a4c))), (0, ((γ 0), .box 171 [.ptr 4 (γ 4) 0, pI p.1.w.time, a5u true p.1.w.apps, .ref 1 (γ5 1), .ref 2 (γ5 2), pI p.1.w.hub.round, w7w true p.1.w.hub.ones, w7w true p.1.w.hub.twos, w7w true p.1.w.hub.outs, r0r true p.1.w.sink, .ref 3 (γ5 3)])), (4, ((γ 4), .box 243 [v8v true bs, pI ((p.1.p : Nat) : Int)]))]) (fun p => smOk p.1 (c + 195 * k + (120 + 25 * p.2)) ∧ p.2 ≤ 3) (fun p => 3 - p.2) (q6q [0, 1, 2, 6] rfl) HE.nil (S2, 0) ⟨j1.mono (by omega), Nat.zero_le _⟩ [0, _, _, _] x6x x5x rfl fun p γ5 hi => ?_
  obtain ⟨S4, q⟩ := p
  obtain ⟨l1, l2⟩ := hi
  dsimp only at l1 l2 ⊢
  refine dc 4 (fun K K' => aS ?_ ?_)<;>intro h<;>try simp at h
  ·refine dv 3 ?_
   refine x8x (b := 1) rfl rfl (by omega) (dv 1 ?_)
   exact ⟨(S4, k + 1), ⟨⟨l1.mono (by show _ ≤ c + 195 * (k + 1); omega), by show k + 1 ≤ m; omega⟩, (by show m - (k + 1) < m - k; omega)⟩, [0, _, _, _], x6x, x6x, x5x, x5x, rfl⟩
  refine dv 3 fun K K' => ?_
  refine a0i fun B X0 w0 => ?_
  refine txR 3 rfl rfl (dv 2 ?_)
  refine rlB a2e a2x ?_
  refine txM [0, 1, 2, 3, 4] [_, _, _, _, _] (z3z bs hbs S4 (c + 195 * k + (120 + 25 * q)) l1 2 q 0 0 false (by omega)) rfl rfl rfl rfl fun J hJ => ?_
  obtain ⟨j, jb⟩ := J
  have hj : smOk j (c + 195 * k + (120 + 25 * q) + 1) := hJ
  refine u2u rfl (a8n fun B X0 w0 => ?_)
  refine txR 2 rfl rfl (dv 2 ?_)
  refine txM [0, 1, 2, 3, 4] [_, _, _, _, _] (w8w bs hbs j (c + 195 * k + (120 + 25 * q) + 1) hj 6 odd (by omega)) rfl rfl rfl rfl fun r hr => ?_
  refine u2u rfl (dv 2 ?_)
  refine x8x (b := 1) rfl rfl (by omega) (dv 1 ?_)
  exact ⟨(r, q + 1), ⟨⟨hr.mono (by show _ ≤ c + 195 * k + (120 + 25 * (q + 1)); omega), by show q + 1 ≤ 3; omega⟩, (by show 3 - (q + 1) < 3 - q; omega)⟩, [0, _, _, _], x6x, x6x, x5x, x5x, rfl⟩
 refine dv 1 ?_
 refine p9p (ι := Sm) (fun T γ3 => []) (fun T γ3 => [(1, ((γ3 1), .row 65 13 ((T.w.nodes).map (u1u true)))), (2, ((γ3 2), .row 79 11 ((T.w.radio).map (w1w true)))), (3, ((γ3 3), .row 263 5 ((T.list).map a4c))), (0, ((γ 0), .box 171 [.ptr 4 (γ 4) 0, pI T.w.time, a5u true T.w.apps, .ref 1 (γ3 1), .ref 2 (γ3 2), pI T.w.hub.round, w7w true T.w.hub.ones, w7w true T.w.hub.twos, w7w true T.w.hub.outs, r0r true T.w.sink, .ref 3 (γ3 3)])), (4, ((γ 4), .box 243 [v8v true bs, pI ((T.p : Nat) : Int)]))]) (fun T => smOk T (c + 195 * k + (30 * i + 30))) (q6q [0, 1, 2, 6, 7] rfl) HE.nil ?_ fun T γ3 hi => ?_
 ·refine dv 4 ?_
  refine x4x (ι := Sm × Nat) (fun p γ4 => [(8, pI (p.2 : Int))]) (fun p γ4 => [(1, ((γ4 1), .row 65 13 ((p.1.w.nodes).map (u1u true)))), (2, ((γ4 2), .row 79 11 ((p.1.w.radio).map (w1w true)))), (3, ((γ4 3), .row 263 5 ((p.1.list).map a4c))), (0, ((γ 0), .box 171 [.ptr 4 (γ 4) 0, pI p.1.w.time, a5u true p.1.w.apps, .ref 1 (γ4 1), .ref 2 (γ4 2), pI p.1.w.hub.round, w7w true p.1.w.hub.ones, w7w true p.1.w.hub.twos, w7w true p.1.w.hub.outs, r0r true p.1.w.sink, .ref 3 (γ4 3)])), (4, ((γ 4), .box 243 [v8v true bs, pI ((p.1.p : Nat) : Int)]))]) (fun p => smOk p.1 (c + 195 * k + (30 * i + p.2)) ∧ p.2 ≤ 30) (fun p => 30 - p.2) (q6q [0, 1, 2, 6, 7] rfl) HE.nil (S2, 0) ⟨j1, Nat.zero_le _⟩ [0, _, _, _] x6x x5x rfl fun p γ4 hi => ?_
  obtain ⟨S3, q⟩ := p
  obtain ⟨k1, k2⟩ := hi
  dsimp only at k1 k2 ⊢
  refine dv 1 fun K K' => ?_
  refine a0i fun B X0 w0 => ?_
  refine txR 3 rfl rfl (dv 3 ?_)
  refine f8c 21 rfl ?_ ?_<;>intro h<;>try simp at h
  rotate_left
  ·refine txR 7 rfl rfl (dv 7 ?_)
   refine u2u rfl (dv 2 ?_)
   exact ⟨S3, (k1.mono (by omega)), [0, _, _, _], x6x, x6x, x5x, x5x, rfl⟩
  refine txR 5 rfl rfl (dv 2 ?_)
  refine x0x rfl rfl rfl (a0s ..) (dv 1 ?_)
  refine rlB a2e a2x ?_
  refine e4p [0, 1, 2, 3, 4] [_, _, _, _, _] (z3z bs hbs S3 (c + 195 * k + (30 * i + q)) k1 1 (p1p i) i 0 false (by omega)) rfl rfl rfl rfl rfl rfl rfl (by decide) rfl rfl f3x (fun _ => (by (simp only [pI, a2f, a2g, c0d, gl, nx, a6z, Nat.beq]; rfl))) (fun _ => (by (simp only [pI, a2f, a2g, c0d, gl, nx, a6z, Nat.beq]; rfl))) fun J hJ => ?_
  obtain ⟨j, jb⟩ := J
  have hj : smOk j (c + 195 * k + (30 * i + q) + 1) := hJ
  refine txR 1 rfl rfl (dv 1 ?_)
  refine u2u rfl (dc 0 (aS ?_ ?_))<;>intro h<;>try simp at h
  ·refine dv 1 ?_
   exact ⟨j, (hj.mono (by omega)), [0, _, _, _], x6x, x6x, x5x, x5x, rfl⟩
  refine dv 6 ?_
  refine x8x (b := 1) rfl rfl (by omega) (dv 1 ?_)
  exact ⟨(j, q + 1), ⟨⟨hj.mono (by show _ ≤ c + 195 * k + (30 * i + (q + 1)); omega), by show q + 1 ≤ 30; omega⟩, (by show 30 - (q + 1) < 30 - q; omega)⟩, [0, _, _, _], x6x, x6x, x5x, x5x, rfl⟩
 ·try dsimp only [b1e, b1f]
  refine dv 2 ?_
  refine x8x (b := 1) rfl rfl (by omega) (dv 1 ?_)
  exact ⟨(T, i + 1), ⟨⟨hi.mono (by show _ ≤ c + 195 * k + 30 * (i + 1); omega), by show i + 1 ≤ 4; omega⟩, (by show 4 - (i + 1) < 4 - i; omega)⟩, [0, _, _, _], x6x, x6x, x5x, x5x, rfl⟩
end
section
theorem c1k (bs : List Nat) (hbs : ∀ b ∈ bs, b < 256) (S : Sm) (c : Nat) (hS : smOk S c)  (hc : c + 960 ≤ 1000000) : MethE Tryz.prog 289 5 [.ptr 0 0 0] [(0, (0, .box 171 [.ptr 4 0 0, pI S.w.time, a5u true S.w.apps, .ref 1 0, .ref 2 0, pI S.w.hub.round, w7w true S.w.hub.ones, w7w true S.w.hub.twos, w7w true S.w.hub.outs, r0r true S.w.sink, .ref 3 0])), (1, (0, .row 65 13 ((S.w.nodes).map (u1u true)))), (2, (0, .row 79 11 ((S.w.radio).map (w1w true)))), (3, (0, .row 263 5 ((S.list).map a4c))), (4, (0, .box 243 [v8v true bs, .pv (.int .i64 ((S.p : Nat) : Int))]))] (ι := Sm) (fun S' => smOk S' (c + 960)) (fun S' => [0, 4]) (fun S' => .tup []) (fun S' => [(0, (0, .box 171 [.ptr 4 0 0, pI S'.w.time, a5u true S'.w.apps, .ref 1 0, .ref 2 0, pI S'.w.hub.round, w7w true S'.w.hub.ones, w7w true S'.w.hub.twos, w7w true S'.w.hub.outs, r0r true S'.w.sink, .ref 3 0])), (1, (0, .row 65 13 ((S'.w.nodes).map (u1u true)))), (2, (0, .row 79 11 ((S'.w.radio).map (w1w true)))), (3, (0, .row 263 5 ((S'.list).map a4c))), (4, (0, .box 243 [v8v true bs, .pv (.int .i64 ((S'.p : Nat) : Int))]))]) := by
 refine mE (ι := Sm) Tryz.f289 (fun S' => []) 5 0 fun γ => ?_
 refine a0i fun B X0 w0 => ?_
 refine txR 7 rfl rfl (dv 5 ?_)
 refine rlM [4] [_] (x1x true bs (S.p) (3) (by have := hS.2.2; omega) hbs) rfl rfl rfl ?_
 obtain ⟨N, eN, hN⟩ : ∃ N, pk bs S.p 3 = N ∧ N ≤ 3 := ⟨_, rfl, b2g _ _ _⟩
 rw [eN]
 refine x8x (a := 1) rfl rfl (by omega) ?_
 refine txM [0, 1, 2, 3, 4] [_, _, _, _, _] (a2p bs hbs (pSm S (S.p + 1)) (c + 1) (a3p hS (by omega) (by have := hS.2.2; omega)) (1 + N) 0 (by omega)) rfl rfl rfl rfl fun a ha => ?_
 have ha2 : smOk a (c + 781) := ha.mono (by omega)
 refine u2u rfl (a0i fun B X0 w0 => ?_)
 refine txR 2 rfl rfl (dv 1 ?_)
 refine rlB a2e a2x ?_
 refine txM [0, 1, 2, 3, 4] [_, _, _, _, _] (z3z bs hbs a (c + 781) ha2 3 0 0 0 false (by omega)) rfl rfl rfl rfl fun J hJ => ?_
 obtain ⟨j, jb⟩ := J
 have hj : smOk j (c + 781 + 1) := hJ
 refine u2u rfl (a0i fun B X0 w0 => ?_)
 refine txR 6 rfl rfl (dv 5 ?_)
 refine rlM [4] [_] (x1x true bs (j.p) (12) (by have := hj.2.2; omega) hbs) rfl rfl rfl ?_
 refine txM [0, 1, 2, 3, 4] [_, _, _, _, _] (w8w bs hbs (pSm j (j.p + 1)) (c + 783) (a3p hj (by omega) (by have := hj.2.2; omega)) (pk bs j.p 12) 0 (by have := b2g bs j.p 12; omega)) rfl rfl rfl rfl fun b hb => ?_
 have hb2 : smOk b (c + 831) := hb.mono (by have := b2g bs j.p 12; omega)
 refine u2u rfl (dv 5 ?_)
 refine rlM [4] [_] (x1x true bs (b.p) (3) (by have := hb2.2.2; omega) hbs) rfl rfl rfl ?_
 refine dv 1 ?_
 obtain ⟨Pr, ePr, hPr⟩ : ∃ Pr, pk bs b.p 3 = Pr ∧ Pr ≤ 3 := ⟨_, rfl, b2g _ _ _⟩
 rw [ePr]
 refine a0i fun B X0 w0 => ?_
 refine txR 3 rfl rfl (dv 2 ?_)
 refine rlB a2e a2x ?_
 refine txM [0, 1, 2, 3, 4] [_, _, _, _, _] (z3z bs hbs (pSm b (b.p + 1)) (c + 832) (a3p hb2 (by omega) (by have := hb2.2.2; omega)) 6 Pr 0 0 false (by omega)) rfl rfl rfl rfl fun J hJ => ?_
 obtain ⟨j, jb⟩ := J
 have hj : smOk j (c + 832 + 1) := hJ
 refine u2u rfl ?_
 refine p9p (ι := Sm) (fun T γ1 => []) (fun T γ1 => [(1, ((γ1 1), .row 65 13 ((T.w.nodes).map (u1u true)))), (2, ((γ1 2), .row 79 11 ((T.w.radio).map (w1w true)))), (3, ((γ1 3), .row 263 5 ((T.list).map a4c))), (0, ((γ 0), .box 171 [.ptr 4 (γ 4) 0, pI T.w.time, a5u true T.w.apps, .ref 1 (γ1 1), .ref 2 (γ1 2), pI T.w.hub.round, w7w true T.w.hub.ones, w7w true T.w.hub.twos, w7w true T.w.hub.outs, r0r true T.w.sink, .ref 3 (γ1 3)])), (4, ((γ 4), .box 243 [v8v true bs, pI ((T.p : Nat) : Int)]))]) (fun T => smOk T (c + 839)) (x7x 0 rfl Cov.nil) HE.nil ?_ fun T γ1 hi => ?_
 ·refine dv 5 ?_
  refine rlM [4] [_] (x1x true bs (j.p) (4) (by have := hj.2.2; omega) hbs) rfl rfl rfl ?_
  refine dc 1 (aS ?_ ?_)<;>intro h<;>try simp at h
  ·refine dv 1 ?_
   exact ⟨(pSm j (j.p + 1)), (a3p hj (by omega) (by have := hj.2.2; omega)), [0, _, _, _], x6x, x6x, x5x, x5x, rfl⟩
  refine a0i fun B X0 w0 => ?_
  refine txR 3 rfl rfl (dv 2 ?_)
  refine rlB a2e a2x ?_
  refine txM [0, 1, 2, 3, 4] [_, _, _, _, _] (z3z bs hbs (pSm j (j.p + 1)) (c + 834) (a3p hj (by omega) (by have := hj.2.2; omega)) 7 Pr 0 0 false (by omega)) rfl rfl rfl rfl fun J hJ => ?_
  obtain ⟨j, jb⟩ := J
  have hj : smOk j (c + 834 + 1) := hJ
  refine u2u rfl (a0i fun B X0 w0 => ?_)
  refine txR 3 rfl rfl (dv 2 ?_)
  refine rlB a2e a2x ?_
  refine txM [0, 1, 2, 3, 4] [_, _, _, _, _] (z3z bs hbs j (c + 834 + 1) hj 2 Pr 0 0 false (by omega)) rfl rfl rfl rfl fun J hJ => ?_
  obtain ⟨j, jb⟩ := J
  have hj : smOk j (c + 834 + 1 + 1) := hJ
  refine u2u rfl (dv 5 ?_)
  refine rlM [4] [_] (x1x true bs (j.p) (2) (by have := hj.2.2; omega) hbs) rfl rfl rfl ?_
  refine dc 1 (aS ?_ ?_)<;>intro h<;>try simp at h
  ·refine dv 1 ?_
   exact ⟨(pSm j (j.p + 1)), (a3p hj (by omega) (by have := hj.2.2; omega)), [0, _, _, _], x6x, x6x, x5x, x5x, rfl⟩
  refine a0i fun B X0 w0 => ?_
  refine txR 9 rfl rfl (dv 6 ?_)
  refine a3w (n := j.w.radio.length) rfl r8r rfl rfl (List.length_map _) ?_
  have hr40 := hj.1.2.2.2.1
  refine s5s (.int .i64 ((j.w.radio.length : Int) - 1)) rfl rfl rfl (a6s rfl (by omega) (by omega) (by omega)) ?_
  refine rlB a2e a2x ?_
  refine txM [0, 1, 2, 3, 4] [_, _, _, _, _] (z3z bs hbs (pSm j (j.p + 1)) (c + 837) (a3p hj (by omega) (by have := hj.2.2; omega)) 4 0 0 ((j.w.radio.length : Int) - 1) false (by omega)) rfl rfl rfl rfl fun J hJ => ?_
  obtain ⟨j, jb⟩ := J
  have hj : smOk j (c + 837 + 1) := hJ
  refine u2u rfl (a8n fun B X0 w0 => ?_)
  refine txR 9 rfl rfl (dv 6 ?_)
  refine a3w (n := j.w.radio.length) rfl r8r rfl rfl (List.length_map _) ?_
  have hr40 := hj.1.2.2.2.1
  refine s5s (.int .i64 ((j.w.radio.length : Int) - 1)) rfl rfl rfl (a6s rfl (by omega) (by omega) (by omega)) ?_
  refine rlB a2e a2x ?_
  refine txM [0, 1, 2, 3, 4] [_, _, _, _, _] (z3z bs hbs j (c + 837 + 1) hj 4 0 0 ((j.w.radio.length : Int) - 1) false (by omega)) rfl rfl rfl rfl fun J hJ => ?_
  obtain ⟨j, jb⟩ := J
  have hj : smOk j (c + 837 + 1 + 1) := hJ
  refine u2u rfl ?_
  exact ⟨j, (hj.mono (by omega)), [0, _, _, _], x6x, x6x, x5x, x5x, rfl⟩
 ·try dsimp only [b1e, b1f]
  refine a8n fun B X0 w0 => ?_
  refine txR 1 rfl rfl (dv 1 ?_)
  refine txM [0, 1, 2, 3, 4] [_, _, _, _, _] (w8w bs hbs T (c + 839) hi 30 6 (by omega)) rfl rfl rfl rfl fun r hr => ?_
  refine u2u rfl ?_
  exact ⟨.inl rfl, r, hr.mono (by omega), [γ 0, _, _, _, γ 4], rfl, rfl, x5x⟩
end
section
theorem a9v (bs : List Nat) (hbs : ∀ b ∈ bs, b < 256) (S : Sm) (c : Nat) (hS : smOk S c) (odd : Nat) (hc : c + 281 ≤ 1000000) : MethE Tryz.prog 215 5 [.ptr 0 0 0, .pv (.int .i64 (odd : Int))] [(0, (0, .box 171 [.ptr 4 0 0, pI S.w.time, a5u true S.w.apps, .ref 1 0, .ref 2 0, pI S.w.hub.round, w7w true S.w.hub.ones, w7w true S.w.hub.twos, w7w true S.w.hub.outs, r0r true S.w.sink, .ref 3 0])), (1, (0, .row 65 13 ((S.w.nodes).map (u1u true)))), (2, (0, .row 79 11 ((S.w.radio).map (w1w true)))), (3, (0, .row 263 5 ((S.list).map a4c))), (4, (0, .box 243 [v8v true bs, .pv (.int .i64 ((S.p : Nat) : Int))]))] (ι := Sm) (fun S' => smOk S' (c + 281)) (fun S' => [0, 4]) (fun S' => .tup []) (fun S' => [(0, (0, .box 171 [.ptr 4 0 0, pI S'.w.time, a5u true S'.w.apps, .ref 1 0, .ref 2 0, pI S'.w.hub.round, w7w true S'.w.hub.ones, w7w true S'.w.hub.twos, w7w true S'.w.hub.outs, r0r true S'.w.sink, .ref 3 0])), (1, (0, .row 65 13 ((S'.w.nodes).map (u1u true)))), (2, (0, .row 79 11 ((S'.w.radio).map (w1w true)))), (3, (0, .row 263 5 ((S'.list).map a4c))), (4, (0, .box 243 [v8v true bs, .pv (.int .i64 ((S'.p : Nat) : Int))]))]) := by
 refine mE (ι := Sm) Tryz.f215 (fun S' => []) 5 0 fun γ => ?_
 refine dv 4 fun K K' => ?_
 refine x4x (ι := Sm × Nat) (fun p γ1 => [(4, pI (p.2 : Int))]) (fun p γ1 => [(1, ((γ1 1), .row 65 13 ((p.1.w.nodes).map (u1u true)))), (2, ((γ1 2), .row 79 11 ((p.1.w.radio).map (w1w true)))), (3, ((γ1 3), .row 263 5 ((p.1.list).map a4c))), (0, ((γ 0), .box 171 [.ptr 4 (γ 4) 0, pI p.1.w.time, a5u true p.1.w.apps, .ref 1 (γ1 1), .ref 2 (γ1 2), pI p.1.w.hub.round, w7w true p.1.w.hub.ones, w7w true p.1.w.hub.twos, w7w true p.1.w.hub.outs, r0r true p.1.w.sink, .ref 3 (γ1 3)])), (4, ((γ 4), .box 243 [v8v true bs, pI ((p.1.p : Nat) : Int)]))]) (fun p => smOk p.1 (c + 7 * p.2) ∧ p.2 ≤ 4) (fun p => 4 - p.2) (q6q [0, 1] rfl) HE.nil (S, 0) ⟨hS, Nat.zero_le _⟩ [0, _, _, _] x6x x5x rfl fun p γ1 hi => ?_
 obtain ⟨S1, k⟩ := p
 obtain ⟨h1, h2⟩ := hi
 dsimp only at h1 h2 ⊢
 have hp := h1.2.2
 refine dc 4 (fun K K' => aI ?_ ?_)<;>intro h<;>try simp at h
 ·refine dv 8 fun K K' => ?_
  refine rlM [4] [_] (x1x true bs (S1.p) (6) (by have := hp; omega) hbs) rfl rfl rfl ?_
  refine dv 1 ?_
  obtain ⟨N, eN, hN⟩ : ∃ N, pk bs S1.p 6 = N ∧ N ≤ 6 := ⟨_, rfl, b2g _ _ _⟩
  rw [eN]
  refine dv 1 ?_
  refine x4x (ι := Sm × Nat) (fun p γ2 => [(5, pI (p.2 : Int))]) (fun p γ2 => [(1, ((γ2 1), .row 65 13 ((p.1.w.nodes).map (u1u true)))), (2, ((γ2 2), .row 79 11 ((p.1.w.radio).map (w1w true)))), (3, ((γ2 3), .row 263 5 ((p.1.list).map a4c))), (0, ((γ 0), .box 171 [.ptr 4 (γ 4) 0, pI p.1.w.time, a5u true p.1.w.apps, .ref 1 (γ2 1), .ref 2 (γ2 2), pI p.1.w.hub.round, w7w true p.1.w.hub.ones, w7w true p.1.w.hub.twos, w7w true p.1.w.hub.outs, r0r true p.1.w.sink, .ref 3 (γ2 3)])), (4, ((γ 4), .box 243 [v8v true bs, pI ((p.1.p : Nat) : Int)]))]) (fun p => smOk p.1 (c + 7 * k + 1 + (N - p.2)) ∧ p.2 ≤ N) (fun p => p.2) (q6q [0, 1, 4] rfl) HE.nil (pSm S1 (S1.p + 1), N) ⟨a3p h1 (by show _ ≤ c + 7 * k + 1 + (N - N); omega) (by show _ ≤ c + 7 * k + 1 + (N - N); omega), Nat.le_refl _⟩ [0, _, _, _] x6x x5x rfl fun p γ2 hi => ?_
  obtain ⟨S2, i⟩ := p
  obtain ⟨j1, j2⟩ := hi
  dsimp only at j1 j2 ⊢
  refine dc 4 (fun K K' => aS ?_ ?_)<;>intro h<;>try simp at h
  ·refine dv 3 ?_
   refine x8x (b := 1) rfl rfl (by omega) (dv 1 ?_)
   exact ⟨(S2, k + 1), ⟨⟨j1.mono (by show _ ≤ c + 7 * (k + 1); omega), by show k + 1 ≤ 4; omega⟩, (by show 4 - (k + 1) < 4 - k; omega)⟩, [0, _, _, _], x6x, x6x, x5x, x5x, rfl⟩
  obtain ⟨i', rfl⟩ : ∃ i', i = i' + 1 := ⟨i - 1, by omega⟩
  refine dv 3 fun K K' => ?_
  refine a8n fun B X0 w0 => ?_
  refine txR 5 rfl rfl (dv 2 ?_)
  refine x0x rfl rfl rfl (a0s ..) (dv 1 ?_)
  refine rlB a2e a2x ?_
  refine txM [0, 1, 2, 3, 4] [_, _, _, _, _] (z3z bs hbs S2 (c + 7 * k + 1 + (N - (i' + 1))) (j1.mono (by omega)) 1 (p1p k) k 0 false (by omega)) rfl rfl rfl rfl fun J hJ => ?_
  obtain ⟨j, jb⟩ := J
  have hj : smOk j (c + 7 * k + 1 + (N - (i' + 1)) + 1) := hJ
  refine u2u rfl (dv 2 ?_)
  refine p6p (b := 1) rfl rfl (by omega) (by omega) (dv 1 ?_)
  exact ⟨(j, i'), ⟨⟨hj.mono (by show _ ≤ c + 7 * k + 1 + (N - i'); omega), by show i' ≤ N; omega⟩, (by show i' < i' + 1; omega)⟩, [0, _, _, _], x6x, x6x, x5x, x5x, rfl⟩
 refine dv 5 fun K K' => ?_
 refine x4x (ι := Sm × Nat) (fun p γ3 => [(6, pI (p.2 : Int))]) (fun p γ3 => [(1, ((γ3 1), .row 65 13 ((p.1.w.nodes).map (u1u true)))), (2, ((γ3 2), .row 79 11 ((p.1.w.radio).map (w1w true)))), (3, ((γ3 3), .row 263 5 ((p.1.list).map a4c))), (0, ((γ 0), .box 171 [.ptr 4 (γ 4) 0, pI p.1.w.time, a5u true p.1.w.apps, .ref 1 (γ3 1), .ref 2 (γ3 2), pI p.1.w.hub.round, w7w true p.1.w.hub.ones, w7w true p.1.w.hub.twos, w7w true p.1.w.hub.outs, r0r true p.1.w.sink, .ref 3 (γ3 3)])), (4, ((γ 4), .box 243 [v8v true bs, pI ((p.1.p : Nat) : Int)]))]) (fun p => smOk p.1 (c + 28 + p.2) ∧ p.2 ≤ 3) (fun p => 3 - p.2) (q6q [0, 1] rfl) HE.nil (S1, 0) ⟨h1.mono (by omega), Nat.zero_le _⟩ [0, _, _, _] x6x x5x rfl fun p γ3 hi => ?_
 obtain ⟨S3, q⟩ := p
 obtain ⟨k1, k2⟩ := hi
 dsimp only at k1 k2 ⊢
 refine dc 4 (fun K K' => aI ?_ ?_)<;>intro h<;>try simp at h
 ·refine dv 3 fun K K' => ?_
  refine a8n fun B X0 w0 => ?_
  refine txR 3 rfl rfl (dv 2 ?_)
  refine rlB a2e a2x ?_
  refine txM [0, 1, 2, 3, 4] [_, _, _, _, _] (z3z bs hbs S3 (c + 28 + q) k1 2 q 0 0 false (by omega)) rfl rfl rfl rfl fun J hJ => ?_
  obtain ⟨j, jb⟩ := J
  have hj : smOk j (c + 28 + q + 1) := hJ
  refine u2u rfl (dv 2 ?_)
  refine x8x (b := 1) rfl rfl (by omega) (dv 1 ?_)
  exact ⟨(j, q + 1), ⟨⟨hj.mono (by show _ ≤ c + 28 + (q + 1); omega), by show q + 1 ≤ 3; omega⟩, (by show 3 - (q + 1) < 3 - q; omega)⟩, [0, _, _, _], x6x, x6x, x5x, x5x, rfl⟩
 refine dv 1 ?_
 refine a0i fun B X0 w0 => ?_
 refine txR 1 rfl rfl (dv 1 ?_)
 refine txM [0, 1, 2, 3, 4] [_, _, _, _, _] (w8w bs hbs S3 (c + 28 + 3) (k1.mono (by omega)) 30 0 (by omega)) rfl rfl rfl rfl fun b hb => ?_
 refine u2u rfl (a0i fun B X0 w0 => ?_)
 refine txR 2 rfl rfl (dv 1 ?_)
 refine rlB a2e a2x ?_
 refine txM [0, 1, 2, 3, 4] [_, _, _, _, _] (z3z bs hbs b (c + 28 + 3 + 4 * 30) hb 3 0 0 0 false (by omega)) rfl rfl rfl rfl fun J hJ => ?_
 obtain ⟨j, jb⟩ := J
 have hj : smOk j (c + 28 + 3 + 4 * 30 + 1) := hJ
 refine u2u rfl (a8n fun B X0 w0 => ?_)
 refine txR 8 rfl rfl (dv 5 ?_)
 refine rlM [4] [_] (x1x true bs (j.p) (30) (by have := hj.2.2; omega) hbs) rfl rfl rfl ?_
 obtain ⟨N, eN, hN⟩ : ∃ N, pk bs j.p 30 = N ∧ N ≤ 30 := ⟨_, rfl, b2g _ _ _⟩
 rw [eN]
 refine x8x (a := 2) rfl rfl (by omega) (dv 1 ?_)
 refine txM [0, 1, 2, 3, 4] [_, _, _, _, _] (w8w bs hbs (pSm j (j.p + 1)) (c + 28 + 3 + 4 * 30 + 1 + 1) (a3p hj (by omega) (by have := hj.2.2; omega)) (2 + N) odd (by omega)) rfl rfl rfl rfl fun r hr => ?_
 refine u2u rfl ?_
 exact ⟨.inl rfl, r, hr.mono (by omega), [γ 0, _, _, _, γ 4], rfl, rfl, x5x⟩
end
section
theorem b9u (bs : List Nat) (hbs : ∀ b ∈ bs, b < 256) (S : Sm) (c : Nat) (hS : smOk S c)  (hc : c + 1030 ≤ 1000000) : MethE Tryz.prog 288 5 [.ptr 0 0 0] [(0, (0, .box 171 [.ptr 4 0 0, pI S.w.time, a5u true S.w.apps, .ref 1 0, .ref 2 0, pI S.w.hub.round, w7w true S.w.hub.ones, w7w true S.w.hub.twos, w7w true S.w.hub.outs, r0r true S.w.sink, .ref 3 0])), (1, (0, .row 65 13 ((S.w.nodes).map (u1u true)))), (2, (0, .row 79 11 ((S.w.radio).map (w1w true)))), (3, (0, .row 263 5 ((S.list).map a4c))), (4, (0, .box 243 [v8v true bs, .pv (.int .i64 ((S.p : Nat) : Int))]))] (ι := Sm) (fun S' => smOk S' (c + 1030)) (fun S' => [0, 4]) (fun S' => .tup []) (fun S' => [(0, (0, .box 171 [.ptr 4 0 0, pI S'.w.time, a5u true S'.w.apps, .ref 1 0, .ref 2 0, pI S'.w.hub.round, w7w true S'.w.hub.ones, w7w true S'.w.hub.twos, w7w true S'.w.hub.outs, r0r true S'.w.sink, .ref 3 0])), (1, (0, .row 65 13 ((S'.w.nodes).map (u1u true)))), (2, (0, .row 79 11 ((S'.w.radio).map (w1w true)))), (3, (0, .row 263 5 ((S'.list).map a4c))), (4, (0, .box 243 [v8v true bs, .pv (.int .i64 ((S'.p : Nat) : Int))]))]) := by
 refine mE (ι := Sm) Tryz.f288 (fun S' => []) 5 0 fun γ => ?_
 refine a0i fun B X0 w0 => ?_
 refine txR 7 rfl rfl (dv 5 ?_)
 refine rlM [4] [_] (x1x true bs (S.p) (2) (by have := hS.2.2; omega) hbs) rfl rfl rfl ?_
 obtain ⟨N, eN, hN⟩ : ∃ N, pk bs S.p 2 = N ∧ N ≤ 2 := ⟨_, rfl, b2g _ _ _⟩
 rw [eN]
 refine x8x (a := 1) rfl rfl (by omega) ?_
 refine txM [0, 1, 2, 3, 4] [_, _, _, _, _] (a2p bs hbs (pSm S (S.p + 1)) (c + 1) (a3p hS (by omega) (by have := hS.2.2; omega)) (1 + N) 0 (by omega)) rfl rfl rfl rfl fun a ha => ?_
 have ha2 : smOk a (c + 586) := ha.mono (by omega)
 refine u2u rfl (a0i fun B X0 w0 => ?_)
 refine txR 1 rfl rfl (dv 1 ?_)
 refine txM [0, 1, 2, 3, 4] [_, _, _, _, _] (a9v bs hbs a (c + 586) ha2 0 (by omega)) rfl rfl rfl rfl fun b hb => ?_
 refine u2u rfl (a0i fun B X0 w0 => ?_)
 refine txR 2 rfl rfl (dv 1 ?_)
 refine rlB a2e a2x ?_
 refine txM [0, 1, 2, 3, 4] [_, _, _, _, _] (z3z bs hbs b (c + 586 + 281) hb 3 0 0 0 false (by omega)) rfl rfl rfl rfl fun J hJ => ?_
 obtain ⟨j, jb⟩ := J
 have hj : smOk j (c + 586 + 281 + 1) := hJ
 refine u2u rfl (dv 6 ?_)
 refine a3w (n := j.w.radio.length) rfl r8r rfl rfl (List.length_map _) ?_
 refine dc 5 (fun K K' => aI ?_ ?_)<;>intro h<;>try simp at h
 ·refine dv 1 ?_
  exact ⟨j, hj.mono (by omega), [γ 0, _, _, _, γ 4], rfl, rfl, x5x⟩
 have hr40 := hj.1.2.2.2.1
 refine dv 3 ?_
 refine p6p (b := 2) rfl rfl (by omega) (by omega) (dv 4 ?_)
 refine rlM [4] [_] (x1x true bs (j.p) (2) (by have := hj.2.2; omega) hbs) rfl rfl rfl ?_
 obtain ⟨X, eX, hX⟩ : ∃ X, pk bs j.p 2 = X ∧ X < 2 := ⟨_, rfl, a3r _ _ _ (by omega)⟩
 rw [eX]
 refine x8x rfl rfl (by have := hj.1.2.2.2.1; omega) ?_
 refine dv 1 ?_
 obtain ⟨z, ez, hz⟩ : ∃ z, j.w.radio.length - 2 + X = z ∧ z < j.w.radio.length := ⟨_, rfl, by omega⟩
 rw [ez]
 obtain ⟨x, hx⟩ := gE j.w.radio z
 refine dv 7 ?_
 refine z0z (j := z) rfl rfl r8r rfl p0p rfl rfl hz ?_
 refine dv 3 ?_
 refine a0i fun B X0 w0 => ?_
 refine txR 3 rfl rfl (dv 2 ?_)
 refine rlB a2e a2x ?_
 refine txM [0, 1, 2, 3, 4] [_, _, _, _, _] (z3z bs hbs (pSm j (j.p + 1)) (c + 869) (a3p hj (by omega) (by have := hj.2.2; omega)) 4 0 0 z true (by omega)) rfl rfl rfl rfl fun J hJ => ?_
 obtain ⟨j, jb⟩ := J
 have hj : smOk j (c + 869 + 1) := hJ
 refine u2u rfl ?_
 refine p9p (ι := Sm) (fun T γ1 => []) (fun T γ1 => [(1, ((γ1 1), .row 65 13 ((T.w.nodes).map (u1u true)))), (2, ((γ1 2), .row 79 11 ((T.w.radio).map (w1w true)))), (3, ((γ1 3), .row 263 5 ((T.list).map a4c))), (0, ((γ 0), .box 171 [.ptr 4 (γ 4) 0, pI T.w.time, a5u true T.w.apps, .ref 1 (γ1 1), .ref 2 (γ1 2), pI T.w.hub.round, w7w true T.w.hub.ones, w7w true T.w.hub.twos, w7w true T.w.hub.outs, r0r true T.w.sink, .ref 3 (γ1 3)])), (4, ((γ 4), .box 243 [v8v true bs, pI ((T.p : Nat) : Int)]))]) (fun T => smOk T (c + 892)) (q6q [0, 4] rfl) HE.nil ?_ fun T γ1 hi => ?_
 ·refine dv 3 ?_
  refine x4x (ι := Sm × Nat) (fun p γ2 => [(5, pI (p.2 : Int))]) (fun p γ2 => [(1, ((γ2 1), .row 65 13 ((p.1.w.nodes).map (u1u true)))), (2, ((γ2 2), .row 79 11 ((p.1.w.radio).map (w1w true)))), (3, ((γ2 3), .row 263 5 ((p.1.list).map a4c))), (0, ((γ 0), .box 171 [.ptr 4 (γ 4) 0, pI p.1.w.time, a5u true p.1.w.apps, .ref 1 (γ2 1), .ref 2 (γ2 2), pI p.1.w.hub.round, w7w true p.1.w.hub.ones, w7w true p.1.w.hub.twos, w7w true p.1.w.hub.outs, r0r true p.1.w.sink, .ref 3 (γ2 3)])), (4, ((γ 4), .box 243 [v8v true bs, pI ((p.1.p : Nat) : Int)]))]) (fun p => smOk p.1 (c + 870 + 2 * p.2) ∧ p.2 ≤ 10) (fun p => 10 - p.2) (q6q [0, 3, 4] rfl) HE.nil (j, 0) ⟨hj.mono (by omega), Nat.zero_le _⟩ [0, _, _, _] x6x x5x rfl fun p γ2 hi => ?_
  obtain ⟨S1, i⟩ := p
  obtain ⟨h1, h2⟩ := hi
  dsimp only at h1 h2 ⊢
  refine dv 7 fun K K' => ?_
  refine rlM [4] [_] (x1x true bs (S1.p) (4) (by have := h1.2.2; omega) hbs) rfl rfl rfl ?_
  obtain ⟨N6, eN6, hN6⟩ : ∃ N6, pk bs S1.p 4 = N6 ∧ N6 ≤ 4 := ⟨_, rfl, b2g _ _ _⟩
  rw [eN6]
  refine x8x (a := 6) rfl rfl (by omega) (dc 2 (aS ?_ ?_))<;>intro h<;>try simp at h
  ·refine dv 11 ?_
   exact ⟨(pSm S1 (S1.p + 1)), (a3p h1 (by omega) (by have := h1.2.2; omega)), [0, _, _, _], x6x, x6x, x5x, x5x, rfl⟩
  refine dv 5 ?_
  refine a3w (n := S1.w.radio.length) rfl r8r rfl rfl (List.length_map _) ?_
  refine dv 1 ?_
  refine x8x (b := 1) rfl rfl (by omega) (dc 2 (aS ?_ ?_))<;>intro h<;>try simp at h
  ·refine dv 1 ?_
   exact ⟨(pSm S1 (S1.p + 1)), (a3p h1 (by omega) (by have := h1.2.2; omega)), [0, _, _, _], x6x, x6x, x5x, x5x, rfl⟩
  refine dv 3 fun K K' => ?_
  refine a8n fun B X0 w0 => ?_
  refine txR 4 rfl rfl (dv 2 ?_)
  refine x8x (b := 1) rfl rfl (by omega) (rlB a2e a2x ?_)
  refine txM [0, 1, 2, 3, 4] [_, _, _, _, _] (z3z bs hbs (pSm S1 (S1.p + 1)) (c + 870 + 2 * i + 1) (a3p h1 (by omega) (by have := h1.2.2; omega)) 4 0 0 ((z + 1 : Nat) : Int) false (by omega)) rfl rfl rfl rfl fun J hJ => ?_
  obtain ⟨j, jb⟩ := J
  have hj : smOk j (c + 870 + 2 * i + 1 + 1) := hJ
  refine u2u rfl (dv 2 ?_)
  refine x8x (b := 1) rfl rfl (by omega) (dv 1 ?_)
  exact ⟨(j, i + 1), ⟨⟨hj.mono (by show _ ≤ c + 870 + 2 * (i + 1); omega), by show i + 1 ≤ 10; omega⟩, (by show 10 - (i + 1) < 10 - i; omega)⟩, [0, _, _, _], x6x, x6x, x5x, x5x, rfl⟩
 ·try dsimp only [b1e, b1f]
  refine a0i fun B X0 w0 => ?_
  refine txR 3 rfl rfl (dv 2 ?_)
  refine rlB a2e a2x ?_
  refine txM [0, 1, 2, 3, 4] [_, _, _, _, _] (z3z bs hbs T (c + 892) hi 6 x.to 0 0 false (by omega)) rfl rfl rfl rfl fun J hJ => ?_
  obtain ⟨j, jb⟩ := J
  have hj : smOk j (c + 892 + 1) := hJ
  refine u2u rfl (a0i fun B X0 w0 => ?_)
  refine txR 3 rfl rfl (dv 2 ?_)
  refine rlB a2e a2x ?_
  refine txM [0, 1, 2, 3, 4] [_, _, _, _, _] (z3z bs hbs j (c + 892 + 1) hj 7 x.to 0 0 false (by omega)) rfl rfl rfl rfl fun J hJ => ?_
  obtain ⟨j, jb⟩ := J
  have hj : smOk j (c + 892 + 1 + 1) := hJ
  refine u2u rfl (a0i fun B X0 w0 => ?_)
  refine txR 1 rfl rfl (dv 1 ?_)
  refine txM [0, 1, 2, 3, 4] [_, _, _, _, _] (a6m bs hbs j (c + 892 + 1 + 1) hj 4 (by omega) (by omega)) rfl rfl rfl rfl fun u hu => ?_
  refine u2u rfl (a0i fun B X0 w0 => ?_)
  refine txR 1 rfl rfl (dv 1 ?_)
  refine txM [0, 1, 2, 3, 4] [_, _, _, _, _] (a6m bs hbs u (c + 892 + 1 + 1 + (2 + 4)) hu 4 (by omega) (by omega)) rfl rfl rfl rfl fun v hv => ?_
  refine u2u rfl (a8n fun B X0 w0 => ?_)
  refine txR 1 rfl rfl (dv 1 ?_)
  refine txM [0, 1, 2, 3, 4] [_, _, _, _, _] (w8w bs hbs v (c + 892 + 1 + 1 + (2 + 4) + (2 + 4)) hv 30 0 (by omega)) rfl rfl rfl rfl fun r hr => ?_
  refine u2u rfl ?_
  exact ⟨.inl rfl, r, hr.mono (by omega), [γ 0, _, _, _, γ 4], rfl, rfl, x5x⟩
end
section
theorem b9v (bs : List Nat) (hbs : ∀ b ∈ bs, b < 256) (S : Sm) (c : Nat) (hS : smOk S c) (odd : Nat) (hc : c + 1040 ≤ 1000000) : MethE Tryz.prog 238 5 [.ptr 0 0 0, .pv (.int .i64 (odd : Int))] [(0, (0, .box 171 [.ptr 4 0 0, pI S.w.time, a5u true S.w.apps, .ref 1 0, .ref 2 0, pI S.w.hub.round, w7w true S.w.hub.ones, w7w true S.w.hub.twos, w7w true S.w.hub.outs, r0r true S.w.sink, .ref 3 0])), (1, (0, .row 65 13 ((S.w.nodes).map (u1u true)))), (2, (0, .row 79 11 ((S.w.radio).map (w1w true)))), (3, (0, .row 263 5 ((S.list).map a4c))), (4, (0, .box 243 [v8v true bs, .pv (.int .i64 ((S.p : Nat) : Int))]))] (ι := Sm) (fun S' => smOk S' (c + 1040)) (fun S' => [0, 4]) (fun S' => .tup []) (fun S' => [(0, (0, .box 171 [.ptr 4 0 0, pI S'.w.time, a5u true S'.w.apps, .ref 1 0, .ref 2 0, pI S'.w.hub.round, w7w true S'.w.hub.ones, w7w true S'.w.hub.twos, w7w true S'.w.hub.outs, r0r true S'.w.sink, .ref 3 0])), (1, (0, .row 65 13 ((S'.w.nodes).map (u1u true)))), (2, (0, .row 79 11 ((S'.w.radio).map (w1w true)))), (3, (0, .row 263 5 ((S'.list).map a4c))), (4, (0, .box 243 [v8v true bs, .pv (.int .i64 ((S'.p : Nat) : Int))]))]) := by
 refine mE (ι := Sm) Tryz.f238 (fun S' => []) 5 0 fun γ => ?_
 refine dv 5 ?_
 refine rlM [4] [_] (x1x true bs (S.p) (3) (by have := hS.2.2; omega) hbs) rfl rfl rfl ?_
 refine dv 1 ?_
 obtain ⟨Pr, ePr, hPr⟩ : ∃ Pr, pk bs S.p 3 = Pr ∧ Pr ≤ 3 := ⟨_, rfl, b2g _ _ _⟩
 rw [ePr]
 refine dv 5 ?_
 refine rlM [4] [_] (x1x true bs (S.p + 1) (20) (by have := hS.2.2; omega) hbs) rfl rfl rfl ?_
 obtain ⟨X, eX, hX⟩ : ∃ X, pk bs (S.p + 1) 20 = X ∧ X ≤ 20 := ⟨_, rfl, b2g _ _ _⟩
 rw [eX]
 have hp2 : S.p + 1 + 1 ≤ c + 2 := by have := hS.2.2; omega
 have hS2 : smOk (pSm S (S.p + 1 + 1)) (c + 2) := a3p hS (by omega) (by have := hS.2.2; omega)
 refine dv 1 ?_
 refine p9p (ι := Bool) (fun b γ1 => [(27, .pv (.bool (b)))]) (fun b γ1 => []) (fun b => True) (q6q [0, 1, 4, 14] rfl) (a0p [0, 1, 2, 3, 4] rfl) ?_ fun b γ1 hi => ?_
 ·refine dc 3 (aI ?_ ?_)<;>intro h<;>try simp at h
  ·refine dv 1 ?_
   exact ⟨_, trivial, [], x6x, x6x, x5x, x5x, rfl⟩
  refine dc 3 (aI ?_ ?_)<;>intro h<;>try simp at h
  ·refine dv 1 ?_
   exact ⟨_, trivial, [], x6x, x6x, x5x, x5x, rfl⟩
  refine dc 3 (aI ?_ ?_)<;>intro h<;>try simp at h
  ·refine dv 1 ?_
   exact ⟨_, trivial, [], x6x, x6x, x5x, x5x, rfl⟩
  refine dc 3 (aI ?_ ?_)<;>intro h<;>try simp at h
  ·refine dv 1 ?_
   exact ⟨_, trivial, [], x6x, x6x, x5x, x5x, rfl⟩
  refine dv 3 ?_
  exact ⟨_, trivial, [], x6x, x6x, x5x, x5x, rfl⟩
 ·try dsimp only [b1e, b1f]
  refine dc 0 (aI ?_ ?_)<;>intro h<;>try simp at h
  ·refine a8n fun B X0 w0 => ?_
   refine txR 1 rfl rfl (dv 1 ?_)
   refine txM [0, 1, 2, 3, 4] [_, _, _, _, _] (a6m bs hbs (pSm S (S.p + 1 + 1)) (c + 2) hS2 8 (by omega) (by omega)) rfl rfl rfl rfl fun r hr => ?_
   refine u2u rfl ?_
   exact ⟨.inl rfl, r, hr.mono (by omega), [γ 0, _, _, _, γ 4], rfl, rfl, x5x⟩
  refine p9p (ι := Bool) (fun b γ2 => [(35, .pv (.bool (b)))]) (fun b γ2 => []) (fun b => True) (q6q [0, 1, 4, 14] rfl) (a0p [0, 1, 2, 3, 4] rfl) ?_ fun b γ2 hi => ?_
  ·refine dc 3 (aI ?_ ?_)<;>intro h<;>try simp at h
   ·refine dv 1 ?_
    exact ⟨_, trivial, [], x6x, x6x, x5x, x5x, rfl⟩
   refine dc 3 (aI ?_ ?_)<;>intro h<;>try simp at h
   ·refine dv 1 ?_
    exact ⟨_, trivial, [], x6x, x6x, x5x, x5x, rfl⟩
   refine dv 3 ?_
   exact ⟨_, trivial, [], x6x, x6x, x5x, x5x, rfl⟩
  ·try dsimp only [b1e, b1f]
   refine dc 0 (aI ?_ ?_)<;>intro h<;>try simp at h
   ·refine a0i fun B X0 w0 => ?_
    refine txR 3 rfl rfl (dv 2 ?_)
    refine rlB a2e a2x ?_
    refine txM [0, 1, 2, 3, 4] [_, _, _, _, _] (z3z bs hbs (pSm S (S.p + 1 + 1)) (c + 2) hS2 2 Pr 0 0 false (by omega)) rfl rfl rfl rfl fun J hJ => ?_
    obtain ⟨j, jb⟩ := J
    have hj : smOk j (c + 2 + 1) := hJ
    refine u2u rfl (a8n fun B X0 w0 => ?_)
    refine txR 7 rfl rfl (dv 5 ?_)
    refine rlM [4] [_] (x1x true bs (j.p) (6) (by have := hj.2.2; omega) hbs) rfl rfl rfl ?_
    obtain ⟨N, eN, hN⟩ : ∃ N, pk bs j.p 6 = N ∧ N ≤ 6 := ⟨_, rfl, b2g _ _ _⟩
    rw [eN]
    refine dv 1 ?_
    refine txM [0, 1, 2, 3, 4] [_, _, _, _, _] (w8w bs hbs (pSm j (j.p + 1)) (c + 4) (a3p hj (by omega) (by have := hj.2.2; omega)) N odd (by omega)) rfl rfl rfl rfl fun r hr => ?_
    refine u2u rfl ?_
    exact ⟨.inl rfl, r, hr.mono (by omega), [γ 0, _, _, _, γ 4], rfl, rfl, x5x⟩
   refine p9p (ι := Bool) (fun b γ3 => [(51, .pv (.bool (b)))]) (fun b γ3 => []) (fun b => True) (q6q [0, 1, 4, 14] rfl) (a0p [0, 1, 2, 3, 4] rfl) ?_ fun b γ3 hi => ?_
   ·refine dc 3 (aI ?_ ?_)<;>intro h<;>try simp at h
    ·refine dv 1 ?_
     exact ⟨_, trivial, [], x6x, x6x, x5x, x5x, rfl⟩
    refine dv 3 ?_
    exact ⟨_, trivial, [], x6x, x6x, x5x, x5x, rfl⟩
   ·try dsimp only [b1e, b1f]
    refine dc 0 (aI ?_ ?_)<;>intro h<;>try simp at h
    ·refine a8n fun B X0 w0 => ?_
     refine txR 8 rfl rfl (dv 5 ?_)
     refine rlM [4] [_] (x1x true bs (S.p + 1 + 1) (20) (by have := hp2; omega) hbs) rfl rfl rfl ?_
     obtain ⟨N, eN, hN⟩ : ∃ N, pk bs (S.p + 1 + 1) 20 = N ∧ N ≤ 20 := ⟨_, rfl, b2g _ _ _⟩
     rw [eN]
     refine x8x (a := 1) rfl rfl (by omega) (dv 1 ?_)
     refine txM [0, 1, 2, 3, 4] [_, _, _, _, _] (w8w bs hbs (pSm S (S.p + 1 + 1 + 1)) (c + 3) (a3p hS (by omega) (by omega)) (1 + N) odd (by omega)) rfl rfl rfl rfl fun r hr => ?_
     refine u2u rfl ?_
     exact ⟨.inl rfl, r, hr.mono (by omega), [γ 0, _, _, _, γ 4], rfl, rfl, x5x⟩
    refine p9p (ι := Bool) (fun b γ4 => [(63, .pv (.bool (b)))]) (fun b γ4 => []) (fun b => True) (q6q [0, 1, 4, 14] rfl) (a0p [0, 1, 2, 3, 4] rfl) ?_ fun b γ4 hi => ?_
    ·refine dc 3 (aI ?_ ?_)<;>intro h<;>try simp at h
     ·refine dv 1 ?_
      exact ⟨_, trivial, [], x6x, x6x, x5x, x5x, rfl⟩
     refine dv 3 ?_
     exact ⟨_, trivial, [], x6x, x6x, x5x, x5x, rfl⟩
    ·try dsimp only [b1e, b1f]
     refine dc 0 (aI ?_ ?_)<;>intro h<;>try simp at h
     ·refine a0i fun B X0 w0 => ?_
      refine txR 2 rfl rfl (dv 1 ?_)
      refine rlB a2e a2x ?_
      refine txM [0, 1, 2, 3, 4] [_, _, _, _, _] (z3z bs hbs (pSm S (S.p + 1 + 1)) (c + 2) hS2 3 0 0 0 false (by omega)) rfl rfl rfl rfl fun J hJ => ?_
      obtain ⟨j, jb⟩ := J
      have hj : smOk j (c + 2 + 1) := hJ
      refine u2u rfl (a8n fun B X0 w0 => ?_)
      refine txR 7 rfl rfl (dv 5 ?_)
      refine rlM [4] [_] (x1x true bs (j.p) (20) (by have := hj.2.2; omega) hbs) rfl rfl rfl ?_
      obtain ⟨N, eN, hN⟩ : ∃ N, pk bs j.p 20 = N ∧ N ≤ 20 := ⟨_, rfl, b2g _ _ _⟩
      rw [eN]
      refine dv 1 ?_
      refine txM [0, 1, 2, 3, 4] [_, _, _, _, _] (w8w bs hbs (pSm j (j.p + 1)) (c + 4) (a3p hj (by omega) (by have := hj.2.2; omega)) N odd (by omega)) rfl rfl rfl rfl fun r hr => ?_
      refine u2u rfl ?_
      exact ⟨.inl rfl, r, hr.mono (by omega), [γ 0, _, _, _, γ 4], rfl, rfl, x5x⟩
     refine dc 3 (aI ?_ ?_)<;>intro h<;>try simp at h
     ·refine a8n fun B X0 w0 => ?_
      refine txR 8 rfl rfl (dv 5 ?_)
      refine rlM [4] [_] (x1x true bs (S.p + 1 + 1) (2) (by have := hp2; omega) hbs) rfl rfl rfl ?_
      obtain ⟨N, eN, hN⟩ : ∃ N, pk bs (S.p + 1 + 1) 2 = N ∧ N ≤ 2 := ⟨_, rfl, b2g _ _ _⟩
      rw [eN]
      refine x8x (a := 1) rfl rfl (by omega) (dv 1 ?_)
      refine txM [0, 1, 2, 3, 4] [_, _, _, _, _] (a2p bs hbs (pSm S (S.p + 1 + 1 + 1)) (c + 3) (a3p hS (by omega) (by omega)) (1 + N) odd (by omega)) rfl rfl rfl rfl fun r hr => ?_
      refine u2u rfl ?_
      exact ⟨.inl rfl, r, hr.mono (by omega), [γ 0, _, _, _, γ 4], rfl, rfl, x5x⟩
     refine p9p (ι := Bool) (fun b γ5 => [(88, .pv (.bool (b)))]) (fun b γ5 => []) (fun b => True) (q6q [0, 1, 4, 14] rfl) (a0p [0, 1, 2, 3, 4] rfl) ?_ fun b γ5 hi => ?_
     ·refine dc 3 (aI ?_ ?_)<;>intro h<;>try simp at h
      ·refine dv 1 ?_
       exact ⟨_, trivial, [], x6x, x6x, x5x, x5x, rfl⟩
      refine dv 3 ?_
      exact ⟨_, trivial, [], x6x, x6x, x5x, x5x, rfl⟩
     ·try dsimp only [b1e, b1f]
      refine dc 0 (aI ?_ ?_)<;>intro h<;>try simp at h
      ·refine a8n fun B X0 w0 => ?_
       refine txR 2 rfl rfl (dv 2 ?_)
       refine txM [0, 1, 2, 3, 4] [_, _, _, _, _] (a9v bs hbs (pSm S (S.p + 1 + 1)) (c + 2) hS2 odd (by omega)) rfl rfl rfl rfl fun r hr => ?_
       refine u2u rfl ?_
       exact ⟨.inl rfl, r, hr.mono (by omega), [γ 0, _, _, _, γ 4], rfl, rfl, x5x⟩
      refine dc 3 (aI ?_ ?_)<;>intro h<;>try simp at h
      ·refine a8n fun B X0 w0 => ?_
       refine txR 3 rfl rfl (dv 2 ?_)
       refine rlB a2e a2x ?_
       refine txM [0, 1, 2, 3, 4] [_, _, _, _, _] (z3z bs hbs (pSm S (S.p + 1 + 1)) (c + 2) hS2 6 Pr 0 0 false (by omega)) rfl rfl rfl rfl fun J hJ => ?_
       obtain ⟨j, jb⟩ := J
       have hj : smOk j (c + 2 + 1) := hJ
       refine u2u rfl ?_
       exact ⟨.inl rfl, j, hj.mono (by omega), [γ 0, _, _, _, γ 4], rfl, rfl, x5x⟩
      refine dc 3 (aI ?_ ?_)<;>intro h<;>try simp at h
      ·refine a8n fun B X0 w0 => ?_
       refine txR 3 rfl rfl (dv 2 ?_)
       refine rlB a2e a2x ?_
       refine txM [0, 1, 2, 3, 4] [_, _, _, _, _] (z3z bs hbs (pSm S (S.p + 1 + 1)) (c + 2) hS2 7 Pr 0 0 false (by omega)) rfl rfl rfl rfl fun J hJ => ?_
       obtain ⟨j, jb⟩ := J
       have hj : smOk j (c + 2 + 1) := hJ
       refine u2u rfl ?_
       exact ⟨.inl rfl, j, hj.mono (by omega), [γ 0, _, _, _, γ 4], rfl, rfl, x5x⟩
      refine dc 3 (aI ?_ ?_)<;>intro h<;>try simp at h
      ·refine a8n fun B X0 w0 => ?_
       refine txR 2 rfl rfl (dv 1 ?_)
       refine rlB a2e a2x ?_
       refine txM [0, 1, 2, 3, 4] [_, _, _, _, _] (z3z bs hbs (pSm S (S.p + 1 + 1)) (c + 2) hS2 8 0 0 0 false (by omega)) rfl rfl rfl rfl fun J hJ => ?_
       obtain ⟨j, jb⟩ := J
       have hj : smOk j (c + 2 + 1) := hJ
       refine u2u rfl ?_
       exact ⟨.inl rfl, j, hj.mono (by omega), [γ 0, _, _, _, γ 4], rfl, rfl, x5x⟩
      refine dc 3 (aI ?_ ?_)<;>intro h<;>try simp at h
      ·refine dv 5 ?_
       refine rlM [4] [_] (x1x true bs (S.p + 1 + 1) (2) (by have := hp2; omega) hbs) rfl rfl rfl ?_
       refine dc 1 (aI ?_ ?_)<;>intro h<;>try simp at h
       ·refine a8n fun B X0 w0 => ?_
        refine txR 1 rfl rfl (dv 1 ?_)
        refine txM [0, 1, 2, 3, 4] [_, _, _, _, _] (b9u bs hbs (pSm S (S.p + 1 + 1 + 1)) (c + 3) (a3p hS (by omega) (by omega))  (by omega)) rfl rfl rfl rfl fun r hr => ?_
        refine u2u rfl ?_
        exact ⟨.inl rfl, r, hr.mono (by omega), [γ 0, _, _, _, γ 4], rfl, rfl, x5x⟩
       refine a8n fun B X0 w0 => ?_
       refine txR 1 rfl rfl (dv 1 ?_)
       refine txM [0, 1, 2, 3, 4] [_, _, _, _, _] (c1k bs hbs (pSm S (S.p + 1 + 1 + 1)) (c + 3) (a3p hS (by omega) (by omega))  (by omega)) rfl rfl rfl rfl fun r hr => ?_
       refine u2u rfl ?_
       exact ⟨.inl rfl, r, hr.mono (by omega), [γ 0, _, _, _, γ 4], rfl, rfl, x5x⟩
      refine a0i fun B X0 w0 => ?_
      refine txR 1 rfl rfl (dv 1 ?_)
      refine txM [0, 1, 2, 3, 4] [_, _, _, _, _] (a2p bs hbs (pSm S (S.p + 1 + 1)) (c + 2) hS2 3 0 (by omega)) rfl rfl rfl rfl fun a ha => ?_
      refine u2u rfl (a0i fun B X0 w0 => ?_)
      refine txR 2 rfl rfl (dv 1 ?_)
      refine rlB a2e a2x ?_
      refine txM [0, 1, 2, 3, 4] [_, _, _, _, _] (z3z bs hbs a (c + 2 + 195 * 3) ha 3 0 0 0 false (by omega)) rfl rfl rfl rfl fun J hJ => ?_
      obtain ⟨j, jb⟩ := J
      have hj : smOk j (c + 2 + 195 * 3 + 1) := hJ
      refine u2u rfl (a0i fun B X0 w0 => ?_)
      refine txR 1 rfl rfl (dv 1 ?_)
      refine txM [0, 1, 2, 3, 4] [_, _, _, _, _] (w8w bs hbs j (c + 2 + 195 * 3 + 1) hj 30 0 (by omega)) rfl rfl rfl rfl fun b hb => ?_
      refine u2u rfl (a0i fun B X0 w0 => ?_)
      refine txR 1 rfl rfl (dv 1 ?_)
      refine txM [0, 1, 2, 3, 4] [_, _, _, _, _] (a2p bs hbs b (c + 2 + 195 * 3 + 1 + 4 * 30) hb 1 0 (by omega)) rfl rfl rfl rfl fun d hd => ?_
      refine u2u rfl (a8n fun B X0 w0 => ?_)
      refine txR 2 rfl rfl (dv 1 ?_)
      refine rlB a2e a2x ?_
      refine txM [0, 1, 2, 3, 4] [_, _, _, _, _] (z3z bs hbs d (c + 2 + 195 * 3 + 1 + 4 * 30 + 195 * 1) hd 8 0 0 0 false (by omega)) rfl rfl rfl rfl fun J hJ => ?_
      obtain ⟨j, jb⟩ := J
      have hj : smOk j (c + 2 + 195 * 3 + 1 + 4 * 30 + 195 * 1 + 1) := hJ
      refine u2u rfl ?_
      exact ⟨.inl rfl, j, hj.mono (by omega), [γ 0, _, _, _, γ 4], rfl, rfl, x5x⟩
end
section
theorem d3s (bs : List Nat) (hbs : ∀ b ∈ bs, b < 256) (p0 : Nat) (hp : p0 + 5 ≤ 1000000) : MethE Tryz.prog 287 1 [.ptr 0 0 0] [(0, (0, .box 243 [v8v true bs, .pv (.int .i64 ((p0 : Nat) : Int))]))] (ι := Op_ × Nat) (fun S' => b2v S'.1 ∧ S'.2 ≤ p0 + 5) (fun S' => [0]) (fun S' => .agg (b4u S'.1)) (fun S' => [(0, (0, .box 243 [v8v true bs, .pv (.int .i64 ((S'.2 : Nat) : Int))]))]) := by
 refine mE (ι := Op_ × Nat) Tryz.f287 (fun S' => [.agg (b4u S'.1)]) 1 1 fun γ => ?_
 refine dv 1 ?_
 refine x3x (id := 1) a1u b8s rfl (dv 3 fun K K' => ?_)
 refine rlM [0] [_] (x1x true bs (p0) (10) (by have := hp; omega) hbs) rfl rfl rfl ?_
 refine dc 4 (aI ?_ ?_)<;>intro h<;>try simp at h
 ·refine dv 2 ?_
  refine rlM [0] [_] (x1x true bs (p0 + 1) (2) (by have := hp; omega) hbs) rfl rfl rfl ?_
  refine dv 1 ?_
  refine rlM [0] [_] (x1x true bs (p0 + 1 + 1) (20) (by have := hp; omega) hbs) rfl rfl rfl ?_
  refine rlB a1u b8s ?_
  refine dv 2 ?_
  exact ⟨(⟨1, (pk bs (p0 + 1) 2 : Int), (pk bs (p0 + 1 + 1) 20 : Int), 0, 0⟩, p0 + 1 + 1 + 1), ⟨(by have h0 := a3r bs (p0 + 1) 2 (by omega); have h1 := a3r bs (p0 + 1 + 1) 20 (by omega); unfold b2v a3t b6l; dsimp only; omega), (by show p0 + 1 + 1 + 1 ≤ p0 + 5; omega)⟩, [γ 0], rfl, rfl, x5x⟩
 refine dc 3 (aI ?_ ?_)<;>intro h<;>try simp at h
 ·refine dv 2 ?_
  refine rlM [0] [_] (x1x true bs (p0 + 1) (2) (by have := hp; omega) hbs) rfl rfl rfl ?_
  refine dv 1 ?_
  refine rlM [0] [_] (x1x true bs (p0 + 1 + 1) (2) (by have := hp; omega) hbs) rfl rfl rfl ?_
  refine rlB a1u b8s ?_
  refine dv 2 ?_
  exact ⟨(⟨2, (pk bs (p0 + 1) 2 : Int), (pk bs (p0 + 1 + 1) 2 : Int), 0, 0⟩, p0 + 1 + 1 + 1), ⟨(by have h0 := a3r bs (p0 + 1) 2 (by omega); have h1 := a3r bs (p0 + 1 + 1) 2 (by omega); unfold b2v a3t b6l; dsimp only; omega), (by show p0 + 1 + 1 + 1 ≤ p0 + 5; omega)⟩, [γ 0], rfl, rfl, x5x⟩
 refine dc 3 (aI ?_ ?_)<;>intro h<;>try simp at h
 ·refine dv 2 ?_
  refine rlM [0] [_] (x1x true bs (p0 + 1) (2) (by have := hp; omega) hbs) rfl rfl rfl ?_
  refine dv 1 ?_
  refine rlM [0] [_] (x1x true bs (p0 + 1 + 1) (9) (by have := hp; omega) hbs) rfl rfl rfl ?_
  have q9 := a3r bs (p0 + 1 + 1) 9 (by omega)
  refine x8x (a := 1) rfl rfl (by omega) (rlB a1u b8s ?_)
  refine dv 2 ?_
  exact ⟨(⟨3, (pk bs (p0 + 1) 2 : Int), ((1 + pk bs (p0 + 1 + 1) 9 : Nat) : Int), 0, 0⟩, p0 + 1 + 1 + 1), ⟨(by have h0 := a3r bs (p0 + 1) 2 (by omega); have h1 := a3r bs (p0 + 1 + 1) 9 (by omega); unfold b2v a3t b6l; dsimp only; omega), (by show p0 + 1 + 1 + 1 ≤ p0 + 5; omega)⟩, [γ 0], rfl, rfl, x5x⟩
 refine dc 3 (aI ?_ ?_)<;>intro h<;>try simp at h
 ·refine dv 2 ?_
  refine rlM [0] [_] (x1x true bs (p0 + 1) (2) (by have := hp; omega) hbs) rfl rfl rfl ?_
  refine rlB a1u b8s ?_
  refine dv 2 ?_
  exact ⟨(⟨4, (pk bs (p0 + 1) 2 : Int), 0, 0, 0⟩, p0 + 1 + 1), ⟨(by have h0 := a3r bs (p0 + 1) 2 (by omega); unfold b2v a3t b6l; dsimp only; omega), (by show p0 + 1 + 1 ≤ p0 + 5; omega)⟩, [γ 0], rfl, rfl, x5x⟩
 refine dc 3 (aI ?_ ?_)<;>intro h<;>try simp at h
 ·refine dv 2 ?_
  refine rlM [0] [_] (x1x true bs (p0 + 1) (2) (by have := hp; omega) hbs) rfl rfl rfl ?_
  refine dv 1 ?_
  refine rlM [0] [_] (x1x true bs (p0 + 1 + 1) (60) (by have := hp; omega) hbs) rfl rfl rfl ?_
  refine dv 1 ?_
  refine rlM [0] [_] (x1x true bs (p0 + 1 + 1 + 1) (2) (by have := hp; omega) hbs) rfl rfl rfl ?_
  have q9 := a3r bs (p0 + 1 + 1 + 1) 2 (by omega)
  refine x8x (a := 1) rfl rfl (by omega) (rlB a1u b8s ?_)
  refine dv 2 ?_
  exact ⟨(⟨5, (pk bs (p0 + 1) 2 : Int), (pk bs (p0 + 1 + 1) 60 : Int), ((1 + pk bs (p0 + 1 + 1 + 1) 2 : Nat) : Int), 0⟩, p0 + 1 + 1 + 1 + 1), ⟨(by have h0 := a3r bs (p0 + 1) 2 (by omega); have h1 := a3r bs (p0 + 1 + 1) 60 (by omega); have h2 := a3r bs (p0 + 1 + 1 + 1) 2 (by omega); unfold b2v a3t b6l; dsimp only; omega), (by show p0 + 1 + 1 + 1 + 1 ≤ p0 + 5; omega)⟩, [γ 0], rfl, rfl, x5x⟩
 refine p9p (ι := Bool) (fun b γ1 => [(42, .pv (.bool (b)))]) (fun b γ1 => []) (fun b => True) (q6q [0, 2] rfl) (a0p [0, 1] rfl) ?_ fun b γ1 hi => ?_
 ·refine dc 3 (aI ?_ ?_)<;>intro h<;>try simp at h
  ·refine dv 1 ?_
   exact ⟨_, trivial, [], x6x, x6x, x5x, x5x, rfl⟩
  refine dc 3 (aI ?_ ?_)<;>intro h<;>try simp at h
  ·refine dv 1 ?_
   exact ⟨_, trivial, [], x6x, x6x, x5x, x5x, rfl⟩
  refine dv 3 ?_
  exact ⟨_, trivial, [], x6x, x6x, x5x, x5x, rfl⟩
 ·try dsimp only [b1e, b1f]
  refine dc 0 (aS ?_ ?_)<;>intro h<;>try simp at h
  ·refine dv 3 ?_
   refine rlM [0] [_] (x1x true bs (p0 + 1) (2) (by have := hp; omega) hbs) rfl rfl rfl ?_
   refine rlB a1u b8s ?_
   refine dv 2 ?_
   exact ⟨(⟨7, (pk bs (p0 + 1) 2 : Int), 0, 0, 0⟩, p0 + 1 + 1), ⟨(by have h0 := a3r bs (p0 + 1) 2 (by omega); unfold b2v a3t b6l; dsimp only; omega), (by show p0 + 1 + 1 ≤ p0 + 5; omega)⟩, [γ 0], rfl, rfl, x5x⟩
  refine dv 2 ?_
  refine rlM [0] [_] (x1x true bs (p0 + 1) (4) (by have := hp; omega) hbs) rfl rfl rfl ?_
  refine dv 1 ?_
  refine rlM [0] [_] (x1x true bs (p0 + 1 + 1) (3) (by have := hp; omega) hbs) rfl rfl rfl ?_
  refine dv 1 ?_
  refine rlM [0] [_] (x1x true bs (p0 + 1 + 1 + 1) (7) (by have := hp; omega) hbs) rfl rfl rfl ?_
  have q9 := a3r bs (p0 + 1 + 1 + 1) 7 (by omega)
  refine x8x (a := 1) rfl rfl (by omega) (dv 1 ?_)
  refine rlM [0] [_] (x1x true bs (p0 + 1 + 1 + 1 + 1) (2) (by have := hp; omega) hbs) rfl rfl rfl ?_
  refine rlB a1u b8s ?_
  refine dv 2 ?_
  exact ⟨(⟨6, (pk bs (p0 + 1) 4 : Int), (pk bs (p0 + 1 + 1) 3 : Int), ((1 + pk bs (p0 + 1 + 1 + 1) 7 : Nat) : Int), (pk bs (p0 + 1 + 1 + 1 + 1) 2 : Int)⟩, p0 + 1 + 1 + 1 + 1 + 1), ⟨(by have h0 := a3r bs (p0 + 1) 4 (by omega); have h1 := a3r bs (p0 + 1 + 1) 3 (by omega); have h2 := a3r bs (p0 + 1 + 1 + 1) 7 (by omega); have h3 := a3r bs (p0 + 1 + 1 + 1 + 1) 2 (by omega); unfold b2v a3t b6l; dsimp only; omega), (by show p0 + 1 + 1 + 1 + 1 + 1 ≤ p0 + 5; omega)⟩, [γ 0], rfl, rfl, x5x⟩
end
section
theorem c7e (bs : List Nat) (hbs : ∀ b ∈ bs, b < 256) (p0 : Nat) (hp : p0 + 500 ≤ 1000000) : MethE Tryz.prog 237 1 [.ptr 0 0 0] [(0, (0, .box 243 [v8v true bs, .pv (.int .i64 ((p0 : Nat) : Int))]))] (ι := List Ap × Nat) (fun S' => a7n S'.1 ∧ S'.2 ≤ p0 + 500) (fun S' => [0]) (fun S' => a5u true S'.1) (fun S' => [(0, (0, .box 243 [v8v true bs, .pv (.int .i64 ((S'.2 : Nat) : Int))]))]) := by
 refine mE (ι := List Ap × Nat) Tryz.f237 (fun S' => [a5u true S'.1]) 1 16 fun γ => ?_
 refine dv 3 ?_
 refine y1y (id := 1) c8t rfl a5z rfl (dv 5 fun K K' => ?_)
 refine x4x (ι := List Ap × Nat) (fun p γ1 => [(3, .ref 1 (γ1 1)), (4, pI (p.1.length : Int))]) (fun p γ1 => [(1, ((γ1 1), .row 121 1 ((p.1).map (b9m true)))), (15, ((γ1 15), .dead)), (16, ((γ1 16), .dead)), (0, ((γ 0), .box 243 [v8v true bs, pI ((p.2 : Nat) : Int)])), (2, ((γ1 2), .dead)), (3, ((γ1 3), .dead)), (4, ((γ1 4), .dead)), (5, ((γ1 5), .dead)), (6, ((γ1 6), .dead)), (7, ((γ1 7), .dead)), (8, ((γ1 8), .dead)), (9, ((γ1 9), .dead)), (10, ((γ1 10), .dead)), (11, ((γ1 11), .dead)), (12, ((γ1 12), .dead)), (13, ((γ1 13), .dead)), (14, ((γ1 14), .dead))]) (fun p => p.1.length ≤ 4 ∧ (∀ a ∈ p.1, e4q a) ∧ p.2 ≤ p0 + 120 * p.1.length) (fun p => 4 - p.1.length) (x7x 0 rfl Cov.nil) HE.nil ([], p0) ⟨Nat.zero_le _, fun a h => (by cases h), Nat.le_refl _⟩ [0, _, _, _, _, _, _, _, _, _, _, _, _, _, _, _, _] x6x (HE.row rfl (by rfl) (HE.kill rfl (HE.kill rfl (HE.box rfl rfl (HE.kill rfl (HE.kill rfl (HE.kill rfl (HE.kill rfl (HE.kill rfl (HE.kill rfl (HE.kill rfl (HE.kill rfl (HE.kill rfl (HE.kill rfl (HE.kill rfl (HE.kill rfl (HE.kill rfl HE.nil))))))))))))))))) rfl fun p γ1 hi => ?_
 obtain ⟨l, q⟩ := p
 obtain ⟨h1, h2, h3⟩ := hi
 dsimp only at h1 h2 h3 ⊢
 refine dc 4 (fun K K' => aS ?_ ?_)<;>intro o<;>try simp at o
 ·have h4 : l.length = 4 := by omega
  have hT : a7n l := ⟨h4, h2⟩
  refine dv 1 ?_
  refine p7p (f := b9m true) 3 rfl rfl (fun _ => rfl) ?_
  refine dv 4 ?_
  exact ⟨(l, q), ⟨hT, by show q ≤ p0 + 500; omega⟩, [γ 0], rfl, rfl, x5x⟩
 have h1l : l.length < 4 := by omega
 refine dv 4 fun K K' => ?_
 refine rlB a5z b6e ?_
 refine x3x (id := 2) a5z b6e rfl (dv 5 fun K K' => ?_)
 refine a0h 2 0 15 232 2 rfl rfl rfl rfl rfl ?_
 refine x4x (ι := List Ru × Nat) (fun p γ2 => [(6, pI (p.1.length : Int))]) (fun p γ2 => [(15, ((γ2 15), .row 232 2 ((p.1).map (d0e true)))), (16, ((γ2 16), .dead)), (0, ((γ 0), .box 243 [v8v true bs, pI ((p.2 : Nat) : Int)])), (2, ((γ1 2 + 1), .box 121 [.ref 15 (γ2 15)])), (3, ((γ2 3), .dead)), (4, ((γ2 4), .dead)), (5, ((γ2 5), .dead)), (6, ((γ2 6), .dead)), (7, ((γ2 7), .dead)), (8, ((γ2 8), .dead)), (9, ((γ2 9), .dead)), (10, ((γ2 10), .dead)), (11, ((γ2 11), .dead)), (12, ((γ2 12), .dead))]) (fun p => p.1.length ≤ 3 ∧ f7e p.1 ∧ p.2 ≤ q + 40 * p.1.length) (fun p => 3 - p.1.length) (q6q [0, 3, 4, 5] rfl) (a0p [1, 13, 14] rfl) ([], q) ⟨Nat.zero_le _, fun i r h => (by simp at h), Nat.le_refl _⟩ [0, 0, 0, _, _, _, _, _, _, _, _, _, _, 0, 0, _, _] x6x (HE.row rfl (by rfl) (HE.kill rfl (HE.box rfl rfl (HE.box rfl rfl (HE.kill rfl (HE.kill rfl (HE.kill rfl (HE.kill rfl (HE.kill rfl (HE.kill rfl (HE.kill rfl (HE.kill rfl (HE.kill rfl (HE.kill rfl HE.nil)))))))))))))) rfl fun p γ2 hi => ?_
 obtain ⟨rs, q1⟩ := p
 obtain ⟨k1, k2, k3⟩ := hi
 dsimp only at k1 k2 k3 ⊢
 refine dc 4 (fun K K' => aS ?_ ?_)<;>intro o<;>try simp at o
 ·refine dv 1 ?_
  refine v9v (b := e4r true rs) 2 0 rfl rfl rfl (.ref rfl (Le.ow_map _ (fun _ => rfl) (fun _ => rfl)) .nil) rfl rfl rfl rfl ?_
  refine dv 3 ?_
  refine y2y (id := 13) c8t rfl a5z rfl rfl rfl rfl rfl rfl ?_
  refine y6y (zs := ((l ++ [(⟨rs⟩ : Ap)]).map (b9m true))) rfl rfl c8t rfl a5z rfl rfl rfl rfl (by rfl) (z7z (b9m true) l ⟨rs⟩) (by (simp only [a0e, r7r, a0b, a0d, a0u, a2z, T121]; omega)) ?_
  refine dv 3 ?_
  refine x8x (b := 1) rfl rfl (by omega) (dv 1 ?_)
  exact ⟨(l ++ [⟨rs⟩], q1), ⟨(f6u h2 (f6s k1 k2) h1l h3 k3 k1), (by show 4 - (l ++ [_]).length < 4 - l.length; rw [List.length_append]; show 4 - (l.length + 1) < _; omega)⟩, [0, _, _, _, _, _, _, _, _, _, _, _, _, _, _, _, _], (x7x 3 rfl (Cov.cons' (t := 4) rfl ((by rw [List.length_append]; rfl)) Cov.nil)), x6x, (HE.row rfl (by rfl) (HE.kill rfl (HE.kill rfl (HE.box rfl rfl (HE.kill rfl (HE.kill rfl (HE.kill rfl (HE.kill rfl (HE.kill rfl (HE.kill rfl (HE.kill rfl (HE.kill rfl (HE.kill rfl (HE.kill rfl (HE.kill rfl (HE.kill rfl (HE.kill rfl HE.nil))))))))))))))))), x5x, rfl⟩
 have k1l : rs.length < 3 := by omega
 refine dv 5 fun K K' => ?_
 refine rlB c1s d6l ?_
 refine x3x (id := 3) c1s d6l rfl (dv 4 fun K K' => ?_)
 refine rlM [0] [_] (x1x true bs (q1) (5) (by have := k3; omega) hbs) rfl rfl rfl ?_
 obtain ⟨N, eN, hN⟩ : ∃ N, pk bs q1 5 = N ∧ N ≤ 5 := ⟨_, rfl, b2g _ _ _⟩
 rw [eN]
 refine x8x (a := 2) rfl rfl (by omega) (dv 2 ?_)
 refine a0h 3 1 16 297 5 rfl rfl rfl rfl rfl ?_
 refine x4x (ι := List Op_ × Nat × Nat) (fun p γ3 => [(8, pI (p.2.2 : Int))]) (fun p γ3 => [(16, ((γ3 16), .row 297 5 ((p.1).map b4u))), (0, ((γ 0), .box 243 [v8v true bs, pI ((p.2.1 : Nat) : Int)])), (3, ((γ2 3 + 1), .box 232 [pI (rs.length : Int), .ref 16 (γ3 16)])), (4, ((γ3 4), .dead)), (5, ((γ3 5), .dead)), (6, ((γ3 6), .dead)), (7, ((γ3 7), .dead)), (8, ((γ3 8), .dead)), (9, ((γ3 9), .dead)), (10, ((γ3 10), .dead))]) (fun p => d0z ⟨(rs.length : Int), p.1⟩ ∧ p.2.1 + 5 * p.2.2 ≤ q1 + 1 + 5 * (2 + N)) (fun p => p.2.2) (q6q [0, 3, 4, 5, 6, 7] rfl) (a0p [1, 2, 11, 12, 13, 14, 15] rfl) ([], q1 + 1, 2 + N) ⟨ru0, by show q1 + 1 + 5 * (2 + N) ≤ _; omega⟩ [0, 0, 0, 0, _, _, _, _, _, _, _, 0, 0, 0, 0, 0, _] x6x (HE.row rfl (by rfl) (HE.box rfl rfl (HE.box rfl rfl (HE.kill rfl (HE.kill rfl (HE.kill rfl (HE.kill rfl (HE.kill rfl (HE.kill rfl (HE.kill rfl HE.nil)))))))))) rfl fun p γ3 hi => ?_
 obtain ⟨ops, q2, n⟩ := p
 obtain ⟨l1, l2⟩ := hi
 dsimp only at l1 l2 ⊢
 refine dc 4 (fun K K' => aS ?_ ?_)<;>intro o<;>try simp at o
 ·refine dv 1 ?_
  refine v9v (b := f0k true ops) 3 1 rfl rfl rfl (.ref rfl (Le.ow_map _ (fun _ => rfl) (fun _ => rfl)) .nil) rfl rfl rfl rfl ?_
  refine dv 4 ?_
  refine y2y (id := 11) d6h rfl c1s rfl rfl rfl rfl rfl rfl ?_
  refine y6y (zs := ((rs ++ [(⟨(rs.length : Int), ops⟩ : Ru)]).map (d0e true))) rfl rfl d6h rfl c1s rfl rfl rfl rfl (by rfl) (z7z (d0e true) rs (⟨(rs.length : Int), ops⟩ : Ru)) (by (simp only [a0e, r7r, a0b, a0d, a0u, a2z, T232]; omega)) ?_
  refine dv 4 ?_
  refine x8x (b := 1) rfl rfl (by omega) (dv 1 ?_)
  exact ⟨(rs ++ [(⟨(rs.length : Int), ops⟩ : Ru)], q2), ⟨(f6t k2 l1 k1l k3 (by omega)), (by show 3 - (rs ++ [_]).length < 3 - rs.length; rw [List.length_append]; show 3 - (rs.length + 1) < _; omega)⟩, [0, 0, 0, _, _, _, _, _, _, _, _, _, _, 0, 0, _, _], (Cov.cons' (t := 6) rfl ((by rw [List.length_append]; rfl)) Cov.nil), x6x, (HE.row rfl (by rfl) (HE.kill rfl (HE.box rfl rfl (HE.box rfl rfl (HE.kill rfl (HE.kill rfl (HE.kill rfl (HE.kill rfl (HE.kill rfl (HE.kill rfl (HE.kill rfl (HE.kill rfl (HE.kill rfl (HE.kill rfl HE.nil)))))))))))))), x5x, rfl⟩
 obtain ⟨n', rfl⟩ : ∃ n', n = n' + 1 := ⟨n - 1, by omega⟩
 refine dv 1 ?_
 refine p9p (ι := List Op_ × Nat) (fun os γ4 => []) (fun os γ4 => [(16, ((γ4 16), .row 297 5 ((os.1).map b4u))), (0, ((γ 0), .box 243 [v8v true bs, pI ((os.2 : Nat) : Int)])), (3, ((γ2 3 + 1), .box 232 [pI (rs.length : Int), .ref 16 (γ4 16)])), (4, ((γ4 4), .dead)), (5, ((γ4 5), .dead)), (6, ((γ4 6), .dead)), (7, ((γ4 7), .dead)), (8, ((γ4 8), .dead)), (9, ((γ4 9), .dead)), (10, ((γ4 10), .dead))]) (fun os => d0z ⟨(rs.length : Int), os.1⟩ ∧ os.2 ≤ q2 + 5) (q6q [0, 3, 4, 5, 6, 7, 8] rfl) (a0p [1, 2, 11, 12, 13, 14, 15] rfl) ?_ fun os γ4 hi => ?_
 ·refine dv 1 ?_
  refine a0i fun B X0 w0 => ?_
  refine txR 1 rfl rfl (dv 1 ?_)
  refine txM [0] [_] (d3s bs hbs q2 (by omega)) rfl rfl rfl rfl fun j hj => ?_
  obtain ⟨hj1, hj2⟩ := hj
  have hol : ops.length ≤ 8 := l1.2.1
  refine txR 2 rfl rfl (x3x (id := 4) a1u b8s rfl (dv 1 ?_))
  refine u2u rfl (dv 2 ?_)
  refine y1y (id := 5) b8r rfl a1u rfl (dv 2 ?_)
  refine y6y (zs := (ops.map b4u)) rfl rfl b8r rfl a1u rfl rfl rfl rfl (z9z (fun _ => rfl) _) rfl (by (simp only [a0e, r7r, a0b, a0d, a0u, a2z, T297]; omega)) ?_
  refine dv 1 ?_
  refine y2y (id := 7) b8r rfl a1u rfl rfl rfl rfl rfl rfl ?_
  refine y6y (zs := ((ops ++ [j.1]).map b4u)) rfl rfl b8r rfl a1u rfl rfl rfl rfl (by rfl) (z7z b4u ops j.1) (by (simp only [a0e, r7r, a0b, a0d, a0u, a2z, T297]; omega)) ?_
  refine rlB c1s d6l ?_
  refine b7h rfl rfl rfl (.agg rfl (.cl rfl (.ref rfl (Le.ow_map _ nf (fun _ => rfl)) .nil)) .nil) (b5d false (⟨(rs.length : Int), ops ++ [j.1]⟩ : Ru) (by show (ops ++ [j.1]).length ≤ _; rw [List.length_append]; show ops.length + 1 ≤ _; have : ops.length ≤ 8 := hol; omega)) (.pv _) ?_
  refine dc 0 (aS ?_ ?_)<;>intro hc12<;>try simp at hc12
  ·refine dv 1 ?_
   exact ⟨(ops, j.2), ⟨l1, hj2⟩, [0, 0, 0, 0, _, _, _, _, _, _, _, 0, 0, 0, 0, 0, _], x6x, x6x, x5x, x5x, rfl⟩
  have hru : d0z (⟨(rs.length : Int), ops ++ [j.1]⟩ : Ru) := a1d.1 (by simpa using hc12)
  refine dv 4 ?_
  refine y2y (id := 9) b8r rfl a1u rfl rfl rfl rfl rfl rfl ?_
  refine y6y (zs := ((ops ++ [j.1]).map b4u)) rfl rfl b8r rfl a1u rfl rfl rfl rfl (by rfl) (z7z b4u ops j.1) (by (simp only [a0e, r7r, a0b, a0d, a0u, a2z, T297]; omega)) ?_
  refine dv 2 ?_
  exact ⟨(ops ++ [j.1], j.2), ⟨hru, hj2⟩, [0, 0, 0, 0, _, _, _, _, _, _, _, 0, 0, 0, 0, 0, _], x6x, x6x, x5x, x5x, rfl⟩
 ·try dsimp only [b1e, b1f]
  refine dv 2 ?_
  refine p6p (b := 1) rfl rfl (by omega) (by omega) (dv 1 ?_)
  exact ⟨(os.1, os.2, n'), ⟨⟨hi.1, by have := hi.2; show os.2 + 5 * n' ≤ _; omega⟩, (by show n' < n' + 1; omega)⟩, [0, 0, 0, 0, _, _, _, _, _, _, _, 0, 0, 0, 0, 0, _], x6x, x6x, x5x, x5x, rfl⟩
end
section
theorem c7f (c : Bool) (l : List Ap) (hA : a7n l) : a0t Tryz.prog 88 [a5u c l] (a5u true l) := by
 refine pX Tryz.f88 [a5u true l] 9 ?_
 have hl4 := hA.1
 refine dv 3 ?_
 refine y1y (id := 0) c8t rfl a5z rfl (dv 5 fun K K' => ?_)
 refine x4x (ι := Nat) (fun i γ1 => [(3, .ref 0 (γ1 0)), (4, pI (i : Int))]) (fun i γ1 => [(0, ((γ1 0), .row 121 1 ((l.take i).map (b9m true)))), (8, ((γ1 8), .dead)), (1, ((γ1 1), .dead)), (2, ((γ1 2), .dead)), (3, ((γ1 3), .dead)), (4, ((γ1 4), .dead)), (5, ((γ1 5), .dead)), (6, ((γ1 6), .dead)), (7, ((γ1 7), .dead))]) (fun i => i ≤ l.length) (fun i => l.length - i) (x7x 0 rfl Cov.nil) HE.nil 0 (by omega) [_, _, _, _, _, _, _, _, _] x6x (HE.row rfl (by rw [List.take_zero]; rfl) (HE.kill rfl (HE.kill rfl (HE.kill rfl (HE.kill rfl (HE.kill rfl (HE.kill rfl (HE.kill rfl (HE.kill rfl HE.nil))))))))) rfl fun i γ1 hi => ?_
 refine dc 6 (fun K K' => aS ?_ ?_)<;>intro h<;>try simp at h
 ·obtain rfl : i = l.length := by omega
  refine dv 5 ?_
  refine a5i rfl rfl (fun _ => rfl) ?_
  rw [List.take_length]
 obtain ⟨a, ha⟩ := gE l i
 have hap := hA.2 a (List.mem_of_getElem? ha)
 have har := hap.1
 refine dv 4 fun K K' => ?_
 refine rlB a5z b6e ?_
 refine x3x (id := 1) a5z b6e rfl (dv 5 fun K K' => ?_)
 refine a0h 1 0 8 232 2 rfl rfl rfl rfl rfl ?_
 refine x4x (ι := Nat) (fun k γ2 => [(6, pI (k : Int))]) (fun k γ2 => [(8, ((γ2 8), .row 232 2 ((a.rules.take k).map (d0e true)))), (1, ((γ1 1 + 1), .box 121 [.ref 8 (γ2 8)])), (2, ((γ2 2), .dead)), (3, ((γ2 3), .dead)), (4, ((γ2 4), .dead)), (5, ((γ2 5), .dead))]) (fun k => k ≤ a.rules.length) (fun k => a.rules.length - k) (q6q [0, 3, 4, 5] rfl) (a0p [0, 6, 7] rfl) 0 (by omega) [0, 0, _, _, _, _, 0, 0, _] x6x (HE.row rfl (by rw [List.take_zero]; rfl) (HE.box rfl rfl (HE.kill rfl (HE.kill rfl (HE.kill rfl (HE.kill rfl HE.nil)))))) rfl fun k γ2 hi => ?_
 refine dc 10 (fun K K' => aS ?_ ?_)<;>intro h<;>try simp at h
 ·obtain rfl : k = a.rules.length := by omega
  rw [List.take_length]
  refine dv 1 ?_
  refine v9v (b := e4r true a.rules) 1 0 rfl rfl rfl (.ref rfl (Le.ow_map _ (fun _ => rfl) (fun _ => rfl)) .nil) rfl rfl rfl rfl ?_
  refine dv 3 ?_
  refine y2y (id := 6) c8t rfl a5z rfl rfl rfl rfl rfl rfl ?_
  refine y6y (zs := (l.take i ++ [a]).map (b9m true)) rfl rfl c8t rfl a5z rfl rfl rfl rfl (by rfl) (z7z _ _ _) (by (simp only [a0e, r7r, a0b, a0d, a0u, T121]; omega)) ?_
  refine dv 3 ?_
  refine z8z rfl rfl rfl (dv 1 ?_)
  exact ⟨i + 1, ⟨by omega, by omega⟩, [_, _, _, _, _, _, _, _, _], (x7x 3 rfl (Cov.cons' (t := 4) rfl (by rw [x9x (by omega) (by omega)]; rfl) Cov.nil)), x6x, (HE.row rfl (by rw [z6z ha]) (HE.kill rfl (HE.kill rfl (HE.kill rfl (HE.kill rfl (HE.kill rfl (HE.kill rfl (HE.kill rfl (HE.kill rfl HE.nil))))))))), x5x, rfl⟩
 obtain ⟨r, hr⟩ := gE a.rules k
 have hro := (hap.2 k r hr).2.1.2.1
 refine dv 15 fun K K' => ?_
 refine y1y (id := 2) b8r rfl a1u rfl (dv 9 ?_)
 refine a2c v3v (zs := r.ops.map b4u) rfl rfl b8r rfl a1u rfl rfl rfl (z9z (fun _ => rfl) _) rfl (by (simp only [a0e, r7r, a0b, a0d, a0u, T297]; omega)) (Le.ow_map _ (fun _ => rfl) (fun _ => rfl)) ?_
 refine rlB c1s d6l ?_
 refine y2y (id := 4) d6h rfl c1s rfl rfl rfl rfl rfl rfl ?_
 refine y6y (zs := (a.rules.take k ++ [r]).map (d0e true)) rfl rfl d6h rfl c1s rfl rfl rfl rfl (by rfl) (z7z _ _ _) (by (simp only [a0e, r7r, a0b, a0d, a0u, T232]; omega)) ?_
 refine dv 4 ?_
 refine z8z rfl rfl rfl (dv 1 ?_)
 exact ⟨k + 1, ⟨by omega, by omega⟩, [0, 0, _, _, _, _, 0, 0, _], (Cov.cons' (t := 6) rfl (by rw [x9x (by omega) (by omega)]; rfl) Cov.nil), x6x, (HE.row rfl (by rw [z6z hr]) (HE.box rfl rfl (HE.kill rfl (HE.kill rfl (HE.kill rfl (HE.kill rfl HE.nil)))))), x5x, rfl⟩
end
section
theorem b9w (l : List Ap) (fA : a7n l) : Meth Tryz.prog 16 1 [] [a5u true l] [(0, (0, .dead))] (.agg [pI 0, a5u true l, .ref 0 0, .pv (.slice none 0 0), pI 0, .pv (.slice none 0 0), .pv (.slice none 0 0), .pv (.slice none 0 0), .pv (.slice none 0 0)]) [(0, (0, .row 65 13 ((b0u 3).map (u1u true))))] := by
 refine mX Tryz.f16 [.agg [pI 0, a5u true l, .ref 0 0, .pv (.slice none 0 0), pI 0, .pv (.slice none 0 0), .pv (.slice none 0 0), .pv (.slice none 0 0), .pv (.slice none 0 0)]] 1 4 fun γ => ?_
 have hb : ∀ a ∈ l, ∀ r ∈ a.rules, r.ops.length ≤ 1048576 := fun a ha r hr => by obtain ⟨i, hi⟩ := List.getElem?_of_mem hr; have := ((fA.2 a ha).2 i r hi).2.1.2.1; omega
 refine dv 1 ?_
 refine x3x (id := 1) b7c c0l rfl (dv 3 fun K K' => ?_)
 refine x0x rfl rfl rfl (b0j true l hb) (dc 1 (aI ?_ ?_))<;>intro hc2<;>try simp at hc2
 ·exact absurd fA (a1h (by simpa using hc2))
 refine dv 3 ?_
 refine x0x rfl rfl rfl (c7f true l fA) (rlB b7c c0l ?_)
 refine x3x (id := 2) b7c c0l rfl (dv 5 fun K K' => ?_)
 refine a0h 2 2 0 65 13 rfl rfl rfl rfl rfl ?_
 refine x4x (ι := Nat) (fun i γ1 => [(4, pI (i : Int))]) (fun i γ1 => [(0, ((γ1 0), .row 65 13 ((b0u i).map (u1u true)))), (2, ((0 + 1), .box 31 [pI 0, a5u true l, .ref 0 (γ1 0), .pv (.slice none 0 0), pI 0, .pv (.slice none 0 0), .pv (.slice none 0 0), .pv (.slice none 0 0), .pv (.slice none 0 0)])), (3, ((γ1 3), .dead)), (4, ((γ1 4), .dead))]) (fun i => i ≤ 3) (fun i => 3 - i) (q6q [2, 3] rfl) (u8u 1 rfl HE.nil) 0 (by omega) [_, 0, 0, _, _] x6x (HE.row rfl (by rfl) (HE.box rfl rfl (HE.kill rfl (HE.kill rfl HE.nil)))) rfl fun i γ1 hi => ?_
 refine dc 4 (fun K K' => aS ?_ ?_)<;>intro h<;>try simp at h
 ·obtain rfl : i = 3 := by omega
  refine dv 5 ?_
  exact ⟨[_], rfl, rfl, x5x⟩
 refine dv 7 fun K K' => ?_
 refine x0x rfl rfl rfl (c2f (i : Int)) ?_
 refine y2y (id := 3) a7u rfl u9u rfl rfl rfl rfl rfl rfl ?_
 refine y6y (zs := (b0u i ++ [a2l (i : Int)]).map (u1u true)) rfl rfl a7u rfl u9u rfl rfl rfl rfl (by rfl) (z7z _ _ _) (by (simp only [a0e, r7r, a0b, a0d, a0u, b0u, a2z, T65]; omega)) ?_
 refine dv 4 ?_
 refine z8z rfl rfl rfl (dv 1 ?_)
 exact ⟨i + 1, ⟨by omega, by omega⟩, [_, 0, 0, _, _], (Cov.cons' (t := 4) rfl (by rw [x9x (by omega) (by omega)]; rfl) Cov.nil), x6x, (HE.row rfl (by rw [d3b]) (HE.box rfl rfl (HE.kill rfl (HE.kill rfl HE.nil)))), x5x, rfl⟩
end
section
theorem c7g (bs : List Nat) (hbs : ∀ b ∈ bs, b < 256) (p0 most : Nat) (hp : p0 + 502 + 1040 * most ≤ 1000000) : MethE Tryz.prog 133 5 [.ptr 4 0 0, .pv (.int .i64 (most : Int))] [(0, (0, .dead)), (1, (0, .dead)), (2, (0, .dead)), (3, (0, .dead)), (4, (0, .box 243 [v8v true bs, .pv (.int .i64 ((p0 : Nat) : Int))]))] (ι := Sm) (fun S' => smOk S' (p0 + 502 + 1040 * most)) (fun S' => [4]) (fun S' => .ptr 0 0 0) (fun S' => [(0, (0, .box 171 [.ptr 4 0 0, pI S'.w.time, a5u true S'.w.apps, .ref 1 0, .ref 2 0, pI S'.w.hub.round, w7w true S'.w.hub.ones, w7w true S'.w.hub.twos, w7w true S'.w.hub.outs, r0r true S'.w.sink, .ref 3 0])), (1, (0, .row 65 13 ((S'.w.nodes).map (u1u true)))), (2, (0, .row 79 11 ((S'.w.radio).map (w1w true)))), (3, (0, .row 263 5 ((S'.list).map a4c))), (4, (0, .box 243 [v8v true bs, .pv (.int .i64 ((S'.p : Nat) : Int))]))]) := by
 refine mE (ι := Sm) Tryz.f133 (fun S' => [.ptr 0 0 0]) 5 1 fun γ => ?_
 refine dv 2 ?_
 refine a0i fun B X0 w0 => ?_
 refine txR 2 rfl rfl (dv 2 ?_)
 refine txM [4] [_] (c7e bs hbs p0 (by omega)) rfl rfl rfl rfl fun A hA => ?_
 obtain ⟨hA1, hA2⟩ := hA
 refine txR 4 rfl rfl ?_
 refine rlM [1] [_] (b9w A.1 hA1) rfl rfl rfl ?_
 refine rlB f4t f4w ?_
 refine y0y (id := 0) rfl rfl rfl (dv 1 ?_)
 refine u2u rfl (a0h 0 4 2 79 11 rfl rfl rfl rfl rfl (a0h 0 10 3 263 5 rfl rfl rfl rfl rfl ?_))
 refine e2j 0 rfl (.same (.same (.same (.same (.same (.same (.le (b := w7w true ([] : List Wo)) rfl .nil rfl (.le (b := w7w true ([] : List Wo)) rfl .nil rfl (.le (b := w7w true ([] : List Wo)) rfl .nil rfl (.le (b := r0r true ([] : List Ou)) rfl .nil rfl (LeCs.refl _))))))))))) ?_
 refine dv 1 ?_
 refine s8s (id := 5) a0o rfl s3s rfl rfl rfl rfl (.val rfl rfl (.val rfl rfl (.val rfl rfl (.val rfl rfl (.val rfl rfl .nil))))) rfl (s0s rfl) (s0s rfl) (s0s rfl) rfl rfl ?_
 refine dv 1 ?_
 refine rlM [4] [_] (x1x true bs (A.2) (5) (by have := hA2; omega) hbs) rfl rfl rfl ?_
 obtain ⟨z, ez, hz⟩ : ∃ z, pk bs A.2 5 = z ∧ z < 5 := ⟨_, rfl, a3r _ _ _ (by omega)⟩
 rw [ez]
 obtain ⟨odd, hodd⟩ : ∃ x, [0, 0, 3, 6, 12][z]? = some x := ⟨_, List.getElem?_eq_getElem hz⟩
 refine z0z (f := fun x : Nat => [pI (x : Int)]) (l := [0, 0, 3, 6, 12]) (j := z) rfl rfl a0o rfl s3s rfl rfl hz ?_
 refine a6c (f := fun x : Nat => [pI (x : Int)]) (l := [0, 0, 3, 6, 12]) rfl s3s rfl hodd rfl ?_
 refine dv 5 fun K K' => ?_
 refine rlM [4] [_] (x1x true bs (A.2 + 1) (most) (by have := hA2; omega) hbs) rfl rfl rfl ?_
 refine dv 1 ?_
 obtain ⟨N, eN, hN⟩ : ∃ N, pk bs (A.2 + 1) most = N ∧ N ≤ most := ⟨_, rfl, b2g _ _ _⟩
 rw [eN]
 refine dv 1 ?_
 refine x4x (ι := Sm × Nat) (fun p γ1 => [(7, pI (p.2 : Int))]) (fun p γ1 => [(1, ((γ1 1), .row 65 13 ((p.1.w.nodes).map (u1u true)))), (2, ((γ1 2), .row 79 11 ((p.1.w.radio).map (w1w true)))), (3, ((γ1 3), .row 263 5 ((p.1.list).map a4c))), (0, ((γ 0 + 1), .box 171 [.ptr 4 (γ 4) 0, pI p.1.w.time, a5u true p.1.w.apps, .ref 1 (γ1 1), .ref 2 (γ1 2), pI p.1.w.hub.round, w7w true p.1.w.hub.ones, w7w true p.1.w.hub.twos, w7w true p.1.w.hub.outs, r0r true p.1.w.sink, .ref 3 (γ1 3)])), (4, ((γ 4), .box 243 [v8v true bs, pI ((p.1.p : Nat) : Int)]))]) (fun p => smOk p.1 (p0 + 502 + 1040 * (N - p.2)) ∧ p.2 ≤ N) (fun p => p.2) (q6q [5, 6] rfl) (u8u 5 rfl HE.nil) ((⟨⟨0, A.1, b0u 3, [], hb0, []⟩, [], A.2 + 1 + 1⟩ : Sm), N) ⟨e9j hA1 (by show A.2 + 1 + 1 ≤ p0 + 502 + 1040 * (N - N); omega), Nat.le_refl _⟩ [0, _, _, _] x6x x5x rfl fun p γ1 hi => ?_
 obtain ⟨S1, i⟩ := p
 obtain ⟨h1, h2⟩ := hi
 dsimp only at h1 h2 ⊢
 refine dc 4 (fun K K' => aS ?_ ?_)<;>intro h<;>try simp at h
 ·refine dv 5 ?_
  exact ⟨S1, h1.mono (by omega), [_, _, _, _, γ 4], rfl, rfl, x5x⟩
 obtain ⟨i', rfl⟩ : ∃ i', i = i' + 1 := ⟨i - 1, by omega⟩
 refine dv 3 fun K K' => ?_
 refine a8n fun B X0 w0 => ?_
 refine txR 2 rfl rfl (dv 2 ?_)
 refine txM [0, 1, 2, 3, 4] [_, _, _, _, _] (b9v bs hbs S1 (p0 + 502 + 1040 * (N - (i' + 1))) h1 odd (by omega)) rfl rfl rfl rfl fun j hj => ?_
 refine u2u rfl (dv 2 ?_)
 refine p6p (b := 1) rfl rfl (by omega) (by omega) (dv 1 ?_)
 exact ⟨(j, i'), ⟨⟨hj.mono (by show _ ≤ p0 + 502 + 1040 * (N - i'); omega), by show i' ≤ N; omega⟩, (by show i' < i' + 1; omega)⟩, [0, _, _, _], x6x, x6x, x5x, x5x, rfl⟩
end
section
theorem c7h (bs : List Nat) (hbs : ∀ b ∈ bs, b < 256) (p0 : Nat) (hp : p0 + 502 + 1040 * 14 ≤ 1000000) : MethE Tryz.prog 225 1 [.ptr 0 0 0] [(0, (0, .box 243 [v8v true bs, .pv (.int .i64 ((p0 : Nat) : Int))]))] (ι := Sm × Nd) (fun S' => smOk S'.1 (p0 + 503 + 1040 * 14) ∧ S'.2 ∈ S'.1.w.nodes) (fun S' => [0]) (fun S' => .tup [.agg (d5j true S'.1.w), .agg (u1u true S'.2)]) (fun S' => [(0, (0, .box 243 [v8v true bs, .pv (.int .i64 ((S'.1.p : Nat) : Int))]))]) := by
 refine mE (ι := Sm × Nd) Tryz.f225 (fun S' => [.agg (d5j true S'.1.w), .agg (u1u true S'.2)]) 1 7 fun γ => ?_
 refine dv 1 ?_
 refine x3x (id := 1) b7c c0l rfl (x3x (id := 2) u9u q1q rfl (a0i fun B X0 w0 => ?_))
 refine txR 1 rfl rfl (dv 1 ?_)
 refine txM [4, 5, 6, 7, 0] [_, _, _, _, _] (c7g bs hbs p0 14 hp) rfl rfl rfl rfl fun S hS => ?_
 refine txR 5 rfl rfl (dv 3 ?_)
 refine x3x (id := 3) b7c c0l rfl (dv 1 ?_)
 refine u2u rfl (dv 5 ?_)
 refine rlM [0] [_] (x1x true bs (S.p) (3) (by have := hS.2.2; omega) hbs) rfl rfl rfl ?_
 obtain ⟨z, ez, hz⟩ : ∃ z, pk bs S.p 3 = z ∧ z < 3 := ⟨_, rfl, a3r _ _ _ (by omega)⟩
 rw [ez]
 obtain ⟨n, hnd, hnI⟩ := b3c hS.1 (i := z) (by omega)
 refine z0z (j := z) rfl rfl a7u rfl u9u rfl rfl (y7y hnd) ?_
 refine a0g rfl u9u rfl (by assumption) rfl rfl ?_
 refine dv 2 ?_
 refine v9v (b := f4e true S.w.nodes) 1 2 rfl rfl rfl (.ref rfl (Le.ow_map _ (fun _ => rfl) (fun _ => rfl)) .nil) rfl rfl rfl rfl ?_
 refine v9v (b := w7w true S.w.radio) 1 3 rfl rfl rfl (.ref rfl (Le.ow_map _ (fun _ => rfl) (fun _ => rfl)) .nil) rfl rfl rfl rfl ?_
 refine dv 1 ?_
 exact ⟨(pSm S (S.p + 1), n), ⟨a3p hS (by omega) (by have := hS.2.2; omega), List.mem_of_getElem? hnd⟩, [γ 0], rfl, rfl, x5x⟩
end
section
theorem a6n (bs : List Nat) (hbs : ∀ b ∈ bs, b < 256) (p0 : Nat) (hp : p0 + 10 ≤ 100000000) : MethE Tryz.prog 216 1 [.ptr 0 0 0] [(0, (0, .box 243 [v8v true bs, .pv (.int .i64 ((p0 : Nat) : Int))]))] (ι := Ev × Nat) (fun S' => S'.2 ≤ p0 + 10) (fun S' => [0]) (fun S' => .agg (y9y S'.1)) (fun S' => [(0, (0, .box 243 [v8v true bs, .pv (.int .i64 ((S'.2 : Nat) : Int))]))]) := by
 refine mE (ι := Ev × Nat) Tryz.f216 (fun S' => [.agg (y9y S'.1)]) 1 5 fun γ => ?_
 refine dv 1 ?_
 refine x3x (id := 1) z2z a7w rfl (dv 2 ?_)
 refine rlM [0] [_] (x1x true bs (p0) (41) (by have := hp; omega) hbs) rfl rfl rfl ?_
 refine dv 1 ?_
 refine rlM [0] [_] (x1x true bs (p0 + 1) (4) (by have := hp; omega) hbs) rfl rfl rfl ?_
 refine dv 1 ?_
 refine rlM [0] [_] (x1x true bs (p0 + 1 + 1) (5) (by have := hp; omega) hbs) rfl rfl rfl ?_
 have h5 := a3r bs (p0 + 1 + 1) 5 (by omega)
 refine s5s (.int .i64 ((pk bs (p0 + 1 + 1) 5 : Int) - 1)) rfl rfl rfl (a6s rfl (by omega) (by omega) (by omega)) ?_
 refine dv 1 ?_
 refine rlM [0] [_] (x1x true bs (p0 + 1 + 1 + 1) (13) (by have := hp; omega) hbs) rfl rfl rfl ?_
 refine dv 1 ?_
 refine rlM [0] [_] (x1x true bs (p0 + 1 + 1 + 1 + 1) (3) (by have := hp; omega) hbs) rfl rfl rfl ?_
 refine dv 1 ?_
 refine rlM [0] [_] (x1x true bs (p0 + 1 + 1 + 1 + 1 + 1) (3) (by have := hp; omega) hbs) rfl rfl rfl ?_
 refine dv 1 ?_
 refine rlM [0] [_] (x1x true bs (p0 + 1 + 1 + 1 + 1 + 1 + 1) (40) (by have := hp; omega) hbs) rfl rfl rfl ?_
 refine rlB z2z a7w ?_
 refine x3x (id := 2) z2z a7w rfl (dv 1 ?_)
 refine p9p (ι := Ev × Nat) (fun s γ1 => []) (fun s γ1 => [(0, ((γ 0), .box 243 [v8v true bs, pI ((s.2 : Nat) : Int)])), (2, ((0 + 1), .box 56 (y9y s.1))), (3, ((γ1 3), .dead)), (4, ((γ1 4), .dead)), (5, ((γ1 5), .dead))]) (fun s => s.2 ≤ p0 + 10) (q6q [2, 3] rfl) (u8u 1 rfl HE.nil) ?_ fun s γ1 hi => ?_
 ·refine dv 2 ?_
  refine rlM [0] [_] (x1x true bs (p0 + 1 + 1 + 1 + 1 + 1 + 1 + 1) (20) (by have := hp; omega) hbs) rfl rfl rfl ?_
  refine dc 4 (aI ?_ ?_)<;>intro h<;>try simp at h
  ·refine dv 1 ?_
   refine s8s (id := 3) a0o rfl s3s rfl rfl rfl rfl (.val rfl rfl (.val rfl rfl (.val rfl rfl .nil))) rfl (s0s rfl) (s0s rfl) (s0s rfl) rfl rfl ?_
   refine dv 1 ?_
   refine rlM [0] [_] (x1x true bs (p0 + 1 + 1 + 1 + 1 + 1 + 1 + 1 + 1) (3) (by have := hp; omega) hbs) rfl rfl rfl ?_
   obtain ⟨z, ez, hz⟩ : ∃ z, pk bs (p0 + 1 + 1 + 1 + 1 + 1 + 1 + 1 + 1) 3 = z ∧ z < 3 := ⟨_, rfl, a3r _ _ _ (by omega)⟩
   rw [ez]
   obtain ⟨v, hv⟩ : ∃ x, ([-1, 40, 41] : List Int)[z]? = some x := ⟨_, List.getElem?_eq_getElem hz⟩
   refine z0z (f := fun x : Int => [pI x]) (l := [-1, 40, 41]) (j := z) rfl rfl a0o rfl s3s rfl rfl hz ?_
   refine a6c (f := fun x : Int => [pI x]) (l := [-1, 40, 41]) rfl s3s rfl hv rfl ?_
   refine dv 2 ?_
   exact ⟨({ (⟨(pk bs (p0) 41 : Int), (pk bs (p0 + 1) 4 : Int), (pk bs (p0 + 1 + 1) 5 : Int) - 1, (pk bs (p0 + 1 + 1 + 1) 13 : Int), (pk bs (p0 + 1 + 1 + 1 + 1) 3 : Int), (pk bs (p0 + 1 + 1 + 1 + 1 + 1) 3 : Int), (pk bs (p0 + 1 + 1 + 1 + 1 + 1 + 1) 40 : Int)⟩ : Ev) with time := v }, p0 + 1 + 1 + 1 + 1 + 1 + 1 + 1 + 1 + 1), (by show p0 + 1 + 1 + 1 + 1 + 1 + 1 + 1 + 1 + 1 ≤ _; omega), [0, 0, 0, _, _, _], x6x, x6x, x5x, x5x, rfl⟩
  refine dc 3 (aI ?_ ?_)<;>intro h<;>try simp at h
  ·refine dv 1 ?_
   refine s8s (id := 4) a0o rfl s3s rfl rfl rfl rfl (.val rfl rfl (.val rfl rfl .nil)) rfl (s0s rfl) (s0s rfl) (s0s rfl) rfl rfl ?_
   refine dv 1 ?_
   refine rlM [0] [_] (x1x true bs (p0 + 1 + 1 + 1 + 1 + 1 + 1 + 1 + 1) (2) (by have := hp; omega) hbs) rfl rfl rfl ?_
   obtain ⟨z, ez, hz⟩ : ∃ z, pk bs (p0 + 1 + 1 + 1 + 1 + 1 + 1 + 1 + 1) 2 = z ∧ z < 2 := ⟨_, rfl, a3r _ _ _ (by omega)⟩
   rw [ez]
   obtain ⟨v, hv⟩ : ∃ x, ([-1, 4] : List Int)[z]? = some x := ⟨_, List.getElem?_eq_getElem hz⟩
   refine z0z (f := fun x : Int => [pI x]) (l := [-1, 4]) (j := z) rfl rfl a0o rfl s3s rfl rfl hz ?_
   refine a6c (f := fun x : Int => [pI x]) (l := [-1, 4]) rfl s3s rfl hv rfl ?_
   refine dv 2 ?_
   exact ⟨({ (⟨(pk bs (p0) 41 : Int), (pk bs (p0 + 1) 4 : Int), (pk bs (p0 + 1 + 1) 5 : Int) - 1, (pk bs (p0 + 1 + 1 + 1) 13 : Int), (pk bs (p0 + 1 + 1 + 1 + 1) 3 : Int), (pk bs (p0 + 1 + 1 + 1 + 1 + 1) 3 : Int), (pk bs (p0 + 1 + 1 + 1 + 1 + 1 + 1) 40 : Int)⟩ : Ev) with to := v }, p0 + 1 + 1 + 1 + 1 + 1 + 1 + 1 + 1 + 1), (by show p0 + 1 + 1 + 1 + 1 + 1 + 1 + 1 + 1 + 1 ≤ _; omega), [0, 0, 0, _, _, _], x6x, x6x, x5x, x5x, rfl⟩
  refine dc 3 (aS ?_ ?_)<;>intro h<;>try simp at h
  ·refine dv 1 ?_
   exact ⟨((⟨(pk bs (p0) 41 : Int), (pk bs (p0 + 1) 4 : Int), (pk bs (p0 + 1 + 1) 5 : Int) - 1, (pk bs (p0 + 1 + 1 + 1) 13 : Int), (pk bs (p0 + 1 + 1 + 1 + 1) 3 : Int), (pk bs (p0 + 1 + 1 + 1 + 1 + 1) 3 : Int), (pk bs (p0 + 1 + 1 + 1 + 1 + 1 + 1) 40 : Int)⟩ : Ev), p0 + 1 + 1 + 1 + 1 + 1 + 1 + 1 + 1), (by show p0 + 1 + 1 + 1 + 1 + 1 + 1 + 1 + 1 ≤ _; omega), [0, 0, 0, _, _, _], x6x, x6x, x5x, x5x, rfl⟩
  refine dv 1 ?_
  refine s8s (id := 5) a0o rfl s3s rfl rfl rfl rfl (.val rfl rfl (.val rfl rfl (.val rfl rfl .nil))) rfl (s0s rfl) (s0s rfl) (s0s rfl) rfl rfl ?_
  refine dv 1 ?_
  refine rlM [0] [_] (x1x true bs (p0 + 1 + 1 + 1 + 1 + 1 + 1 + 1 + 1) (3) (by have := hp; omega) hbs) rfl rfl rfl ?_
  obtain ⟨z, ez, hz⟩ : ∃ z, pk bs (p0 + 1 + 1 + 1 + 1 + 1 + 1 + 1 + 1) 3 = z ∧ z < 3 := ⟨_, rfl, a3r _ _ _ (by omega)⟩
  rw [ez]
  obtain ⟨v, hv⟩ : ∃ x, ([-1, 999, 1000] : List Int)[z]? = some x := ⟨_, List.getElem?_eq_getElem hz⟩
  refine z0z (f := fun x : Int => [pI x]) (l := [-1, 999, 1000]) (j := z) rfl rfl a0o rfl s3s rfl rfl hz ?_
  refine a6c (f := fun x : Int => [pI x]) (l := [-1, 999, 1000]) rfl s3s rfl hv rfl ?_
  refine dv 2 ?_
  exact ⟨({ (⟨(pk bs (p0) 41 : Int), (pk bs (p0 + 1) 4 : Int), (pk bs (p0 + 1 + 1) 5 : Int) - 1, (pk bs (p0 + 1 + 1 + 1) 13 : Int), (pk bs (p0 + 1 + 1 + 1 + 1) 3 : Int), (pk bs (p0 + 1 + 1 + 1 + 1 + 1) 3 : Int), (pk bs (p0 + 1 + 1 + 1 + 1 + 1 + 1) 40 : Int)⟩ : Ev) with arg := v }, p0 + 1 + 1 + 1 + 1 + 1 + 1 + 1 + 1 + 1), (by show p0 + 1 + 1 + 1 + 1 + 1 + 1 + 1 + 1 + 1 ≤ _; omega), [0, 0, 0, _, _, _], x6x, x6x, x5x, x5x, rfl⟩
 ·try dsimp only [b1e, b1f]
  refine dv 4 ?_
  exact ⟨s, hi, [γ 0], rfl, rfl, x5x⟩
theorem d0w (bs : List Nat) (hbs : ∀ b ∈ bs, b < 256) (p0 : Nat) (hp : p0 + 10 ≤ 100000000) : MethE Tryz.prog 226 1 [.ptr 0 0 0] [(0, (0, .box 243 [v8v true bs, .pv (.int .i64 ((p0 : Nat) : Int))]))] (ι := Ou × Nat) (fun S' => S'.2 ≤ p0 + 5) (fun S' => [0]) (fun S' => .agg (q8q S'.1)) (fun S' => [(0, (0, .box 243 [v8v true bs, .pv (.int .i64 ((S'.2 : Nat) : Int))]))]) := by
 refine mE (ι := Ou × Nat) Tryz.f226 (fun S' => [.agg (q8q S'.1)]) 1 1 fun γ => ?_
 refine dv 1 ?_
 refine x3x (id := 1) w9w c7s rfl (dv 2 ?_)
 refine rlM [0] [_] (x1x true bs (p0) (6) (by have := hp; omega) hbs) rfl rfl rfl ?_
 refine dv 1 ?_
 refine rlM [0] [_] (x1x true bs (p0 + 1) (4) (by have := hp; omega) hbs) rfl rfl rfl ?_
 refine dv 1 ?_
 refine rlM [0] [_] (x1x true bs (p0 + 1 + 1) (3) (by have := hp; omega) hbs) rfl rfl rfl ?_
 refine dv 1 ?_
 refine rlM [0] [_] (x1x true bs (p0 + 1 + 1 + 1) (2) (by have := hp; omega) hbs) rfl rfl rfl ?_
 refine dv 1 ?_
 refine rlM [0] [_] (x1x true bs (p0 + 1 + 1 + 1 + 1) (4) (by have := hp; omega) hbs) rfl rfl rfl ?_
 refine rlB w9w c7s ?_
 refine dv 2 ?_
 exact ⟨((⟨(pk bs (p0) 6 : Int), (pk bs (p0 + 1) 4 : Int), (pk bs (p0 + 1 + 1) 3 : Int), (pk bs (p0 + 1 + 1 + 1) 2 : Int), (pk bs (p0 + 1 + 1 + 1 + 1) 4 : Int)⟩ : Ou), p0 + 1 + 1 + 1 + 1 + 1), (by show p0 + 1 + 1 + 1 + 1 + 1 ≤ _; omega), [γ 0], rfl, rfl, x5x⟩
theorem c2j (bs : List Nat) (hbs : ∀ b ∈ bs, b < 256) (p0 m : Nat) (hm : m ≤ 1000) (hp : p0 + 1 + 13 * m ≤ 100000000) : MethE Tryz.prog 227 1 [.ptr 0 0 0, .pv (.int .i64 (m : Int))] [(0, (0, .box 243 [v8v true bs, .pv (.int .i64 ((p0 : Nat) : Int))]))] (ι := List Ev × Nat) (fun S' => S'.1.length ≤ m ∧ S'.2 ≤ p0 + 1 + 13 * m) (fun S' => [0]) (fun S' => q3q true S'.1) (fun S' => [(0, (0, .box 243 [v8v true bs, .pv (.int .i64 ((S'.2 : Nat) : Int))]))]) := by
 refine mE (ι := List Ev × Nat) Tryz.f227 (fun S' => [q3q true S'.1]) 1 4 fun γ => ?_
 refine dv 3 ?_
 refine y1y (id := 1) u3u rfl z2z rfl (dv 5 fun K K' => ?_)
 refine rlM [0] [_] (x1x true bs (p0) (m) (by have := hp; omega) hbs) rfl rfl rfl ?_
 refine dv 1 ?_
 obtain ⟨N, eN, hN⟩ : ∃ N, pk bs p0 m = N ∧ N ≤ m := ⟨_, rfl, b2g _ _ _⟩
 rw [eN]
 refine dv 1 ?_
 refine x4x (ι := List Ev × Nat × Nat) (fun p γ1 => [(5, .ref 1 (γ1 1)), (6, pI (p.2.2 : Int))]) (fun p γ1 => [(1, ((γ1 1), .row 56 7 ((p.1).map y9y))), (0, ((γ 0), .box 243 [v8v true bs, pI ((p.2.1 : Nat) : Int)])), (2, ((γ1 2), .dead)), (3, ((γ1 3), .dead)), (4, ((γ1 4), .dead))]) (fun p => p.1.length + p.2.2 ≤ N ∧ p.2.1 + 13 * p.2.2 ≤ p0 + 1 + 13 * N) (fun p => p.2.2) (x7x 0 rfl Cov.nil) HE.nil ([], p0 + 1, N) ⟨Nat.le_of_eq (Nat.zero_add _), Nat.le_refl _⟩ [0, _, _, _, _] x6x (HE.row rfl (by rfl) (HE.box rfl rfl (HE.kill rfl (HE.kill rfl (HE.kill rfl HE.nil))))) rfl fun p γ1 hi => ?_
 obtain ⟨l, q, n⟩ := p
 obtain ⟨h1, h2⟩ := hi
 dsimp only at h1 h2 ⊢
 refine dc 4 (fun K K' => aS ?_ ?_)<;>intro h<;>try simp at h
 ·refine dv 1 ?_
  refine p7p (f := y9y) 5 rfl rfl (fun _ => rfl) ?_
  refine dv 4 ?_
  exact ⟨(l, q), ⟨by show l.length ≤ m; omega, by show q ≤ p0 + 1 + 13 * m; omega⟩, [γ 0], rfl, rfl, x5x⟩
 obtain ⟨n', rfl⟩ : ∃ n', n = n' + 1 := ⟨n - 1, by omega⟩
 refine dv 3 fun K K' => ?_
 refine a0i fun B X0 w0 => ?_
 refine txR 1 rfl rfl (dv 1 ?_)
 refine txM [0] [_] (a6n bs hbs q (by omega)) rfl rfl rfl rfl fun e he => ?_
 refine txR 2 rfl rfl (x3x (id := 2) z2z a7w rfl (dv 1 ?_))
 refine u2u rfl ?_
 refine p9p (ι := Ev × Nat) (fun s γ2 => []) (fun s γ2 => [(0, ((γ 0), .box 243 [v8v true bs, pI ((s.2 : Nat) : Int)])), (2, ((γ1 2 + 1), .box 56 (y9y s.1)))]) (fun s => s.2 ≤ q + 13) (q6q [0, 5, 6, 7] rfl) (a0p [1, 3, 4] rfl) ?_ fun s γ2 hi => ?_
 ·refine dv 2 ?_
  refine a3w (n := l.length) rfl u3u rfl rfl (List.length_map _) ?_
  refine dc 2 (aS ?_ ?_)<;>intro h<;>try simp at h
  ·refine dv 5 ?_
   exact ⟨(e.1, e.2), (by show e.2 ≤ _; omega), [], x6x, x6x, x5x, x5x, rfl⟩
  refine dv 1 ?_
  refine rlM [0] [_] (x1x true bs (e.2) (4) (by have := he; omega) hbs) rfl rfl rfl ?_
  refine dc 2 (aS ?_ ?_)<;>intro h<;>try simp at h
  ·refine dv 1 ?_
   exact ⟨(e.1, e.2 + 1), (by show e.2 + 1 ≤ _; omega), [], x6x, x6x, x5x, x5x, rfl⟩
  refine dv 4 ?_
  refine a3w (n := l.length) rfl u3u rfl rfl (List.length_map _) ?_
  refine rlM [0] [_] (x1x true bs (e.2 + 1) (l.length) (by have := he; omega) hbs) rfl rfl rfl ?_
  obtain ⟨z, ez, hz⟩ : ∃ z, pk bs (e.2 + 1) l.length = z ∧ z < l.length := ⟨_, rfl, a3r _ _ _ (by omega)⟩
  rw [ez]
  obtain ⟨v, hv⟩ : ∃ v, l[z]? = some v := ⟨_, List.getElem?_eq_getElem hz⟩
  refine z0z (j := z) rfl rfl u3u rfl z2z rfl rfl hz ?_
  refine a0g rfl z2z rfl (by assumption) rfl rfl ?_
  refine dv 3 ?_
  refine rlM [0] [_] (x1x true bs (e.2 + 1 + 1) (3) (by have := he; omega) hbs) rfl rfl rfl ?_
  refine dv 2 ?_
  exact ⟨({ v with n := (pk bs (e.2 + 1 + 1) 3 : Int) }, e.2 + 1 + 1 + 1), (by show e.2 + 1 + 1 + 1 ≤ _; omega), [], x6x, x6x, x5x, x5x, rfl⟩
 ·try dsimp only [b1e, b1f]
  refine dv 3 ?_
  refine y2y (id := 3) u3u rfl z2z rfl rfl rfl rfl rfl rfl ?_
  refine y6y (zs := (l ++ [s.1]).map y9y) rfl rfl u3u rfl z2z rfl rfl rfl rfl (by rfl) (z7z y9y l s.1) (by (simp only [a0e, r7r, a0b, a0d, a0u, a2z, T56]; omega)) ?_
  refine dv 3 ?_
  refine p6p (b := 1) rfl rfl (by omega) (by omega) (dv 1 ?_)
  exact ⟨(l ++ [s.1], s.2, n'), ⟨⟨by show (l ++ [s.1]).length + n' ≤ N; rw [List.length_append]; show l.length + 1 + n' ≤ N; omega, by show s.2 + 13 * n' ≤ _; omega⟩, (by show n' < n' + 1; omega)⟩, [0, _, _, _, _], x6x, x6x, (HE.row rfl (by rfl) (HE.box rfl rfl (HE.kill rfl (HE.kill rfl (HE.kill rfl HE.nil))))), x5x, rfl⟩
end
section
theorem c1l (c : Bool) (n : Nd) (hl : n.lanes.length ≤ 1000000) (hk : n.kept.length ≤ 1000000) (ho : n.outs.length ≤ 1000000) (hd : ∀ l ∈ n.lanes, lb l) : Meth Tryz.prog 155 5 [] [.agg (u1u c n)] [(0, (0, .dead)), (1, (0, .dead)), (2, (0, .dead)), (3, (0, .dead)), (4, (0, .dead))] (.agg [pI n.id, .pv (.bool n.up), pI n.inc, pI n.g, .ref 0 0, .ref 3 0, .ref 4 0, pI n.led, pI 0, .ref 1 0, .ref 2 0, pI 0, pI 41]) [(0, (0, .row 44 5 ((n.lanes.map r5r).map (q7q true)))), (1, (0, .row 190 3 ([vi0, vi0, vi0].map (a2b true)))), (2, (0, .row 3 1 ([0, 0, 0].map a3e))), (3, (0, .row 56 7 ((n.kept).map y9y))), (4, (0, .row 141 5 ((n.outs).map q8q)))] := by
 refine mX Tryz.f155 [.agg [pI n.id, .pv (.bool n.up), pI n.inc, pI n.g, .ref 0 0, .ref 3 0, .ref 4 0, pI n.led, pI 0, .ref 1 0, .ref 2 0, pI 0, pI 41]] 5 11 fun γ => ?_
 refine dv 1 ?_
 refine y0y (id := 5) rfl rfl rfl (x3x (id := 6) u9u q1q rfl (dv 9 ?_))
 refine y1y (id := 3) u3u rfl z2z rfl (dv 2 ?_)
 refine w6w (zs := (n.kept).map y9y) rfl rfl u3u rfl z2z rfl rfl rfl (z9z (fun _ => rfl) _) rfl (by (simp only [a0e, r7r, a0b, a0d, a0u, a2z, b3x, T56]; omega)) ?_
 refine y1y (id := 4) a1b rfl w9w rfl (dv 2 ?_)
 refine w6w (zs := (n.outs).map q8q) rfl rfl a1b rfl w9w rfl rfl rfl (z9z (fun _ => rfl) _) rfl (by (simp only [a0e, r7r, a0b, a0d, a0u, a2z, b3x, T141]; omega)) ?_
 refine dv 2 ?_
 refine rlB u9u q1q ?_
 refine x3x (id := 9) u9u q1q rfl (dv 5 fun K K' => ?_)
 refine a0h 9 4 0 44 5 rfl rfl rfl rfl rfl ?_
 refine x4x (ι := Nat) (fun i γ1 => [(4, pI (i : Int))]) (fun i γ1 => [(0, ((γ1 0), .row 44 5 (((n.lanes.take i).map r5r).map (q7q true)))), (9, ((0 + 1), .box 65 [pI n.id, .pv (.bool n.up), pI n.inc, pI n.g, .ref 0 (γ1 0), .ref 3 (γ 3 + 1 + 1), .ref 4 (γ 4 + 1 + 1), pI n.led, pI 0, .pv (.slice none 0 0), .pv (.slice none 0 0), pI 0, pI 41])), (10, ((γ1 10), .dead)), (11, ((γ1 11), .dead))]) (fun i => i ≤ n.lanes.length) (fun i => n.lanes.length - i) (q6q [1, 2, 3] rfl) (a0p [1, 2, 3, 4, 5, 6, 7, 8, 12, 13, 14, 15] rfl) 0 (by omega) [_, 0, 0, 0, 0, 0, 0, 0, 0, 0, _, _] x6x (HE.row rfl (by rw [List.take_zero]; rfl) (HE.box rfl rfl (HE.kill rfl (HE.kill rfl HE.nil)))) rfl fun i γ1 hi => ?_
 refine dc 7 (fun K K' => aI ?_ ?_)<;>intro o<;>try simp at o
 ·obtain ⟨a, ha⟩ := gE n.lanes i
  have had := hd a (List.mem_of_getElem? ha)
  refine dv 11 fun K K' => ?_
  refine x0x rfl rfl rfl (a3l c a 0 0 had.1 (by omega) (by omega) had.2) ?_
  refine y2y (id := 10) a7v rfl a0m rfl rfl rfl rfl rfl rfl ?_
  refine y6y (zs := ((n.lanes.take i).map r5r ++ [r5r a]).map (q7q true)) rfl rfl a7v rfl a0m rfl rfl rfl rfl (by rfl) (z7z _ _ _) (by (simp only [a0e, r7r, a0b, a0d, a0u, a2z, b3x, T44]; omega)) ?_
  refine dv 4 ?_
  refine z8z rfl rfl rfl (dv 1 ?_)
  exact ⟨i + 1, ⟨by omega, by omega⟩, [_, 0, 0, 0, 0, 0, 0, 0, 0, 0, _, _], (Cov.cons' (t := 4) rfl (by rw [x9x (by omega) (by omega)]; rfl) Cov.nil), x6x, (HE.row rfl (by simp only [z6z ha, List.map_append, List.map_cons, List.map_nil]) (HE.box rfl rfl (HE.kill rfl (HE.kill rfl HE.nil)))), x5x, rfl⟩
 obtain rfl : i = n.lanes.length := by omega
 refine dv 5 fun K K' => ?_
 refine a0h 9 9 1 190 3 rfl rfl rfl rfl rfl (a0h 9 10 2 3 1 rfl rfl rfl rfl rfl ?_)
 refine x4x (ι := Nat) (fun i γ2 => [(5, pI (i : Int))]) (fun i γ2 => [(1, ((γ2 1), .row 190 3 ((List.range i).map fun _ => b3h))), (2, ((γ2 2), .row 3 1 ((List.range i).map fun _ => a3e 0))), (9, ((0 + 1), .box 65 [pI n.id, .pv (.bool n.up), pI n.inc, pI n.g, .ref 0 (γ1 0), .ref 3 (γ 3 + 1 + 1), .ref 4 (γ 4 + 1 + 1), pI n.led, pI 0, .ref 1 (γ2 1), .ref 2 (γ2 2), pI 0, pI 41])), (12, ((γ2 12), .dead)), (13, ((γ2 13), .dead)), (14, ((γ2 14), .dead)), (15, ((γ2 15), .dead))]) (fun i => i ≤ 3) (fun i => 3 - i) (q6q [2, 3] rfl) (a0p [0, 3, 4, 5, 6, 7, 8, 10, 11] rfl) 0 (by omega) [0, _, _, 0, 0, 0, 0, 0, 0, 0, 0, 0, _, _, _, _] x6x x5x rfl fun i γ2 hi => ?_
 refine dc 4 (fun K K' => aS ?_ ?_)<;>intro o<;>try simp at o
 ·obtain rfl : i = 3 := by omega
  rw [List.take_length]
  refine dv 4 ?_
  refine d2b (f := fun _ => b3h) (f' := fun _ => a2b true vi0) (l := List.range 3) 1 rfl (fun _ => .same (.same (.le rfl .nil rfl .nil))) ?_
  refine dv 1 ?_
  exact ⟨[_, _, _, _, _], rfl, rfl, x5x⟩
 refine dv 6 fun K K' => ?_
 refine rlB r1r a4s ?_
 refine y2y (id := 12) a9y rfl r1r rfl rfl rfl rfl rfl rfl ?_
 refine y6y (zs := (List.range i).map (fun _ => b3h) ++ [b3h]) rfl rfl a9y rfl r1r rfl rfl rfl rfl (by rfl) rfl (by (simp only [a0e, r7r, a0b, a0d, a0u, a2z, b3x, T190]; omega)) ?_
 refine dv 5 ?_
 refine a9c (id := 14) a0o rfl s3s rfl rfl rfl rfl rfl ?_
 refine y6y (zs := (List.range i).map (fun _ => a3e 0) ++ [a3e 0]) rfl rfl a0o rfl s3s rfl rfl rfl rfl (by rfl) rfl (by (simp only [a0e, r7r, a0b, a0d, a0u, a2z, b3x, T3]; omega)) ?_
 refine dv 4 ?_
 refine z8z rfl rfl rfl (dv 1 ?_)
 exact ⟨i + 1, ⟨by omega, by omega⟩, [0, _, _, 0, 0, 0, 0, 0, 0, 0, 0, 0, _, _, _, _], (Cov.cons' (t := 5) rfl (by rw [x9x (by omega) (by omega)]; rfl) Cov.nil), x6x, (HE.row rfl (by rw [List.range_succ, List.map_append]; rfl) (HE.row rfl (by rw [List.range_succ, List.map_append]; rfl) (HE.box rfl rfl (HE.kill rfl (HE.kill rfl (HE.kill rfl (HE.kill rfl HE.nil))))))), x5x, rfl⟩
theorem c2k (c : Bool) (n : Nd) (h : nb n) : Meth Tryz.prog 161 5 [] [.agg (u1u c n)] [(0, (0, .dead)), (1, (0, .dead)), (2, (0, .dead)), (3, (0, .dead)), (4, (0, .dead))] (.agg [pI n.id, .pv (.bool n.up), pI n.inc, pI n.g, .ref 0 0, .ref 3 0, .ref 4 0, pI n.led, pI n.version, .ref 1 0, .ref 2 0, pI n.round, pI n.low]) [(0, (0, .row 44 5 ((n.lanes).map a5o))), (1, (0, .row 190 3 ((n.views).map (a2b true)))), (2, (0, .row 3 1 (n.known.map a3e))), (3, (0, .row 56 7 ((n.kept).map y9y))), (4, (0, .row 141 5 ((n.outs).map q8q)))] := by
 refine mX Tryz.f161 [.agg [pI n.id, .pv (.bool n.up), pI n.inc, pI n.g, .ref 0 0, .ref 3 0, .ref 4 0, pI n.led, pI n.version, .ref 1 0, .ref 2 0, pI n.round, pI n.low]] 5 11 fun γ => ?_
 obtain ⟨b1, b2, b3, b4, b5, b6, b7⟩ := h
 refine dv 1 ?_
 refine y0y (id := 5) rfl rfl rfl (x3x (id := 6) u9u q1q rfl (dv 2 ?_))
 refine rlM [0, 13, 14, 3, 4] [_, _, _, _, _] (c1l c n b1 b2 b3 b4) rfl rfl rfl ?_
 refine x3x (id := 7) u9u q1q rfl (dv 5 fun K K' => ?_)
 refine x4x (ι := Nat) (fun i γ1 => [(4, pI (i : Int))]) (fun i γ1 => [(15, ((γ1 15), .dead)), (0, ((γ 0 + 1), .row 44 5 ((n.lanes.take i).map a5o ++ ((n.lanes.drop i).map r5r).map (q7q true))))]) (fun i => i ≤ n.lanes.length) (fun i => n.lanes.length - i) (q6q [1, 2, 3] rfl) (a0p [1, 2, 3, 4, 5, 6, 7, 8, 9, 10, 11, 12, 13, 14] rfl) 0 (by omega) [0, 0, 0, 0, 0, 0, 0, 0, 0, 0, 0, 0, 0, 0, 0, _] x6x (HE.kill rfl (HE.row rfl (by rw [List.take_zero, List.drop_zero]; rfl) HE.nil)) rfl fun i γ1 hi => ?_
 refine dc 7 (fun K K' => aI ?_ ?_)<;>intro o<;>try simp at o
 ·obtain ⟨p, hp⟩ := gE n.lanes i
  have hpl := b4 p (List.mem_of_getElem? hp)
  have hAl : ((n.lanes.take i).map a5o).length = i := by rw [List.length_map, List.length_take]; omega
  rw [p8p hp, List.map_cons, List.map_cons]
  refine dv 19 fun K K' => ?_
  refine rlM [15] [_] (b3j c p 0 p.done.length hpl.1 (by omega) hpl.1 hpl.2) rfl rfl rfl ?_
  refine b4g rfl rfl a7v rfl a0m rfl rfl hAl (b1n hAl rfl rfl a0m rfl rfl rfl rfl (.val rfl rfl (.val rfl rfl (.val rfl rfl (.val rfl rfl (.ref rfl (w2w fun _ => rfl) .nil rfl rfl))))) rfl ?_)
  refine dv 2 ?_
  refine z8z rfl rfl rfl (dv 1 ?_)
  exact ⟨i + 1, ⟨by omega, by omega⟩, [0, 0, 0, 0, 0, 0, 0, 0, 0, 0, 0, 0, 0, 0, 0, _], (Cov.cons' (t := 4) rfl (by rw [x9x (by omega) (by omega)]; rfl) Cov.nil), x6x, (HE.kill rfl (HE.row rfl (by rw [b2q]; simp only [z6z hp, List.map_append, List.append_assoc]; rfl) HE.nil)), x5x, rfl⟩
 obtain rfl : i = n.lanes.length := by omega
 rw [List.take_length, List.drop_length, List.map_nil, List.map_nil, List.append_nil]
 refine dv 17 ?_
 refine y1y (id := 1) a9y rfl r1r rfl (dv 6 fun K K' => ?_)
 refine x4x (ι := Nat) (fun j γ2 => [(5, pI (j : Int))]) (fun j γ2 => [(1, ((γ2 1), .row 190 3 ((n.views.take j).map (a2b true)))), (7, ((0 + 1), .box 65 [pI n.id, .pv (.bool n.up), pI n.inc, pI n.g, .ref 0 (γ 0 + 1), .ref 3 (γ 3 + 1), .ref 4 (γ 4 + 1), pI n.led, pI n.version, .ref 1 (γ2 1), .ref 14 (0 + 1), pI n.round, pI n.low])), (8, ((γ2 8), .dead)), (9, ((γ2 9), .dead)), (10, ((γ2 10), .dead)), (11, ((γ2 11), .dead))]) (fun j => j ≤ n.views.length) (fun j => n.views.length - j) (q6q [1, 2, 3] rfl) (a0p [0, 2, 3, 4, 5, 6, 12, 13, 14, 15] rfl) 0 (by omega) [0, _, 0, 0, 0, 0, 0, 0, _, _, _, _] x6x (HE.row rfl (by rw [List.take_zero]; rfl) (HE.box rfl rfl (HE.kill rfl (HE.kill rfl (HE.kill rfl (HE.kill rfl HE.nil)))))) rfl fun j γ2 hi => ?_
 refine dc 7 (fun K K' => aS ?_ ?_)<;>intro o<;>try simp at o
 ·obtain rfl : j = n.views.length := by omega
  rw [List.take_length]
  refine dv 2 ?_
  refine y1y (id := 2) a0o rfl s3s rfl (dv 2 ?_)
  refine w6w (zs := n.known.map a3e) rfl rfl a0o rfl s3s rfl rfl rfl (z9z (fun _ => rfl) _) rfl (by (simp only [a0e, r7r, a0b, a0d, a0u, a2z, b3x, T3]; omega)) ?_
  refine dv 6 ?_
  exact ⟨[_, _, _, _, _], rfl, rfl, x5x⟩
 obtain ⟨v, hv⟩ := gE n.views j
 have hve := b6 v (List.mem_of_getElem? hv)
 refine dv 18 fun K K' => ?_
 refine y1y (id := 8) u3u rfl z2z rfl (dv 6 ?_)
 refine a2c v3v (zs := (v.events).map y9y) rfl rfl u3u rfl z2z rfl rfl rfl (z9z (fun _ => rfl) _) rfl (by (simp only [a0e, r7r, a0b, a0d, a0u, a2z, b3x, T56]; omega)) (Le.ow_map _ (fun _ => rfl) (fun _ => rfl)) ?_
 refine rlB r1r a4s ?_
 refine y2y (id := 10) a9y rfl r1r rfl rfl rfl rfl rfl rfl ?_
 refine y6y (zs := (n.views.take j ++ [v]).map (a2b true)) rfl rfl a9y rfl r1r rfl rfl rfl rfl (by rfl) (z7z _ _ _) (by (simp only [a0e, r7r, a0b, a0d, a0u, a2z, b3x, T190]; omega)) ?_
 refine dv 4 ?_
 refine z8z rfl rfl rfl (dv 1 ?_)
 exact ⟨j + 1, ⟨by omega, by omega⟩, [0, _, 0, 0, 0, 0, 0, 0, _, _, _, _], (Cov.cons' (t := 5) rfl (by rw [x9x (by omega) (by omega)]; rfl) Cov.nil), x6x, (HE.row rfl (by rw [z6z hv]) (HE.box rfl rfl (HE.kill rfl (HE.kill rfl (HE.kill rfl (HE.kill rfl HE.nil)))))), x5x, rfl⟩
end
section
theorem b7y (bs : List Nat) (hbs : ∀ b ∈ bs, b < 256) (p0 : Nat) (hp : p0 + 502 + 1040 * 14 ≤ 1000000) : MethE Tryz.prog 122 1 [.ptr 0 0 0] [(0, (0, .box 243 [v8v true bs, .pv (.int .i64 ((p0 : Nat) : Int))]))] (ι := Tw × Nd × Nat) (fun S' => c0f S'.1 ∧ c6g S'.2.1 ∧ S'.2.2 ≤ p0 + 15200 ∧ viT S'.2.1) (fun S' => [0]) (fun S' => .tup [.agg (d5j true S'.1), .agg (u1u true S'.2.1)]) (fun S' => [(0, (0, .box 243 [v8v true bs, .pv (.int .i64 ((S'.2.2 : Nat) : Int))]))]) := by
 refine mE (ι := Tw × Nd × Nat) Tryz.f122 (fun S' => [.agg (d5j true S'.1), .agg (u1u true S'.2.1)]) 1 20 fun γ => ?_
 refine dv 1 ?_
 refine x3x (id := 1) b7c c0l rfl (x3x (id := 2) u9u q1q rfl (a0i fun B X0 w0 => ?_))
 refine txR 1 rfl rfl (dv 1 ?_)
 refine txM [0] [_] (c7h bs hbs p0 hp) rfl rfl rfl rfl fun j hj => ?_
 obtain ⟨hj1, hj2⟩ := hj
 have hq : j.1.p ≤ p0 + 503 + 1040 * 14 := hj1.2.2
 have hI := hj1.1.2.2.1 j.2 hj2
 have fS := hI.1.1
 have fb := c0x fS
 have fB := w5w fS
 obtain ⟨g1, g2, g3, g4, g5, g6⟩ := fB
 refine txR 7 rfl rfl (dv 3 ?_)
 refine x3x (id := 3) b7c c0l rfl (x3x (id := 4) u9u q1q rfl (dv 2 ?_))
 refine u2u rfl (dv 2 ?_)
 refine rlM [15, 16, 17, 18, 19] [_, _, _, _, _] (c2k true j.2 fb) rfl rfl rfl ?_
 refine dv 1 ?_
 refine p9p (ι := Nd × Nat × List (List AV)) (fun s γ1 => []) (fun s γ1 => [(15, ((γ1 15), .row 44 5 (s.2.2))), (16, ((γ1 16), .row 190 3 ((s.1.views).map (a2b true)))), (17, ((γ1 17), .row 3 1 ((s.1.known).map a3e))), (18, ((γ1 18), .row 56 7 ((s.1.kept).map y9y))), (19, ((γ1 19), .row 141 5 ((s.1.outs).map q8q))), (20, ((γ1 20), .dead)), (0, ((γ 0), .box 243 [v8v true bs, pI ((s.2.1 : Nat) : Int)])), (4, ((0 + 1), .box 65 [pI s.1.id, .pv (.bool s.1.up), pI s.1.inc, pI s.1.g, .ref 15 (γ1 15), .ref 18 (γ1 18), .ref 19 (γ1 19), pI s.1.led, pI s.1.version, .ref 16 (γ1 16), .ref 17 (γ1 17), pI s.1.round, pI s.1.low])), (5, ((γ1 5), .dead)), (6, ((γ1 6), .dead)), (7, ((γ1 7), .dead)), (8, ((γ1 8), .dead)), (9, ((γ1 9), .dead)), (10, ((γ1 10), .dead)), (11, ((γ1 11), .dead)), (12, ((γ1 12), .dead)), (13, ((γ1 13), .dead)), (14, ((γ1 14), .dead))]) (fun s => c6g s.1 ∧ s.2.1 ≤ p0 + 15200 ∧ Le true (.row .ow 44 5 s.2.2) (c0e true s.1.lanes) ∧ viT s.1) (q6q [2, 3, 4, 5] rfl) (a0p [1, 2, 3] rfl) ?_ fun s γ1 hi => ?_
 ·refine dv 2 ?_
  refine rlM [0] [_] (x1x true bs (j.1.p) (24) (by have := hq; omega) hbs) rfl rfl rfl ?_
  refine dc 4 (aI ?_ ?_)<;>intro u<;>try simp at u
  ·refine dv 2 ?_
   refine rlM [0] [_] (x1x true bs (j.1.p + 1) (5) (by have := hq; omega) hbs) rfl rfl rfl ?_
   have h5 := a3r bs (j.1.p + 1) 5 (by omega)
   refine s5s (.int .i64 ((pk bs (j.1.p + 1) 5 : Int) - 1)) rfl rfl rfl (a6s rfl (by omega) (by omega) (by omega)) ?_
   refine dv 2 ?_
   exact ⟨({ j.2 with id := (pk bs (j.1.p + 1) 5 : Int) - 1 }, j.1.p + 1 + 1, j.2.lanes.map a5o), (by exact ⟨hI.2, by show j.1.p + 1 + 1 ≤ p0 + 15200; omega, (a7c _), by exact (show viT j.2 from b5c fS)⟩), [0, 0, 0, 0, 0, _, _, _, _, _, _, _, _, _, _, _, _, _, _, _, _], x6x, x6x, x5x, x5x, rfl⟩
  refine dc 3 (aI ?_ ?_)<;>intro u<;>try simp at u
  ·refine dv 1 ?_
   refine x0x rfl rfl rfl (u6u ..) (x0x rfl rfl rfl (u6u ..) (s5s (.int .i64 10000) rfl rfl rfl rfl ?_))
   refine s8s (id := 5) a0o rfl s3s rfl rfl rfl rfl (.val rfl rfl (.val rfl rfl (.val rfl rfl .nil))) rfl (s0s rfl) (s0s rfl) (s0s rfl) rfl rfl ?_
   refine dv 1 ?_
   refine rlM [0] [_] (x1x true bs (j.1.p + 1) (3) (by have := hq; omega) hbs) rfl rfl rfl ?_
   obtain ⟨z, ez, hz⟩ : ∃ z, pk bs (j.1.p + 1) 3 = z ∧ z < 3 := ⟨_, rfl, a3r _ _ _ (by omega)⟩
   rw [ez]
   obtain ⟨v, hv⟩ : ∃ x, ([0, 9999, 10000] : List Int)[z]? = some x := ⟨_, List.getElem?_eq_getElem hz⟩
   refine z0z (f := fun x : Int => [pI x]) (l := [0, 9999, 10000]) (j := z) rfl rfl a0o rfl s3s rfl rfl hz ?_
   refine a6c (f := fun x : Int => [pI x]) (l := [0, 9999, 10000]) rfl s3s rfl hv rfl ?_
   refine dv 2 ?_
   exact ⟨({ j.2 with inc := v }, j.1.p + 1 + 1, j.2.lanes.map a5o), (by exact ⟨hI.2, by show j.1.p + 1 + 1 ≤ p0 + 15200; omega, (a7c _), by exact (show viT j.2 from b5c fS)⟩), [0, 0, 0, 0, 0, _, _, _, _, _, _, _, _, _, _, _, _, _, _, _, _], x6x, x6x, x5x, x5x, rfl⟩
  refine dc 3 (aI ?_ ?_)<;>intro u<;>try simp at u
  ·refine dv 1 ?_
   refine s8s (id := 6) a0o rfl s3s rfl rfl rfl rfl (.val rfl rfl (.val rfl rfl (.val rfl rfl (.val rfl rfl .nil)))) rfl (s0s rfl) (s0s rfl) (s0s rfl) rfl rfl ?_
   refine dv 1 ?_
   refine rlM [0] [_] (x1x true bs (j.1.p + 1) (4) (by have := hq; omega) hbs) rfl rfl rfl ?_
   obtain ⟨z, ez, hz⟩ : ∃ z, pk bs (j.1.p + 1) 4 = z ∧ z < 4 := ⟨_, rfl, a3r _ _ _ (by omega)⟩
   rw [ez]
   obtain ⟨v, hv⟩ : ∃ x, ([-1, 41, 42, 3] : List Int)[z]? = some x := ⟨_, List.getElem?_eq_getElem hz⟩
   refine z0z (f := fun x : Int => [pI x]) (l := [-1, 41, 42, 3]) (j := z) rfl rfl a0o rfl s3s rfl rfl hz ?_
   refine a6c (f := fun x : Int => [pI x]) (l := [-1, 41, 42, 3]) rfl s3s rfl hv rfl ?_
   refine dv 2 ?_
   exact ⟨({ j.2 with g := v }, j.1.p + 1 + 1, j.2.lanes.map a5o), (by exact ⟨hI.2, by show j.1.p + 1 + 1 ≤ p0 + 15200; omega, (a7c _), by exact (show viT j.2 from b5c fS)⟩), [0, 0, 0, 0, 0, _, _, _, _, _, _, _, _, _, _, _, _, _, _, _, _], x6x, x6x, x5x, x5x, rfl⟩
  refine dc 3 (aI ?_ ?_)<;>intro u<;>try simp at u
  ·refine d7p 3 (b6j v3v 0 3 rfl rfl ?_)
   refine dv 3 ?_
   refine b7r c2b (by rfl) [0] [_] (a6n bs hbs (j.1.p + 1) (by omega)) rfl rfl rfl rfl (by decide) rfl rfl f3x (fun _ => (by (simp only [pI, a2f, a2g, c0d, gl, nx, a6z, Nat.beq]; rfl))) (fun _ => (by (simp only [pI, a2f, a2g, c0d, gl, nx, a6z, Nat.beq]; rfl))) (⟨0, 0, 0, 0, 0, 0, 0⟩, j.1.p + 1) (by show j.1.p + 1 ≤ _; omega) fun e he => ?_
   refine b6k v3v 4 4 rfl rfl ?_
   refine y2y (id := 7) u3u rfl z2z rfl rfl rfl rfl rfl rfl ?_
   refine y6y (zs := (j.2.kept ++ [e.1]).map y9y) rfl rfl u3u rfl z2z rfl rfl rfl rfl (by rfl) (z7z y9y j.2.kept e.1) (by (simp only [a0e, r7r, a0b, a0d, a0u, a2z, T56]; omega)) ?_
   refine dv 2 ?_
   refine c5e (by kernel_rfl) ?_
   exact ⟨({ j.2 with kept := j.2.kept ++ [e.1] }, e.2, j.2.lanes.map a5o), (by exact ⟨hI.2, by show e.2 ≤ p0 + 15200; omega, (a7c _), by exact (show viT j.2 from b5c fS)⟩), [0, 0, 0, 0, 0, _, _, _, _, _, _, _, _, _, _, _, _, _, _, _, _], x6x, x6x, x5x, x5x, rfl⟩
  refine dc 3 (aI ?_ ?_)<;>intro u<;>try simp at u
  ·refine d7p 3 (b6j v3v 0 3 rfl rfl ?_)
   refine dv 3 ?_
   refine b7r c2b (by rfl) [0] [_] (d0w bs hbs (j.1.p + 1) (by omega)) rfl rfl rfl rfl (by decide) rfl rfl f3x (fun _ => (by (simp only [pI, a2f, a2g, c0d, gl, nx, a6z, Nat.beq]; rfl))) (fun _ => (by (simp only [pI, a2f, a2g, c0d, gl, nx, a6z, Nat.beq]; rfl))) (⟨0, 0, 0, 0, 0⟩, j.1.p + 1) (by show j.1.p + 1 ≤ _; omega) fun o ho => ?_
   refine b6k v3v 4 4 rfl rfl ?_
   refine y2y (id := 9) a1b rfl w9w rfl rfl rfl rfl rfl rfl ?_
   refine y6y (zs := (j.2.outs ++ [o.1]).map q8q) rfl rfl a1b rfl w9w rfl rfl rfl rfl (by rfl) (z7z q8q j.2.outs o.1) (by (simp only [a0e, r7r, a0b, a0d, a0u, a2z, T141]; omega)) ?_
   refine dv 2 ?_
   refine c5e (by kernel_rfl) ?_
   exact ⟨({ j.2 with outs := j.2.outs ++ [o.1] }, o.2, j.2.lanes.map a5o), (by exact ⟨hI.2, by show o.2 ≤ p0 + 15200; omega, (a7c _), by exact (show viT j.2 from b5c fS)⟩), [0, 0, 0, 0, 0, _, _, _, _, _, _, _, _, _, _, _, _, _, _, _, _], x6x, x6x, x5x, x5x, rfl⟩
  refine dc 3 (aI ?_ ?_)<;>intro u<;>try simp at u
  ·refine dv 1 ?_
   refine x0x rfl rfl rfl (u6u ..) (x0x rfl rfl rfl (u6u ..) (s5s (.int .i64 10000) rfl rfl rfl rfl ?_))
   refine s8s (id := 11) a0o rfl s3s rfl rfl rfl rfl (.val rfl rfl (.val rfl rfl (.val rfl rfl .nil))) rfl (s0s rfl) (s0s rfl) (s0s rfl) rfl rfl ?_
   refine dv 1 ?_
   refine rlM [0] [_] (x1x true bs (j.1.p + 1) (3) (by have := hq; omega) hbs) rfl rfl rfl ?_
   obtain ⟨z, ez, hz⟩ : ∃ z, pk bs (j.1.p + 1) 3 = z ∧ z < 3 := ⟨_, rfl, a3r _ _ _ (by omega)⟩
   rw [ez]
   obtain ⟨v, hv⟩ : ∃ x, ([-1, 9999, 10000] : List Int)[z]? = some x := ⟨_, List.getElem?_eq_getElem hz⟩
   refine z0z (f := fun x : Int => [pI x]) (l := [-1, 9999, 10000]) (j := z) rfl rfl a0o rfl s3s rfl rfl hz ?_
   refine a6c (f := fun x : Int => [pI x]) (l := [-1, 9999, 10000]) rfl s3s rfl hv rfl ?_
   refine dv 2 ?_
   exact ⟨({ j.2 with version := v }, j.1.p + 1 + 1, j.2.lanes.map a5o), (by exact ⟨hI.2, by show j.1.p + 1 + 1 ≤ p0 + 15200; omega, (a7c _), by exact (show viT j.2 from b5c fS)⟩), [0, 0, 0, 0, 0, _, _, _, _, _, _, _, _, _, _, _, _, _, _, _, _], x6x, x6x, x5x, x5x, rfl⟩
  refine dc 3 (aI ?_ ?_)<;>intro u<;>try simp at u
  ·refine d7p 5 (b6j v3v 0 5 rfl rfl ?_)
   refine dv 3 ?_
   refine rlM [0] [_] (x1x true bs (j.1.p + 1) (3) (by have := hq; omega) hbs) rfl rfl rfl ?_
   refine dv 1 ?_
   refine b7r c2b (by rfl) [0] [_] (c2j bs hbs (j.1.p + 1 + 1) 3 (by omega) (by omega)) rfl rfl rfl rfl (by decide) rfl rfl f3x (fun _ => (by (simp only [pI, a2f, a2g, c0d, gl, nx, a6z, Nat.beq]; rfl))) (fun _ => (by (simp only [pI, a2f, a2g, c0d, gl, nx, a6z, Nat.beq]; rfl))) ([], j.1.p + 1 + 1) ⟨Nat.zero_le _, by show j.1.p + 1 + 1 ≤ _; omega⟩ fun l hl => ?_
   refine b6k v3v 6 3 rfl rfl ?_
   have h3v : j.2.views.length = 3 := fS.2.2.2.2.2.1
   obtain ⟨z, ez, hz⟩ : ∃ z, pk bs (j.1.p + 1) 3 = z ∧ z < 3 := ⟨_, rfl, a3r _ _ _ (by omega)⟩
   rw [ez]
   obtain ⟨v, hv⟩ := gE j.2.views z
   refine z0z (j := z) rfl rfl a9y rfl r1r rfl rfl (y7y hv) ?_
   refine dv 1 ?_
   refine a8w { v with events := l.1 } rfl rfl u3u rfl rfl rfl hv rfl (by decide) (.val rfl rfl .nil) rfl rfl ?_
   refine c5e (by kernel_rfl) ?_
   exact ⟨({ j.2 with views := j.2.views.set z { v with events := l.1 } }, l.2, j.2.lanes.map a5o), (by exact ⟨hI.2, by show l.2 ≤ p0 + 15200; omega, (a7c _), by exact f3y (n := j.2) (z := z) (v := v) (es := l.1) (b5c fS) (by have := hl.1; omega)⟩), [0, 0, 0, 0, 0, _, _, _, _, _, _, _, _, _, _, _, _, _, _, _, _], x6x, x6x, x5x, x5x, rfl⟩
  refine dc 3 (aI ?_ ?_)<;>intro u<;>try simp at u
  ·obtain ⟨l0, rest, hl⟩ : ∃ l0 rest, j.2.lanes = l0 :: rest := by have h := e5s fS; match hm : j.2.lanes with | [] => (rw [hm] at h; cases h) | a :: r => exact ⟨a, r, rfl⟩
   have hld := (fb.2.2.2.1 l0 (by rw [hl]; exact List.mem_cons_self ..)).1
   rw [hl]
   refine e1w (A := []) (B := rest.map a5o) (cs := a5o l0) (j := 0) 15 4 20 rfl rfl rfl rfl rfl rfl ?_
   refine d7p 8 (b6j v3v 0 8 rfl rfl ?_)
   refine dv 4 ?_
   refine b4g (A := []) (j := 0) rfl rfl a7v rfl a0m rfl rfl rfl ?_
   refine dv 1 ?_
   refine e7a (A := []) rfl rfl a6q rfl rfl ?_
   refine dv 1 ?_
   refine b7r c2b (by rfl) [0] [_] (a6n bs hbs (j.1.p + 1) (by omega)) rfl rfl rfl rfl (by decide) rfl rfl f3x (fun _ => (by (simp only [pI, a2f, a2g, c0d, gl, nx, a6z, Nat.beq]; rfl))) (fun _ => (by (simp only [pI, a2f, a2g, c0d, gl, nx, a6z, Nat.beq]; rfl))) (⟨0, 0, 0, 0, 0, 0, 0⟩, j.1.p + 1) (by show j.1.p + 1 ≤ _; omega) fun e he => ?_
   refine b6k v3v 9 6 rfl rfl ?_
   refine rlB a3q c0m ?_
   refine y2y (id := 12) a6q rfl a3q rfl rfl rfl rfl rfl rfl ?_
   refine y6y (zs := l0.done.map (a0j true) ++ [d9z e.1]) rfl rfl a6q rfl a3q rfl rfl rfl rfl rfl rfl (by (simp only [a0e, r7r, a0b, a0d, a0u, a2z, T58]; omega)) ?_
   refine b4g (A := []) (j := 0) rfl rfl a7v rfl a0m rfl rfl rfl ?_
   refine dv 1 ?_
   refine a7l rfl rfl a6q rfl rfl rfl (Nat.succ_pos _) (s0s rfl) (.ref rfl (e9a _ _) .nil rfl rfl) rfl ?_
   refine c5e (by kernel_rfl) ?_
   exact ⟨({ j.2 with lanes := ⟨l0.proc, l0.base, l0.done ++ [e0a e.1]⟩ :: rest }, e.2, e5r l0 e.1 :: rest.map a5o), (by exact ⟨e5t hI.2 hl e.1, by show e.2 ≤ p0 + 15200; omega, e8z _ _ _, by exact (show viT j.2 from b5c fS)⟩), [0, 0, 0, 0, 0, _, _, _, _, _, _, _, _, _, _, _, _, _, _, _, _], x6x, x6x, x5x, x5x, rfl⟩
  refine dc 3 (aI ?_ ?_)<;>intro u<;>try simp at u
  ·refine dv 1 ?_
   refine x0x rfl rfl rfl (u6u ..) (x0x rfl rfl rfl (u6u ..) (s5s (.int .i64 10000) rfl rfl rfl rfl ?_))
   refine s8s (id := 14) a0o rfl s3s rfl rfl rfl rfl (.val rfl rfl (.val rfl rfl (.val rfl rfl .nil))) rfl (s0s rfl) (s0s rfl) (s0s rfl) rfl rfl ?_
   refine dv 1 ?_
   refine rlM [0] [_] (x1x true bs (j.1.p + 1) (3) (by have := hq; omega) hbs) rfl rfl rfl ?_
   obtain ⟨z, ez, hz⟩ : ∃ z, pk bs (j.1.p + 1) 3 = z ∧ z < 3 := ⟨_, rfl, a3r _ _ _ (by omega)⟩
   rw [ez]
   obtain ⟨v, hv⟩ : ∃ x, ([-1, 9999, 10000] : List Int)[z]? = some x := ⟨_, List.getElem?_eq_getElem hz⟩
   refine z0z (f := fun x : Int => [pI x]) (l := [-1, 9999, 10000]) (j := z) rfl rfl a0o rfl s3s rfl rfl hz ?_
   refine a6c (f := fun x : Int => [pI x]) (l := [-1, 9999, 10000]) rfl s3s rfl hv rfl ?_
   refine dv 2 ?_
   exact ⟨({ j.2 with round := v }, j.1.p + 1 + 1, j.2.lanes.map a5o), (by exact ⟨hI.2, by show j.1.p + 1 + 1 ≤ p0 + 15200; omega, (a7c _), by exact (show viT j.2 from b5c fS)⟩), [0, 0, 0, 0, 0, _, _, _, _, _, _, _, _, _, _, _, _, _, _, _, _], x6x, x6x, x5x, x5x, rfl⟩
  refine dc 3 (aS ?_ ?_)<;>intro u<;>try simp at u
  ·refine dv 1 ?_
   exact ⟨(j.2, j.1.p + 1, j.2.lanes.map a5o), (by exact ⟨hI.2, by show j.1.p + 1 ≤ p0 + 15200; omega, (a7c _), by exact (show viT j.2 from b5c fS)⟩), [0, 0, 0, 0, 0, _, _, _, _, _, _, _, _, _, _, _, _, _, _, _, _], x6x, x6x, x5x, x5x, rfl⟩
  refine dv 6 ?_
  exact ⟨({ j.2 with up := !j.2.up }, j.1.p + 1, j.2.lanes.map a5o), (by exact ⟨hI.2, by show j.1.p + 1 ≤ p0 + 15200; omega, (a7c _), by exact (show viT j.2 from b5c fS)⟩), [0, 0, 0, 0, 0, _, _, _, _, _, _, _, _, _, _, _, _, _, _, _, _], x6x, x6x, x5x, x5x, rfl⟩
 ·try dsimp only [b1e, b1f]
  refine v9v (b := c0e true s.1.lanes) 4 4 rfl rfl rfl (.ref rfl hi.2.2.1 .nil) rfl rfl rfl rfl ?_
  refine v9v (b := c1z true s.1.views) 4 9 rfl rfl rfl (.ref rfl (Le.ow_map _ (fun _ => rfl) (fun _ => rfl)) .nil) rfl rfl rfl rfl ?_
  refine v9v (b := a4p true s.1.known) 4 10 rfl rfl rfl (.ref rfl (Le.ow_map _ (fun _ => rfl) (fun _ => rfl)) .nil) rfl rfl rfl rfl ?_
  refine v9v (b := q3q true s.1.kept) 4 5 rfl rfl rfl (.ref rfl (Le.ow_map _ (fun _ => rfl) (fun _ => rfl)) .nil) rfl rfl rfl rfl ?_
  refine v9v (b := r0r true s.1.outs) 4 6 rfl rfl rfl (.ref rfl (Le.ow_map _ (fun _ => rfl) (fun _ => rfl)) .nil) rfl rfl rfl rfl ?_
  refine dv 6 ?_
  exact ⟨(j.1.w, s.1, s.2.1), ⟨hj1.1, hi.1, hi.2.1, hi.2.2.2⟩, [γ 0], rfl, rfl, x5x⟩
end
section
theorem c5x (bs : List Nat) (hbs : ∀ b ∈ bs, b < 256) (w : Tw) (n : Nd) (hw : c0f w) (hv : viT n) (p0 : Nat) (hp : p0 + 200 ≤ 1000000) : MethE Tryz.prog 167 1 [.ptr 0 0 0, .agg (d5j true w), .agg (u1u true n)] [(0, (0, .box 243 [v8v true bs, .pv (.int .i64 ((p0 : Nat) : Int))]))] (ι := (Int × Int × Int × Int) × List Ev × Nat) (fun S' => S'.2.1.length ≤ 1010 ∧ S'.2.2 ≤ p0 + 200) (fun S' => [0]) (fun S' => .tup [.pv (.int .i64 S'.1.1), .pv (.int .i64 S'.1.2.1), .pv (.int .i64 S'.1.2.2.1), .pv (.int .i64 S'.1.2.2.2), q3q true S'.2.1]) (fun S' => [(0, (0, .box 243 [v8v true bs, .pv (.int .i64 ((S'.2.2 : Nat) : Int))]))]) := by
 refine mE (ι := (Int × Int × Int × Int) × List Ev × Nat) Tryz.f167 (fun S' => [.pv (.int .i64 S'.1.1), .pv (.int .i64 S'.1.2.1), .pv (.int .i64 S'.1.2.2.1), .pv (.int .i64 S'.1.2.2.2), q3q true S'.2.1]) 1 11 fun γ => ?_
 have hv3 := hv.1
 refine dv 1 ?_
 refine y0y (id := 1) rfl rfl rfl (y0y (id := 2) rfl rfl rfl (dv 7 ?_))
 refine rlM [0] [_] (x1x true bs (p0) (3) (by have := hp; omega) hbs) rfl rfl rfl ?_
 refine dv 1 ?_
 obtain ⟨N, eN, hN⟩ : ∃ N, pk bs p0 3 = N ∧ N < 3 := ⟨_, rfl, a3r _ _ _ (by omega)⟩
 rw [eN]
 refine p9p (ι := Nat × Nat) (fun s γ1 => [(11, pI (s.1 : Int))]) (fun s γ1 => [(0, ((γ 0), .box 243 [v8v true bs, pI ((s.2 : Nat) : Int)]))]) (fun s => s.1 < 3 ∧ s.2 ≤ p0 + 2) (q6q [0, 4, 5] rfl) (a0p [1, 2, 3, 4, 5, 6, 7, 8, 9, 10, 11] rfl) ?_ fun s γ1 hi => ?_
 ·refine dc 6 (aS ?_ ?_)<;>intro h<;>try simp at h
  ·refine dv 5 ?_
   exact ⟨(N, p0 + 1), (by exact ⟨hN, by show p0 + 1 ≤ p0 + 2; omega⟩), [], x6x, x6x, x5x, x5x, rfl⟩
  refine dv 1 ?_
  refine rlM [0] [_] (x1x true bs (p0 + 1) (6) (by have := hp; omega) hbs) rfl rfl rfl ?_
  refine dc 2 (aS ?_ ?_)<;>intro h<;>try simp at h
  ·refine dv 1 ?_
   exact ⟨(N, p0 + 1 + 1), (by exact ⟨hN, by show p0 + 1 + 1 ≤ p0 + 2; omega⟩), [], x6x, x6x, x5x, x5x, rfl⟩
  refine dv 2 ?_
  refine x8x (b := 1) rfl rfl (by omega) (s5s (.int .i64 (((N + 1) % 3 : Nat) : Int)) rfl rfl rfl rfl ?_)
  refine dv 1 ?_
  exact ⟨((N + 1) % 3, p0 + 1 + 1), (by exact ⟨by show (N + 1) % 3 < 3; omega, by show p0 + 1 + 1 ≤ p0 + 2; omega⟩), [], x6x, x6x, x5x, x5x, rfl⟩
 ·try dsimp only [b1e, b1f]
  clear eN hN
  obtain ⟨N, q0⟩ := s
  obtain ⟨hN, s2⟩ := hi
  dsimp only at hN s2 ⊢
  refine dv 1 ?_
  refine rlB r1r a4s ?_
  refine x3x (id := 3) r1r a4s rfl (dv 1 ?_)
  refine p9p (ι := Vi) (fun u γ2 => []) (fun u γ2 => [(3, ((0 + 1), .box 190 (a2b true u)))]) (fun u => u.events.length ≤ 1000) (q6q [0, 4, 5, 11, 12] rfl) (a0p [0, 1, 2, 4, 5, 6, 7, 8, 9, 10, 11] rfl) ?_ fun u γ2 hi => ?_
  ·refine e2j 3 rfl (.same (.same (.le (b := q3q true ([] : List Ev)) rfl .nil rfl (LeCs.refl _)))) ?_
   refine dv 5 ?_
   refine s5s (.int .i64 ((n.views.length : Int) - 1)) rfl rfl rfl (a6s rfl (by omega) (by omega) (by omega)) ?_
   refine x0x rfl rfl rfl (z1z (N : Int) 0 ((n.views.length : Int) - 1)) ?_
   refine dc 0 (aS ?_ ?_)<;>intro h<;>try simp at h
   ·refine dv 1 ?_
    exact ⟨vi0, (Nat.zero_le _), [], x6x, x6x, x5x, x5x, rfl⟩
   obtain ⟨vv, hvv⟩ := gE n.views N
   refine dv 7 ?_
   exact ⟨vv, (hv.2 vv (List.mem_of_getElem? hvv)), [], x6x, x6x, x5x, x5x, rfl⟩
  ·try dsimp only [b1e, b1f]
   refine dv 1 ?_
   refine y1y (id := 4) u3u rfl z2z rfl (dv 2 ?_)
   refine w6w (zs := (u.events).map y9y) rfl rfl u3u rfl z2z rfl rfl rfl (z9z (fun _ => rfl) _) rfl (by (simp only [a0e, r7r, a0b, a0d, a0u, a2z, T56]; omega)) ?_
   refine dv 1 ?_
   refine p9p (ι := List Ev × Nat) (fun s γ3 => [(13, .ref 4 (γ3 4))]) (fun s γ3 => [(4, ((γ3 4), .row 56 7 ((s.1).map y9y))), (0, ((γ 0), .box 243 [v8v true bs, pI ((s.2 : Nat) : Int)]))]) (fun s => s.1.length ≤ 1000 ∧ s.2 ≤ p0 + 3) (q6q [0, 5, 11, 12] rfl) (a0p [1, 2, 3, 5, 6, 7, 8, 9, 10, 11] rfl) ?_ fun s γ3 hi => ?_
   ·refine dv 4 ?_
    rw [hw.2.1]
    refine b1p rfl rfl rfl (z5z rfl (d8t rfl rfl (fun hg5 => ?_) (fun hg5 => ?_)))
    rotate_left
    ·simp at hg5
    try simp at hg5
    refine dv 1 ?_
    refine rlM [0] [_] (x1x true bs (q0) (3) (by have := s2; omega) hbs) rfl rfl rfl ?_
    refine dc 2 (aS ?_ ?_)<;>intro h<;>try simp at h
    ·refine dv 1 ?_
     exact ⟨(u.events, q0 + 1), (by exact ⟨hi, by show q0 + 1 ≤ p0 + 3; omega⟩), [0, 0, 0, 0, _], x6x, x6x, x5x, x5x, rfl⟩
    refine f3z 4 rfl (dv 4 ?_)
    obtain ⟨z, hz, hzI⟩ := b3c hw (i := N) (by omega)
    refine dv 4 ?_
    refine rlM [4] [_] (c1i true z hzI.1.1 n.id) rfl rfl rfl ?_
    refine dv 1 ?_
    exact ⟨(c8j z n.id, q0 + 1), (by exact ⟨e5y hzI.1.1 _, by show q0 + 1 ≤ p0 + 3; omega⟩), [0, 0, 0, 0, _], x6x, x6x, x5x, x5x, rfl⟩
   ·try dsimp only [b1e, b1f]
    obtain ⟨l0, q1⟩ := s
    obtain ⟨s3, s4⟩ := hi
    dsimp only at s3 s4 ⊢
    refine dv 3 fun K K' => ?_
    refine rlM [0] [_] (x1x true bs (q1) (3) (by have := s4; omega) hbs) rfl rfl rfl ?_
    refine dv 1 ?_
    obtain ⟨M, eM, hM⟩ : ∃ M, pk bs q1 3 = M ∧ M ≤ 3 := ⟨_, rfl, b2g _ _ _⟩
    rw [eM]
    refine dv 1 ?_
    refine x4x (ι := List Ev × Nat × Nat) (fun p γ4 => [(13, .ref 4 (γ4 4)), (14, pI (p.2.2 : Int))]) (fun p γ4 => [(4, ((γ4 4), .row 56 7 ((p.1).map y9y))), (0, ((γ 0), .box 243 [v8v true bs, pI ((p.2.1 : Nat) : Int)])), (6, ((γ4 6), .dead)), (7, ((γ4 7), .dead)), (8, ((γ4 8), .dead))]) (fun p => p.1.length + p.2.2 ≤ 1010 ∧ p.2.1 + 11 * p.2.2 ≤ p0 + 60) (fun p => p.2.2) (q6q [0, 5, 11, 12] rfl) (a0p [1, 2, 3, 5, 9, 10, 11] rfl) (l0, q1 + 1, M) ⟨by show l0.length + M ≤ 1010; omega, by show q1 + 1 + 11 * M ≤ p0 + 60; omega⟩ [0, 0, 0, 0, _, 0, _, _, _] x6x x5x rfl fun p γ4 hi => ?_
    obtain ⟨l, q, k⟩ := p
    obtain ⟨h1, h2⟩ := hi
    dsimp only at h1 h2 ⊢
    refine dc 4 (fun K K' => aI ?_ ?_)<;>intro h<;>try simp at h
    ·obtain ⟨k', rfl⟩ : ∃ k', k = k' + 1 := ⟨k - 1, by omega⟩
     refine dv 3 fun K K' => ?_
     refine a0i fun B X0 w0 => ?_
     refine txR 1 rfl rfl (dv 1 ?_)
     refine txM [0] [_] (a6n bs hbs q (by omega)) rfl rfl rfl rfl fun e he => ?_
     refine txR 2 rfl rfl (x3x (id := 6) z2z a7w rfl (dv 1 ?_))
     refine u2u rfl (dv 4 ?_)
     refine p9p (ι := Ev × Nat) (fun s γ5 => []) (fun s γ5 => [(0, ((γ 0), .box 243 [v8v true bs, pI ((s.2 : Nat) : Int)])), (6, ((γ4 6 + 1), .box 56 (y9y s.1)))]) (fun s => s.2 ≤ q + 11) (q6q [0, 5, 11, 12, 13, 14, 15] rfl) (a0p [1, 2, 3, 4, 5, 7, 8, 9, 10, 11] rfl) ?_ fun s γ5 hi => ?_
     ·refine dc 5 (aS ?_ ?_)<;>intro h<;>try simp at h
      ·refine dv 1 ?_
       exact ⟨({ e.1 with from' := (N : Int) }, e.2), (by show e.2 ≤ q + 11; omega), [], x6x, x6x, x5x, x5x, rfl⟩
      refine dv 7 ?_
      refine rlM [0] [_] (x1x true bs (e.2) (n.lanes.length) (by have := he; omega) hbs) rfl rfl rfl ?_
      obtain ⟨z, ez, hz⟩ : ∃ z, pk bs e.2 n.lanes.length = z ∧ z < n.lanes.length := ⟨_, rfl, a3r _ _ _ (by omega)⟩
      rw [ez]
      obtain ⟨la, hla⟩ : ∃ la, n.lanes[z]? = some la := ⟨_, List.getElem?_eq_getElem hz⟩
      refine dv 5 ?_
      exact ⟨({ e.1 with from' := (N : Int), to := la.proc }, e.2 + 1), (by show e.2 + 1 ≤ q + 11; omega), [], x6x, x6x, x5x, x5x, rfl⟩
     ·try dsimp only [b1e, b1f]
      refine dv 3 ?_
      refine y2y (id := 7) u3u rfl z2z rfl rfl rfl rfl rfl rfl ?_
      refine e9c v3v (zs := (l ++ [s.1]).map y9y) (zs' := (l ++ [s.1]).map y9y) rfl rfl u3u rfl z2z rfl rfl rfl rfl (by rfl) (z7z y9y l s.1) (by (simp only [a0e, r7r, a0b, a0d, a0u, a2z, T56]; omega)) (Le.ow_map _ (fun _ => rfl) (fun _ => rfl)) ?_
      refine rlM [4] [_] (a6j true (l ++ [s.1]) (by rw [List.length_append, List.length_cons, List.length_nil]; omega)) rfl rfl rfl ?_
      refine dv 3 ?_
      refine p6p (b := 1) rfl rfl (by omega) (by omega) (dv 1 ?_)
      exact ⟨(z4z (l ++ [s.1]), s.2, k'), ⟨⟨by show (z4z (l ++ [s.1])).length + k' ≤ 1010; have := c8b (l ++ [s.1]); rw [List.length_append, List.length_cons, List.length_nil] at this; omega, by show s.2 + 11 * k' ≤ p0 + 60; omega⟩, (by show k' < k' + 1; omega)⟩, [0, 0, 0, 0, _, 0, _, _, _], x6x, x6x, x5x, x5x, rfl⟩
    refine dv 1 ?_
    refine p9p (ι := List Ev × Nat) (fun s γ6 => [(13, q3q true s.1)]) (fun s γ6 => [(4, ((γ6 4), .dead)), (0, ((γ 0), .box 243 [v8v true bs, pI ((s.2 : Nat) : Int)])), (9, ((γ6 9), .dead)), (10, ((γ6 10), .dead)), (11, ((γ6 11), .dead))]) (fun s => s.1.length ≤ 1010 ∧ s.2 ≤ p0 + 70) (q6q [0, 11, 12] rfl) (a0p [1, 2, 3, 5, 6, 7, 8] rfl) ?_ fun s γ6 hi => ?_
    ·refine dv 2 ?_
     refine a3w (n := l.length) rfl u3u rfl rfl (List.length_map _) ?_
     refine dc 2 (aS ?_ ?_)<;>intro h<;>try simp at h
     ·refine dv 4 ?_
      refine p7p (f := y9y) 13 rfl rfl (fun _ => rfl) ?_
      refine dv 1 ?_
      exact ⟨(l, q), (by exact ⟨by show l.length ≤ 1010; omega, by show q ≤ p0 + 70; omega⟩), [0, 0, 0, 0, _, 0, 0, 0, 0, _, _, _], x6x, x6x, x5x, x5x, rfl⟩
     refine dv 1 ?_
     refine rlM [0] [_] (x1x true bs (q) (3) (by have := h2; omega) hbs) rfl rfl rfl ?_
     refine dc 2 (aS ?_ ?_)<;>intro h<;>try simp at h
     ·refine p7p (f := y9y) 13 rfl rfl (fun _ => rfl) ?_
      refine dv 1 ?_
      exact ⟨(l, q + 1), (by exact ⟨by show l.length ≤ 1010; omega, by show q + 1 ≤ p0 + 70; omega⟩), [0, 0, 0, 0, _, 0, 0, 0, 0, _, _, _], x6x, x6x, x5x, x5x, rfl⟩
     refine dv 3 ?_
     refine a3w (n := l.length) rfl u3u rfl rfl (List.length_map _) ?_
     refine rlM [0] [_] (x1x true bs (q + 1) (l.length) (by have := h2; omega) hbs) rfl rfl rfl ?_
     refine dv 1 ?_
     obtain ⟨j, ej, hj⟩ : ∃ j, pk bs (q + 1) l.length = j ∧ j < l.length := ⟨_, rfl, a3r _ _ _ (by omega)⟩
     rw [ej]
     refine dv 1 ?_
     refine y1y (id := 9) u3u rfl z2z rfl (dv 2 ?_)
     refine c7v v3v rfl u3u rfl z2z rfl rfl rfl rfl (by omega) (by omega) (by (simp only [a0e]; omega)) ?_
     refine b1z (f := y9y) (l := []) (l2 := l) (l' := l.take j) rfl rfl u3u rfl z2z rfl rfl rfl rfl (z9z (fun _ => rfl) _) (by (simp; done)) (by simp only [a0u, b3x, r7r, a0b, a0d, T56]; omega) ?_
     refine dv 2 ?_
     refine s5s (.int .i64 ((j + 1 : Nat) : Int)) rfl rfl rfl (a6s rfl (by omega) (by omega) (by omega)) ?_
     refine c7v v3v rfl u3u rfl z2z rfl rfl rfl rfl (by omega) (by (simp only [a0e]; omega)) (by omega) ?_
     refine e9d v3v (f := y9y) (l := l.take j) (l2 := l) (l' := (l.take j ++ l.drop (j + 1))) rfl rfl u3u rfl z2z rfl rfl rfl rfl (fun _ => rfl) (z9z (fun _ => rfl) _) (by (simp; done)) (by simp only [a0u, b3x, r7r, a0b, a0d, T56]; omega) ?_
     refine dv 1 ?_
     exact ⟨((l.take j ++ l.drop (j + 1)), q + 1 + 1), (by exact ⟨by show ((l.take j ++ l.drop (j + 1))).length ≤ 1010; rw [List.length_append, List.length_take, List.length_drop]; omega, by show q + 1 + 1 ≤ p0 + 70; omega⟩), [0, 0, 0, 0, _, 0, 0, 0, 0, _, _, _], x6x, x6x, x5x, x5x, rfl⟩
    ·try dsimp only [b1e, b1f]
     obtain ⟨l2, q2⟩ := s
     obtain ⟨s5, s6⟩ := hi
     dsimp only at s5 s6 ⊢
     refine dv 3 fun K K' => ?_
     refine rlM [0] [_] (x1x true bs (q2) (6) (by have := s6; omega) hbs) rfl rfl rfl ?_
     refine dc 1 (aI ?_ ?_)<;>intro h<;>try simp at h
     ·refine dv 4 ?_
      refine z8z rfl rfl rfl (dv 2 ?_)
      refine z8z rfl rfl rfl (dv 1 ?_)
      refine rlM [0] [_] (x1x true bs (q2 + 1) (6) (by have := s6; omega) hbs) rfl rfl rfl ?_
      refine z8z rfl rfl rfl (dv 7 ?_)
      exact ⟨(((N : Int), _, _, _), l2, q2 + 1 + 1), ⟨s5, by show q2 + 1 + 1 ≤ p0 + 200; omega⟩, [γ 0], rfl, rfl, x5x⟩
     refine dv 6 ?_
     refine rlM [0] [_] (x1x true bs (q2 + 1) (4) (by have := s6; omega) hbs) rfl rfl rfl ?_
     refine z8z rfl rfl rfl (z8z rfl rfl rfl (dv 1 ?_))
     refine y8y (out := pI u.version) rfl s3s rfl rfl ?_
     refine dv 1 ?_
     refine rlM [0] [_] (x1x true bs (q2 + 1 + 1) (3) (by have := s6; omega) hbs) rfl rfl rfl ?_
     refine z8z rfl rfl rfl (dv 1 ?_)
     refine rlM [0] [_] (x1x true bs (q2 + 1 + 1 + 1) (6) (by have := s6; omega) hbs) rfl rfl rfl ?_
     refine z8z rfl rfl rfl (dv 7 ?_)
     exact ⟨(((N : Int), _, _, _), l2, q2 + 1 + 1 + 1 + 1), ⟨s5, by show q2 + 1 + 1 + 1 + 1 ≤ p0 + 200; omega⟩, [γ 0], rfl, rfl, x5x⟩
end
section
theorem b7z (bs : List Nat) (hbs : ∀ b ∈ bs, b < 256)  : MethE Tryz.prog 69 0 [v8v true bs] [] (ι := Nd × (Int × Int × Int × Int) × List Ev) (fun S' => c6g S'.1 ∧ S'.2.2.length ≤ 1010) (fun S' => []) (fun S' => .tup [.agg (u1u true S'.1), .pv (.int .i64 S'.2.1.1), .pv (.int .i64 S'.2.1.2.1), .pv (.int .i64 S'.2.1.2.2.1), .pv (.int .i64 S'.2.1.2.2.2), q3q true S'.2.2]) (fun S' => []) := by
 refine mE (ι := Nd × (Int × Int × Int × Int) × List Ev) Tryz.f69 (fun S' => [.agg (u1u true S'.1), .pv (.int .i64 S'.2.1.1), .pv (.int .i64 S'.2.1.2.1), .pv (.int .i64 S'.2.1.2.2.1), .pv (.int .i64 S'.2.1.2.2.2), q3q true S'.2.2]) 0 4 fun γ => ?_
 refine dv 1 ?_
 refine x3x (id := 0) u9u q1q rfl (dv 7 ?_)
 refine rlM [3] [_] (d0r true bs) rfl rfl rfl ?_
 refine dv 1 ?_
 refine a0i fun B X0 w0 => ?_
 refine txR 1 rfl rfl (dv 1 ?_)
 refine txM [3] [_] (b7y (bs.take 2000) (fun b hb => hbs b (List.mem_of_mem_take hb)) 0 (by omega)) rfl rfl rfl rfl fun j hj => ?_
 refine txR 7 rfl rfl (dv 3 ?_)
 refine x3x (id := 1) b7c c0l rfl (x3x (id := 2) u9u q1q rfl (dv 2 ?_))
 refine u2u rfl (a0i fun B X0 w0 => ?_)
 refine txR 3 rfl rfl (dv 3 ?_)
 refine txM [3] [_] (c5x (bs.take 2000) (fun b hb => hbs b (List.mem_of_mem_take hb)) j.1 j.2.1 hj.1 hj.2.2.2 j.2.2 (by have := hj.2.2.1; omega)) rfl rfl rfl rfl fun u hu => ?_
 refine txR 11 rfl rfl (dv 11 ?_)
 refine u2u rfl (dv 14 ?_)
 exact ⟨(j.2.1, u.1, u.2.1), ⟨hj.2.1, hu.1⟩, [], rfl, rfl, x5x⟩
end
section
def b0y (l : List Ev) : List (Value × AV) := (q4q l).map fun k => (c6e (evN k), pI (l.count k : Nat))
def a4q (l : List Ev) (e : Ev) : Nat := (a7y (q4q l) e).getD (q4q l).length
def b8a (l : List Ev) (e : Ev) : List (Value × AV) := if e ∈ l then b0y l else b0y l ++ [(c6e (evN e), pI (l.count e : Nat))]
theorem a2q (l : List Ev) : (b0y l).map (·.1) = (q4q l).map fun k => c6e (evN k) := by
 rw [b0y, List.map_map]; rfl
variable {l : List Ev} {e : Ev}
theorem d8i {j : Nat} (h : a7y (q4q l) e = some j) : (b0y l)[j]? = some (c6e (evN e), pI (l.count e : Nat)) := by
 rw [b0y, List.getElem?_map, b7i h]; rfl
theorem d0x (h : a7y (q4q l) e = none) : e ∉ l ∧ l.count e = 0 := by
 have := b4e.1 h
 rw [a2k] at this
 exact ⟨this, List.count_eq_zero.2 this⟩
variable {tt : TT} {et : TypeId} {S : TS}
theorem c1m (hs : tt et = some S) (hz : c0p S = pI 0) (l : List Ev) (e : Ev) : (∃ j kv, a7y (q4q l) e = some j ∧ (b0y l)[j]? = some (kv, pI (l.count e : Nat))) ∨ (a7y (q4q l) e = none ∧ ∃ S, tt et = some S ∧ pI (l.count e : Nat) = c0p S) := by
 cases h : a7y (q4q l) e with
 | some j => exact .inl ⟨j, _, rfl, d8i h⟩
 | none => exact .inr ⟨rfl, S, hs, by rw [hz, (d0x h).2]; rfl⟩
theorem a5k (hs : tt et = some S) (hz : c0p S = pI 0) (l : List Ev) (e : Ev) :
  (a7y (q4q l) e = some (a4q l e) ∧ (b0y l)[a4q l e]? = some (c6e (evN e), pI (l.count e : Nat)) ∧ b8a l e = b0y l) ∨
   (a7y (q4q l) e = none ∧ a4q l e = (b0y l).length ∧ b8a l e = b0y l ++ [(c6e (evN e), pI (l.count e : Nat))] ∧ ∃ S, tt et = some S ∧ pI (l.count e : Nat) = c0p S) := by
 cases h : a7y (q4q l) e with
 | some j =>
  have hm : e ∈ l := by
   rw [← a2k]; exact List.mem_of_getElem? (b7i h)
  have hp : a4q l e = j := by rw [a4q, h]; rfl
  exact .inl ⟨by rw [hp], by rw [hp]; exact d8i h, if_pos hm⟩
 | none =>
  have hn := d0x h
  exact .inr ⟨rfl, by rw [a4q, h, b0y, List.length_map]; rfl, if_neg hn.1, S, hs, by rw [hz, hn.2]; rfl⟩
theorem a2r (l : List Ev) (e : Ev) : (b8a l e)[a4q l e]? = some (c6e (evN e), pI (l.count e : Nat)) := by
 rcases a5k (tt := fun _ => some ⟨.oth, 1, 8, [.int .i64 0]⟩) (et := 0) rfl rfl l e with ⟨h1, h2, h3⟩ | ⟨h1, h2, h3, _⟩
 ·rw [h3]; exact h2
 ·rw [h3, h2, List.getElem?_append_right (Nat.le_refl _), Nat.sub_self]; rfl
def e9k (l : List Ev) (e : Ev) : List Ev := if e ∈ l then q4q l else q4q l ++ [e]
theorem b5w (l : List Ev) (e : Ev) : (b8a l e).map (·.1) = (e9k l e).map fun k => c6e (evN k) := by
 unfold b8a e9k
 split
 ·exact a2q l
 ·rw [List.map_append, List.map_append, a2q]; rfl
theorem d3t {κ : Type} [DecidableEq κ] {k : κ} : ∀ {ks : List κ}, a7y ks k = none → a7y (ks ++ [k]) k = some ks.length
 | [], _ => by simp [a7y]
 | a :: r, h => by
  simp only [a7y] at h
  split at h
  ·cases h
  ·rename_i hne
   simp only [List.cons_append, a7y, if_neg hne, List.length_cons]
   rw [d3t (by simpa using h)]; rfl
theorem b5x (l : List Ev) (e : Ev) : (∃ j kv, a7y (e9k l e) e = some j ∧ (b8a l e)[j]? = some (kv, pI (l.count e : Nat))) ∨ (a7y (e9k l e) e = none ∧ ∃ S, tt et = some S ∧ pI (l.count e : Nat) = c0p S) := by
 refine .inl ⟨a4q l e, _, ?_, a2r l e⟩
 unfold e9k
 cases h : a7y (q4q l) e with
 | some j =>
  have hm : e ∈ l := by rw [← a2k]; exact List.mem_of_getElem? (b7i h)
  rw [if_pos hm, a4q, h]; rfl
 | none => rw [if_neg (d0x h).1, d3t h, a4q, h]; rfl
theorem a3i (l : List Ev) (e : Ev) : (b8a l e).set (a4q l e) (c6e (evN e), pI ((l.count e + 1 : Nat) : Int)) = b0y (l ++ [e]) := by
 have hc : ∀ k, k ≠ e → (l ++ [e]).count k = l.count k := fun k hk => by
  rw [List.count_append, List.count_singleton]
  simp [Ne.symm hk]
 have hce : (l ++ [e]).count e = l.count e + 1 := by
  rw [List.count_append, List.count_singleton]; simp
 by_cases hm : e ∈ l
 ·have ho : q4q (l ++ [e]) = q4q l := by rw [b2o, if_pos ((a2k e l).2 hm)]
  obtain ⟨j, hj⟩ := d1r ((a2k e l).2 hm)
  have hp : a4q l e = j := by rw [a4q, hj]; rfl
  have hg := b7i hj
  rw [b8a, if_pos hm, hp, b0y, b0y, ho]
  apply List.ext_getElem?
  intro i
  rw [List.getElem?_set, List.getElem?_map, List.length_map]
  by_cases hi : j = i
  ·subst hi
   rw [if_pos rfl, if_pos (List.getElem?_eq_some_iff.1 hg).1, List.getElem?_map, hg]
   simp only [Option.map_some, hce]
  ·rw [if_neg hi, List.getElem?_map]
   cases hk : (q4q l)[i]? with
   | none => rfl
   | some k =>
    have hne : k ≠ e := fun h => by
     subst h
     exact hi ((List.getElem?_inj (List.getElem?_eq_some_iff.1 hg).1 (c1w l)).1 (hg.trans hk.symm))
    simp only [Option.map_some, hc k hne]
 ·have h0 : a7y (q4q l) e = none := b4e.2 (by rw [a2k]; exact hm)
  have ho : q4q (l ++ [e]) = q4q l ++ [e] := by rw [b2o, if_neg (by rw [a2k]; exact hm)]
  have hp : a4q l e = (b0y l).length := by rw [a4q, h0, b0y, List.length_map]; rfl
  rw [b8a, if_neg hm, hp, List.set_append_right _ _ (Nat.le_refl _), Nat.sub_self, List.set_cons_zero, b0y, b0y, ho, List.map_append]
  congr 1
  ·refine List.map_congr_left fun k hk => ?_
   rw [hc k (fun h => hm ((a2k e l).1 (h ▸ hk)))]
  ·simp only [List.map_cons, List.map_nil, hce]
theorem d5r : (l ++ [e]).count e = 1 → b5y a2t (q4q (l ++ [e])) = c2d a2t (b5y a2t (q4q l)) e := fun h => by
 have : e ∉ l := by
  rw [List.count_append, List.count_singleton] at h
  exact List.count_eq_zero.1 (by simpa using h)
 rw [b2o, if_neg (by rw [a2k]; exact this), d9j]
theorem d5s : ¬ (l ++ [e]).count e = 1 → q4q (l ++ [e]) = q4q l := fun h => by
 have : e ∈ l := by
  rw [List.count_append, List.count_singleton] at h
  refine Classical.byContradiction fun hn => h ?_
  rw [List.count_eq_zero.2 hn]; simp
 rw [b2o, if_pos (by rw [a2k]; exact this)]
end
section
theorem a7p (l : List Ev) (x : Ev) (hl : l.length ≤ 1000000000) : Meth Tryz.prog 275 2 [0] [.ptr 0 0 0, .agg (y9y x)] [(0, (0, .box 303 [.ref 1 0, .fn (.func 127) [] []])), (1, (0, .row 153 7 ((l).map y9y)))] (.tup []) [(0, (0, .box 303 [.ref 1 0, .fn (.func 127) [] []])), (1, (0, .row 153 7 ((c2d a2t l x).map y9y)))] := by
 refine mX Tryz.f275 [] 2 3 fun γ => ?_
 refine dv 1 ?_
 refine y0y (id := 2) rfl rfl rfl (dv 7 ?_)
 refine y2y (id := 3) a2w rfl r9r rfl rfl rfl rfl rfl rfl (y6y rfl rfl a2w rfl r9r rfl rfl rfl rfl (by rfl) (z7z _ _ _) (by (simp only [a0e, r7r, a0b, a0d, T153]; omega)) ?_)
 refine dv 9 ?_
 refine p6p (b := 1) rfl rfl (by (simp; done)) (by (simp; omega)) ?_
 refine dv 2 ?_
 refine x4x (ι := Nat × List Ev) (fun i γ1 => [(4, pI (i.1 : Int))]) (fun i γ1 => [(1, ((γ1 1), .row 153 7 ((i.2).map y9y))), (0, ((γ 0), .box 303 [.ref 1 (γ1 1), .fn (.func 127) [] []]))]) (fun i => b0h a2t i.2 i.1 = c2d a2t l x ∧ i.1 < i.2.length ∧ i.2.length = l.length + 1) (fun i => i.1) (x7x 0 rfl Cov.nil) (a0p [2, 3, 4] rfl) (l.length, l ++ [x]) ⟨rfl, by simp, by simp⟩ [0, _] (Cov.cons' (t := 4) rfl (by simp) Cov.nil) x5x rfl fun i γ1 hi => ?_
 obtain ⟨k, m⟩ := i
 obtain ⟨h1, h2, h3⟩ := hi
 dsimp only at h1 h2 h3 ⊢
 refine dc 4 (fun K K' => aS ?_ ?_)<;>intro h<;>try simp at h
 ·have hk : k = 0 := by omega
  subst hk
  have hfin := siftUp_zero.symm.trans h1
  refine dv 1 ?_
  exact ⟨[γ 0, _], rfl, rfl, HE.box rfl rfl (HE.row rfl (by rw [← hfin]) HE.nil)⟩
 obtain ⟨a, ha⟩ := gE m k
 obtain ⟨b, hb⟩ := gE m ((k - 1) / 2)
 have hp : (k - 1) / 2 < k := by omega
 refine dv 4 ?_
 refine p6p (b := 1) rfl rfl (by omega) (by omega) (d4k (b := 2) rfl rfl (by omega) (by omega) (dv 12 fun K K' => ?_))
 refine z0z (j := k) rfl rfl a2w rfl r9r rfl rfl (by omega) ?_
 refine dv 6 ?_
 refine z0z (j := (k - 1) / 2) rfl rfl a2w rfl r9r rfl rfl (by omega) ?_
 refine dv 1 ?_
 refine x0x rfl rfl rfl (a7e _ _) (dc 1 (aI ?_ ?_))<;>intro hc4<;>try simp at hc4
 ·have hfin := (c3x ha hb hc4).symm.trans h1
  refine dv 1 ?_
  exact ⟨[γ 0, _], rfl, rfl, HE.box rfl rfl (HE.row rfl (by rw [← hfin]) HE.nil)⟩
 have hg := hc4
 refine dv 17 ?_
 refine z0z (j := (k - 1) / 2) rfl rfl a2w rfl r9r rfl rfl (by omega) ?_
 refine dv 6 ?_
 refine z0z (j := k) rfl rfl a2w rfl r9r rfl rfl (by omega) ?_
 refine dv 1 ?_
 refine z0z (j := k) rfl rfl a2w rfl r9r rfl rfl (by omega) ?_
 refine v6v (el' := b) rfl rfl r9r rfl rfl rfl ha rfl (a3o _) rfl rfl ?_
 refine z0z (j := (k - 1) / 2) rfl rfl a2w rfl r9r rfl rfl (by rw [List.length_set]; omega) ?_
 refine v6v (el' := a) rfl rfl r9r rfl rfl rfl (by rw [List.getElem?_set_ne (by omega)]; exact hb) rfl (a3o _) rfl rfl ?_
 refine dv 3 ?_
 exact ⟨((k - 1) / 2, sw m k ((k - 1) / 2)), ⟨⟨by rw [← h1, c3w (by omega) ha hb hg], by rw [b6g]; dsimp only; omega, by rw [b6g]; exact h3⟩, (by dsimp only; omega)⟩, [0, _], x6x, x6x, (HE.row rfl (by rw [f1t ha hb]) (HE.box rfl rfl HE.nil)), x5x, rfl⟩
theorem a8e (m : Ev) (r : List Ev) (hl : r.length ≤ 1000000000) : Meth Tryz.prog 305 2 [0] [.ptr 0 0 0] [(0, (0, .box 303 [.ref 1 0, .fn (.func 127) [] []])), (1, (0, .row 153 7 ((m :: r).map y9y)))] (.agg (y9y m)) [(0, (0, .box 303 [.ref 1 0, .fn (.func 127) [] []])), (1, (0, .row 153 7 ((b7m a2t (m :: r)).map y9y)))] := by
 refine p4p v3v (fn := Tryz.f305) (by kernel_rfl) (by kernel_rfl) rfl (O0 := [.agg (y9y m)]) 2 2 (s0s rfl) (by rfl) (by repeat (first | exact BndH.nil | refine BndH.box rfl ?_ | refine BndH.row (w2w fun _ => rfl) ?_)) (by repeat (first | exact BndH.nil | refine BndH.box rfl ?_ | refine BndH.row (w2w fun _ => rfl) ?_)) (by rfl) fun γ => ?_
 show Ex Tryz.prog _ _ [(0, .ptr 0 (γ 0) 0)] [(0, ((γ 0), .box 303 [.ref 1 (γ 1), .fn (.func 127) [] []])), (1, ((γ 1), .row 153 7 ((m :: r).map y9y))), (3, (0, .dead)), (2, (0, .dead))] _
 obtain ⟨T0, hT⟩ : ∃ T0, T0 = ((m :: r).set 0 ((m :: r).getLast (by simp))).take r.length := ⟨_, rfl⟩
 have hres : b7m a2t (m :: r) = a3c a2t T0 0 := by rw [hT]; rfl
 have hTl : T0.length = r.length := by rw [hT]; simp
 have hlast : (m :: r)[(m :: r).length - 1]? = some ((m :: r).getLast (by simp)) := by rw [← List.getLast?_eq_getElem?, List.getLast?_eq_some_getLast]
 refine exR (x3x (id := 2) r9r c7t rfl (exR (z5z rfl (b1m rfl rfl (u7u rfl e1a rfl rfl a2w rfl rfl (y8y rfl a2w rfl rfl ?_))))))
 refine z0z (j := 0) rfl rfl a2w rfl r9r rfl rfl (by simp) ?_
 refine a0g rfl r9r rfl (show (m :: r)[0]? = some m from rfl) rfl rfl ?_
 refine x3x (id := 3) r9r c7t rfl (dv 7 ?_)
 refine p6p (b := 1) rfl rfl (by (simp; done)) (by (simp; omega)) ?_
 refine dv 11 ?_
 refine z0z (j := (m :: r).length - 1) rfl rfl a2w rfl r9r rfl rfl (by simp) ?_
 refine dv 1 ?_
 refine z0z (j := 0) rfl rfl a2w rfl r9r rfl rfl (by simp) ?_
 refine v6v (el' := ((m :: r).getLast (by simp))) rfl rfl r9r rfl rfl rfl (show (m :: r)[0]? = some m from rfl) rfl (a3o _) rfl rfl ?_
 refine dv 7 ?_
 refine e6x v3v (u := (m :: r).length - 1) (ys := T0.map y9y) rfl a2w rfl r9r rfl rfl rfl (by (simp; done)) (by rw [hT, List.map_take]; rfl) ?_
 refine dv 6 ?_
 refine x4x (ι := Nat × List Ev) (fun i γ1 => [(5, pI (i.1 : Int))]) (fun i γ1 => [(1, ((γ1 1), .row 153 7 ((i.2).map y9y))), (0, ((γ 0), .box 303 [.ref 1 (γ1 1), .fn (.func 127) [] []]))]) (fun i => a3c a2t i.2 i.1 = b7m a2t (m :: r) ∧ i.2.length = r.length ∧ i.1 ≤ r.length) (fun i => i.2.length - i.1) (q6q [0, 2, 3, 4] rfl) (a0p [2, 3] rfl) (0, T0) ⟨hres.symm, hTl, by omega⟩ [0, _] x6x x5x rfl fun i γ1 hi => ?_
 obtain ⟨k, t⟩ := i
 obtain ⟨h1, h2, h3⟩ := hi
 dsimp only at h1 h2 h3 ⊢
 refine dv 3 ?_
 refine c0o (a := 2) rfl rfl (by omega) (x8x (b := 1) rfl rfl (by omega) (dc 6 (fun K K' => aI ?_ ?_)))<;>intro h<;>try simp at h
 ·have hfin := (a8i (lt := a2t) (l := t) (k := k) (by omega)).symm.trans h1
  refine dv 4 ?_
  exact ⟨[γ 0, _], rfl, rfl, HE.box rfl rfl (HE.row rfl (by rw [← hfin]) HE.nil)⟩
 have hlt : 2 * k + 1 < t.length := by omega
 refine dv 1 ?_
 refine p9p (ι := Unit) (fun _i γ2 => [(6, pI (a5t a2t t k : Int))]) (fun _i γ2 => []) (fun _i => True) (q6q [0, 2, 3, 4, 5] rfl) (a0p [0, 1, 2, 3] rfl) ?_ fun _i γ2 hi => ?_
 ·refine dv 2 ?_
  refine x8x (b := 1) rfl rfl (by omega) (dc 3 (aS ?_ ?_))<;>intro h<;>try simp at h
  ·have hlt2 : ¬ 2 * k + 2 < t.length := by omega
   refine dv 22 ?_
   exact ⟨(), trivial, [], (Cov.cons' (t := 6) rfl (by rw [f1w (by omega)]) Cov.nil), x6x, x5x, x5x, rfl⟩
  have hlt2 : 2 * k + 1 + 1 < t.length := by omega
  obtain ⟨c1, hc1⟩ := gE t (2 * k + 1 + 1)
  obtain ⟨d1, hd1⟩ := gE t (2 * k + 1)
  refine dv 9 ?_
  refine x8x (b := 1) rfl rfl (by omega) (dv 0 ?_)
  refine z0z (j := 2 * k + 1 + 1) rfl rfl a2w rfl r9r rfl rfl (by omega) ?_
  refine dv 6 ?_
  refine z0z (j := 2 * k + 1) rfl rfl a2w rfl r9r rfl rfl (by omega) ?_
  refine dv 1 ?_
  refine x0x rfl rfl rfl (a7e _ _) (dc 1 (aS ?_ ?_))<;>intro hc4<;>try simp at hc4
  ·try have hl1 := hc4
   refine dv 1 ?_
   exact ⟨(), trivial, [], (Cov.cons' (t := 6) rfl (by rw [f1v hc1 hd1 hl1]) Cov.nil), x6x, x5x, x5x, rfl⟩
  have hl1 := hc4
  refine dv 2 ?_
  refine x8x (b := 1) rfl rfl (by omega) (dv 1 ?_)
  exact ⟨(), trivial, [], (Cov.cons' (t := 6) rfl (by rw [f1u hc1 hd1 hl1]) Cov.nil), x6x, x5x, x5x, rfl⟩
 ·try dsimp only [b1e, b1f]
  have hch := b5p (lt := a2t) t k
  obtain ⟨a, ha⟩ := gE t (a5t a2t t k)
  obtain ⟨b, hb⟩ := gE t k
  refine dv 11 fun K K' => ?_
  refine z0z (j := a5t a2t t k) rfl rfl a2w rfl r9r rfl rfl (by omega) ?_
  refine dv 6 ?_
  refine z0z (j := k) rfl rfl a2w rfl r9r rfl rfl (by omega) ?_
  refine dv 1 ?_
  refine x0x rfl rfl rfl (a7e _ _) (dc 1 (aI ?_ ?_))<;>intro hc7<;>try simp at hc7
  ·have hfin := (b9f ha hb hc7).symm.trans h1
   refine dv 4 ?_
   exact ⟨[γ 0, _], rfl, rfl, HE.box rfl rfl (HE.row rfl (by rw [← hfin]) HE.nil)⟩
  have hg := hc7
  refine dv 17 ?_
  refine z0z (j := a5t a2t t k) rfl rfl a2w rfl r9r rfl rfl (by omega) ?_
  refine dv 6 ?_
  refine z0z (j := k) rfl rfl a2w rfl r9r rfl rfl (by omega) ?_
  refine dv 1 ?_
  refine z0z (j := k) rfl rfl a2w rfl r9r rfl rfl (by omega) ?_
  refine v6v (el' := a) rfl rfl r9r rfl rfl rfl hb rfl (a3o _) rfl rfl ?_
  refine z0z (j := a5t a2t t k) rfl rfl a2w rfl r9r rfl rfl (by rw [List.length_set]; omega) ?_
  refine v6v (el' := b) rfl rfl r9r rfl rfl rfl (by rw [List.getElem?_set_ne (by omega)]; exact ha) rfl (a3o _) rfl rfl ?_
  refine dv 3 ?_
  exact ⟨(a5t a2t t k, sw t (a5t a2t t k) k), ⟨⟨by rw [← h1, b9e (by omega) ha hb hg], by rw [b6g]; exact h2, by dsimp only; omega⟩, (by dsimp only; rw [b6g]; omega)⟩, [0, _], x6x, x6x, (HE.row rfl (by rw [f1t ha hb, List.set_comm _ _ (by omega)]) (HE.box rfl rfl HE.nil)), x5x, rfl⟩
theorem a6x (l : List Ev) (hl : l.length ≤ 1000000000) : Meth Tryz.prog 276 2 [0] [.ptr 0 0 0] [(0, (0, .box 303 [.ref 1 0, .fn (.func 127) [] []])), (1, (0, .row 153 7 ((l).map y9y)))] (.row (.rd true) 153 7 ((a9h a2t l.length l).map y9y)) [(0, (0, .box 303 [.ref 1 0, .fn (.func 127) [] []])), (1, (0, .row 153 7 ((([] : List Ev)).map y9y)))] := by
 refine mX Tryz.f276 [.row (.rd true) 153 7 ((a9h a2t l.length l).map y9y)] 2 3 fun γ => ?_
 refine dv 8 ?_
 refine d6p v3v (id := 2) a2w rfl r9r rfl rfl (by (simp only [a0e, r7r, a0b, a0d, T153]; omega)) (by (unfold maxLen; omega)) rfl ?_
 refine dv 3 fun K K' => ?_
 refine x4x (ι := List Ev × List Ev) (fun i γ1 => [(3, .ref 2 (γ1 2))]) (fun i γ1 => [(1, ((γ1 1), .row 153 7 ((i.1).map y9y))), (2, ((γ1 2), .row 153 7 ((i.2).map y9y))), (0, ((γ 0), .box 303 [.ref 1 (γ1 1), .fn (.func 127) [] []])), (3, ((γ1 3), .dead)), (4, ((γ1 4), .dead))]) (fun i => i.2 ++ a9h a2t i.1.length i.1 = a9h a2t l.length l ∧ i.1.length + i.2.length = l.length) (fun i => i.1.length) (x7x 0 rfl Cov.nil) HE.nil (l, []) ⟨rfl, rfl⟩ [0, _, _, _, _] x6x x5x rfl fun i γ1 hi => ?_
 obtain ⟨ls, o⟩ := i
 obtain ⟨h1, h2⟩ := hi
 dsimp only at h1 h2 ⊢
 refine dc 8 (fun K K' => aS ?_ ?_)<;>intro hc3<;>try simp at hc3
 ·obtain rfl : ls = [] := hc3
  have ho : o = a9h a2t l.length l := by rw [← h1]; simp [a9h]
  subst ho
  refine dv 1 ?_
  refine p7p 3 rfl rfl (fun _ => rfl) ?_
  refine dv 4 ?_
  exact ⟨[γ 0, _], rfl, rfl, x5x⟩
 obtain ⟨m, r, rfl⟩ : ∃ m r, ls = m :: r := by cases ls with | nil => simp at hc3 | cons m r => exact ⟨m, r, rfl⟩
 simp only [a0b] at h2
 refine dv 5 ?_
 refine rlM [0, 1] [_, _] (a8e m r (by omega)) rfl rfl rfl ?_
 refine y2y (id := 3) a2w rfl r9r rfl rfl rfl rfl rfl rfl (y6y rfl rfl a2w rfl r9r rfl rfl rfl rfl (by rfl) (z7z _ _ _) (by (simp only [a0e, r7r, a0b, a0d, T153]; omega)) ?_)
 refine dv 1 ?_
 exact ⟨(b7m a2t (m :: r), o ++ [m]), ⟨⟨by rw [← h1, b9g, List.append_assoc]; rfl, by rw [b9g, List.length_append]; simp only [a0b, a0d] at h2 ⊢; omega⟩, (by dsimp only; rw [b9g]; simp)⟩, [0, _, _, _, _], x6x, x6x, (HE.row rfl rfl (HE.row rfl (by simp) (HE.box rfl rfl (HE.kill rfl (HE.kill rfl HE.nil))))), x5x, rfl⟩
end
section
theorem a8f (c : Bool) (l : List Ev) (hl : l.length ≤ 1000000000) : Meth Tryz.prog 210 1 [] [q3q c l] [(0, (0, .dead))] (.ref 0 0) [(0, (0, .row 56 7 ((z4z l).map y9y)))] := by
 refine mX Tryz.f210 [.ref 0 0] 1 8 fun γ => ?_
 refine dv 3 ?_
 refine rlB e1a e9x ?_
 refine x3x (id := 1) e1a e9x rfl (dv 2 ?_)
 refine c7w (id := 2) rfl (dv 7 fun K K' => ?_)
 refine a0h 1 0 7 153 7 rfl rfl rfl rfl rfl ?_
 refine x4x (ι := Nat) (fun i γ1 => [(15, pI (i : Int))]) (fun i γ1 => [(7, ((γ1 7), .row 153 7 ((b5y a2t (q4q (l.take i))).map y9y))), (1, ((0 + 1), .box 303 [.ref 7 (γ1 7), .fn (.func 127) [] []])), (2, ((0 + 1), .map (b0y (l.take i)))), (3, ((γ1 3), .dead)), (4, ((γ1 4), .dead))]) (fun i => i ≤ l.length) (fun i => l.length - i) (q6q [3, 4, 13, 14] rfl) (a0p [0, 5, 6, 8] rfl) 0 (by omega) [0, 0, 0, _, _, 0, 0, _] x6x (HE.row rfl (by rw [List.take_zero]; try rfl) (HE.box rfl rfl (HE.map rfl (by rw [List.take_zero]; try rfl) (HE.kill rfl (HE.kill rfl HE.nil))))) rfl fun i γ1 hi => ?_
 refine dc 3 (fun K K' => aS ?_ ?_)<;>intro o<;>try simp at o
 ·obtain rfl : i = l.length := by omega
  obtain ⟨H, hH⟩ : ∃ H, H = b5y a2t (q4q (l.take l.length)) := ⟨_, rfl⟩
  rw [← hH]
  have hhl : H.length ≤ 1000000000 := by rw [hH, b9h]; exact Nat.le_trans (c0t _) (by rw [List.length_take]; omega)
  refine dv 5 ?_
  refine d6p v3v (id := 0) u3u rfl z2z rfl rfl (by (simp only [a0e, r7r, a0b, a0d, T56]; omega)) (by (unfold maxLen; omega)) rfl ?_
  refine dv 3 fun K K' => ?_
  refine rlM [1, 7] [_, _] (a6x _ hhl) rfl rfl rfl ?_
  refine dv 3 ?_
  obtain ⟨D, hD⟩ : ∃ D, D = a9h a2t H.length H := ⟨_, rfl⟩
  rw [← hD]
  have hDl : D.length ≤ 1000000000 := Nat.le_trans (by rw [hD]; exact c3z _ _) hhl
  refine x4x (ι := Nat) (fun i γ3 => [(8, .ref 0 (γ3 0)), (40, pI (i : Int))]) (fun i γ3 => [(0, ((γ3 0), .row 56 7 ((D.take i).map y9y))), (5, ((γ3 5), .dead)), (6, ((γ3 6), .dead)), (7, ((γ3 7), .dead))]) (fun i => i ≤ D.length) (fun i => D.length - i) (q6q [38, 39] rfl) (a0p [1, 2, 3, 4, 8] rfl) 0 (by omega) [_, 0, 0, 0, 0, _, _, _] x6x (HE.row rfl (by rw [List.take_zero]; try rfl) (HE.kill rfl (HE.kill rfl (HE.kill rfl HE.nil)))) rfl fun i γ3 hi => ?_
  refine dc 3 (fun K K' => aS ?_ ?_)<;>intro o<;>try simp at o
  ·refine dv 5 ?_
   exact ⟨[_], rfl, rfl, HE.row rfl (by rw [List.take_of_length_le (by omega), hD, hH, List.take_length, b9h, c4d]) HE.nil⟩
  obtain ⟨k1, hk1⟩ := gE D i
  have hDi : (D.take i).length ≤ 1000000000 := by rw [List.length_take]; omega
  refine dv 6 fun K K' => ?_
  refine x3x (id := 5) r9r c7t rfl (dv 4 ?_)
  refine x0x rfl rfl rfl (b5a ..) (y2y (id := 6) u3u rfl z2z rfl rfl rfl rfl rfl rfl (y6y rfl rfl u3u rfl z2z rfl rfl rfl rfl (by rfl) (z7z _ _ _) (by (simp only [a0e, r7r, a0b, a0d, T56]; omega)) ?_))
  refine dv 2 ?_
  refine x8x (b := 1) rfl rfl (by omega) (dv 1 ?_)
  exact ⟨i + 1, ⟨by omega, by omega⟩, [_, 0, 0, 0, 0, _, _, _], x6x, x6x, (HE.row rfl (by rw [z6z hk1]) (HE.kill rfl (HE.kill rfl (HE.kill rfl HE.nil)))), x5x, rfl⟩
 obtain ⟨e, he⟩ := gE l i
 have hcnt : (l.take i).count e ≤ 1000000000 := Nat.le_trans List.count_le_length (by rw [List.length_take]; omega)
 refine dv 6 fun K K' => ?_
 refine x3x (id := 3) z2z a7w rfl (dv 3 ?_)
 refine x0x rfl rfl rfl (b4z ..) (x3x (id := 4) r9r c7t rfl (dv 1 ?_))
 refine p9p (ι := Unit) (fun _i γ2 => []) (fun _i γ2 => [(2, ((0 + 1), .map (b0y (l.take i ++ [e]))))]) (fun _i => True) (q6q [3, 4, 7, 13, 14, 15] rfl) (a0p [0, 1, 3, 4, 5, 6, 7, 8] rfl) ?_ fun _i γ2 hi => ?_
 ·refine c6n c2b rfl fun B X0 w0 => ?_
  refine u4u v3v (l := [0, 1]) (by kernel_rfl) (by decide) ?_
  refine .cons rfl rfl rfl ?_ ?_
  ·refine dv 1 ?_
   refine u4u v3v (l := [1]) (by kernel_rfl) (by decide) ?_
   refine .cons rfl rfl rfl ?_ ?_
   ·refine dv 1 ?_
    refine u4u v3v (l := [2, 4]) (by kernel_rfl) (by decide) ?_
    refine .cons rfl rfl rfl ?_ ?_
    ·refine a3x v3v (ks := q4q (l.take i)) (k := e) Tryz.underlying304 evF rfl rfl (fun _ _ _ h => a6u h) rfl (a2q (l.take i)) (c1m s3s rfl (l.take i) e) ?_
     refine dv 0 ?_
     refine u4u v3v (l := [3, 4]) (by kernel_rfl) (by decide) ?_
     refine .cons rfl rfl rfl ?_ ?_
     ·refine x8x (b := 1) rfl rfl (by omega) (dv 0 ?_)
      refine u4u v3v (l := [4]) (by kernel_rfl) (by decide) ?_
      refine .cons rfl rfl rfl ?_ ?_
      ·refine a6t v3v (es' := b8a (l.take i) e) (j := a4q (l.take i) e) (out := pI ((l.take i).count e : Nat)) (ks := q4q (l.take i)) (k := e) Tryz.underlying304 evF rfl rfl (fun _ _ _ h => a6u h) rfl (a2q _) (a5k s3s rfl _ _) ?_
       refine dv 0 ?_
       refine u4u v3v (l := [5]) (by kernel_rfl) (by decide) ?_
       refine .cons rfl rfl rfl ?_ ?_
       ·refine dv 1 ?_
        refine u4u v3v (l := [6]) (by kernel_rfl) (by decide) ?_
        refine .cons rfl rfl rfl ?_ ?_
        ·refine s9s (j := a4q (l.take i) e) rfl rfl rfl rfl (a2r _ _) (a3i _ _) ?_
         refine dv 0 ?_
         refine a3h (by kernel_rfl) ?_
         exact ⟨(), trivial, [], x6x, x6x, (HE.map rfl rfl HE.nil), x5x, rfl⟩
        exact .nil
       exact .nil
      exact .nil
     refine .cons rfl rfl rfl ?_ ?_
     ·refine a6t v3v (es' := b8a (l.take i) e) (j := a4q (l.take i) e) (out := pI ((l.take i).count e : Nat)) (ks := q4q (l.take i)) (k := e) Tryz.underlying304 evF rfl rfl (fun _ _ _ h => a6u h) rfl (a2q _) (a5k s3s rfl _ _) ?_
      refine dv 0 ?_
      refine u4u v3v (l := [3, 5]) (by kernel_rfl) (by decide) ?_
      refine .cons rfl rfl rfl ?_ ?_
      ·refine x8x (b := 1) rfl rfl (by omega) (dv 0 ?_)
       refine u4u v3v (l := [5]) (by kernel_rfl) (by decide) ?_
       refine .cons rfl rfl rfl ?_ ?_
       ·refine dv 1 ?_
        refine u4u v3v (l := [6]) (by kernel_rfl) (by decide) ?_
        refine .cons rfl rfl rfl ?_ ?_
        ·refine s9s (j := a4q (l.take i) e) rfl rfl rfl rfl (a2r _ _) (a3i _ _) ?_
         refine dv 0 ?_
         refine a3h (by kernel_rfl) ?_
         exact ⟨(), trivial, [], x6x, x6x, (HE.map rfl rfl HE.nil), x5x, rfl⟩
        exact .nil
       exact .nil
      refine .cons rfl rfl rfl ?_ ?_
      ·refine dv 1 ?_
       refine u4u v3v (l := [3]) (by kernel_rfl) (by decide) ?_
       refine .cons rfl rfl rfl ?_ ?_
       ·refine x8x (b := 1) rfl rfl (by omega) (dv 0 ?_)
        refine u4u v3v (l := [6]) (by kernel_rfl) (by decide) ?_
        refine .cons rfl rfl rfl ?_ ?_
        ·refine s9s (j := a4q (l.take i) e) rfl rfl rfl rfl (a2r _ _) (a3i _ _) ?_
         refine dv 0 ?_
         refine a3h (by kernel_rfl) ?_
         exact ⟨(), trivial, [], x6x, x6x, (HE.map rfl rfl HE.nil), x5x, rfl⟩
        exact .nil
       exact .nil
      exact .nil
     exact .nil
    refine .cons rfl rfl rfl ?_ ?_
    ·refine a6t v3v (es' := b8a (l.take i) e) (j := a4q (l.take i) e) (out := pI ((l.take i).count e : Nat)) (ks := q4q (l.take i)) (k := e) Tryz.underlying304 evF rfl rfl (fun _ _ _ h => a6u h) rfl (a2q _) (a5k s3s rfl _ _) ?_
     refine dv 0 ?_
     refine u4u v3v (l := [2, 5]) (by kernel_rfl) (by decide) ?_
     refine .cons rfl rfl rfl ?_ ?_
     ·refine a3x v3v (ks := e9k (l.take i) e) (k := e) Tryz.underlying304 evF rfl rfl (fun _ _ _ h => a6u h) rfl (b5w (l.take i) e) (b5x (l.take i) e) ?_
      refine dv 0 ?_
      refine u4u v3v (l := [3, 5]) (by kernel_rfl) (by decide) ?_
      refine .cons rfl rfl rfl ?_ ?_
      ·refine x8x (b := 1) rfl rfl (by omega) (dv 0 ?_)
       refine u4u v3v (l := [5]) (by kernel_rfl) (by decide) ?_
       refine .cons rfl rfl rfl ?_ ?_
       ·refine dv 1 ?_
        refine u4u v3v (l := [6]) (by kernel_rfl) (by decide) ?_
        refine .cons rfl rfl rfl ?_ ?_
        ·refine s9s (j := a4q (l.take i) e) rfl rfl rfl rfl (a2r _ _) (a3i _ _) ?_
         refine dv 0 ?_
         refine a3h (by kernel_rfl) ?_
         exact ⟨(), trivial, [], x6x, x6x, (HE.map rfl rfl HE.nil), x5x, rfl⟩
        exact .nil
       exact .nil
      refine .cons rfl rfl rfl ?_ ?_
      ·refine dv 1 ?_
       refine u4u v3v (l := [3]) (by kernel_rfl) (by decide) ?_
       refine .cons rfl rfl rfl ?_ ?_
       ·refine x8x (b := 1) rfl rfl (by omega) (dv 0 ?_)
        refine u4u v3v (l := [6]) (by kernel_rfl) (by decide) ?_
        refine .cons rfl rfl rfl ?_ ?_
        ·refine s9s (j := a4q (l.take i) e) rfl rfl rfl rfl (a2r _ _) (a3i _ _) ?_
         refine dv 0 ?_
         refine a3h (by kernel_rfl) ?_
         exact ⟨(), trivial, [], x6x, x6x, (HE.map rfl rfl HE.nil), x5x, rfl⟩
        exact .nil
       exact .nil
      exact .nil
     refine .cons rfl rfl rfl ?_ ?_
     ·refine dv 1 ?_
      refine u4u v3v (l := [2]) (by kernel_rfl) (by decide) ?_
      refine .cons rfl rfl rfl ?_ ?_
      ·refine a3x v3v (ks := e9k (l.take i) e) (k := e) Tryz.underlying304 evF rfl rfl (fun _ _ _ h => a6u h) rfl (b5w (l.take i) e) (b5x (l.take i) e) ?_
       refine dv 0 ?_
       refine u4u v3v (l := [3]) (by kernel_rfl) (by decide) ?_
       refine .cons rfl rfl rfl ?_ ?_
       ·refine x8x (b := 1) rfl rfl (by omega) (dv 0 ?_)
        refine u4u v3v (l := [6]) (by kernel_rfl) (by decide) ?_
        refine .cons rfl rfl rfl ?_ ?_
        ·refine s9s (j := a4q (l.take i) e) rfl rfl rfl rfl (a2r _ _) (a3i _ _) ?_
         refine dv 0 ?_
         refine a3h (by kernel_rfl) ?_
         exact ⟨(), trivial, [], x6x, x6x, (HE.map rfl rfl HE.nil), x5x, rfl⟩
        exact .nil
       exact .nil
      exact .nil
     exact .nil
    exact .nil
   exact .nil
  refine .cons rfl rfl rfl ?_ ?_
  ·refine dv 1 ?_
   refine u4u v3v (l := [0]) (by kernel_rfl) (by decide) ?_
   refine .cons rfl rfl rfl ?_ ?_
   ·refine dv 1 ?_
    refine u4u v3v (l := [2, 4]) (by kernel_rfl) (by decide) ?_
    refine .cons rfl rfl rfl ?_ ?_
    ·refine a3x v3v (ks := q4q (l.take i)) (k := e) Tryz.underlying304 evF rfl rfl (fun _ _ _ h => a6u h) rfl (a2q (l.take i)) (c1m s3s rfl (l.take i) e) ?_
     refine dv 0 ?_
     refine u4u v3v (l := [3, 4]) (by kernel_rfl) (by decide) ?_
     refine .cons rfl rfl rfl ?_ ?_
     ·refine x8x (b := 1) rfl rfl (by omega) (dv 0 ?_)
      refine u4u v3v (l := [4]) (by kernel_rfl) (by decide) ?_
      refine .cons rfl rfl rfl ?_ ?_
      ·refine a6t v3v (es' := b8a (l.take i) e) (j := a4q (l.take i) e) (out := pI ((l.take i).count e : Nat)) (ks := q4q (l.take i)) (k := e) Tryz.underlying304 evF rfl rfl (fun _ _ _ h => a6u h) rfl (a2q _) (a5k s3s rfl _ _) ?_
       refine dv 0 ?_
       refine u4u v3v (l := [5]) (by kernel_rfl) (by decide) ?_
       refine .cons rfl rfl rfl ?_ ?_
       ·refine dv 1 ?_
        refine u4u v3v (l := [6]) (by kernel_rfl) (by decide) ?_
        refine .cons rfl rfl rfl ?_ ?_
        ·refine s9s (j := a4q (l.take i) e) rfl rfl rfl rfl (a2r _ _) (a3i _ _) ?_
         refine dv 0 ?_
         refine a3h (by kernel_rfl) ?_
         exact ⟨(), trivial, [], x6x, x6x, (HE.map rfl rfl HE.nil), x5x, rfl⟩
        exact .nil
       exact .nil
      exact .nil
     refine .cons rfl rfl rfl ?_ ?_
     ·refine a6t v3v (es' := b8a (l.take i) e) (j := a4q (l.take i) e) (out := pI ((l.take i).count e : Nat)) (ks := q4q (l.take i)) (k := e) Tryz.underlying304 evF rfl rfl (fun _ _ _ h => a6u h) rfl (a2q _) (a5k s3s rfl _ _) ?_
      refine dv 0 ?_
      refine u4u v3v (l := [3, 5]) (by kernel_rfl) (by decide) ?_
      refine .cons rfl rfl rfl ?_ ?_
      ·refine x8x (b := 1) rfl rfl (by omega) (dv 0 ?_)
       refine u4u v3v (l := [5]) (by kernel_rfl) (by decide) ?_
       refine .cons rfl rfl rfl ?_ ?_
       ·refine dv 1 ?_
        refine u4u v3v (l := [6]) (by kernel_rfl) (by decide) ?_
        refine .cons rfl rfl rfl ?_ ?_
        ·refine s9s (j := a4q (l.take i) e) rfl rfl rfl rfl (a2r _ _) (a3i _ _) ?_
         refine dv 0 ?_
         refine a3h (by kernel_rfl) ?_
         exact ⟨(), trivial, [], x6x, x6x, (HE.map rfl rfl HE.nil), x5x, rfl⟩
        exact .nil
       exact .nil
      refine .cons rfl rfl rfl ?_ ?_
      ·refine dv 1 ?_
       refine u4u v3v (l := [3]) (by kernel_rfl) (by decide) ?_
       refine .cons rfl rfl rfl ?_ ?_
       ·refine x8x (b := 1) rfl rfl (by omega) (dv 0 ?_)
        refine u4u v3v (l := [6]) (by kernel_rfl) (by decide) ?_
        refine .cons rfl rfl rfl ?_ ?_
        ·refine s9s (j := a4q (l.take i) e) rfl rfl rfl rfl (a2r _ _) (a3i _ _) ?_
         refine dv 0 ?_
         refine a3h (by kernel_rfl) ?_
         exact ⟨(), trivial, [], x6x, x6x, (HE.map rfl rfl HE.nil), x5x, rfl⟩
        exact .nil
       exact .nil
      exact .nil
     exact .nil
    refine .cons rfl rfl rfl ?_ ?_
    ·refine a6t v3v (es' := b8a (l.take i) e) (j := a4q (l.take i) e) (out := pI ((l.take i).count e : Nat)) (ks := q4q (l.take i)) (k := e) Tryz.underlying304 evF rfl rfl (fun _ _ _ h => a6u h) rfl (a2q _) (a5k s3s rfl _ _) ?_
     refine dv 0 ?_
     refine u4u v3v (l := [2, 5]) (by kernel_rfl) (by decide) ?_
     refine .cons rfl rfl rfl ?_ ?_
     ·refine a3x v3v (ks := e9k (l.take i) e) (k := e) Tryz.underlying304 evF rfl rfl (fun _ _ _ h => a6u h) rfl (b5w (l.take i) e) (b5x (l.take i) e) ?_
      refine dv 0 ?_
      refine u4u v3v (l := [3, 5]) (by kernel_rfl) (by decide) ?_
      refine .cons rfl rfl rfl ?_ ?_
      ·refine x8x (b := 1) rfl rfl (by omega) (dv 0 ?_)
       refine u4u v3v (l := [5]) (by kernel_rfl) (by decide) ?_
       refine .cons rfl rfl rfl ?_ ?_
       ·refine dv 1 ?_
        refine u4u v3v (l := [6]) (by kernel_rfl) (by decide) ?_
        refine .cons rfl rfl rfl ?_ ?_
        ·refine s9s (j := a4q (l.take i) e) rfl rfl rfl rfl (a2r _ _) (a3i _ _) ?_
         refine dv 0 ?_
         refine a3h (by kernel_rfl) ?_
         exact ⟨(), trivial, [], x6x, x6x, (HE.map rfl rfl HE.nil), x5x, rfl⟩
        exact .nil
       exact .nil
      refine .cons rfl rfl rfl ?_ ?_
      ·refine dv 1 ?_
       refine u4u v3v (l := [3]) (by kernel_rfl) (by decide) ?_
       refine .cons rfl rfl rfl ?_ ?_
       ·refine x8x (b := 1) rfl rfl (by omega) (dv 0 ?_)
        refine u4u v3v (l := [6]) (by kernel_rfl) (by decide) ?_
        refine .cons rfl rfl rfl ?_ ?_
        ·refine s9s (j := a4q (l.take i) e) rfl rfl rfl rfl (a2r _ _) (a3i _ _) ?_
         refine dv 0 ?_
         refine a3h (by kernel_rfl) ?_
         exact ⟨(), trivial, [], x6x, x6x, (HE.map rfl rfl HE.nil), x5x, rfl⟩
        exact .nil
       exact .nil
      exact .nil
     refine .cons rfl rfl rfl ?_ ?_
     ·refine dv 1 ?_
      refine u4u v3v (l := [2]) (by kernel_rfl) (by decide) ?_
      refine .cons rfl rfl rfl ?_ ?_
      ·refine a3x v3v (ks := e9k (l.take i) e) (k := e) Tryz.underlying304 evF rfl rfl (fun _ _ _ h => a6u h) rfl (b5w (l.take i) e) (b5x (l.take i) e) ?_
       refine dv 0 ?_
       refine u4u v3v (l := [3]) (by kernel_rfl) (by decide) ?_
       refine .cons rfl rfl rfl ?_ ?_
       ·refine x8x (b := 1) rfl rfl (by omega) (dv 0 ?_)
        refine u4u v3v (l := [6]) (by kernel_rfl) (by decide) ?_
        refine .cons rfl rfl rfl ?_ ?_
        ·refine s9s (j := a4q (l.take i) e) rfl rfl rfl rfl (a2r _ _) (a3i _ _) ?_
         refine dv 0 ?_
         refine a3h (by kernel_rfl) ?_
         exact ⟨(), trivial, [], x6x, x6x, (HE.map rfl rfl HE.nil), x5x, rfl⟩
        exact .nil
       exact .nil
      exact .nil
     exact .nil
    exact .nil
   exact .nil
  exact .nil
 ·try dsimp only [b1e, b1f]
  refine dv 3 ?_
  refine a3x v3v (ks := q4q (l.take i ++ [e])) (k := e) Tryz.underlying304 evF rfl rfl (fun _ _ _ h => a6u h) rfl (a2q (l.take i ++ [e])) (c1m s3s rfl (l.take i ++ [e]) e) ?_
  refine dc 1 (aS ?_ ?_)<;>intro hc5<;>try simp at hc5
  ·have hq : ¬ (l.take i ++ [e]).count e = 1 := by (have := hc5; simp at this ⊢; omega)
   refine dv 2 ?_
   refine x8x (b := 1) rfl rfl (by omega) (dv 1 ?_)
   exact ⟨i + 1, ⟨by omega, by omega⟩, [0, 0, 0, _, _, 0, 0, _], x6x, x6x, (HE.row rfl (by rw [z6z he, d5s hq]) (HE.box rfl rfl (HE.map rfl (by rw [z6z he]) (HE.kill rfl (HE.kill rfl HE.nil))))), x5x, rfl⟩
  have hq : (l.take i ++ [e]).count e = 1 := by (have := hc5; simp at this ⊢; omega)
  have hpl : (b5y a2t (q4q (l.take i))).length ≤ 1000000000 := by rw [b9h]; exact Nat.le_trans (c0t _) (by rw [List.length_take]; omega)
  refine dv 2 ?_
  refine rlM [1, 7] [_, _] (a7p _ e hpl) rfl rfl rfl ?_
  refine dv 1 ?_
  refine x8x (b := 1) rfl rfl (by omega) (dv 1 ?_)
  exact ⟨i + 1, ⟨by omega, by omega⟩, [0, 0, 0, _, _, 0, 0, _], x6x, x6x, (HE.row rfl (by rw [z6z he, d5r hq]) (HE.box rfl rfl (HE.map rfl (by rw [z6z he]) (HE.kill rfl (HE.kill rfl HE.nil))))), x5x, rfl⟩
end
section
theorem a3n (c : Bool) (a : Ev) (l : List Ev) (hl : (a :: l).length ≤ 10000000) : Meth Tryz.prog 245 1 [] [q3q c (a :: l)] [(0, (0, .dead))] (.ref 0 0) [(0, (0, .row 56 7 ((a :: l).map y9y)))] := by
 refine mX Tryz.f245 [.ref 0 0] 1 1 fun γ => ?_
 refine dv 5 fun K K' => ?_
 refine a6o rfl rfl (by (intro p q h; cases h)) (.inl rfl) (d4o Tryz.underlying47 _ _ (by simp)) ?_
 refine a0l rfl (fun hc2 => ?_) (fun hc2 => ?_)
 ·simp [a1t] at hc2
 try simp at hc2
 refine dv 2 ?_
 refine y1y (id := 0) u3u rfl z2z rfl (dv 1 ?_)
 refine w6w (zs := (a :: l).map y9y) rfl rfl u3u rfl z2z rfl rfl rfl (z9z (fun _ => rfl) _) rfl (by (simp only [a0e, r7r, a0b, a0d, a0u, T56] at *; omega)) ?_
 refine dv 2 ?_
 exact ⟨[_], rfl, rfl, x5x⟩
theorem a3u (c : Bool) : Meth Tryz.prog 245 1 [] [q3q c []] [(0, (0, .dead))] (.ref 0 0) [(0, (0, .row 56 7 (([] : List Ev).map y9y)))] := by
 refine mX Tryz.f245 [.ref 0 0] 1 1 fun γ => ?_
 refine c9e 0 rfl fun A0 cap hcap => ?_
 refine dv 5 fun K K' => ?_
 refine a6o rfl rfl (by (intro p q h h2; cases h; cases h2; rfl)) (.inl rfl) (c3s Tryz.underlying47 _ _ _ _ _) ?_
 refine dc 0 (aI ?_ ?_)<;>intro j<;>try simp at j
 ·refine dv 2 ?_
  refine a2j 2 0 56 7 rfl rfl (dv 1 ?_)
  exact ⟨[_], rfl, rfl, x5x⟩
 refine dv 1 ?_
 refine e1x 0 56 7 rfl hcap (dv 1 ?_)
 refine y1y (id := 0) u3u rfl z2z rfl (dv 1 ?_)
 refine w6w (zs := ([] : List Ev).map y9y) rfl rfl u3u rfl z2z rfl rfl rfl (by rfl) rfl (by (simp only [a0e, r7r, a0b, a0d, a0u, T56] at *; omega)) ?_
 refine dv 2 ?_
 exact ⟨[_], rfl, rfl, x5x⟩
theorem w4w (c : Bool) (l : List Ev) (hl : l.length ≤ 10000000) : Meth Tryz.prog 245 1 [] [q3q c l] [(0, (0, .dead))] (.ref 0 0) [(0, (0, .row 56 7 (l.map y9y)))] := by
 cases l with
 | nil => exact a3u c
 | cons a l => exact a3n c a l hl
theorem a4r (c : Bool) (a : Ou) (l : List Ou) (hl : (a :: l).length ≤ 10000000) : Meth Tryz.prog 152 1 [] [r0r c (a :: l)] [(0, (0, .dead))] (.ref 0 0) [(0, (0, .row 141 5 ((a :: l).map q8q)))] := by
 refine mX Tryz.f152 [.ref 0 0] 1 1 fun γ => ?_
 refine dv 5 fun K K' => ?_
 refine a6o rfl rfl (by (intro p q h; cases h)) (.inl rfl) (d4o Tryz.underlying29 _ _ (by simp)) ?_
 refine a0l rfl (fun hc2 => ?_) (fun hc2 => ?_)
 ·simp [a1t] at hc2
 try simp at hc2
 refine dv 2 ?_
 refine y1y (id := 0) a1b rfl w9w rfl (dv 1 ?_)
 refine w6w (zs := (a :: l).map q8q) rfl rfl a1b rfl w9w rfl rfl rfl (z9z (fun _ => rfl) _) rfl (by (simp only [a0e, r7r, a0b, a0d, a0u, T141] at *; omega)) ?_
 refine dv 2 ?_
 exact ⟨[_], rfl, rfl, x5x⟩
theorem a5b (c : Bool) : Meth Tryz.prog 152 1 [] [r0r c []] [(0, (0, .dead))] (.ref 0 0) [(0, (0, .row 141 5 (([] : List Ou).map q8q)))] := by
 refine mX Tryz.f152 [.ref 0 0] 1 1 fun γ => ?_
 refine c9e 0 rfl fun A0 cap hcap => ?_
 refine dv 5 fun K K' => ?_
 refine a6o rfl rfl (by (intro p q h h2; cases h; cases h2; rfl)) (.inl rfl) (c3s Tryz.underlying29 _ _ _ _ _) ?_
 refine dc 0 (aI ?_ ?_)<;>intro j<;>try simp at j
 ·refine dv 2 ?_
  refine a2j 2 0 141 5 rfl rfl (dv 1 ?_)
  exact ⟨[_], rfl, rfl, x5x⟩
 refine dv 1 ?_
 refine e1x 0 141 5 rfl hcap (dv 1 ?_)
 refine y1y (id := 0) a1b rfl w9w rfl (dv 1 ?_)
 refine w6w (zs := ([] : List Ou).map q8q) rfl rfl a1b rfl w9w rfl rfl rfl (by rfl) rfl (by (simp only [a0e, r7r, a0b, a0d, a0u, T56] at *; omega)) ?_
 refine dv 2 ?_
 exact ⟨[_], rfl, rfl, x5x⟩
theorem a2h (c : Bool) (l : List Ou) (hl : l.length ≤ 10000000) : Meth Tryz.prog 152 1 [] [r0r c l] [(0, (0, .dead))] (.ref 0 0) [(0, (0, .row 141 5 (l.map q8q)))] := by
 cases l with
 | nil => exact a5b c
 | cons a l => exact a4r c a l hl
theorem a9w (c : Bool) (a : Int) (l : List Int) (hl : (a :: l).length ≤ 10000000) : Meth Tryz.prog 248 1 [] [a4p c (a :: l)] [(0, (0, .dead))] (.ref 0 0) [(0, (0, .row 3 1 ((a :: l).map a3e)))] := by
 refine mX Tryz.f248 [.ref 0 0] 1 1 fun γ => ?_
 refine dv 5 fun K K' => ?_
 refine a6o rfl rfl (by (intro p q h; cases h)) (.inl rfl) (d4o Tryz.underlying63 _ _ (by simp)) ?_
 refine a0l rfl (fun hc2 => ?_) (fun hc2 => ?_)
 ·simp [a1t] at hc2
 try simp at hc2
 refine dv 2 ?_
 refine y1y (id := 0) a0o rfl s3s rfl (dv 1 ?_)
 refine w6w (zs := (a :: l).map a3e) rfl rfl a0o rfl s3s rfl rfl rfl (z9z (fun _ => rfl) _) rfl (by (simp only [a0e, r7r, a0b, a0d, a0u, T3] at *; omega)) ?_
 refine dv 2 ?_
 exact ⟨[_], rfl, rfl, x5x⟩
theorem b0c (c : Bool) : Meth Tryz.prog 248 1 [] [a4p c []] [(0, (0, .dead))] (.ref 0 0) [(0, (0, .row 3 1 (([] : List Int).map a3e)))] := by
 refine mX Tryz.f248 [.ref 0 0] 1 1 fun γ => ?_
 refine c9e 0 rfl fun A0 cap hcap => ?_
 refine dv 5 fun K K' => ?_
 refine a6o rfl rfl (by (intro p q h h2; cases h; cases h2; rfl)) (.inl rfl) (c3s Tryz.underlying63 _ _ _ _ _) ?_
 refine dc 0 (aI ?_ ?_)<;>intro j<;>try simp at j
 ·refine dv 2 ?_
  refine a2j 2 0 3 1 rfl rfl (dv 1 ?_)
  exact ⟨[_], rfl, rfl, x5x⟩
 refine dv 1 ?_
 refine e1x 0 3 1 rfl hcap (dv 1 ?_)
 refine y1y (id := 0) a0o rfl s3s rfl (dv 1 ?_)
 refine w6w (zs := ([] : List Int).map a3e) rfl rfl a0o rfl s3s rfl rfl rfl (by rfl) rfl (by (simp only [a0e, r7r, a0b, a0d, a0u, T56] at *; omega)) ?_
 refine dv 2 ?_
 exact ⟨[_], rfl, rfl, x5x⟩
theorem b3y (c : Bool) (l : List Int) (hl : l.length ≤ 10000000) : Meth Tryz.prog 248 1 [] [a4p c l] [(0, (0, .dead))] (.ref 0 0) [(0, (0, .row 3 1 (l.map a3e)))] := by
 cases l with
 | nil => exact b0c c
 | cons a l => exact a9w c a l hl
end
section
theorem d0y (c : Bool) (n : Nd) (hl : n.lanes.length ≤ 1048576) : Meth Tryz.prog 158 1 [] [.agg (u1u c n)] [(0, (0, .dead))] (.agg [pI n.id, pI n.inc, pI n.g, pI n.led, .ref 0 0, q3q c n.kept, r0r c n.outs]) [(0, (0, .row 41 3 ((n.lanes).map fun l => s1s l.base)))] := by
 refine mX Tryz.f158 [.agg [pI n.id, pI n.inc, pI n.g, pI n.led, .ref 0 0, q3q c n.kept, r0r c n.outs]] 1 6 fun γ => ?_
 refine dv 1 ?_
 refine y0y (id := 1) rfl rfl rfl (x3x (id := 2) d6k e1b rfl (dv 13 ?_))
 refine rlB d6k e1b ?_
 refine x3x (id := 3) d6k e1b rfl (dv 8 fun K K' => ?_)
 refine a0h 3 4 0 41 3 rfl rfl rfl rfl rfl ?_
 refine x4x (ι := Nat) (fun i γ1 => [(22, pI (i : Int))]) (fun i γ1 => [(0, ((γ1 0), .row 41 3 ((n.lanes.take i).map fun l => s1s l.base))), (3, ((0 + 1), .box 160 [pI n.id, pI n.inc, pI n.g, pI n.led, .ref 0 (γ1 0), q3q c n.kept, r0r c n.outs])), (4, ((γ1 4), .dead)), (5, ((γ1 5), .dead)), (6, ((γ1 6), .dead))]) (fun i => i ≤ n.lanes.length) (fun i => n.lanes.length - i) (q6q [2, 3, 20, 21] rfl) (a0p [1, 2] rfl) 0 (by omega) [_, 0, 0, 0, _, _, _] x6x (HE.row rfl (by rw [List.take_zero]; rfl) (HE.box rfl rfl (HE.kill rfl (HE.kill rfl (HE.kill rfl HE.nil))))) rfl fun i γ1 hi => ?_
 refine dc 3 (fun K K' => aS ?_ ?_)<;>intro o<;>try simp at o
 ·obtain rfl : i = n.lanes.length := by omega
  refine dv 5 ?_
  exact ⟨[_], rfl, rfl, HE.row rfl (by rw [List.take_length]) HE.nil⟩
 obtain ⟨p, hp⟩ := gE n.lanes i
 refine dv 6 fun K K' => ?_
 refine x3x (id := 4) a0m a6r rfl (dv 5 ?_)
 refine y8y (out := .agg (s1s p.base)) rfl a5s rfl rfl ?_
 refine y2y (id := 5) d6j rfl a5s rfl rfl rfl rfl rfl rfl ?_
 refine y6y (zs := (n.lanes.take i ++ [p]).map fun l => s1s l.base) rfl rfl d6j rfl a5s rfl rfl rfl rfl (by rfl) (z7z _ _ _) (by (simp only [a0e, r7r, a0b, a0d, a0u, a2z, T41]; omega)) ?_
 refine dv 3 ?_
 refine z8z rfl rfl rfl (dv 1 ?_)
 exact ⟨i + 1, ⟨by omega, by omega⟩, [_, 0, 0, 0, _, _, _], (Cov.cons' (t := 22) rfl (by rw [x9x (by omega) (by omega)]; rfl) Cov.nil), x6x, (HE.row rfl (by rw [z6z hp]) (HE.box rfl rfl (HE.kill rfl (HE.kill rfl (HE.kill rfl HE.nil))))), x5x, rfl⟩
theorem c7i (c : Bool) (n : Nd) (hl : n.lanes.length ≤ 1048576) : Meth Tryz.prog 157 5 [0] [.agg [pI n.id, pI n.inc, pI n.g, pI n.led, .ref 0 0, q3q c n.kept, r0r c n.outs]] [(0, (0, .row 41 3 ((n.lanes).map fun l => s1s l.base))), (1, (0, .dead)), (2, (0, .dead)), (3, (0, .dead)), (4, (0, .dead))] (.ptr 4 0 0) [(4, (0, .box 164 [pI n.id, pI n.inc, pI n.g, pI n.led, .ref 0 0, q3q c n.kept, r0r c n.outs, .pv (.bool false), .ref 1 0, pI 0, .mp 2 0, .ref 3 0, pI 0, pI 41])), (1, (0, .row 42 1 ((n.lanes).map fun _ => [a6f c []]))), (2, (0, .map [])), (3, (0, .row 3 1 ([0, 0, 0].map a3e)))] := by
 refine mX Tryz.f157 [.ptr 4 0 0] 5 1 fun γ => ?_
 refine dv 1 ?_
 refine y0y (id := 5) rfl rfl rfl (dv 6 ?_)
 refine c3n (id := 1) b8q rfl a6q f7s rfl rfl rfl rfl (by (simp only [a0e, r7r, a0b, a0d, a0u, a2z, T42]; omega)) rfl ?_
 refine c7w (id := 2) rfl ?_
 refine c3n (n := 3) (id := 3) a0o rfl s3s f7r rfl rfl rfl rfl (by (simp only [a0e, r7r, a0b, a0d, a0u, a2z, T3]; omega)) rfl ?_
 refine rlB f4s f4v ?_
 refine y0y (id := 4) rfl rfl rfl (dv 1 ?_)
 refine b4h 1 (xs' := n.lanes.map fun _ => [.pv (.slice none 0 0)]) rfl (by simp [List.map_const', T42]) ?_
 refine d2b (f := fun _ => [.pv (.slice none 0 0)]) (f' := fun _ => [a6f c []]) (l := n.lanes) 1 rfl (fun _ => .le rfl .nil rfl .nil) ?_
 refine dv 1 ?_
 exact ⟨[γ 0, _, _, _, _], rfl, rfl, HE.box rfl rfl (HE.row rfl rfl (HE.map rfl rfl (HE.row rfl rfl (HE.same rfl HE.nil))))⟩
theorem b3d (c : Bool) (n : Nd) (hl : n.lanes.length ≤ 1048576) (hv : n.views.length ≤ 1048576) (hk3 : n.known.length = 3) : Meth Tryz.prog 125 5 [] [.agg (u1u c n)] [(0, (0, .dead)), (1, (0, .dead)), (2, (0, .dead)), (3, (0, .dead)), (4, (0, .dead))] (.ptr 4 0 0) [(0, (0, .row 41 3 ((n.lanes).map fun l => s1s l.base))), (1, (0, .row 42 1 ((n.lanes).map fun l => [a6f c l.done]))), (2, (0, .map (b0l c n.views))), (3, (0, .row 3 1 (n.known.map a3e))), (4, (0, .box 164 [pI n.id, pI n.inc, pI n.g, pI n.led, .ref 0 0, q3q c n.kept, r0r c n.outs, .pv (.bool n.up), .ref 1 0, pI n.version, .mp 2 0, .ref 3 0, pI n.round, pI n.low]))] := by
 refine p4p v3v (fn := Tryz.f125) (by kernel_rfl) (by kernel_rfl) rfl (O0 := [.ptr 4 0 0]) 5 3 (s0s rfl) (by rfl) (by repeat (first | exact BndH.nil | refine BndH.dead ?_ )) (by repeat (first | exact BndH.nil | refine BndH.box rfl ?_ | refine BndH.row (w2w fun _ => rfl) ?_ | refine BndH.map (a1i _ _) ?_ )) (by rfl) fun γ => ?_
 show Ex Tryz.prog _ _ [(0, .agg (u1u c n))] [(0, ((γ 0), .dead)), (1, ((γ 1), .dead)), (2, ((γ 2), .dead)), (3, ((γ 3), .dead)), (4, ((γ 4), .dead)), (7, (0, .dead)), (6, (0, .dead)), (5, (0, .dead))] _
 refine dv 1 ?_
 refine y0y (id := 5) rfl rfl rfl (dv 3 ?_)
 refine rlM [0] [_] (d0y c n hl) rfl rfl rfl ?_
 refine rlM [0, 1, 2, 3, 4] [_, _, _, _, _] (c7i c n hl) rfl rfl rfl ?_
 refine dv 8 fun K K' => ?_
 refine x4x (ι := Nat) (fun i γ1 => [(14, pI (i : Int))]) (fun i γ1 => [(1, ((γ 1 + 1), .row 42 1 ((n.lanes.take i).map (fun l => [a6f c l.done]) ++ (n.lanes.drop i).map fun _ => [a6f c []]))), (6, ((γ1 6), .dead))]) (fun i => i ≤ n.lanes.length) (fun i => n.lanes.length - i) (q6q [1, 3, 12, 13] rfl) (a0p [0, 2, 3, 4, 5, 7] rfl) 0 (by omega) [0, 0, 0, 0, 0, 0, _] x6x (HE.row rfl (by rw [List.take_zero, List.drop_zero]; rfl) (HE.kill rfl HE.nil)) rfl fun i γ1 hi => ?_
 refine dc 3 (fun K K' => aI ?_ ?_)<;>intro o<;>try simp at o
 ·obtain ⟨p, hp⟩ := gE n.lanes i
  have hAl : ((n.lanes.take i).map fun l => [a6f c l.done]).length = i := by rw [List.length_map, List.length_take]; omega
  rw [p8p hp, List.map_cons]
  refine dv 7 fun K K' => ?_
  refine x3x (id := 6) a0m a6r rfl (dv 10 ?_)
  refine b4g rfl rfl b8q rfl a6q rfl rfl hAl (e1v hAl rfl rfl a6q rfl rfl rfl rfl rfl rfl rfl rfl (dv 1 ?_))
  refine z8z rfl rfl rfl (dv 1 ?_)
  exact ⟨i + 1, ⟨by omega, by omega⟩, [0, 0, 0, 0, 0, 0, _], (Cov.cons' (t := 14) rfl (by rw [x9x (by omega) (by omega)]; rfl) Cov.nil), x6x, (HE.row rfl (by rw [z6z hp, List.map_append, List.append_assoc]; rfl) (HE.kill rfl HE.nil)), x5x, rfl⟩
 obtain rfl : i = n.lanes.length := by omega
 refine dv 8 fun K K' => ?_
 refine x4x (ι := Nat) (fun j γ2 => [(31, pI (j : Int))]) (fun j γ2 => [(2, ((γ 2 + 1), .map (b0l c (n.views.take j)))), (7, ((γ2 7), .dead))]) (fun j => j ≤ n.views.length) (fun j => n.views.length - j) (q6q [1, 3, 29, 30] rfl) (a0p [0, 1, 3, 4, 5, 6] rfl) 0 (by omega) [0, 0, 0, 0, 0, 0, 0, _] x6x (HE.map rfl (by rw [List.take_zero]; rfl) (HE.kill rfl HE.nil)) rfl fun j γ2 hi => ?_
 refine dc 3 (fun K K' => aI ?_ ?_)<;>intro o<;>try simp at o
 ·obtain ⟨q, hq⟩ := gE n.views j
  have hjl : (n.views.take j).length = j := by rw [List.length_take]; omega
  refine dv 7 fun K K' => ?_
  refine x3x (id := 7) r1r a4s rfl (dv 9 ?_)
  refine b4f (κ := Int) (enc := fun n => .int .i64 n) (ks := b7x j) (k := (j : Int)) (es' := b0l c (n.views.take j ++ [q])) Tryz.underlying162 (a9f Tryz.underlying3) rfl rfl rfl (fun _ _ _ h => d4m h) rfl (by rw [a9s, hjl]) (.inr ⟨e9f j, by rw [e5z, hjl]; try rfl⟩) ?_
  refine dv 1 ?_
  refine z8z rfl rfl rfl (dv 1 ?_)
  exact ⟨j + 1, ⟨by omega, by omega⟩, [0, 0, 0, 0, 0, 0, 0, _], (Cov.cons' (t := 31) rfl (by rw [x9x (by omega) (by omega)]; rfl) Cov.nil), x6x, (HE.map rfl (by rw [z6z hq]) (HE.kill rfl HE.nil)), x5x, rfl⟩
 obtain rfl : j = n.views.length := by omega
 refine dv 8 ?_
 refine e7d v3v (l := n.known) a0o rfl s3s rfl rfl rfl rfl (by rw [hk3]; rfl) ?_
 refine dv 29 ?_
 exact ⟨[_, _, _, _, _], rfl, rfl, HE.row rfl rfl (HE.row rfl (by rw [List.take_length, List.drop_length, List.map_nil, List.append_nil]) (HE.map rfl (by rw [List.take_length]) (HE.row rfl rfl (HE.box rfl rfl HE.nil))))⟩
end
section
theorem b3n (c : Bool) (n : Nd) (hs : (r2r n).length ≤ 5000000) (hlen : n.lanes.length ≤ 1048576) : Meth Tryz.prog 229 6 [0, 1, 2, 3, 4] [.ptr 4 0 0] [(0, (0, .row 41 3 ((n.lanes).map fun l => s1s l.base))), (1, (0, .row 42 1 ((n.lanes).map fun l => [a6f c l.done]))), (2, (0, .map (b0l c n.views))), (3, (0, .row 3 1 (n.known.map a3e))), (4, (0, .box 164 [pI n.id, pI n.inc, pI n.g, pI n.led, .ref 0 0, q3q c n.kept, r0r c n.outs, .pv (.bool n.up), .ref 1 0, pI n.version, .mp 2 0, .ref 3 0, pI n.round, pI n.low])), (5, (0, .dead))] (.ref 5 0) [(5, (0, .row 56 7 ((r2r n).map y9y)))] := by
 refine p4p v3v (fn := Tryz.f229) (by kernel_rfl) (by kernel_rfl) rfl (O0 := [.ref 5 0]) 6 2 (s0s rfl) (by rfl) (by repeat (first | exact BndH.nil | refine BndH.dead ?_ | refine BndH.box rfl ?_ | refine BndH.row (w2w fun _ => rfl) ?_ | refine BndH.map (a1i _ _) ?_ )) (by repeat (first | exact BndH.nil | refine BndH.row (w2w fun _ => rfl) ?_ )) (by rfl) fun γ => ?_
 show Ex Tryz.prog _ _ [(0, .ptr 4 (γ 4) 0)] [(0, ((γ 0), .row 41 3 ((n.lanes).map fun l => s1s l.base))), (1, ((γ 1), .row 42 1 ((n.lanes).map fun l => [a6f c l.done]))), (2, ((γ 2), .map (b0l c n.views))), (3, ((γ 3), .row 3 1 (n.known.map a3e))), (4, ((γ 4), .box 164 [pI n.id, pI n.inc, pI n.g, pI n.led, .ref 0 (γ 0), q3q c n.kept, r0r c n.outs, .pv (.bool n.up), .ref 1 (γ 1), pI n.version, .mp 2 (γ 2), .ref 3 (γ 3), pI n.round, pI n.low])), (5, ((γ 5), .dead)), (7, (0, .dead)), (6, (0, .dead))] _
 have hkl : n.kept.length ≤ 5000000 := by simp only [r2r, r7r] at hs; omega
 refine dv 8 ?_
 refine rlM [5] [_] (w4w c n.kept (by omega)) rfl rfl rfl ?_
 refine dv 10 fun K K' => ?_
 refine x4x (ι := Nat) (fun i γ1 => [(3, .ref 5 (γ1 5)), (19, pI (i : Int))]) (fun i γ1 => [(5, ((γ1 5), .row 56 7 ((n.kept ++ (n.lanes.take i).flatMap a8j).map y9y))), (6, ((γ1 6), .dead)), (7, ((γ1 7), .dead))]) (fun i => i ≤ n.lanes.length) (fun i => n.lanes.length - i) (q6q [17, 18] rfl) (a0p [0, 1, 2, 3, 4] rfl) 0 (by omega) [0, 0, 0, 0, 0, _, _, _] x6x (HE.row rfl (by simp) (HE.kill rfl (HE.kill rfl HE.nil))) rfl fun i γ1 hi => ?_
 refine dc 3 (fun K K' => aS ?_ ?_)<;>intro o<;>try simp at o
 ·obtain rfl : i = n.lanes.length := by omega
  refine dv 5 ?_
  exact ⟨[γ 0, γ 1, γ 2, γ 3, γ 4, _], rfl, rfl, HE.row rfl (by rw [List.take_length]; rfl) (a0p [0, 1, 2, 3, 4] rfl)⟩
 obtain ⟨p, hp⟩ := gE n.lanes i
 refine dv 4 fun K K' => ?_
 refine z0z (j := i) rfl rfl b8q rfl a6q rfl rfl (y7y hp) ?_
 refine dv 7 ?_
 refine u0u 23 rfl fun hlen2 => ?_
 refine x4x (ι := Nat) (fun j γ2 => [(3, .ref 5 (γ2 5)), (25, pI (j : Int))]) (fun j γ2 => [(5, ((γ2 5), .row 56 7 ((n.kept ++ (n.lanes.take i).flatMap a8j ++ (p.done.take j).flatMap Pa.sends).map y9y))), (6, ((γ2 6), .dead)), (7, ((γ2 7), .dead))]) (fun j => j ≤ p.done.length) (fun j => p.done.length - j) (q6q [17, 18, 19, 23, 24] rfl) (a0p [0, 1, 2, 3, 4] rfl) 0 (by omega) [0, 0, 0, 0, 0, _, _, _] x6x (HE.row rfl (by simp) (HE.kill rfl (HE.kill rfl HE.nil))) rfl fun j γ2 hi => ?_
 refine dc 3 (fun K K' => aS ?_ ?_)<;>intro o<;>try simp at o
 ·obtain rfl : j = p.done.length := by omega
  refine dv 2 ?_
  refine z8z rfl rfl rfl (dv 1 ?_)
  exact ⟨i + 1, ⟨by omega, by omega⟩, [0, 0, 0, 0, 0, _, _, _], (x7x 3 rfl (Cov.cons' (t := 19) rfl (by rw [x9x (by omega) (by omega)]; rfl) Cov.nil)), x6x, (HE.row rfl (by simp only [a3y hp, List.append_assoc, a8j, List.take_length]) (HE.kill rfl (HE.kill rfl HE.nil))), x5x, rfl⟩
 obtain ⟨q, hq⟩ := gE p.done j
 have hsp := c4g hp hq
 refine dv 6 fun K K' => ?_
 refine x3x (id := 6) a3q c0m rfl (dv 5 ?_)
 refine w6w (zs := (n.kept ++ (n.lanes.take i).flatMap a8j ++ (p.done.take j).flatMap Pa.sends ++ q.sends).map y9y) rfl rfl u3u rfl z2z rfl rfl rfl (z9z (fun _ => rfl) _) (a7x _ _ _) (by have hb56 : T56.bytes = 56 := rfl; rw [List.length_map, hb56]; omega) ?_
 refine dv 2 ?_
 refine z8z rfl rfl rfl (dv 1 ?_)
 exact ⟨j + 1, ⟨by omega, by omega⟩, [0, 0, 0, 0, 0, _, _, _], (x7x 3 rfl (Cov.cons' (t := 25) rfl (by rw [x9x (by omega) (by omega)]; rfl) Cov.nil)), (x7x 17 rfl (x7x 18 rfl (x7x 19 rfl (x7x 23 rfl (x7x 24 rfl Cov.nil))))), (HE.row rfl (by simp only [a3y hq, List.append_assoc]) (HE.kill rfl (HE.kill rfl HE.nil))), (u8u 0 rfl (u8u 1 rfl (u8u 2 rfl (u8u 3 rfl (u8u 4 rfl HE.nil))))), rfl⟩
theorem b9x (c : Bool) (n : Nd) (proc : Int) (e : Ev) : Meth Tryz.prog 231 7 [0, 1, 2, 3, 4, 5, 6] [.agg (y9y e), .ptr 5 0 0, .ptr 6 0 0] [(0, (0, .row 41 3 ((n.lanes).map fun l => s1s l.base))), (1, (0, .row 42 1 ((n.lanes).map fun l => [a6f c l.done]))), (2, (0, .map (b0l c n.views))), (3, (0, .row 3 1 (n.known.map a3e))), (4, (0, .box 164 [pI n.id, pI n.inc, pI n.g, pI n.led, .ref 0 0, q3q c n.kept, r0r c n.outs, .pv (.bool n.up), .ref 1 0, pI n.version, .mp 2 0, .ref 3 0, pI n.round, pI n.low])), (5, (0, .box 3 [pI proc])), (6, (0, .box 148 [.ptr 4 0 0]))] (.pv (.bool (a9k proc n.g e))) [] := by
 refine p4p v3v (fn := Tryz.f231) (by kernel_rfl) (by kernel_rfl) rfl (O0 := [.pv (.bool (a9k proc n.g e))]) 7 1 (s0s rfl) (by rfl) (by repeat (first | exact BndH.nil | refine BndH.box rfl ?_ | refine BndH.row (w2w fun _ => rfl) ?_ | refine BndH.map (a1i _ _) ?_ )) (by repeat (exact BndH.nil )) (by rfl) fun γ => ?_
 show Ex Tryz.prog _ _ [(0, .agg (y9y e)), (1, .ptr 5 (γ 5) 0), (2, .ptr 6 (γ 6) 0)] [(0, ((γ 0), .row 41 3 ((n.lanes).map fun l => s1s l.base))), (1, ((γ 1), .row 42 1 ((n.lanes).map fun l => [a6f c l.done]))), (2, ((γ 2), .map (b0l c n.views))), (3, ((γ 3), .row 3 1 (n.known.map a3e))), (4, ((γ 4), .box 164 [pI n.id, pI n.inc, pI n.g, pI n.led, .ref 0 (γ 0), q3q c n.kept, r0r c n.outs, .pv (.bool n.up), .ref 1 (γ 1), pI n.version, .mp 2 (γ 2), .ref 3 (γ 3), pI n.round, pI n.low])), (5, ((γ 5), .box 3 [pI proc])), (6, ((γ 6), .box 148 [.ptr 4 (γ 4) 0])), (7, (0, .dead))] _
 refine dv 1 ?_
 refine y0y (id := 7) rfl rfl rfl (dc 7 (aS ?_ ?_))<;>intro o<;>try simp at o
 ·refine dv 10 ?_
  exact ⟨[γ 0, γ 1, γ 2, γ 3, γ 4, γ 5, γ 6], rfl, congrArg (fun b : Bool => some [AV.pv (.bool b)]) ((decide_eq_false (by omega)).symm), x5x⟩
 refine dv 11 ?_
 exact ⟨[γ 0, γ 1, γ 2, γ 3, γ 4, γ 5, γ 6], rfl, congrArg (fun b : Bool => some [AV.pv (.bool b)]) (by exact decide_eq_decide.2 (by omega)), (u8u 0 rfl (u8u 1 rfl (u8u 2 rfl (u8u 3 rfl (u8u 4 rfl (u8u 5 rfl (u8u 6 rfl HE.nil)))))))⟩
theorem a4e (c : Bool) (n : Nd) (proc : Int) (l : List Ev) (hl : l.length ≤ 10000000) : Meth Tryz.prog 230 7 [0, 1, 2, 3, 4, 5, 6] [q3q true l, .fn (.func 231) [] [.ptr 5 0 0, .ptr 6 0 0]] [(0, (0, .row 41 3 ((n.lanes).map fun l => s1s l.base))), (1, (0, .row 42 1 ((n.lanes).map fun l => [a6f c l.done]))), (2, (0, .map (b0l c n.views))), (3, (0, .row 3 1 (n.known.map a3e))), (4, (0, .box 164 [pI n.id, pI n.inc, pI n.g, pI n.led, .ref 0 0, q3q c n.kept, r0r c n.outs, .pv (.bool n.up), .ref 1 0, pI n.version, .mp 2 0, .ref 3 0, pI n.round, pI n.low])), (5, (0, .box 3 [pI proc])), (6, (0, .box 148 [.ptr 4 0 0]))] (q3q true (l.filter (a9k proc n.g))) [] := by
 refine p4p v3v (fn := Tryz.f230) (by kernel_rfl) (by kernel_rfl) rfl (O0 := [q3q true (l.filter (a9k proc n.g))]) 7 4 (s0s rfl) (by rfl) (by repeat (first | exact BndH.nil | refine BndH.box rfl ?_ | refine BndH.row (w2w fun _ => rfl) ?_ | refine BndH.map (a1i _ _) ?_ )) (by repeat (exact BndH.nil )) (by rfl) fun γ => ?_
 show Ex Tryz.prog _ _ [(0, q3q true l), (1, .fn (.func 231) [] [.ptr 5 (γ 5) 0, .ptr 6 (γ 6) 0])] [(0, ((γ 0), .row 41 3 ((n.lanes).map fun l => s1s l.base))), (1, ((γ 1), .row 42 1 ((n.lanes).map fun l => [a6f c l.done]))), (2, ((γ 2), .map (b0l c n.views))), (3, ((γ 3), .row 3 1 (n.known.map a3e))), (4, ((γ 4), .box 164 [pI n.id, pI n.inc, pI n.g, pI n.led, .ref 0 (γ 0), q3q c n.kept, r0r c n.outs, .pv (.bool n.up), .ref 1 (γ 1), pI n.version, .mp 2 (γ 2), .ref 3 (γ 3), pI n.round, pI n.low])), (5, ((γ 5), .box 3 [pI proc])), (6, ((γ 6), .box 148 [.ptr 4 (γ 4) 0])), (10, (0, .dead)), (9, (0, .dead)), (8, (0, .dead)), (7, (0, .dead))] _
 refine dv 10 fun K K' => ?_
 refine a2j 5 10 56 7 rfl rfl ?_
 refine x4x (ι := Nat) (fun i γ1 => [(5, .ref 10 (γ1 10)), (10, pI (i : Int))]) (fun i γ1 => [(10, ((γ1 10), .row 56 7 (((l.take i).filter (a9k proc n.g)).map y9y))), (7, ((γ1 7), .dead)), (8, ((γ1 8), .dead)), (9, ((γ1 9), .dead))]) (fun i => i ≤ l.length) (fun i => l.length - i) (q6q [1, 8, 9] rfl) (a0p [0, 1, 2, 3, 4, 5, 6] rfl) 0 (by omega) [0, 0, 0, 0, 0, 0, 0, _, _, _, _] x6x (HE.row rfl (by rw [List.take_zero]; rfl) (HE.kill rfl (HE.kill rfl (HE.kill rfl HE.nil)))) rfl fun i γ1 hi => ?_
 refine dc 3 (fun K K' => aS ?_ ?_)<;>intro o<;>try simp at o
 ·obtain rfl : i = l.length := by omega
  rw [List.take_length]
  refine dv 1 ?_
  refine p7p 5 rfl rfl (fun _ => rfl) ?_
  refine dv 4 ?_
  exact ⟨[γ 0, γ 1, γ 2, γ 3, γ 4, γ 5, γ 6], rfl, rfl, x5x⟩
 obtain ⟨p, hp⟩ := gE l i
 have hfl : ((l.take i).filter (a9k proc n.g)).length ≤ 10000000 := Nat.le_trans (List.length_filter_le _ _) (by rw [List.length_take]; omega)
 refine dv 6 fun K K' => ?_
 refine x3x (id := 7) z2z a7w rfl (dv 4 ?_)
 refine rlM [0, 1, 2, 3, 4, 5, 6] [_, _, _, _, _, _, _] (b9x c n proc p) rfl rfl rfl ?_
 refine dc 0 (aS ?_ ?_)<;>intro hc5<;>try simp at hc5
 ·have hw : ¬ a9k proc n.g p = true := by rw [hc5]; decide
  refine dv 2 ?_
  refine z8z rfl rfl rfl (dv 1 ?_)
  exact ⟨i + 1, ⟨by omega, by omega⟩, [0, 0, 0, 0, 0, 0, 0, _, _, _, _], (x7x 5 rfl (Cov.cons' (t := 10) rfl (by rw [x9x (by omega) (by omega)]; rfl) Cov.nil)), x6x, (HE.row rfl (by rw [q9q hp]; rw [if_neg hw, List.append_nil]) (HE.kill rfl (HE.kill rfl (HE.kill rfl HE.nil)))), x5x, rfl⟩
 have hw : a9k proc n.g p = true := hc5
 refine dv 3 ?_
 refine y2y (id := 8) u3u rfl z2z rfl rfl rfl rfl rfl rfl ?_
 refine y6y (zs := ((l.take i).filter (a9k proc n.g) ++ [p]).map y9y) rfl rfl u3u rfl z2z rfl rfl rfl rfl (by rfl) (z7z _ _ _) (by (simp only [a0e, r7r, a0b, a0d, a0u, a2z, T56]; omega)) ?_
 refine dv 2 ?_
 refine z8z rfl rfl rfl (dv 1 ?_)
 exact ⟨i + 1, ⟨by omega, by omega⟩, [0, 0, 0, 0, 0, 0, 0, _, _, _, _], (x7x 5 rfl (Cov.cons' (t := 10) rfl (by rw [x9x (by omega) (by omega)]; rfl) Cov.nil)), (x7x 1 rfl (x7x 8 rfl (x7x 9 rfl Cov.nil))), (HE.row rfl (by rw [q9q hp]; rw [if_pos hw]) (HE.kill rfl (HE.kill rfl (HE.kill rfl HE.nil)))), (u8u 0 rfl (u8u 1 rfl (u8u 2 rfl (u8u 3 rfl (u8u 4 rfl (u8u 5 rfl (u8u 6 rfl HE.nil))))))), rfl⟩
theorem b3o (c : Bool) (n : Nd) (proc : Int) (hs : (r2r n).length + (a0f n 3).length ≤ 5000000) (hlen : n.lanes.length ≤ 1048576) (hv3 : n.views.length = 3) : Meth Tryz.prog 126 6 [0, 1, 2, 3, 4] [.ptr 4 0 0, .pv (.int .i64 proc)] [(0, (0, .row 41 3 ((n.lanes).map fun l => s1s l.base))), (1, (0, .row 42 1 ((n.lanes).map fun l => [a6f c l.done]))), (2, (0, .map (b0l c n.views))), (3, (0, .row 3 1 (n.known.map a3e))), (4, (0, .box 164 [pI n.id, pI n.inc, pI n.g, pI n.led, .ref 0 0, q3q c n.kept, r0r c n.outs, .pv (.bool n.up), .ref 1 0, pI n.version, .mp 2 0, .ref 3 0, pI n.round, pI n.low])), (5, (0, .dead))] (.ref 5 0) [(5, (0, .row 56 7 ((a1e n proc).map y9y)))] := by
 refine p4p v3v (fn := Tryz.f126) (by kernel_rfl) (by kernel_rfl) rfl (O0 := [.ref 5 0]) 6 4 (s0s rfl) (by rfl) (by repeat (first | exact BndH.nil | refine BndH.dead ?_ | refine BndH.box rfl ?_ | refine BndH.row (w2w fun _ => rfl) ?_ | refine BndH.map (a1i _ _) ?_ )) (by repeat (first | exact BndH.nil | refine BndH.row (w2w fun _ => rfl) ?_ )) (by rfl) fun γ => ?_
 show Ex Tryz.prog _ _ [(0, .ptr 4 (γ 4) 0), (1, .pv (.int .i64 proc))] [(0, ((γ 0), .row 41 3 ((n.lanes).map fun l => s1s l.base))), (1, ((γ 1), .row 42 1 ((n.lanes).map fun l => [a6f c l.done]))), (2, ((γ 2), .map (b0l c n.views))), (3, ((γ 3), .row 3 1 (n.known.map a3e))), (4, ((γ 4), .box 164 [pI n.id, pI n.inc, pI n.g, pI n.led, .ref 0 (γ 0), q3q c n.kept, r0r c n.outs, .pv (.bool n.up), .ref 1 (γ 1), pI n.version, .mp 2 (γ 2), .ref 3 (γ 3), pI n.round, pI n.low])), (5, ((γ 5), .dead)), (9, (0, .dead)), (8, (0, .dead)), (7, (0, .dead)), (6, (0, .dead))] _
 refine dv 1 ?_
 refine b7e (id := 6) rfl rfl rfl rfl (b7e (id := 7) rfl rfl rfl rfl (dv 3 ?_))
 refine rlM [0, 1, 2, 3, 4, 9] [_, _, _, _, _, _] (b3n c n (by omega) hlen) rfl rfl rfl ?_
 refine dv 5 fun K K' => ?_
 refine x4x (ι := Nat) (fun i γ1 => [(5, .ref 9 (γ1 9)), (9, pI (i : Int))]) (fun i γ1 => [(9, ((γ1 9), .row 56 7 ((r2r n ++ a0f n i).map y9y))), (8, ((γ1 8), .dead))]) (fun i => i ≤ 3) (fun i => 3 - i) (q6q [2, 3] rfl) (a0p [0, 1, 2, 3, 4, 5, 6, 7] rfl) 0 (by omega) [0, 0, 0, 0, 0, 0, 0, 0, _, _] x6x (HE.row rfl (by simp [a0f]) (HE.kill rfl HE.nil)) rfl fun i γ1 hi => ?_
 refine dc 3 (fun K K' => aS ?_ ?_)<;>intro o<;>try simp at o
 ·obtain rfl : i = 3 := by omega
  refine dv 1 ?_
  refine p7p 5 rfl rfl (fun _ => rfl) ?_
  refine dv 2 ?_
  refine a9g rfl rfl ?_
  refine rlM [0, 1, 2, 3, 4, 7, 6] [_, _, _, _, _, _, _] (a4e c n proc _ (by rw [List.length_append]; omega)) rfl rfl rfl ?_
  refine rlM [5] [_] (a8f true _ (Nat.le_trans (List.length_filter_le _ _) (by rw [List.length_append]; omega))) rfl rfl rfl ?_
  refine dv 2 ?_
  exact ⟨[γ 0, γ 1, γ 2, γ 3, γ 4, _], rfl, rfl, x5x⟩
 obtain ⟨v, hv⟩ := gE n.views i
 have hg : n.views.getD i vi0 = v := by rw [List.getD_eq_getElem?_getD, hv]; rfl
 have hol := c4h n (i := i + 1) (by omega)
 rw [a1f] at hol
 refine dc 14 (fun K K' => aS ?_ ?_)<;>intro hc5<;>try simp at hc5
 ·have hve : b0t n i = [] := by rw [b0t, if_pos hc5]
  refine dv 2 ?_
  refine z8z rfl rfl rfl (dv 1 ?_)
  exact ⟨i + 1, ⟨by omega, by omega⟩, [0, 0, 0, 0, 0, 0, 0, 0, _, _], (x7x 5 rfl (Cov.cons' (t := 9) rfl (by rw [x9x (by omega) (by omega)]; rfl) Cov.nil)), x6x, (HE.row rfl (by rw [a1f, hve]; simp) (HE.kill rfl HE.nil)), x5x, rfl⟩
 have hve : b0t n i = v.events := by rw [b0t, if_neg hc5, hg]
 rw [hve] at hol
 simp only [r7r] at hol
 refine dv 7 ?_
 refine a3x (κ := Int) (enc := fun n => .int .i64 n) (ks := b7x n.views.length) (k := (i : Int)) (out := .agg (a2b c v)) v3v Tryz.underlying162 (a9f Tryz.underlying3) rfl rfl (fun _ _ _ h => d4m h) rfl (a9s _ _) (b9r hv) ?_
 refine dv 1 ?_
 refine w6w (zs := (r2r n ++ a0f n i ++ v.events).map y9y) rfl rfl u3u rfl z2z rfl rfl rfl (z9z (fun _ => rfl) _) (a7x _ _ _) (by have hb56 : T56.bytes = 56 := rfl; rw [List.length_map, hb56]; simp only [r7r]; omega) ?_
 refine dv 2 ?_
 refine z8z rfl rfl rfl (dv 1 ?_)
 exact ⟨i + 1, ⟨by omega, by omega⟩, [0, 0, 0, 0, 0, 0, 0, 0, _, _], (x7x 5 rfl (Cov.cons' (t := 9) rfl (by rw [x9x (by omega) (by omega)]; rfl) Cov.nil)), x6x, (HE.row rfl (by rw [a1f, hve]; simp) (HE.kill rfl HE.nil)), x5x, rfl⟩
end
section
theorem c2l (c : Bool) (p : Pa) (ps : List Pa) : Meth Tryz.prog 236 1 [0] [.ptr 0 0 0, .agg (a0j c p)] [(0, (0, .chn 256 259 ((ps).map (a0j c))))] (.tup []) [(0, (0, .chn 256 259 ((ps ++ [p]).map (a0j c))))] := by
 refine p4p v3v (fn := Tryz.f236) (by kernel_rfl) (by kernel_rfl) rfl (O0 := []) 1 2 (s0s rfl) (by rfl) (by repeat (first | exact BndH.nil | refine BndH.chn ?_)) (by repeat (first | exact BndH.nil | refine BndH.chn ?_)) (by rfl) fun γ => ?_
 show Ex Tryz.prog _ _ [(0, .ptr 0 (γ 0) 0), (1, .agg (a0j c p))] [(0, ((γ 0), .chn 256 259 ((ps).map (a0j c)))), (2, (0, .dead)), (1, (0, .dead))] _
 refine e2g ?_
 refine d6u 0 rfl fun b0 bs hbl hbn => ?_
 have hbl2 : bs.length = ps.length := by rw [hbl, List.length_map]
 refine a6d v3v (by rfl) ?_
 refine y0y (id := 1) rfl rfl rfl ?_
 refine a6d v3v (by rfl) ?_
 refine c1u rfl a3q rfl rfl rfl ?_
 refine c8v c1t rfl f4y rfl (by simp only [pI, a3q, T58, a1c, f6y, b6t, a0v, AV.okc, AV.one, Value.oneCell', List.map_cons, List.map_nil, List.getElem?_cons_zero, List.getElem?_cons_succ, List.take_succ_cons, List.take_zero, List.drop_succ_cons, List.drop_zero, List.cons_append, List.nil_append, List.length_cons, List.length_nil, if_true, and_self, Nat.reduceAdd, Nat.reduceLeDiff]; rfl) ?_
 refine y0y (id := 2) rfl rfl rfl ?_
 refine v0v rfl ?_
 refine a1r fun K1 hK1 => ?_
 refine e2i 4 0 2 rfl rfl (by intro h; cases h) rfl rfl rfl fun bn hbn2 => ?_
 refine a6d v3v (by rfl) ?_
 refine z5z rfl ?_
 refine b1m rfl rfl ?_
 refine u7u rfl b3e rfl rfl a1c rfl rfl ?_
 refine b9a v3v (out := .pv (a5w bs.getLast?)) rfl a1c rfl rfl ?_
 refine a6o rfl rfl (by intro a c h h2; cases h; cases h2; rfl) (.inl rfl) (c3t (by kernel_rfl) _ _ _) ?_
 refine a0l rfl (fun hc2 => ?_) (fun hc2 => ?_)
 ·try simp at hc2
  obtain rfl : bs = [] := by cases bs with | nil => rfl | cons b r => (simp [List.getLast?_cons, a1t] at hc2)
  obtain rfl : ps = [] := List.eq_nil_of_length_eq_zero (by simpa using hbl2.symm)
  refine a0w v3v (by rfl) ?_
  refine z5z rfl ?_
  refine z5z rfl ?_
  refine b1m rfl rfl ?_
  refine u7u rfl b3e rfl rfl a1c rfl rfl ?_
  refine b1o v3v rfl rfl a1c rfl rfl rfl rfl rfl ?_
  refine hK1 _ _ ?_
  clear hK1 K1
  refine a0w v3v (by rfl) ?_
  refine z5z rfl ?_
  refine z5z rfl ?_
  refine b1m rfl rfl ?_
  refine u7u rfl b3e rfl rfl a1c rfl rfl ?_
  refine b1o v3v rfl rfl a1c rfl rfl rfl rfl rfl ?_
  refine Conv.step (c2q 0 b0 256 259 ([bn]) ([a0j c p]) rfl rfl rfl) (Conv.done ?_)
  exact ⟨.inl rfl, [γ 0], rfl, rfl, HE.same rfl HE.nil⟩
 try simp at hc2
 obtain ⟨bs0, bl, rfl⟩ := e2f (l := bs) (by exact hc2)
 obtain ⟨ps0, pl, rfl⟩ := e2f (l := ps) (by rintro rfl; simp at hbl2)
 refine a0w v3v (by rfl) ?_
 refine z5z rfl ?_
 refine b1m rfl rfl ?_
 refine u7u rfl b3e rfl rfl a1c rfl rfl ?_
 refine b9a v3v (out := PQ bl 0) rfl a1c rfl (by rw [List.getLast?_concat]; rfl) ?_
 refine z5z rfl ?_
 refine b7l rfl ?_
 refine a1z v3v rfl c1t rfl rfl a1c rfl ?_
 refine d2a v3v (bty := 259) ((b0, 256, [.pv (a5w (bs0 ++ [bl]).head?), .pv (a5w (bs0 ++ [bl]).getLast?)]) :: c0b 259 (some bl) bs0 (ps0.map (a0j c))) [(bn, 259, a0j c p ++ [.pv (.pointer none)])] (cs := a0j c pl ++ [.pv (.pointer none)]) 0 rfl rfl a1c rfl rfl rfl (by rw [chB, List.map_append, List.map_cons, List.map_nil, d1z (by rw [List.length_map]; simpa using hbl2)]; simp [a5w]) (s0s rfl) rfl ?_
 refine hK1 _ _ ?_
 clear hK1 K1
 refine a0w v3v (by rfl) ?_
 refine z5z rfl ?_
 refine z5z rfl ?_
 refine b1m rfl rfl ?_
 refine u7u rfl b3e rfl rfl a1c rfl rfl ?_
 refine b1o v3v rfl rfl a1c rfl rfl rfl rfl rfl ?_
 refine Conv.step (c2q 0 b0 256 259 (bs0 ++ [bl] ++ [bn]) (((ps0 ++ [pl]) ++ [p]).map (a0j c)) rfl (by simp at hbl2 ⊢; exact hbl2) (by rw [List.map_append, List.map_cons (l := []), List.map_nil, d6t (by rw [List.length_map]; exact hbl2), List.map_append, List.map_cons, List.map_nil, d1z (by rw [List.length_map]; simpa using hbl2)]; cases bs0 <;> simp [a5w] <;> rfl)) (Conv.done ?_)
 exact ⟨.inl rfl, [γ 0], rfl, rfl, HE.same rfl HE.nil⟩
theorem b6s (c : Bool) (l : List Pa) : Meth Tryz.prog 131 1 [] [a6f c l] [(0, (0, .dead))] (.ptr 0 0 0) [(0, (0, .chn 256 259 ((l).map (a0j c))))] := by
 refine p4p v3v (fn := Tryz.f131) (by kernel_rfl) (by kernel_rfl) rfl (O0 := [.ptr 0 0 0]) 1 1 (s0s rfl) (by rfl) (by repeat (first | exact BndH.nil | refine BndH.dead ?_)) (by repeat (first | exact BndH.nil | refine BndH.chn ?_)) (by rfl) fun γ => ?_
 show Ex Tryz.prog _ _ [(0, a6f c l)] [(0, ((γ 0), .dead)), (1, (0, .dead))] _
 refine u0u 0 rfl fun hlen => ?_
 refine a6d v3v (by rfl) ?_
 refine v0v rfl ?_
 refine a6d v3v (by rfl) ?_
 refine c8v b3e rfl f4x rfl (by simp only [pI, b6t, a0v, AV.okc, AV.one, T3, T4, List.getElem?_cons_zero, List.getElem?_cons_succ, List.take_succ_cons, List.take_zero, List.drop_succ_cons, List.drop_zero, List.cons_append, List.nil_append, List.length_cons, List.length_nil, if_true, and_self, Nat.reduceAdd, Nat.reduceLeDiff]; rfl) ?_
 refine y0y (id := 0) rfl rfl rfl ?_
 refine v0v rfl ?_
 refine a1r fun K1 hK1 => ?_
 refine a6d v3v (by rfl) ?_
 refine z5z rfl ?_
 refine c8w rfl a6q rfl ?_
 refine z5z rfl ?_
 refine a5e ?_
 refine e2h 0 259 rfl ?_
 refine x4x (ι := Nat) (fun i γ1 => [(10, .pv (.int .i64 (i : Int)))]) (fun i γ1 => [(0, ((γ 0 + 1), .chn 256 259 ((l.take i).map (a0j c)))), (1, ((γ1 1), .dead))]) (fun i => i ≤ l.length) (fun i => l.length - i) (x7x 3 rfl (x7x 8 rfl (x7x 9 rfl Cov.nil))) HE.nil 0 (by omega) [0, _] (x7x 10 rfl Cov.nil) (HE.chn rfl (by rw [List.take_zero]; rfl) (HE.kill rfl HE.nil)) rfl fun i γ1 hi => ?_
 refine a6d v3v (by rfl) ?_
 refine b1p rfl rfl rfl ?_
 refine a1r fun K2 hK2 => ?_
 refine a0l rfl (fun hc3 => ?_) (fun hc3 => ?_)
 rotate_left
 ·try simp at hc3
  obtain rfl : i = l.length := by omega
  refine a7t ?_
  refine hK1 _ _ ?_
  clear hK2 K2 hK1 K1
  refine a6d v3v (by rfl) ?_
  refine z5z rfl ?_
  refine v0v rfl ?_
  refine a9b ?_
  rw [List.take_length]
  exact ⟨.inr rfl, [_], rfl, rfl, HE.same rfl HE.nil⟩
 try simp at hc3
 obtain ⟨p, hp⟩ : ∃ p, l[i]? = some p := c6p (by omega)
 refine b0p ?_
 refine hK2 _ _ ?_
 clear hK2 K2
 refine a1r fun K4 hK4 => ?_
 refine a5e ?_
 refine a6d v3v (by rfl) ?_
 refine b0q rfl rfl a6q rfl a3q rfl (by assumption) ?_
 refine a7j rfl a3q rfl rfl ?_
 refine x3x (id := 1) a3q c0m rfl ?_
 refine c3m rfl rfl a3q rfl rfl rfl rfl ?_
 refine a0w v3v (by rfl) ?_
 refine z5z rfl ?_
 refine c1u rfl a3q rfl rfl rfl ?_
 refine e1l [0] [_] (c2l c p (l.take i)) rfl rfl rfl (by decide) rfl rfl (by repeat (first | exact InH.nil | refine InH.cons rfl ?_)) (by (simp only [pI, a2f, a2g, c0d, gl, nx, a6z, Nat.beq]; rfl)) (by (simp only [pI, a2f, a2g, c0d, gl, nx, a6z, Nat.beq]; rfl)) ?_
 refine hK4 _ _ ?_
 clear hK4 K4
 refine a0w v3v (by rfl) ?_
 refine x8x (b := 1) rfl rfl (by omega) ?_
 refine z5z rfl ?_
 exact ⟨i + 1, ⟨by omega, by omega⟩, [0, _], (x7x 10 rfl Cov.nil), (x7x 3 rfl (x7x 8 rfl (x7x 9 rfl Cov.nil))), (HE.chn rfl (by rw [z6z hp]) (HE.kill rfl HE.nil)), HE.nil, rfl⟩
theorem a7q (c c' : Bool) (ps : List Pa) (s : List Ev) : Meth Tryz.prog 132 1 [0] [.ptr 0 0 0, q3q c' s] [(0, (0, .chn 256 259 ((ps).map (a0j c))))] (.pv (.int .i64 (same ps s : Int))) [] := by
 refine p4p v3v (fn := Tryz.f132) (by kernel_rfl) (by kernel_rfl) rfl (O0 := [.pv (.int .i64 (same ps s : Int))]) 1 0 (s0s rfl) (by rfl) (by repeat (first | exact BndH.nil | refine BndH.chn ?_)) (by repeat (exact BndH.nil)) (by rfl) fun γ => ?_
 show Ex Tryz.prog _ _ [(0, .ptr 0 (γ 0) 0), (1, q3q c' s)] [(0, ((γ 0), .chn 256 259 ((ps).map (a0j c))))] _
 refine u0u 1 rfl fun hlen => ?_
 refine d6u 0 rfl fun b0 bs hbl hbn => ?_
 have hbl2 : bs.length = ps.length := by rw [hbl, List.length_map]
 refine a6d v3v (by rfl) ?_
 refine v0v rfl ?_
 refine a6d v3v (by rfl) ?_
 refine v0v rfl ?_
 refine a1r fun K1 hK1 => ?_
 refine a6d v3v (by rfl) ?_
 refine z5z rfl ?_
 refine b1m rfl rfl ?_
 refine u7u rfl b3e rfl rfl a1c rfl rfl ?_
 refine b9a v3v (out := .pv (a5w bs.head?)) rfl a1c rfl rfl ?_
 refine v0v rfl ?_
 refine a5e ?_
 refine x4x (ι := Nat) (fun i γ1 => [(5, .pv (.int .i64 (i : Int))), (6, .pv (a5w bs[i]?))]) (fun i γ1 => []) (fun i => i ≤ ps.length ∧ i ≤ s.length ∧ same ps s = i + same (ps.drop i) (s.drop i)) (fun i => ps.length - i) (x7x 1 rfl Cov.nil) (u8u 0 rfl HE.nil) 0 ⟨by omega, by omega, by rw [List.drop_zero, List.drop_zero, Nat.zero_add]⟩ [] (x7x 5 rfl (Cov.cons' (t := 6) rfl ((by rw [List.head?_eq_getElem?])) Cov.nil)) HE.nil rfl fun i γ1 hi => ?_
 obtain ⟨h1, h2, h3⟩ := hi
 refine a1r fun K2 hK2 => ?_
 refine e2m v3v c2b (by rfl) ?_
 refine z5z rfl ?_
 refine a6o rfl rfl (by intro a c h h2; cases h; cases h2; rfl) (.inr rfl) (c3t (by kernel_rfl) _ _ _) ?_
 refine z5z rfl ?_
 refine d8t rfl rfl (fun hg3 => ?_) (fun hg3 => ?_)
 rotate_left
 ·try simp at hg3
  have g1 : ps.length ≤ i := by omega
  refine a9d rfl rfl ?_
  refine a9d rfl rfl ?_
  refine a9d rfl rfl ?_
  refine c2n rfl rfl ?_
  refine z5z rfl ?_
  refine a9d rfl rfl ?_
  refine a9d rfl rfl ?_
  refine a9d rfl rfl ?_
  refine a9d rfl rfl ?_
  refine a9d rfl rfl ?_
  refine a9d rfl rfl ?_
  refine a9d rfl rfl ?_
  refine a9d rfl rfl ?_
  refine a9d rfl rfl ?_
  refine a9d rfl rfl ?_
  refine c2n rfl rfl ?_
  refine ⟨by kernel_rfl, ?_⟩
  refine a0l rfl (fun hc8 => ?_) (fun hc8 => ?_)
  ·simp at hc8
  try simp at hc8
  try have heq : ¬ p.ev = e := by simpa [a1t] using hc8
  refine a7t ?_
  refine hK1 _ _ ?_
  clear hK2 K2 hK1 K1
  refine a6d v3v (by rfl) ?_
  refine z5z rfl ?_
  refine v0v rfl ?_
  refine b8y 0 b0 256 259 (bs) (ps.map (a0j c)) rfl hbl rfl ?_
  refine a9b ?_
  refine ⟨.inr rfl, [γ 0], rfl, ?_, HE.same rfl HE.nil⟩
  exact congrArg (fun v : Nat => some [AV.pv (.int .i64 (v : Int))]) (h3.trans (by rw [d2l g1]; rfl)).symm
 try simp at hg3
 obtain ⟨b, hb⟩ : ∃ b, bs[i]? = some b := c6p (by omega)
 rw [hb]
 have g1 : i < ps.length := by have := (List.getElem?_eq_some_iff.1 hb).1; omega
 obtain ⟨p, hp⟩ : ∃ p, ps[i]? = some p := c6p (by omega)
 refine z5z rfl ?_
 refine b4d rfl rfl ?_
 refine z5z rfl ?_
 refine b4d rfl rfl ?_
 refine c8w rfl u3u rfl ?_
 refine b4d rfl rfl ?_
 refine b1p rfl rfl rfl ?_
 refine c2m rfl rfl ?_
 refine z5z rfl ?_
 refine d8t rfl rfl (fun hg4 => ?_) (fun hg4 => ?_)
 rotate_left
 ·try simp at hg4
  have g2 : s.length ≤ i := by omega
  refine a9d rfl rfl ?_
  refine a9d rfl rfl ?_
  refine a9d rfl rfl ?_
  refine a9d rfl rfl ?_
  refine a9d rfl rfl ?_
  refine a9d rfl rfl ?_
  refine a9d rfl rfl ?_
  refine a9d rfl rfl ?_
  refine a9d rfl rfl ?_
  refine c2n rfl rfl ?_
  refine ⟨by kernel_rfl, ?_⟩
  refine a0l rfl (fun hc7 => ?_) (fun hc7 => ?_)
  ·simp at hc7
  try simp at hc7
  try have heq : ¬ p.ev = e := by simpa [a1t] using hc7
  refine a7t ?_
  refine hK1 _ _ ?_
  clear hK2 K2 hK1 K1
  refine a6d v3v (by rfl) ?_
  refine z5z rfl ?_
  refine v0v rfl ?_
  refine b8y 0 b0 256 259 (bs) (ps.map (a0j c)) rfl hbl rfl ?_
  refine a9b ?_
  refine ⟨.inr rfl, [γ 0], rfl, ?_, HE.same rfl HE.nil⟩
  exact congrArg (fun v : Nat => some [AV.pv (.int .i64 (v : Int))]) (h3.trans (by rw [d2m g2]; rfl)).symm
 try simp at hg4
 have g2 : i < s.length := by omega
 obtain ⟨e, he⟩ : ∃ e, s[i]? = some e := c6p (by omega)
 refine z5z rfl ?_
 refine b4d rfl rfl ?_
 refine b7l rfl ?_
 refine b4d rfl rfl ?_
 refine a1z v3v rfl c1t rfl rfl a3q rfl ?_
 refine b4d rfl rfl ?_
 refine a1z v3v rfl a3q rfl rfl z2z rfl ?_
 refine b4d rfl rfl ?_
 refine b8z v3v (out := .agg (y9y p.ev)) 0 rfl z2z rfl (c3u hbl hb (b2u hp)) rfl ?_
 refine b4d rfl rfl ?_
 refine z5z rfl ?_
 refine b4d rfl rfl ?_
 refine z5z rfl ?_
 refine b4d rfl rfl ?_
 refine b0q rfl rfl u3u rfl z2z rfl he ?_
 refine b4d rfl rfl ?_
 refine v4v (out := .agg (y9y e)) rfl z2z rfl ?_
 refine b4d rfl rfl ?_
 refine a6o rfl rfl (by intro a c h; cases h) (.inl rfl) (e3v _ _ _ _) ?_
 refine c2m rfl rfl ?_
 refine ⟨by kernel_rfl, ?_⟩
 refine a0l rfl (fun hc5 => ?_) (fun hc5 => ?_)
 rotate_left
 ·try simp at hc5
  try have heq : ¬ p.ev = e := by simpa [a1t] using hc5
  refine a7t ?_
  refine hK1 _ _ ?_
  clear hK2 K2 hK1 K1
  refine a6d v3v (by rfl) ?_
  refine z5z rfl ?_
  refine v0v rfl ?_
  refine b8y 0 b0 256 259 (bs) (ps.map (a0j c)) rfl hbl rfl ?_
  refine a9b ?_
  refine ⟨.inr rfl, [γ 0], rfl, ?_, HE.same rfl HE.nil⟩
  exact congrArg (fun v : Nat => some [AV.pv (.int .i64 (v : Int))]) (h3.trans (by rw [d2k hp he heq]; rfl)).symm
 try simp at hc5
 try have heq : p.ev = e := by simpa [a1t] using hc5
 refine b0p ?_
 refine hK2 _ _ ?_
 clear hK2 K2
 refine a1r fun K6 hK6 => ?_
 refine a5e ?_
 refine a0w v3v (by rfl) ?_
 refine z5z rfl ?_
 refine x8x (b := 1) rfl rfl (by omega) ?_
 refine v0v rfl ?_
 refine hK6 _ _ ?_
 clear hK6 K6
 refine a0w v3v (by rfl) ?_
 refine z5z rfl ?_
 refine b7l rfl ?_
 refine a1z v3v rfl c1t rfl rfl a1c rfl ?_
 refine b8z v3v (out := .pv (a5w bs[i + 1]?)) 0 rfl a1c rfl (c3u hbl hb (b2u hp)) rfl ?_
 refine v0v rfl ?_
 exact ⟨i + 1, ⟨⟨by omega, by omega, by rw [h3, d2j hp he heq]; omega⟩, by omega⟩, [], (x7x 5 rfl (x7x 6 rfl Cov.nil)), (x7x 1 rfl Cov.nil), HE.nil, (u8u 0 rfl HE.nil), rfl⟩
theorem c1n (c : Bool) (ps : List Pa) (hlp : ps.length ≤ 1000000) : Meth Tryz.prog 294 1 [0] [.ptr 0 0 0] [(0, (0, .chn 256 259 ((ps).map (a0j c))))] (a6f c ps) [] := by
 refine p4p v3v (fn := Tryz.f294) (by kernel_rfl) (by kernel_rfl) rfl (O0 := [a6f c ps]) 1 3 (s0s rfl) (by rfl) (by repeat (first | exact BndH.nil | refine BndH.chn ?_)) (by repeat (exact BndH.nil)) (by rfl) fun γ => ?_
 show Ex Tryz.prog _ _ [(0, .ptr 0 (γ 0) 0)] [(0, ((γ 0), .chn 256 259 ((ps).map (a0j c)))), (3, (0, .dead)), (2, (0, .dead)), (1, (0, .dead))] _
 refine d6u 0 rfl fun b0 bs hbl hbn => ?_
 have hbl2 : bs.length = ps.length := by rw [hbl, List.length_map]
 refine a6d v3v (by rfl) ?_
 refine v0v rfl ?_
 refine a6d v3v (by rfl) ?_
 refine v0v rfl ?_
 refine a1r fun K1 hK1 => ?_
 refine a6d v3v (by rfl) ?_
 refine z5z rfl ?_
 refine b1m rfl rfl ?_
 refine u7u rfl b3e rfl rfl a1c rfl rfl ?_
 refine b9a v3v (out := .pv (a5w bs.head?)) rfl a1c rfl rfl ?_
 refine v0v rfl ?_
 refine a5e ?_
 refine a2j 3 3 58 12 rfl rfl ?_
 refine x4x (ι := Nat) (fun i γ1 => [(3, .ref 3 (γ1 3)), (4, .pv (a5w bs[i]?))]) (fun i γ1 => [(3, ((γ1 3), .row 58 12 ((ps.take i).map (a0j c)))), (1, ((γ1 1), .dead)), (2, ((γ1 2), .dead))]) (fun i => i ≤ ps.length) (fun i => ps.length - i) Cov.nil (u8u 0 rfl HE.nil) 0 (by omega) [0, _, _, _] (x7x 3 rfl (Cov.cons' (t := 4) rfl ((by rw [List.head?_eq_getElem?])) Cov.nil)) (HE.row rfl (by rw [List.take_zero]; rfl) (HE.kill rfl (HE.kill rfl HE.nil))) rfl fun i γ1 hi => ?_
 refine a1r fun K2 hK2 => ?_
 refine a6d v3v (by rfl) ?_
 refine z5z rfl ?_
 refine a6o rfl rfl (by intro a c h h2; cases h; cases h2; rfl) (.inr rfl) (c3t (by kernel_rfl) _ _ _) ?_
 refine a0l rfl (fun hc3 => ?_) (fun hc3 => ?_)
 rotate_left
 ·try simp at hc3
  obtain rfl : i = ps.length := by omega
  rw [List.take_length]
  refine a7t ?_
  refine hK1 _ _ ?_
  clear hK2 K2 hK1 K1
  refine a6d v3v (by rfl) ?_
  refine z5z rfl ?_
  refine v0v rfl ?_
  refine d1q (b := .row (.rd true) 58 12 (ps.map (a0j c))) 2 rfl (.ref rfl (Le.ow_map _ (fun _ => rfl) (fun _ => rfl)) .nil) ?_
  refine d1q (b := a6f c ps) 2 rfl (.le rfl (Le.low_map fun _ => rfl) .nil) ?_
  refine b8y 0 b0 256 259 (bs) (ps.map (a0j c)) rfl hbl rfl ?_
  refine a9b ?_
  exact ⟨.inr rfl, [γ 0], rfl, rfl, HE.same rfl HE.nil⟩
 try simp at hc3
 obtain ⟨b, hb⟩ : ∃ b, bs[i]? = some b := c6p (by omega)
 rw [hb]
 have g1 : i < ps.length := by have := (List.getElem?_eq_some_iff.1 hb).1; omega
 obtain ⟨p, hp⟩ : ∃ p, ps[i]? = some p := c6p (by omega)
 refine b0p ?_
 refine hK2 _ _ ?_
 clear hK2 K2
 refine a1r fun K4 hK4 => ?_
 refine a5e ?_
 refine a0w v3v (by rfl) ?_
 refine z5z rfl ?_
 refine z5z rfl ?_
 refine b7l rfl ?_
 refine a1z v3v rfl c1t rfl rfl a3q rfl ?_
 refine b8z v3v (out := .agg (a0j c p)) 0 rfl a3q rfl (c3u hbl hb (b2u hp)) rfl ?_
 refine y2y (id := 1) a6q rfl a3q rfl rfl rfl rfl rfl rfl ?_
 refine y6y (zs := (ps.take i ++ [p]).map (a0j c)) rfl rfl a6q rfl a3q rfl rfl rfl rfl (by rfl) (z7z _ _ _) (by simp only [List.length_map, List.length_append, List.length_cons, List.length_nil, List.length_take, T58]; omega) ?_
 refine v0v rfl ?_
 refine hK4 _ _ ?_
 clear hK4 K4
 refine a0w v3v (by rfl) ?_
 refine z5z rfl ?_
 refine b7l rfl ?_
 refine a1z v3v rfl c1t rfl rfl a1c rfl ?_
 refine b8z v3v (out := .pv (a5w bs[i + 1]?)) 0 rfl a1c rfl (c3u hbl hb (b2u hp)) rfl ?_
 refine v0v rfl ?_
 exact ⟨i + 1, ⟨by omega, by omega⟩, [0, _, _, _], (x7x 3 rfl (x7x 4 rfl Cov.nil)), Cov.nil, (HE.row rfl (by rw [z6z hp]) (HE.kill rfl (HE.kill rfl HE.nil))), (u8u 0 rfl HE.nil), rfl⟩
theorem b6c (c : Bool) (ps : List Pa) : Meth Tryz.prog 293 2 [0] [.ptr 0 0 0] [(0, (0, .chn 256 259 ((ps).map (a0j c)))), (1, (0, .dead))] (.fn (.func 314) [] [.ptr 1 0 0]) [(1, (0, .box 156 [.ptr 0 0 0]))] := by
 refine p4p v3v (fn := Tryz.f293) (by kernel_rfl) (by kernel_rfl) rfl (O0 := [.fn (.func 314) [] [.ptr 1 0 0]]) 2 0 (s0s rfl) (by rfl) (by repeat (first | exact BndH.nil | refine BndH.dead ?_ | refine BndH.chn ?_)) (by repeat (first | exact BndH.nil | refine BndH.box rfl ?_)) (by rfl) fun γ => ?_
 show Ex Tryz.prog _ _ [(0, .ptr 0 (γ 0) 0)] [(0, ((γ 0), .chn 256 259 ((ps).map (a0j c)))), (1, ((γ 1), .dead))] _
 refine a6d v3v (by rfl) ?_
 refine b7e (id := 1) rfl rfl rfl rfl ?_
 refine v0v rfl ?_
 refine a6d v3v (by rfl) ?_
 refine a9g rfl rfl ?_
 refine v0v rfl ?_
 refine a9b ?_
 exact ⟨.inr rfl, [γ 0, _], rfl, rfl, HE.box rfl rfl (HE.same rfl HE.nil)⟩
theorem b3z (c : Bool) (ps : List Pa) (k : Nat) (hk : k ≤ ps.length) (hlp : ps.length ≤ 1000000) : Meth Tryz.prog 314 2 [0, 1] [.pv (.int .i64 (k : Int)), .ptr 1 0 0] [(0, (0, .chn 256 259 ((ps).map (a0j c)))), (1, (0, .box 156 [.ptr 0 0 0]))] (.tup []) [(0, (0, .chn 256 259 ((ps.take k).map (a0j c))))] := by
 refine p4p v3v (fn := Tryz.f314) (by kernel_rfl) (by kernel_rfl) rfl (O0 := []) 2 0 (s0s rfl) (by rfl) (by repeat (first | exact BndH.nil | refine BndH.box rfl ?_ | refine BndH.chn ?_)) (by repeat (first | exact BndH.nil | refine BndH.chn ?_)) (by rfl) fun γ => ?_
 show Ex Tryz.prog _ _ [(0, .pv (.int .i64 (k : Int))), (1, .ptr 1 (γ 1) 0)] [(0, ((γ 0), .chn 256 259 ((ps).map (a0j c)))), (1, ((γ 1), .box 156 [.ptr 0 (γ 0) 0]))] _
 refine e2g ?_
 refine d6u 0 rfl fun b0 bs hbl hbn => ?_
 have hbl2 : bs.length = ps.length := by rw [hbl, List.length_map]
 refine a1r fun K1 hK1 => ?_
 refine a6d v3v (by rfl) ?_
 refine z5z rfl ?_
 refine b1p rfl rfl rfl ?_
 refine a0l rfl (fun hc2 => ?_) (fun hc2 => ?_)
 ·try simp at hc2
  obtain rfl : k = 0 := by omega
  refine e2m v3v c2b (by rfl) ?_
  refine y8y rfl d6i rfl rfl ?_
  refine y8y rfl d6i rfl rfl ?_
  refine b1m rfl rfl ?_
  refine u7u rfl b3e rfl rfl a1c rfl rfl ?_
  refine b1o v3v rfl rfl a1c rfl rfl rfl rfl rfl ?_
  refine b1m rfl rfl ?_
  refine u7u rfl b3e rfl rfl a1c rfl rfl ?_
  refine b1o v3v rfl rfl a1c rfl rfl rfl rfl rfl ?_
  refine ⟨by kernel_rfl, ?_⟩
  refine d9c 0 [(b0, 256, [.pv (.pointer none), .pv (.pointer none)])] _ rfl rfl ?_
  refine b8y 0 b0 256 259 ([]) ([]) rfl rfl rfl ?_
  refine a9b ?_
  (refine Conv.done ?_; exact ⟨.inr rfl, [γ 0, γ 1], rfl, rfl, HE.same rfl (HE.same rfl HE.nil)⟩)
 try simp at hc2
 have hk0 : 0 < k := by omega
 refine b0p ?_
 refine hK1 _ _ ?_
 clear hK1 K1
 refine a6d v3v (by rfl) ?_
 refine y8y rfl d6i rfl rfl ?_
 refine b1m rfl rfl ?_
 refine u7u rfl b3e rfl rfl a1c rfl rfl ?_
 refine b9a v3v (out := .pv (a5w bs.head?)) rfl a1c rfl rfl ?_
 refine v0v rfl ?_
 refine a1r fun K3 hK3 => ?_
 refine a6d v3v (by rfl) ?_
 refine v0v rfl ?_
 refine a5e ?_
 refine x4x (ι := Nat) (fun j γ1 => [(3, .pv (a5w bs[j]?)), (4, .pv (.int .i64 ((j + 1 : Nat) : Int)))]) (fun j γ1 => []) (fun j => j < k) (fun j => k - j) (x7x 0 rfl (x7x 1 rfl Cov.nil)) (u8u 0 rfl (u8u 1 rfl HE.nil)) 0 (by omega) [] (Cov.cons' (t := 3) rfl ((by rw [List.head?_eq_getElem?])) (x7x 4 rfl Cov.nil)) HE.nil rfl fun j γ1 hi => ?_
 refine a1r fun K4 hK4 => ?_
 refine a6d v3v (by rfl) ?_
 refine z5z rfl ?_
 refine z5z rfl ?_
 refine b1p rfl rfl rfl ?_
 refine z5z rfl ?_
 refine d8t rfl rfl (fun hg5 => ?_) (fun hg5 => ?_)
 ·try simp at hg5
  have hj : j + 1 < k := by omega
  obtain ⟨b, hb⟩ : ∃ b, bs[j]? = some b := c6p (by omega)
  obtain ⟨p, hp⟩ : ∃ p, ps[j]? = some p := c6p (by omega)
  rw [hb]
  refine z5z rfl ?_
  refine b4d rfl rfl ?_
  refine a6o rfl rfl (by intro a c h h2; cases h; cases h2; rfl) (.inr rfl) (c3t (by kernel_rfl) _ _ _) ?_
  refine c2m rfl rfl ?_
  refine a0l rfl (fun hc6 => ?_) (fun hc6 => ?_)
  rotate_left
  ·simp at hc6
  try simp at hc6
  refine b0p ?_
  refine hK4 _ _ ?_
  clear hK4 K4
  refine a1r fun K7 hK7 => ?_
  refine a5e ?_
  refine a0w v3v (by rfl) ?_
  refine z5z rfl ?_
  refine b7l rfl ?_
  refine a1z v3v rfl c1t rfl rfl a1c rfl ?_
  refine b8z v3v (out := .pv (a5w bs[j + 1]?)) 0 rfl a1c rfl (c3u hbl hb (b2u hp)) rfl ?_
  refine v0v rfl ?_
  refine hK7 _ _ ?_
  clear hK7 K7
  refine a0w v3v (by rfl) ?_
  refine z5z rfl ?_
  refine x8x (b := 1) rfl rfl (by omega) ?_
  refine v0v rfl ?_
  exact ⟨j + 1, ⟨by omega, by omega⟩, [], (x7x 3 rfl (x7x 4 rfl Cov.nil)), (x7x 0 rfl (x7x 1 rfl Cov.nil)), HE.nil, (u8u 0 rfl (u8u 1 rfl HE.nil)), rfl⟩
 try simp at hg5
 obtain rfl : k = j + 1 := by omega
 obtain ⟨b, hb⟩ : ∃ b, bs[j]? = some b := c6p (by omega)
 obtain ⟨p, hp⟩ : ∃ p, ps[j]? = some p := c6p (by omega)
 rw [hb]
 refine a9d rfl rfl ?_
 refine c2n rfl rfl ?_
 refine a0l rfl (fun hc8 => ?_) (fun hc8 => ?_)
 ·simp at hc8
 try simp at hc8
 refine a7t ?_
 refine hK3 _ _ ?_
 clear hK4 K4 hK3 K3
 refine a6d v3v (by rfl) ?_
 refine z5z rfl ?_
 refine a6o rfl rfl (by intro a c h h2; cases h; cases h2; rfl) (.inr rfl) (c3t (by kernel_rfl) _ _ _) ?_
 refine a0l rfl (fun hc9 => ?_) (fun hc9 => ?_)
 rotate_left
 ·simp at hc9
 try simp at hc9
 refine a6d v3v (by rfl) ?_
 refine z5z rfl ?_
 refine b7l rfl ?_
 refine a1z v3v rfl c1t rfl rfl a1c rfl ?_
 refine d2a v3v (bty := 259) _ _ 0 rfl rfl a1c rfl rfl rfl (e2d hbl hb (b2u hp)) (s0s rfl) rfl ?_
 refine a0w v3v (by rfl) ?_
 refine y8y rfl d6i rfl rfl ?_
 refine z5z rfl ?_
 refine b1m rfl rfl ?_
 refine u7u rfl b3e rfl rfl a1c rfl rfl ?_
 refine b1o v3v rfl rfl a1c rfl rfl rfl rfl rfl ?_
 (refine Conv.step (c7y 0 ((b0, 256, [.pv (a5w bs.head?), PQ b 0]) :: (c0b 259 (some b) (bs.take j) ((ps.map (a0j c)).take j) ++ [(b, 259, a0j c p ++ [.pv (.pointer none)])])) (c0b 259 none (bs.drop (j + 1)) ((ps.map (a0j c)).drop (j + 1))) rfl (by simp [a5w]; rfl)) ?_; refine Conv.step (c2q 0 b0 256 259 (bs.take (j + 1)) ((ps.take (j + 1)).map (a0j c)) rfl (by simp; omega) (by rw [List.map_take, e7g hbl hb (b2u hp)])) (Conv.done ?_); exact ⟨.inl rfl, [γ 0, γ 1], rfl, rfl, HE.same rfl (HE.same rfl HE.nil)⟩)
end
section
theorem a8s (c : Bool) (n : Nd) : a0t Tryz.prog 38 [.agg (u1u c n)] (.pv (.bool (kb (y3y n)))) := by
 refine pX Tryz.f38 [.pv (.bool (kb (y3y n)))] 8 ?_
 have hpl := a6e n.id 4
 refine dv 1 ?_
 refine y0y (id := 0) rfl rfl rfl (dv 4 fun K K' => ?_)
 refine x0x rfl rfl rfl (c6v ..) (dc 1 (aI ?_ ?_))<;>intro hc2<;>try simp at hc2
 ·try have hX : ¬ a0x n := a1h (by simpa using hc2)
  refine dv 3 ?_
  refine x2x rfl ?_ rfl
  exact congrArg (fun b : Bool => [AV.pv (.bool b)]) (a4g (fun h => hX h.1))
 have fS : a0x n := a1d.1 (by simpa using hc2)
 have fB := w5w fS
 have fL := fS.2.2.2.2.1
 have fV := fS.2.2.2.2.2.1
 refine dv 3 ?_
 refine rlM [1, 2, 3, 4, 5] [_, _, _, _, _] (b3d c n (by omega) (by omega) fS.2.2.2.2.2.2.1) rfl rfl rfl ?_
 refine dv 5 fun K K' => ?_
 refine x0x rfl rfl rfl (a7d ..) (dv 3 ?_)
 refine x4x (ι := Nat) (fun j γ1 => [(16, pI (j : Int))]) (fun j γ1 => [(6, ((γ1 6), .dead)), (7, ((γ1 7), .dead))]) (fun j => j ≤ (q2q n.id 4).length ∧ c9p n.lanes (fun j l => ∀ p, (q2q n.id 4)[j]? = some p → l.done.length ≤ same l.done (a1e n p) ∧ (a1e n p).length ≤ 100) j) (fun j => (q2q n.id 4).length - j) (q6q [3, 14, 15] rfl) (a0p [0, 1, 2, 3, 4, 5] rfl) 0 ⟨by omega, a1p⟩ [0, 0, 0, 0, 0, 0, _, _] x6x x5x rfl fun j γ1 hi => ?_
 obtain ⟨d1, d2⟩ := hi
 refine dc 3 (fun K K' => aS ?_ ?_)<;>intro o<;>try simp at o
 ·have fC := fun (i : Nat) p l (a : (q2q n.id 4)[i]? = some p) (b : n.lanes[i]? = some l) => a3d d2 (by omega) i l b p a
  refine dv 4 ?_
  refine x2x rfl ?_ rfl
  exact congrArg (fun b : Bool => [AV.pv (.bool b)]) (e2y ⟨fS, fC⟩)
 obtain ⟨l, hl⟩ := gE n.lanes j
 obtain ⟨p, hp⟩ := gE (q2q n.id 4) j
 obtain ⟨hdl, _⟩ := a2n (fS.2.2.2.2.2.2.2.1 j l hl).2
 refine dv 12 fun K K' => ?_
 refine rlM [1, 2, 3, 4, 5, 6] [_, _, _, _, _, _] (b3o c n p (b1u fS) (by omega) fS.2.2.2.2.2.1) rfl rfl rfl ?_
 refine dv 1 ?_
 refine p7p 6 rfl rfl (fun _ => rfl) ?_
 refine dc 5 (aS ?_ ?_)<;>intro o<;>try simp at o
 ·refine dv 23 ?_
  refine x2x rfl ?_ rfl
  exact congrArg (fun b : Bool => [AV.pv (.bool b)]) (a4g (fun h => by have := h.2 _ _ _ hp hl; omega))
 refine dv 5 ?_
 refine z0z (j := j) rfl rfl b8q rfl a6q rfl rfl (y7y hl) ?_
 refine dv 1 ?_
 refine rlM [7] [_] (b6s c l.done) rfl rfl rfl ?_
 refine dv 1 ?_
 refine rlM [7] [_] (a7q c true l.done (a1e n p)) rfl rfl rfl ?_
 refine dv 5 ?_
 refine z0z (j := j) rfl rfl b8q rfl a6q rfl rfl (y7y hl) ?_
 refine dc 4 (aS ?_ ?_)<;>intro o<;>try simp at o
 ·refine dv 2 ?_
  refine x8x (b := 1) rfl rfl (by omega) (dv 1 ?_)
  exact ⟨j + 1, ⟨⟨by omega, s6s d2 hl (fun p2 hp2 => by rw [hp] at hp2; cases hp2; omega)⟩, by omega⟩, [0, 0, 0, 0, 0, 0, _, _], x6x, x6x, x5x, x5x, rfl⟩
 refine dv 3 ?_
 refine x2x rfl ?_ rfl
 exact congrArg (fun b : Bool => [AV.pv (.bool b)]) (a4g (fun h => by have := h.2 _ _ _ hp hl; omega))
end
section
theorem c5y (c : Bool) (p : Pa) (hs : p.sends.length ≤ 1048576) (ho : p.outs.length ≤ 1048576) : Meth Tryz.prog 222 2 [] [.agg (a0j c p)] [(0, (0, .dead)), (1, (0, .dead))] (.agg [pI p.ev.time, pI p.ev.to, pI p.ev.from', pI p.ev.count, pI p.ev.n, pI p.ev.kind, pI p.ev.arg, pI p.after.x, pI p.after.y, pI p.after.count, .ref 0 0, .ref 1 0]) [(0, (0, .row 56 7 (p.sends.map y9y))), (1, (0, .row 141 5 (p.outs.map q8q)))] := by
 refine mX Tryz.f222 [.agg [pI p.ev.time, pI p.ev.to, pI p.ev.from', pI p.ev.count, pI p.ev.n, pI p.ev.kind, pI p.ev.arg, pI p.after.x, pI p.after.y, pI p.after.count, .ref 0 0, .ref 1 0]] 2 2 fun γ => ?_
 refine dv 1 ?_
 refine y0y (id := 2) rfl rfl rfl (x3x (id := 3) a3q c0m rfl (dv 3 ?_))
 refine rlM [0] [_] (w4w c p.sends (by omega)) rfl rfl rfl ?_
 refine dv 5 ?_
 refine rlM [1] [_] (a2h c p.outs (by omega)) rfl rfl rfl ?_
 refine dv 6 ?_
 exact ⟨[_, _], rfl, rfl, x5x⟩
theorem b0z (c : Bool) (l : List Pa) (hl : f1y l ≤ 1048576) : Meth Tryz.prog 221 1 [] [a6f c l, .fn (.func 222) [] []] [(0, (0, .dead))] (.ref 0 0) [(0, (0, .row 58 12 (l.map b6i)))] := by
 refine mX Tryz.f221 [.ref 0 0] 1 3 fun γ => ?_
 have hc : f1y l = l.length + szs cPa l := rfl
 refine u0u 0 rfl fun hlen => ?_
 refine dc 7 (fun K K' => aI ?_ ?_)<;>intro hc2<;>try simp at hc2
 ·obtain rfl : l = [] := List.eq_nil_of_length_eq_zero (by simpa using hc2)
  refine dv 2 ?_
  refine a2j 4 0 58 12 rfl rfl (dv 1 ?_)
  exact ⟨[_], rfl, rfl, x5x⟩
 refine dv 4 ?_
 refine c3n (id := 0) a6q rfl a3q c0m rfl rfl rfl rfl (by (simp only [a0e, r7r, a0b, a0d, a0u, a2z, T58]; omega)) rfl ?_
 refine dv 7 fun K K' => ?_
 refine x4x (ι := Nat) (fun i γ1 => [(16, pI (i : Int))]) (fun i γ1 => [(2, ((γ1 2), .dead)), (3, ((γ1 3), .dead)), (0, ((γ 0 + 1), .row 58 12 ((l.take i).map b6i ++ (l.drop i).map fun _ => [pI 0, pI 0, pI 0, pI 0, pI 0, pI 0, pI 0, pI 0, pI 0, pI 0, .pv (.slice none 0 0), .pv (.slice none 0 0)]))), (1, ((γ1 1), .dead))]) (fun i => i ≤ l.length) (fun i => l.length - i) (q6q [1, 5, 14, 15] rfl) HE.nil 0 (by omega) [0, _, _, _] x6x (HE.kill rfl (HE.kill rfl (HE.row rfl (by rw [List.take_zero, List.drop_zero, List.map_const']; rfl) (HE.kill rfl HE.nil)))) rfl fun i γ1 hi => ?_
 refine dc 3 (fun K K' => aS ?_ ?_)<;>intro h<;>try simp at h
 ·obtain rfl : i = l.length := by omega
  refine dv 5 ?_
  exact ⟨[_], rfl, rfl, HE.row rfl (by rw [List.take_length, List.drop_length, List.map_nil, List.append_nil]) HE.nil⟩
 obtain ⟨p, hp⟩ := gE l i
 have hAl : ((l.take i).map b6i).length = i := by rw [List.length_map, List.length_take]; omega
 rw [p8p hp, List.map_cons]
 have hat := e2w cPa hp
 have hcp : cPa p = p.sends.length + p.outs.length := rfl
 refine dv 7 fun K K' => ?_
 refine x3x (id := 1) a3q c0m rfl (dv 7 ?_)
 refine rlM [2, 3] [_, _] (c5y c p (by omega) (by omega)) rfl rfl rfl ?_
 refine b4g rfl rfl a6q rfl a3q rfl rfl hAl (b1n hAl rfl rfl a3q rfl rfl rfl rfl (f5q rfl rfl rfl) rfl ?_)
 refine dv 1 ?_
 refine z8z rfl rfl rfl (dv 1 ?_)
 exact ⟨i + 1, ⟨by omega, by omega⟩, [0, _, _, _], (Cov.cons' (t := 16) rfl (by rw [x9x (by omega) (by omega)]; rfl) Cov.nil), x6x, (HE.kill rfl (HE.kill rfl (HE.row rfl (by rw [z6z hp, List.map_append, List.append_assoc]; rfl) (HE.kill rfl HE.nil)))), x5x, rfl⟩
theorem c5z (c : Bool) (p : La) (hs : f1y p.done ≤ 1048576) : Meth Tryz.prog 115 1 [] [.agg (q7q c p)] [(0, (0, .dead))] (.agg [pI p.proc, pI p.base.x, pI p.base.y, pI p.base.count, .ref 0 0]) [(0, (0, .row 58 12 (p.done.map b6i)))] := by
 refine mX Tryz.f115 [.agg [pI p.proc, pI p.base.x, pI p.base.y, pI p.base.count, .ref 0 0]] 1 2 fun γ => ?_
 refine dv 1 ?_
 refine y0y (id := 1) rfl rfl rfl (x3x (id := 2) a0m a6r rfl (dv 3 ?_))
 refine rlM [0] [_] (b0z c p.done hs) rfl rfl rfl ?_
 refine dv 6 ?_
 exact ⟨[_], rfl, rfl, x5x⟩
theorem b1a (c : Bool) (l : List La) (hl : f1z l ≤ 1048576) : Meth Tryz.prog 244 1 [] [c0e c l, .fn (.func 115) [] []] [(0, (0, .dead))] (.ref 0 0) [(0, (0, .row 44 5 (l.map b1w)))] := by
 refine mX Tryz.f244 [.ref 0 0] 1 2 fun γ => ?_
 have hc : f1z l = l.length + szs cLa l := rfl
 refine u0u 0 rfl fun hlen => ?_
 refine dc 7 (fun K K' => aI ?_ ?_)<;>intro hc2<;>try simp at hc2
 ·obtain rfl : l = [] := List.eq_nil_of_length_eq_zero (by simpa using hc2)
  refine dv 2 ?_
  refine a2j 4 0 44 5 rfl rfl (dv 1 ?_)
  exact ⟨[_], rfl, rfl, x5x⟩
 refine dv 4 ?_
 refine c3n (id := 0) a7v rfl a0m a6r rfl rfl rfl rfl (by (simp only [a0e, r7r, a0b, a0d, a0u, a2z, T44]; omega)) rfl ?_
 refine dv 7 fun K K' => ?_
 refine x4x (ι := Nat) (fun i γ1 => [(16, pI (i : Int))]) (fun i γ1 => [(2, ((γ1 2), .dead)), (0, ((γ 0 + 1), .row 44 5 ((l.take i).map b1w ++ (l.drop i).map fun _ => [pI 0, pI 0, pI 0, pI 0, .pv (.slice none 0 0)]))), (1, ((γ1 1), .dead))]) (fun i => i ≤ l.length) (fun i => l.length - i) (q6q [1, 5, 14, 15] rfl) HE.nil 0 (by omega) [0, _, _] x6x (HE.kill rfl (HE.row rfl (by rw [List.take_zero, List.drop_zero, List.map_const']; rfl) (HE.kill rfl HE.nil))) rfl fun i γ1 hi => ?_
 refine dc 3 (fun K K' => aS ?_ ?_)<;>intro h<;>try simp at h
 ·obtain rfl : i = l.length := by omega
  refine dv 5 ?_
  exact ⟨[_], rfl, rfl, HE.row rfl (by rw [List.take_length, List.drop_length, List.map_nil, List.append_nil]) HE.nil⟩
 obtain ⟨p, hp⟩ := gE l i
 have hAl : ((l.take i).map b1w).length = i := by rw [List.length_map, List.length_take]; omega
 rw [p8p hp, List.map_cons]
 have hat := e2w cLa hp
 have hcp : cLa p = f1y p.done := rfl
 refine dv 7 fun K K' => ?_
 refine x3x (id := 1) a0m a6r rfl (dv 7 ?_)
 refine rlM [2] [_] (c5z c p (by omega)) rfl rfl rfl ?_
 refine b4g rfl rfl a7v rfl a0m rfl rfl hAl (b1n hAl rfl rfl a0m rfl rfl rfl rfl (f5r rfl) rfl ?_)
 refine dv 1 ?_
 refine z8z rfl rfl rfl (dv 1 ?_)
 exact ⟨i + 1, ⟨by omega, by omega⟩, [0, _, _], (Cov.cons' (t := 16) rfl (by rw [x9x (by omega) (by omega)]; rfl) Cov.nil), x6x, (HE.kill rfl (HE.row rfl (by rw [z6z hp, List.map_append, List.append_assoc]; rfl) (HE.kill rfl HE.nil))), x5x, rfl⟩
theorem c6a (c : Bool) (p : Vi) (hs : p.events.length ≤ 1048576) : Meth Tryz.prog 247 1 [] [.agg (a2b c p)] [(0, (0, .dead))] (.agg [pI p.inc, pI p.version, .ref 0 0]) [(0, (0, .row 56 7 (p.events.map y9y)))] := by
 refine mX Tryz.f247 [.agg [pI p.inc, pI p.version, .ref 0 0]] 1 2 fun γ => ?_
 refine dv 1 ?_
 refine y0y (id := 1) rfl rfl rfl (x3x (id := 2) r1r a4s rfl (dv 3 ?_))
 refine rlM [0] [_] (w4w c p.events (by omega)) rfl rfl rfl ?_
 refine dv 6 ?_
 exact ⟨[_], rfl, rfl, x5x⟩
theorem b1c (c : Bool) (l : List Vi) (hl : f2a l ≤ 1048576) : Meth Tryz.prog 246 1 [] [c1z c l, .fn (.func 247) [] []] [(0, (0, .dead))] (.ref 0 0) [(0, (0, .row 190 3 (l.map b1x)))] := by
 refine mX Tryz.f246 [.ref 0 0] 1 2 fun γ => ?_
 have hc : f2a l = l.length + szs cVi l := rfl
 refine u0u 0 rfl fun hlen => ?_
 refine dc 7 (fun K K' => aI ?_ ?_)<;>intro hc2<;>try simp at hc2
 ·obtain rfl : l = [] := List.eq_nil_of_length_eq_zero (by simpa using hc2)
  refine dv 2 ?_
  refine a2j 4 0 190 3 rfl rfl (dv 1 ?_)
  exact ⟨[_], rfl, rfl, x5x⟩
 refine dv 4 ?_
 refine c3n (id := 0) a9y rfl r1r a4s rfl rfl rfl rfl (by (simp only [a0e, r7r, a0b, a0d, a0u, a2z, T190]; omega)) rfl ?_
 refine dv 7 fun K K' => ?_
 refine x4x (ι := Nat) (fun i γ1 => [(16, pI (i : Int))]) (fun i γ1 => [(2, ((γ1 2), .dead)), (0, ((γ 0 + 1), .row 190 3 ((l.take i).map b1x ++ (l.drop i).map fun _ => [pI 0, pI 0, .pv (.slice none 0 0)]))), (1, ((γ1 1), .dead))]) (fun i => i ≤ l.length) (fun i => l.length - i) (q6q [1, 5, 14, 15] rfl) HE.nil 0 (by omega) [0, _, _] x6x (HE.kill rfl (HE.row rfl (by rw [List.take_zero, List.drop_zero, List.map_const']; rfl) (HE.kill rfl HE.nil))) rfl fun i γ1 hi => ?_
 refine dc 3 (fun K K' => aS ?_ ?_)<;>intro h<;>try simp at h
 ·obtain rfl : i = l.length := by omega
  refine dv 5 ?_
  exact ⟨[_], rfl, rfl, HE.row rfl (by rw [List.take_length, List.drop_length, List.map_nil, List.append_nil]) HE.nil⟩
 obtain ⟨p, hp⟩ := gE l i
 have hAl : ((l.take i).map b1x).length = i := by rw [List.length_map, List.length_take]; omega
 rw [p8p hp, List.map_cons]
 have hat := e2w cVi hp
 have hcp : cVi p = p.events.length := rfl
 refine dv 7 fun K K' => ?_
 refine x3x (id := 1) r1r a4s rfl (dv 7 ?_)
 refine rlM [2] [_] (c6a c p (by omega)) rfl rfl rfl ?_
 refine b4g rfl rfl a9y rfl r1r rfl rfl hAl (b1n hAl rfl rfl r1r rfl rfl rfl rfl (f5s rfl) rfl ?_)
 refine dv 1 ?_
 refine z8z rfl rfl rfl (dv 1 ?_)
 exact ⟨i + 1, ⟨by omega, by omega⟩, [0, _, _], (Cov.cons' (t := 16) rfl (by rw [x9x (by omega) (by omega)]; rfl) Cov.nil), x6x, (HE.kill rfl (HE.row rfl (by rw [z6z hp, List.map_append, List.append_assoc]; rfl) (HE.kill rfl HE.nil))), x5x, rfl⟩
theorem a9x (c : Bool) (n : Nd) (hl : cNd n ≤ 1048576) : Meth Tryz.prog 156 5 [] [.agg (u1u c n)] [(0, (0, .dead)), (1, (0, .dead)), (2, (0, .dead)), (3, (0, .dead)), (4, (0, .dead))] (.agg [pI n.id, .pv (.bool n.up), pI n.inc, pI n.g, .ref 0 0, .ref 1 0, .ref 2 0, pI n.led, pI n.version, .ref 3 0, .ref 4 0, pI n.round, pI n.low]) [(0, (0, .row 44 5 (n.lanes.map b1w))), (1, (0, .row 56 7 (n.kept.map y9y))), (2, (0, .row 141 5 (n.outs.map q8q))), (3, (0, .row 190 3 (n.views.map b1x))), (4, (0, .row 3 1 (n.known.map a3e)))] := by
 refine mX Tryz.f156 [.agg [pI n.id, .pv (.bool n.up), pI n.inc, pI n.g, .ref 0 0, .ref 1 0, .ref 2 0, pI n.led, pI n.version, .ref 3 0, .ref 4 0, pI n.round, pI n.low]] 5 2 fun γ => ?_
 have hc : cNd n = f1z n.lanes + n.kept.length + n.outs.length + f2a n.views + n.known.length := rfl
 refine dv 1 ?_
 refine y0y (id := 5) rfl rfl rfl (x3x (id := 6) u9u q1q rfl (dv 3 ?_))
 refine rlM [0] [_] (b1a c n.lanes (by omega)) rfl rfl rfl ?_
 refine dv 5 ?_
 refine rlM [1] [_] (w4w c n.kept (by omega)) rfl rfl rfl ?_
 refine dv 5 ?_
 refine rlM [2] [_] (a2h c n.outs (by omega)) rfl rfl rfl ?_
 refine dv 5 ?_
 refine rlM [3] [_] (b1c c n.views (by omega)) rfl rfl rfl ?_
 refine dv 5 ?_
 refine rlM [4] [_] (b3y c n.known (by omega)) rfl rfl rfl ?_
 refine dv 6 ?_
 exact ⟨[_, _, _, _, _], rfl, rfl, x5x⟩
end
end Go.Proofs.YtlgknoapdbpojaaGreat.Am
