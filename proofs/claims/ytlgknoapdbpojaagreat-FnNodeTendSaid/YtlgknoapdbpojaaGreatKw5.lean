/- Part 5 of the texts that the proof of LawFnNodeTend leans on, merged by program. -/
import Derived.Test.YtlgknoapdbpojaaGreatKw4
set_option linter.unusedVariables false
set_option linter.unusedSimpArgs false
set_option maxHeartbeats 4000000
set_option autoImplicit true
set_option relaxedAutoImplicit true
namespace Go.Proofs.YtlgknoapdbpojaaGreat.Am
open Go Go.RowKit
section
theorem c4i (W : Tw) (hW : b9i W) : MethE Tryz.prog 313 2 [.agg [pI W.time, a4w true W.apps, .ref 0 0, .ref 1 0, pI W.hub.round, v7v true W.hub.ones, v7v true W.hub.twos, v7v true W.hub.outs, r8r true W.sink]] [(0, (0, .row 65 13 ((W.nodes).map (u1u true)))), (1, (0, .row 79 11 ((W.radio).map (u3u true))))] (ι := Tw × Bool) (fun S' => b9i S'.1 ∧ S'.1.nodes = W.nodes ∧ S'.1.radio = W.radio) (fun S' => [0, 1]) (fun S' => .tup [.agg [pI S'.1.time, a4w true S'.1.apps, .ref 0 0, .ref 1 0, pI S'.1.hub.round, v7v true S'.1.hub.ones, v7v true S'.1.hub.twos, v7v true S'.1.hub.outs, r8r true S'.1.sink], .pv (.bool (S'.2))]) (fun S' => [(0, (0, .row 65 13 ((W.nodes).map (u1u true)))), (1, (0, .row 79 11 ((W.radio).map (u3u true))))]) := by
 refine mE (ι := Tw × Bool) Tryz.f313 (fun S' => [.agg [pI S'.1.time, a4w true S'.1.apps, .ref 0 0, .ref 1 0, pI S'.1.hub.round, v7v true S'.1.hub.ones, v7v true S'.1.hub.twos, v7v true S'.1.hub.outs, r8r true S'.1.sink], .pv (.bool (S'.2))]) 2 5 fun γ => ?_
 obtain ⟨n0, h0, h0I⟩ := b3f hW (i := 0) (by omega)
 have hol := e6o (h := W.hub) (n := n0)
 have hsl := hW.2.2.2.2.2.2
 refine dv 1 ?_
 refine y3y (id := 2) rfl rfl rfl (x3x (id := 3) b5e b8j rfl (dv 3 ?_))
 refine y9y (out := .agg (a7d true W.hub)) rfl a6d rfl rfl ?_
 refine dv 2 ?_
 refine z0z (j := 0) rfl rfl a6l rfl u6u rfl rfl (z2z h0) (s6s rfl u6u rfl (by assumption) rfl rfl ?_)
 refine x0x rfl rfl rfl (c4g true W.hub n0) (dv 5 fun K K' => ?_)
 refine z0z (j := 0) rfl rfl a6l rfl u6u rfl rfl (z2z h0) (dc 4 (aS ?_ ?_))<;>intro o<;>try simp at o
 ·refine dv 12 ?_
  exact ⟨(W, false), ⟨hW, rfl, rfl⟩, [γ 0, γ 1], rfl, rfl, x4x⟩
 refine dc 7 (aI ?_ ?_)<;>intro o<;>try simp at o
 ·refine dv 5 ?_
  exact ⟨(W, false), ⟨hW, rfl, rfl⟩, [γ 0, γ 1], rfl, rfl, x4x⟩
 refine dv 2 ?_
 refine y1y (id := 4) a0c rfl v9v rfl (dv 2 ?_)
 refine w6w (zs := (W.sink).map q5q) rfl rfl a0c rfl v9v rfl rfl rfl (z8z (fun _ => rfl) _) rfl (by simp only [a0b, r5r, s1s, s3s, a0t, a3b, b2s, T141]; omega) ?_
 refine dv 4 ?_
 refine c0i (f := q5q) (l := (a7w W.hub n0)) rfl a0c rfl v9v rfl rfl rfl (by omega) (by rw [List.length_map]; omega) (by rw [List.length_map]; omega) ?_
 rw [List.length_map, Int.toNat_natCast, Int.toNat_natCast, List.take_length]
 refine w6w (zs := ((W.sink ++ (a7w W.hub n0).drop W.sink.length)).map q5q) rfl rfl a0c rfl v9v rfl rfl rfl (z8z (fun _ => rfl) _) (a7s q5q W.sink _) (by simp only [a0b, r5r, s1s, s3s, a0t, a3b, b2s, T141]; omega) ?_
 refine dv 2 ?_
 refine v4v (b := r8r true (W.sink ++ (a7w W.hub n0).drop W.sink.length)) 2 8 rfl rfl rfl (.ref rfl (Le.ow_map _ (fun _ => rfl) (fun _ => rfl)) .nil) rfl rfl rfl rfl ?_
 refine dv 4 ?_
 refine x0x rfl rfl rfl (a7g true (W.sink ++ (a7w W.hub n0).drop W.sink.length) 96) ?_
 refine dv 3 ?_
 exact ⟨({ W with sink := (W.sink ++ (a7w W.hub n0).drop W.sink.length) }, a6y okO b1n (W.sink ++ (a7w W.hub n0).drop W.sink.length) 96), ⟨f1w hW (by simp only [r5r, b2s]; omega), rfl, rfl⟩, [γ 0, γ 1], rfl, rfl, x4x⟩
end
section
theorem d1a (W : Tw) (ek en ep ew : Int) (eb : Bool) (hW : b9i W) : MethE Tryz.prog 290 2 [.agg [pI W.time, a4w true W.apps, .ref 0 0, .ref 1 0, pI W.hub.round, v7v true W.hub.ones, v7v true W.hub.twos, v7v true W.hub.outs, r8r true W.sink], .agg [pI ek, pI en, pI ep, pI ew, .pv (.bool eb)]] [(0, (0, .row 65 13 ((W.nodes).map (u1u true)))), (1, (0, .row 79 11 ((W.radio).map (u3u true))))] (ι := Tw × Bool) (fun S' => b9i S'.1 ∧ (S'.2 = false → S'.1.radio = W.radio)) (fun S' => kpB S'.2) (fun S' => .tup [.agg [pI S'.1.time, a4w true S'.1.apps, .ref 0 0, .ref 1 0, pI S'.1.hub.round, v7v true S'.1.hub.ones, v7v true S'.1.hub.twos, v7v true S'.1.hub.outs, r8r true S'.1.sink], .pv (.bool (S'.2))]) (fun S' => [(0, (0, .row 65 13 ((S'.1.nodes).map (u1u true)))), (1, (0, .row 79 11 ((S'.1.radio).map (u3u true))))]) := by
 refine mE (ι := Tw × Bool) Tryz.f290 (fun S' => [.agg [pI S'.1.time, a4w true S'.1.apps, .ref 0 0, .ref 1 0, pI S'.1.hub.round, v7v true S'.1.hub.ones, v7v true S'.1.hub.twos, v7v true S'.1.hub.outs, r8r true S'.1.sink], .pv (.bool (S'.2))]) 2 5 fun γ => ?_
 obtain ⟨n0, h0, h0I⟩ := b3f hW (i := 0) (by omega)
 have hHb := hW.2.2.2.2.2.1
 have hr40 := hW.2.2.2.1
 refine dv 1 ?_
 refine y3y (id := 2) rfl rfl rfl (y3y (id := 3) rfl rfl rfl (x3x (id := 4) b5e b8j rfl (dv 4 ?_)))
 refine a0g (.int .i64 (IntKind.i64.wrap (W.time + 1))) rfl rfl rfl rfl ?_
 refine dv 7 fun K K' => ?_
 refine q8q (ι := Bool) (fun b γ1 => [(16, .pv (.bool (b)))]) (fun b γ1 => []) (fun b => True) (r2r [2, 3, 4, 15] rfl) (a1p [0, 1, 2, 3, 4, 5, 6] rfl) ?_ fun b γ1 hi => ?_
 ·refine dc 3 (aI ?_ ?_)<;>intro h<;>try simp at h
  ·refine dv 1 ?_
   exact ⟨_, trivial, [], x6x, x6x, x4x, x4x, rfl⟩
  refine dc 3 (aI ?_ ?_)<;>intro h<;>try simp at h
  ·refine dv 1 ?_
   exact ⟨_, trivial, [], x6x, x6x, x4x, x4x, rfl⟩
  refine dc 3 (aI ?_ ?_)<;>intro h<;>try simp at h
  ·refine dv 1 ?_
   exact ⟨_, trivial, [], x6x, x6x, x4x, x4x, rfl⟩
  refine dv 3 ?_
  exact ⟨_, trivial, [], x6x, x6x, x4x, x4x, rfl⟩
 ·try dsimp only [b2t, b2u]
  refine dc 0 (aI ?_ ?_)<;>intro h<;>try simp at h
  ·refine s0s fun B X0 w0 => ?_
   refine txR 2 rfl rfl (dv 2 ?_)
   refine txM [0, 1] [_, _] (c4h { W with time := (IntKind.i64.wrap (W.time + 1)) } ek en ep ew eb hW) rfl rfl rfl rfl fun j hj => ?_
   obtain ⟨hj1, hj2⟩ := hj
   refine txR 4 rfl rfl (dv 4 ?_)
   refine z6z rfl (dv 1 ?_)
   exact ⟨j, ⟨hj1, hj2⟩, [_, _], (by cases hb : j.2 <;> rfl), rfl, x4x⟩
  refine q8q (ι := Bool) (fun b γ2 => [(26, .pv (.bool (b)))]) (fun b γ2 => []) (fun b => True) (r2r [2, 3, 4, 15] rfl) (a1p [0, 1, 2, 3, 4, 5, 6] rfl) ?_ fun b γ2 hi => ?_
  ·refine dc 3 (aI ?_ ?_)<;>intro h<;>try simp at h
   ·refine dv 1 ?_
    exact ⟨_, trivial, [], x6x, x6x, x4x, x4x, rfl⟩
   refine dv 3 ?_
   exact ⟨_, trivial, [], x6x, x6x, x4x, x4x, rfl⟩
  ·try dsimp only [b2t, b2u]
   refine dc 0 (aI ?_ ?_)<;>intro h<;>try simp at h
   ·refine s0s fun B X0 w0 => ?_
    refine txR 2 rfl rfl (dv 2 ?_)
    refine txM [0, 1] [_, _] (c3h { W with time := (IntKind.i64.wrap (W.time + 1)) } ek en ep ew eb hW) rfl rfl rfl rfl fun j hj => ?_
    obtain ⟨hj1, hj2⟩ := hj
    refine txR 4 rfl rfl (dv 4 ?_)
    refine z6z rfl (dv 1 ?_)
    exact ⟨j, ⟨hj1, hj2⟩, [_, _], (by cases hb : j.2 <;> rfl), rfl, x4x⟩
   refine dc 3 (aS ?_ ?_)<;>intro h<;>try simp at h
   ·refine dc 3 (aS ?_ ?_)<;>intro h<;>try simp at h
    ·refine dv 6 ?_
     exact ⟨({ W with time := (IntKind.i64.wrap (W.time + 1)) }, false), ⟨hW, fun _ => rfl⟩, [γ 0, γ 1], rfl, rfl, x4x⟩
    refine s0s fun B X0 w0 => ?_
    refine txR 1 rfl rfl (dv 1 ?_)
    refine txM [0, 1] [_, _] (c4i { W with time := (IntKind.i64.wrap (W.time + 1)) } hW) rfl rfl rfl rfl fun j hj => ?_
    obtain ⟨hj1, hj2, hj3⟩ := hj
    refine txR 4 rfl rfl (dv 4 ?_)
    refine z6z rfl (dv 1 ?_)
    exact ⟨j, ⟨hj1, fun _ => hj3⟩, [γ 0, γ 1], (d2z γ _ gl rfl rfl), rfl, HE.row rfl (by rw [hj2]) (HE.row rfl (by rw [hj3]) HE.nil)⟩
   refine dv 2 ?_
   refine y9y (out := .agg (a7d true W.hub)) rfl a6d rfl rfl ?_
   refine dv 2 ?_
   refine z0z (j := 0) rfl rfl a6l rfl u6u rfl rfl (z2z h0) (s6s rfl u6u rfl (by assumption) rfl rfl ?_)
   refine x0x rfl rfl rfl (c3d true W.hub n0) (dv 4 ?_)
   refine x3x (id := 5) a6d b5f rfl (x3x (id := 6) u6u q4q rfl (dv 8 ?_))
   refine z0z (j := 0) rfl rfl a6l rfl u6u rfl rfl (z2z h0) (dv 7 ?_)
   refine a0n rfl rfl a6d rfl rfl rfl rfl (r9r rfl) rfl ?_
   refine dv 4 ?_
   refine z0z (j := 0) rfl rfl a6l rfl u6u rfl rfl (z2z h0) ?_
   refine v5v (el' := (p3p W.hub n0).2.1) rfl rfl u6u rfl rfl rfl h0 rfl (q7q rfl) rfl rfl ?_
   refine dv 4 ?_
   refine rlM [1] [_] (a0q W.radio (p3p W.hub n0).2.2 hr40) rfl rfl rfl ?_
   refine dv 8 ?_
   exact ⟨({ W with time := (IntKind.i64.wrap (W.time + 1)), nodes := W.nodes.set 0 (p3p W.hub n0).2.1, radio := b0u W.radio (p3p W.hub n0).2.2, hub := (p3p W.hub n0).1 }, decide ((p3p W.hub n0).2.1.led > n0.led)), ⟨b3g (W := { W with nodes := _, hub := _ }) (d0z (a5l hW (f1n h0I hHb)) (d0o h0I.1 hHb)) (e2o W.hub n0), (by intro hf; rcases c3e ⟨hHb, h0I.1⟩ with ⟨h1, h2⟩ | h2; (rw [h1]; simp [b0u]); exact absurd h2 (of_decide_eq_false hf))⟩, [γ 0, _], (by rcases c3e ⟨hHb, h0I.1⟩ with ⟨h1, h2⟩ | h2; (rw [h1, decide_eq_false h2]; rfl); (rw [decide_eq_true h2]; rfl)), rfl, x4x⟩
end
section
theorem y8y (bs : List Nat) (hbs : ∀ b ∈ bs, b < 256) (S : Sm) (c : Nat) (hS : smOk S c) (ek en ep ew : Int) (eb : Bool) (hc : c ≤ 1000000) : MethE Tryz.prog 239 5 [.ptr 0 0 0, .agg [pI ek, pI en, pI ep, pI ew, .pv (.bool eb)]] [(0, (0, .box 171 [.ptr 4 0 0, pI S.w.time, a4w true S.w.apps, .ref 1 0, .ref 2 0, pI S.w.hub.round, v7v true S.w.hub.ones, v7v true S.w.hub.twos, v7v true S.w.hub.outs, r8r true S.w.sink, .ref 3 0])), (1, (0, .row 65 13 ((S.w.nodes).map (u1u true)))), (2, (0, .row 79 11 ((S.w.radio).map (u3u true)))), (3, (0, .row 263 5 ((S.list).map a3l))), (4, (0, .box 243 [v3v true bs, .pv (.int .i64 ((S.p : Nat) : Int))]))] (ι := Sm × Bool) (fun S' => smOk S'.1 (c + 1)) (fun S' => [0, 4]) (fun S' => .pv (.bool (S'.2))) (fun S' => [(0, (0, .box 171 [.ptr 4 0 0, pI S'.1.w.time, a4w true S'.1.w.apps, .ref 1 0, .ref 2 0, pI S'.1.w.hub.round, v7v true S'.1.w.hub.ones, v7v true S'.1.w.hub.twos, v7v true S'.1.w.hub.outs, r8r true S'.1.w.sink, .ref 3 0])), (1, (0, .row 65 13 ((S'.1.w.nodes).map (u1u true)))), (2, (0, .row 79 11 ((S'.1.w.radio).map (u3u true)))), (3, (0, .row 263 5 ((S'.1.list).map a3l))), (4, (0, .box 243 [v3v true bs, .pv (.int .i64 ((S'.1.p : Nat) : Int))]))]) := by
 refine mE (ι := Sm × Bool) Tryz.f239 (fun S' => [.pv (.bool (S'.2))]) 5 4 fun γ => ?_
 have hll := hS.2.1
 refine dv 1 ?_
 refine y3y (id := 5) rfl rfl rfl (dv 1 ?_)
 refine d2q 5 (b4k w5w 0 5 rfl rfl ?_)
 refine dv 5 ?_
 refine b4k w5w 9 1 rfl rfl ?_
 refine x3x (id := 6) b5e b8j rfl (b5u c3r (by rfl) [1, 2] [_, _] (d1a S.w ek en ep ew eb hS.1) rfl rfl rfl rfl (by decide) rfl rfl f2h (fun _ => (by (simp only [pI, a2x, a2z, c0k, gl, nx, a7k, Nat.beq]; rfl))) (fun _ => (by (simp only [pI, a2x, a2z, c0k, gl, nx, a7k, Nat.beq]; rfl))) (S.w, false) ⟨hS.1, fun _ => rfl⟩ fun j hj => ?_)
 obtain ⟨hj1, hj2⟩ := hj
 refine b4l w5w 6 3 rfl rfl ?_
 refine dv 3 ?_
 refine b4l w5w 10 2 rfl rfl ?_
 refine dv 2 ?_
 refine c2n (by kernel_rfl) ?_
 refine dc 3 (fun K K' => aS ?_ ?_)<;>intro hc2<;>try simp at hc2
 ·have hb : j.2 = false := hc2
  obtain ⟨T, b⟩ := j
  obtain rfl : b = false := hb
  refine dv 5 ?_
  exact ⟨(⟨{ S.w with nodes := T.nodes }, S.list, S.p⟩, false), ⟨f1x hS.1 hj1, Nat.le_succ_of_le hll, Nat.le_succ_of_le hS.2.2⟩, [γ 0, _, γ 2, γ 3, γ 4], rfl, rfl, HE.box rfl rfl (HE.row rfl rfl (HE.row rfl (congrArg (List.map (u3u true)) (hj2 rfl)) (HE.row rfl rfl (HE.box rfl rfl HE.nil))))⟩
 have hb : j.2 = true := hc2
 obtain ⟨T, b⟩ := j
 obtain rfl : b = true := hb
 refine dv 5 ?_
 refine a0n rfl rfl b5e rfl rfl rfl rfl (r9r rfl) rfl ?_
 refine dv 7 ?_
 refine y5y (id := 7) d8q rfl a1q rfl rfl rfl rfl rfl rfl ?_
 refine y6y (zs := (S.list ++ [(⟨ek, en, ep, ew, eb⟩ : Te)]).map a3l) rfl rfl d8q rfl a1q rfl rfl rfl rfl (by rfl) (u0u a3l S.list (⟨ek, en, ep, ew, eb⟩ : Te)) (by (simp only [a0b, r5r, s1s, s3s, a0t, a3b, T263]; omega)) ?_
 refine dv 7 ?_
 exact ⟨(⟨T, S.list ++ [(⟨ek, en, ep, ew, eb⟩ : Te)], S.p⟩, true), ⟨hj1, by show (S.list ++ [_]).length ≤ _; rw [List.length_append]; exact Nat.succ_le_succ hll, Nat.le_succ_of_le hS.2.2⟩, [γ 0, _, _, _, γ 4], rfl, rfl, x4x⟩
end
section
theorem v8v (bs : List Nat) (hbs : ∀ b ∈ bs, b < 256) (S : Sm) (c : Nat) (hS : smOk S c) (m odd : Nat) (hc : c + 4 * m ≤ 1000000) : MethE Tryz.prog 280 5 [.ptr 0 0 0, .pv (.int .i64 (m : Int)), .pv (.int .i64 (odd : Int))] [(0, (0, .box 171 [.ptr 4 0 0, pI S.w.time, a4w true S.w.apps, .ref 1 0, .ref 2 0, pI S.w.hub.round, v7v true S.w.hub.ones, v7v true S.w.hub.twos, v7v true S.w.hub.outs, r8r true S.w.sink, .ref 3 0])), (1, (0, .row 65 13 ((S.w.nodes).map (u1u true)))), (2, (0, .row 79 11 ((S.w.radio).map (u3u true)))), (3, (0, .row 263 5 ((S.list).map a3l))), (4, (0, .box 243 [v3v true bs, .pv (.int .i64 ((S.p : Nat) : Int))]))] (ι := Sm) (fun S' => smOk S' (c + 4 * m)) (fun S' => [0, 4]) (fun S' => .tup []) (fun S' => [(0, (0, .box 171 [.ptr 4 0 0, pI S'.w.time, a4w true S'.w.apps, .ref 1 0, .ref 2 0, pI S'.w.hub.round, v7v true S'.w.hub.ones, v7v true S'.w.hub.twos, v7v true S'.w.hub.outs, r8r true S'.w.sink, .ref 3 0])), (1, (0, .row 65 13 ((S'.w.nodes).map (u1u true)))), (2, (0, .row 79 11 ((S'.w.radio).map (u3u true)))), (3, (0, .row 263 5 ((S'.list).map a3l))), (4, (0, .box 243 [v3v true bs, .pv (.int .i64 ((S'.p : Nat) : Int))]))]) := by
 refine mE (ι := Sm) Tryz.f280 (fun S' => []) 5 1 fun γ => ?_
 refine dv 3 ?_
 refine x5x (ι := Sm × Nat) (fun p γ1 => [(6, pI (p.2 : Int))]) (fun p γ1 => [(1, ((γ1 1), .row 65 13 ((p.1.w.nodes).map (u1u true)))), (2, ((γ1 2), .row 79 11 ((p.1.w.radio).map (u3u true)))), (3, ((γ1 3), .row 263 5 ((p.1.list).map a3l))), (0, ((γ 0), .box 171 [.ptr 4 (γ 4) 0, pI p.1.w.time, a4w true p.1.w.apps, .ref 1 (γ1 1), .ref 2 (γ1 2), pI p.1.w.hub.round, v7v true p.1.w.hub.ones, v7v true p.1.w.hub.twos, v7v true p.1.w.hub.outs, r8r true p.1.w.sink, .ref 3 (γ1 3)])), (4, ((γ 4), .box 243 [v3v true bs, pI ((p.1.p : Nat) : Int)])), (5, ((γ1 5), .dead))]) (fun p => smOk p.1 (c + 4 * p.2) ∧ p.2 ≤ m) (fun p => m - p.2) (r2r [0, 1, 2] rfl) HE.nil (S, 0) ⟨hS, Nat.zero_le _⟩ [0, _, _, _, 0, _] x6x x4x rfl fun p γ1 hi => ?_
 obtain ⟨S1, i⟩ := p
 obtain ⟨h1, h2⟩ := hi
 dsimp only at h1 h2 ⊢
 have hp := h1.2.2
 refine dc 6 (fun K K' => aS ?_ ?_)<;>intro h<;>try simp at h
 ·refine dv 9 ?_
  exact ⟨S1, h1.mono (by omega), [γ 0, _, _, _, γ 4], rfl, rfl, x4x⟩
 refine dv 5 ?_
 refine a4i (n := S1.w.radio.length) rfl p5p rfl rfl (List.length_map _) ?_
 refine dc 2 (aS ?_ ?_)<;>intro h<;>try simp at h
 ·refine dv 1 ?_
  exact ⟨S1, h1.mono (by omega), [γ 0, _, _, _, γ 4], rfl, rfl, x4x⟩
 refine dv 4 fun K K' => ?_
 refine rlB a1q a2f ?_
 refine x3x (id := 5) a1q a2f rfl (dv 1 ?_)
 refine q8q (ι := Nat × Int × Int × Bool) (fun q4 γ2 => []) (fun q4 γ2 => [(4, ((γ 4), .box 243 [v3v true bs, pI ((q4.1 : Nat) : Int)])), (5, ((γ1 5 + 1), .box 263 [pI q4.2.1, pI 0, pI 0, pI q4.2.2.1, .pv (.bool q4.2.2.2)]))]) (fun q4 => q4.1 ≤ c + 4 * i + 3) (r2r [0, 1, 2, 6, 7] rfl) (a1p [0, 1, 2, 3] rfl) ?_ fun q4 γ2 hi => ?_
 ·refine dc 4 (aS ?_ ?_)<;>intro h<;>try simp at h
  ·refine dv 9 ?_
   exact ⟨(S1.p, 4, 0, false), (by show S1.p ≤ c + 4 * i + 3; omega), [], x6x, x6x, x4x, x4x, rfl⟩
  refine dv 5 ?_
  refine rlM [4] [_] (x1x true bs (S1.p) (odd) (by have := hp; omega) hbs) rfl rfl rfl ?_
  refine dc 2 (aS ?_ ?_)<;>intro h<;>try simp at h
  ·refine dv 1 ?_
   exact ⟨(S1.p + 1, 4, 0, false), (by show S1.p + 1 ≤ c + 4 * i + 3; omega), [], x6x, x6x, x4x, x4x, rfl⟩
  refine dv 5 ?_
  refine rlM [4] [_] (x1x true bs (S1.p + 1) (4) (by have := hp; omega) hbs) rfl rfl rfl ?_
  refine dc 4 (aI ?_ ?_)<;>intro h<;>try simp at h
  ·refine dv 3 ?_
   exact ⟨(S1.p + 1 + 1, 5, 0, false), (by show S1.p + 1 + 1 ≤ c + 4 * i + 3; omega), [], x6x, x6x, x4x, x4x, rfl⟩
  refine dc 3 (aI ?_ ?_)<;>intro h<;>try simp at h
  ·refine dv 3 ?_
   exact ⟨(S1.p + 1 + 1, 4, 0, true), (by show S1.p + 1 + 1 ≤ c + 4 * i + 3; omega), [], x6x, x6x, x4x, x4x, rfl⟩
  refine dv 10 ?_
  refine a4i (n := S1.w.radio.length) rfl p5p rfl rfl (List.length_map _) ?_
  refine rlM [4] [_] (x1x true bs (S1.p + 1 + 1) (S1.w.radio.length) (by have := hp; omega) hbs) rfl rfl rfl ?_
  refine dv 2 ?_
  exact ⟨(S1.p + 1 + 1 + 1, 4, (pk bs (S1.p + 1 + 1) S1.w.radio.length : Int), false), (by show S1.p + 1 + 1 + 1 ≤ c + 4 * i + 3; omega), [], x6x, x6x, x4x, x4x, rfl⟩
 ·try dsimp only [b2t, b2u]
  obtain ⟨q, ek, ew, eb⟩ := q4
  dsimp only at hi ⊢
  refine a7c fun B X0 w0 => ?_
  refine txR 2 rfl rfl (dv 2 ?_)
  refine txM [0, 1, 2, 3, 4] [_, _, _, _, _] (y8y bs hbs (pSm S1 q) (c + 4 * i + 3) (a3c h1 (by omega) hi) ek 0 0 ew eb (by omega)) rfl rfl rfl rfl fun J hJ => ?_
  obtain ⟨j, jb⟩ := J
  have hj : smOk j (c + 4 * i + 3 + 1) := hJ
  refine z6z rfl (dv 2 ?_)
  refine x7x (b := 1) rfl rfl (by omega) (dv 1 ?_)
  exact ⟨(j, i + 1), ⟨⟨hj.mono (by show _ ≤ c + 4 * (i + 1); omega), by show i + 1 ≤ m; omega⟩, (by show m - (i + 1) < m - i; omega)⟩, [0, _, _, _, 0, _], x6x, x6x, x4x, x4x, rfl⟩
end
section
theorem a5m (bs : List Nat) (hbs : ∀ b ∈ bs, b < 256) (S : Sm) (c : Nat) (hS : smOk S c) (m : Nat) (hm : m ≤ 1000) (hc : c + (2 + m) ≤ 1000000) : MethE Tryz.prog 134 5 [.ptr 0 0 0, .pv (.int .i64 (m : Int))] [(0, (0, .box 171 [.ptr 4 0 0, pI S.w.time, a4w true S.w.apps, .ref 1 0, .ref 2 0, pI S.w.hub.round, v7v true S.w.hub.ones, v7v true S.w.hub.twos, v7v true S.w.hub.outs, r8r true S.w.sink, .ref 3 0])), (1, (0, .row 65 13 ((S.w.nodes).map (u1u true)))), (2, (0, .row 79 11 ((S.w.radio).map (u3u true)))), (3, (0, .row 263 5 ((S.list).map a3l))), (4, (0, .box 243 [v3v true bs, .pv (.int .i64 ((S.p : Nat) : Int))]))] (ι := Sm) (fun S' => smOk S' (c + (2 + m))) (fun S' => [0, 4]) (fun S' => .tup []) (fun S' => [(0, (0, .box 171 [.ptr 4 0 0, pI S'.w.time, a4w true S'.w.apps, .ref 1 0, .ref 2 0, pI S'.w.hub.round, v7v true S'.w.hub.ones, v7v true S'.w.hub.twos, v7v true S'.w.hub.outs, r8r true S'.w.sink, .ref 3 0])), (1, (0, .row 65 13 ((S'.w.nodes).map (u1u true)))), (2, (0, .row 79 11 ((S'.w.radio).map (u3u true)))), (3, (0, .row 263 5 ((S'.list).map a3l))), (4, (0, .box 243 [v3v true bs, .pv (.int .i64 ((S'.p : Nat) : Int))]))]) := by
 refine mE (ι := Sm) Tryz.f134 (fun S' => []) 5 0 fun γ => ?_
 have hp := hS.2.2
 refine dv 5 ?_
 refine rlM [4] [_] (x1x true bs (S.p) (4) (by have := hp; omega) hbs) rfl rfl rfl ?_
 refine dv 1 ?_
 obtain ⟨Pr, ePr, hPr⟩ : ∃ Pr, pk bs S.p 4 = Pr ∧ Pr ≤ 4 := ⟨_, rfl, b0y _ _ _⟩
 rw [ePr]
 refine dv 6 ?_
 refine rlM [4] [_] (x1x true bs (S.p + 1) (m) (by have := hp; omega) hbs) rfl rfl rfl ?_
 refine dv 1 ?_
 obtain ⟨N, eN, hN⟩ : ∃ N, pk bs (S.p + 1) m = N ∧ N ≤ m := ⟨_, rfl, b0y _ _ _⟩
 rw [eN]
 refine dv 1 ?_
 refine x5x (ι := Sm × Nat) (fun p γ1 => [(5, pI (p.2 : Int))]) (fun p γ1 => [(1, ((γ1 1), .row 65 13 ((p.1.w.nodes).map (u1u true)))), (2, ((γ1 2), .row 79 11 ((p.1.w.radio).map (u3u true)))), (3, ((γ1 3), .row 263 5 ((p.1.list).map a3l))), (0, ((γ 0), .box 171 [.ptr 4 (γ 4) 0, pI p.1.w.time, a4w true p.1.w.apps, .ref 1 (γ1 1), .ref 2 (γ1 2), pI p.1.w.hub.round, v7v true p.1.w.hub.ones, v7v true p.1.w.hub.twos, v7v true p.1.w.hub.outs, r8r true p.1.w.sink, .ref 3 (γ1 3)])), (4, ((γ 4), .box 243 [v3v true bs, pI ((p.1.p : Nat) : Int)]))]) (fun p => smOk p.1 (c + 2 + (N - p.2)) ∧ p.2 ≤ N) (fun p => p.2) (r2r [0, 4] rfl) HE.nil (pSm S (S.p + 1 + 1), N) ⟨a3c hS (by show _ ≤ c + 2 + (N - N); omega) (by show _ ≤ c + 2 + (N - N); omega), Nat.le_refl _⟩ [0, _, _, _] x6x x4x rfl fun p γ1 hi => ?_
 obtain ⟨S1, i⟩ := p
 obtain ⟨h1, h2⟩ := hi
 dsimp only at h1 h2 ⊢
 refine dc 4 (fun K K' => aS ?_ ?_)<;>intro h<;>try simp at h
 ·refine dv 1 ?_
  exact ⟨S1, h1.mono (by omega), [γ 0, _, _, _, γ 4], rfl, rfl, x4x⟩
 obtain ⟨i', rfl⟩ : ∃ i', i = i' + 1 := ⟨i - 1, by omega⟩
 refine dv 3 fun K K' => ?_
 refine a7c fun B X0 w0 => ?_
 refine txR 5 rfl rfl (dv 2 ?_)
 refine x0x rfl rfl rfl (a1m ..) (dv 1 ?_)
 refine rlB a1q a2f ?_
 refine txM [0, 1, 2, 3, 4] [_, _, _, _, _] (y8y bs hbs S1 (c + 2 + (N - (i' + 1))) (h1.mono (by omega)) 1 (s7s Pr) Pr 0 false (by omega)) rfl rfl rfl rfl fun J hJ => ?_
 obtain ⟨j, jb⟩ := J
 have hj : smOk j (c + 2 + (N - (i' + 1)) + 1) := hJ
 refine z6z rfl (dv 2 ?_)
 refine r1r (b := 1) rfl rfl (by omega) (by omega) (dv 1 ?_)
 exact ⟨(j, i'), ⟨⟨hj.mono (by show _ ≤ c + 2 + (N - i'); omega), by show i' ≤ N; omega⟩, (by show i' < i' + 1; omega)⟩, [0, _, _, _], x6x, x6x, x4x, x4x, rfl⟩
end
section
theorem a1w (bs : List Nat) (hbs : ∀ b ∈ bs, b < 256) (S : Sm) (c : Nat) (hS : smOk S c) (m odd : Nat) (hc : c + 195 * m ≤ 1000000) : MethE Tryz.prog 249 5 [.ptr 0 0 0, .pv (.int .i64 (m : Int)), .pv (.int .i64 (odd : Int))] [(0, (0, .box 171 [.ptr 4 0 0, pI S.w.time, a4w true S.w.apps, .ref 1 0, .ref 2 0, pI S.w.hub.round, v7v true S.w.hub.ones, v7v true S.w.hub.twos, v7v true S.w.hub.outs, r8r true S.w.sink, .ref 3 0])), (1, (0, .row 65 13 ((S.w.nodes).map (u1u true)))), (2, (0, .row 79 11 ((S.w.radio).map (u3u true)))), (3, (0, .row 263 5 ((S.list).map a3l))), (4, (0, .box 243 [v3v true bs, .pv (.int .i64 ((S.p : Nat) : Int))]))] (ι := Sm) (fun S' => smOk S' (c + 195 * m)) (fun S' => [0, 4]) (fun S' => .tup []) (fun S' => [(0, (0, .box 171 [.ptr 4 0 0, pI S'.w.time, a4w true S'.w.apps, .ref 1 0, .ref 2 0, pI S'.w.hub.round, v7v true S'.w.hub.ones, v7v true S'.w.hub.twos, v7v true S'.w.hub.outs, r8r true S'.w.sink, .ref 3 0])), (1, (0, .row 65 13 ((S'.w.nodes).map (u1u true)))), (2, (0, .row 79 11 ((S'.w.radio).map (u3u true)))), (3, (0, .row 263 5 ((S'.list).map a3l))), (4, (0, .box 243 [v3v true bs, .pv (.int .i64 ((S'.p : Nat) : Int))]))]) := by
 refine mE (ι := Sm) Tryz.f249 (fun S' => []) 5 0 fun γ => ?_
 refine dv 3 ?_
 refine x5x (ι := Sm × Nat) (fun p γ1 => [(6, pI (p.2 : Int))]) (fun p γ1 => [(1, ((γ1 1), .row 65 13 ((p.1.w.nodes).map (u1u true)))), (2, ((γ1 2), .row 79 11 ((p.1.w.radio).map (u3u true)))), (3, ((γ1 3), .row 263 5 ((p.1.list).map a3l))), (0, ((γ 0), .box 171 [.ptr 4 (γ 4) 0, pI p.1.w.time, a4w true p.1.w.apps, .ref 1 (γ1 1), .ref 2 (γ1 2), pI p.1.w.hub.round, v7v true p.1.w.hub.ones, v7v true p.1.w.hub.twos, v7v true p.1.w.hub.outs, r8r true p.1.w.sink, .ref 3 (γ1 3)])), (4, ((γ 4), .box 243 [v3v true bs, pI ((p.1.p : Nat) : Int)]))]) (fun p => smOk p.1 (c + 195 * p.2) ∧ p.2 ≤ m) (fun p => m - p.2) (r2r [0, 1, 2] rfl) HE.nil (S, 0) ⟨hS, Nat.zero_le _⟩ [0, _, _, _] x6x x4x rfl fun p γ1 hi => ?_
 obtain ⟨S1, k⟩ := p
 obtain ⟨h1, h2⟩ := hi
 dsimp only at h1 h2 ⊢
 refine dc 5 (fun K K' => aS ?_ ?_)<;>intro h<;>try simp at h
 ·refine dv 1 ?_
  exact ⟨S1, h1.mono (by omega), [γ 0, _, _, _, γ 4], rfl, rfl, x4x⟩
 refine dv 7 fun K K' K K' => ?_
 refine x5x (ι := Sm × Nat) (fun p γ2 => [(7, pI (p.2 : Int))]) (fun p γ2 => [(1, ((γ2 1), .row 65 13 ((p.1.w.nodes).map (u1u true)))), (2, ((γ2 2), .row 79 11 ((p.1.w.radio).map (u3u true)))), (3, ((γ2 3), .row 263 5 ((p.1.list).map a3l))), (0, ((γ 0), .box 171 [.ptr 4 (γ 4) 0, pI p.1.w.time, a4w true p.1.w.apps, .ref 1 (γ2 1), .ref 2 (γ2 2), pI p.1.w.hub.round, v7v true p.1.w.hub.ones, v7v true p.1.w.hub.twos, v7v true p.1.w.hub.outs, r8r true p.1.w.sink, .ref 3 (γ2 3)])), (4, ((γ 4), .box 243 [v3v true bs, pI ((p.1.p : Nat) : Int)]))]) (fun p => smOk p.1 (c + 195 * k + (30 * p.2)) ∧ p.2 ≤ 4) (fun p => 4 - p.2) (r2r [0, 1, 2, 6] rfl) HE.nil (S1, 0) ⟨h1, Nat.zero_le _⟩ [0, _, _, _] x6x x4x rfl fun p γ2 hi => ?_
 obtain ⟨S2, i⟩ := p
 obtain ⟨j1, j2⟩ := hi
 dsimp only at j1 j2 ⊢
 refine dc 4 (fun K K' => aS ?_ ?_)<;>intro h<;>try simp at h
 ·refine dv 4 ?_
  refine x5x (ι := Sm × Nat) (fun p γ5 => [(9, pI (p.2 : Int))]) (fun p γ5 => [(1, ((γ5 1), .row 65 13 ((p.1.w.nodes).map (u1u true)))), (2, ((γ5 2), .row 79 11 ((p.1.w.radio).map (u3u true)))), (3, ((γ5 3), .row 263 5 ((p.1.list).map a3l))), (0, ((γ 0), .box 171 [.ptr 4 (γ 4) 0, pI p.1.w.time, a4w true p.1.w.apps, .ref 1 (γ5 1), .ref 2 (γ5 2), pI p.1.w.hub.round, v7v true p.1.w.hub.ones, v7v true p.1.w.hub.twos, v7v true p.1.w.hub.outs, r8r true p.1.w.sink, .ref 3 (γ5 3)])), (4, ((γ 4), .box 243 [v3v true bs, pI ((p.1.p : Nat) : Int)]))]) (fun p => smOk p.1 (c + 195 * k + (120 + 25 * p.2)) ∧ p.2 ≤ 3) (fun p => 3 - p.2) (r2r [0, 1, 2, 6] rfl) HE.nil (S2, 0) ⟨j1.mono (by omega), Nat.zero_le _⟩ [0, _, _, _] x6x x4x rfl fun p γ5 hi => ?_
  obtain ⟨S4, q⟩ := p
  obtain ⟨l1, l2⟩ := hi
  dsimp only at l1 l2 ⊢
  refine dc 4 (fun K K' => aS ?_ ?_)<;>intro h<;>try simp at h
  ·refine dv 3 ?_
   refine x7x (b := 1) rfl rfl (by omega) (dv 1 ?_)
   exact ⟨(S4, k + 1), ⟨⟨l1.mono (by show _ ≤ c + 195 * (k + 1); omega), by show k + 1 ≤ m; omega⟩, (by show m - (k + 1) < m - k; omega)⟩, [0, _, _, _], x6x, x6x, x4x, x4x, rfl⟩
  refine dv 3 fun K K' => ?_
  refine s0s fun B X0 w0 => ?_
  refine txR 3 rfl rfl (dv 2 ?_)
  refine rlB a1q a2f ?_
  refine txM [0, 1, 2, 3, 4] [_, _, _, _, _] (y8y bs hbs S4 (c + 195 * k + (120 + 25 * q)) l1 2 q 0 0 false (by omega)) rfl rfl rfl rfl fun J hJ => ?_
  obtain ⟨j, jb⟩ := J
  have hj : smOk j (c + 195 * k + (120 + 25 * q) + 1) := hJ
  refine z6z rfl (a7c fun B X0 w0 => ?_)
  refine txR 2 rfl rfl (dv 2 ?_)
  refine txM [0, 1, 2, 3, 4] [_, _, _, _, _] (v8v bs hbs j (c + 195 * k + (120 + 25 * q) + 1) hj 6 odd (by omega)) rfl rfl rfl rfl fun r hr => ?_
  refine z6z rfl (dv 2 ?_)
  refine x7x (b := 1) rfl rfl (by omega) (dv 1 ?_)
  exact ⟨(r, q + 1), ⟨⟨hr.mono (by show _ ≤ c + 195 * k + (120 + 25 * (q + 1)); omega), by show q + 1 ≤ 3; omega⟩, (by show 3 - (q + 1) < 3 - q; omega)⟩, [0, _, _, _], x6x, x6x, x4x, x4x, rfl⟩
 refine dv 1 ?_
 refine q8q (ι := Sm) (fun T γ3 => []) (fun T γ3 => [(1, ((γ3 1), .row 65 13 ((T.w.nodes).map (u1u true)))), (2, ((γ3 2), .row 79 11 ((T.w.radio).map (u3u true)))), (3, ((γ3 3), .row 263 5 ((T.list).map a3l))), (0, ((γ 0), .box 171 [.ptr 4 (γ 4) 0, pI T.w.time, a4w true T.w.apps, .ref 1 (γ3 1), .ref 2 (γ3 2), pI T.w.hub.round, v7v true T.w.hub.ones, v7v true T.w.hub.twos, v7v true T.w.hub.outs, r8r true T.w.sink, .ref 3 (γ3 3)])), (4, ((γ 4), .box 243 [v3v true bs, pI ((T.p : Nat) : Int)]))]) (fun T => smOk T (c + 195 * k + (30 * i + 30))) (r2r [0, 1, 2, 6, 7] rfl) HE.nil ?_ fun T γ3 hi => ?_
 ·refine dv 4 ?_
  refine x5x (ι := Sm × Nat) (fun p γ4 => [(8, pI (p.2 : Int))]) (fun p γ4 => [(1, ((γ4 1), .row 65 13 ((p.1.w.nodes).map (u1u true)))), (2, ((γ4 2), .row 79 11 ((p.1.w.radio).map (u3u true)))), (3, ((γ4 3), .row 263 5 ((p.1.list).map a3l))), (0, ((γ 0), .box 171 [.ptr 4 (γ 4) 0, pI p.1.w.time, a4w true p.1.w.apps, .ref 1 (γ4 1), .ref 2 (γ4 2), pI p.1.w.hub.round, v7v true p.1.w.hub.ones, v7v true p.1.w.hub.twos, v7v true p.1.w.hub.outs, r8r true p.1.w.sink, .ref 3 (γ4 3)])), (4, ((γ 4), .box 243 [v3v true bs, pI ((p.1.p : Nat) : Int)]))]) (fun p => smOk p.1 (c + 195 * k + (30 * i + p.2)) ∧ p.2 ≤ 30) (fun p => 30 - p.2) (r2r [0, 1, 2, 6, 7] rfl) HE.nil (S2, 0) ⟨j1, Nat.zero_le _⟩ [0, _, _, _] x6x x4x rfl fun p γ4 hi => ?_
  obtain ⟨S3, q⟩ := p
  obtain ⟨k1, k2⟩ := hi
  dsimp only at k1 k2 ⊢
  refine dv 1 fun K K' => ?_
  refine s0s fun B X0 w0 => ?_
  refine txR 3 rfl rfl (dv 3 ?_)
  refine f6c 21 rfl ?_ ?_<;>intro h<;>try simp at h
  rotate_left
  ·refine txR 7 rfl rfl (dv 7 ?_)
   refine z6z rfl (dv 2 ?_)
   exact ⟨S3, (k1.mono (by omega)), [0, _, _, _], x6x, x6x, x4x, x4x, rfl⟩
  refine txR 5 rfl rfl (dv 2 ?_)
  refine x0x rfl rfl rfl (a1m ..) (dv 1 ?_)
  refine rlB a1q a2f ?_
  refine e1z [0, 1, 2, 3, 4] [_, _, _, _, _] (y8y bs hbs S3 (c + 195 * k + (30 * i + q)) k1 1 (s7s i) i 0 false (by omega)) rfl rfl rfl rfl rfl rfl rfl (by decide) rfl rfl f2h (fun _ => (by (simp only [pI, a2x, a2z, c0k, gl, nx, a7k, Nat.beq]; rfl))) (fun _ => (by (simp only [pI, a2x, a2z, c0k, gl, nx, a7k, Nat.beq]; rfl))) fun J hJ => ?_
  obtain ⟨j, jb⟩ := J
  have hj : smOk j (c + 195 * k + (30 * i + q) + 1) := hJ
  refine txR 1 rfl rfl (dv 1 ?_)
  refine z6z rfl (dc 0 (aS ?_ ?_))<;>intro h<;>try simp at h
  ·refine dv 1 ?_
   exact ⟨j, (hj.mono (by omega)), [0, _, _, _], x6x, x6x, x4x, x4x, rfl⟩
  refine dv 6 ?_
  refine x7x (b := 1) rfl rfl (by omega) (dv 1 ?_)
  exact ⟨(j, q + 1), ⟨⟨hj.mono (by show _ ≤ c + 195 * k + (30 * i + (q + 1)); omega), by show q + 1 ≤ 30; omega⟩, (by show 30 - (q + 1) < 30 - q; omega)⟩, [0, _, _, _], x6x, x6x, x4x, x4x, rfl⟩
 ·try dsimp only [b2t, b2u]
  refine dv 2 ?_
  refine x7x (b := 1) rfl rfl (by omega) (dv 1 ?_)
  exact ⟨(T, i + 1), ⟨⟨hi.mono (by show _ ≤ c + 195 * k + 30 * (i + 1); omega), by show i + 1 ≤ 4; omega⟩, (by show 4 - (i + 1) < 4 - i; omega)⟩, [0, _, _, _], x6x, x6x, x4x, x4x, rfl⟩
end
section
theorem b9l (bs : List Nat) (hbs : ∀ b ∈ bs, b < 256) (S : Sm) (c : Nat) (hS : smOk S c)  (hc : c + 960 ≤ 1000000) : MethE Tryz.prog 289 5 [.ptr 0 0 0] [(0, (0, .box 171 [.ptr 4 0 0, pI S.w.time, a4w true S.w.apps, .ref 1 0, .ref 2 0, pI S.w.hub.round, v7v true S.w.hub.ones, v7v true S.w.hub.twos, v7v true S.w.hub.outs, r8r true S.w.sink, .ref 3 0])), (1, (0, .row 65 13 ((S.w.nodes).map (u1u true)))), (2, (0, .row 79 11 ((S.w.radio).map (u3u true)))), (3, (0, .row 263 5 ((S.list).map a3l))), (4, (0, .box 243 [v3v true bs, .pv (.int .i64 ((S.p : Nat) : Int))]))] (ι := Sm) (fun S' => smOk S' (c + 960)) (fun S' => [0, 4]) (fun S' => .tup []) (fun S' => [(0, (0, .box 171 [.ptr 4 0 0, pI S'.w.time, a4w true S'.w.apps, .ref 1 0, .ref 2 0, pI S'.w.hub.round, v7v true S'.w.hub.ones, v7v true S'.w.hub.twos, v7v true S'.w.hub.outs, r8r true S'.w.sink, .ref 3 0])), (1, (0, .row 65 13 ((S'.w.nodes).map (u1u true)))), (2, (0, .row 79 11 ((S'.w.radio).map (u3u true)))), (3, (0, .row 263 5 ((S'.list).map a3l))), (4, (0, .box 243 [v3v true bs, .pv (.int .i64 ((S'.p : Nat) : Int))]))]) := by
 refine mE (ι := Sm) Tryz.f289 (fun S' => []) 5 0 fun γ => ?_
 refine s0s fun B X0 w0 => ?_
 refine txR 7 rfl rfl (dv 5 ?_)
 refine rlM [4] [_] (x1x true bs (S.p) (3) (by have := hS.2.2; omega) hbs) rfl rfl rfl ?_
 obtain ⟨N, eN, hN⟩ : ∃ N, pk bs S.p 3 = N ∧ N ≤ 3 := ⟨_, rfl, b0y _ _ _⟩
 rw [eN]
 refine x7x (a := 1) rfl rfl (by omega) ?_
 refine txM [0, 1, 2, 3, 4] [_, _, _, _, _] (a1w bs hbs (pSm S (S.p + 1)) (c + 1) (a3c hS (by omega) (by have := hS.2.2; omega)) (1 + N) 0 (by omega)) rfl rfl rfl rfl fun a ha => ?_
 have ha2 : smOk a (c + 781) := ha.mono (by omega)
 refine z6z rfl (s0s fun B X0 w0 => ?_)
 refine txR 2 rfl rfl (dv 1 ?_)
 refine rlB a1q a2f ?_
 refine txM [0, 1, 2, 3, 4] [_, _, _, _, _] (y8y bs hbs a (c + 781) ha2 3 0 0 0 false (by omega)) rfl rfl rfl rfl fun J hJ => ?_
 obtain ⟨j, jb⟩ := J
 have hj : smOk j (c + 781 + 1) := hJ
 refine z6z rfl (s0s fun B X0 w0 => ?_)
 refine txR 6 rfl rfl (dv 5 ?_)
 refine rlM [4] [_] (x1x true bs (j.p) (12) (by have := hj.2.2; omega) hbs) rfl rfl rfl ?_
 refine txM [0, 1, 2, 3, 4] [_, _, _, _, _] (v8v bs hbs (pSm j (j.p + 1)) (c + 783) (a3c hj (by omega) (by have := hj.2.2; omega)) (pk bs j.p 12) 0 (by have := b0y bs j.p 12; omega)) rfl rfl rfl rfl fun b hb => ?_
 have hb2 : smOk b (c + 831) := hb.mono (by have := b0y bs j.p 12; omega)
 refine z6z rfl (dv 5 ?_)
 refine rlM [4] [_] (x1x true bs (b.p) (3) (by have := hb2.2.2; omega) hbs) rfl rfl rfl ?_
 refine dv 1 ?_
 obtain ⟨Pr, ePr, hPr⟩ : ∃ Pr, pk bs b.p 3 = Pr ∧ Pr ≤ 3 := ⟨_, rfl, b0y _ _ _⟩
 rw [ePr]
 refine s0s fun B X0 w0 => ?_
 refine txR 3 rfl rfl (dv 2 ?_)
 refine rlB a1q a2f ?_
 refine txM [0, 1, 2, 3, 4] [_, _, _, _, _] (y8y bs hbs (pSm b (b.p + 1)) (c + 832) (a3c hb2 (by omega) (by have := hb2.2.2; omega)) 6 Pr 0 0 false (by omega)) rfl rfl rfl rfl fun J hJ => ?_
 obtain ⟨j, jb⟩ := J
 have hj : smOk j (c + 832 + 1) := hJ
 refine z6z rfl ?_
 refine q8q (ι := Sm) (fun T γ1 => []) (fun T γ1 => [(1, ((γ1 1), .row 65 13 ((T.w.nodes).map (u1u true)))), (2, ((γ1 2), .row 79 11 ((T.w.radio).map (u3u true)))), (3, ((γ1 3), .row 263 5 ((T.list).map a3l))), (0, ((γ 0), .box 171 [.ptr 4 (γ 4) 0, pI T.w.time, a4w true T.w.apps, .ref 1 (γ1 1), .ref 2 (γ1 2), pI T.w.hub.round, v7v true T.w.hub.ones, v7v true T.w.hub.twos, v7v true T.w.hub.outs, r8r true T.w.sink, .ref 3 (γ1 3)])), (4, ((γ 4), .box 243 [v3v true bs, pI ((T.p : Nat) : Int)]))]) (fun T => smOk T (c + 839)) (x8x 0 rfl Cov.nil) HE.nil ?_ fun T γ1 hi => ?_
 ·refine dv 5 ?_
  refine rlM [4] [_] (x1x true bs (j.p) (4) (by have := hj.2.2; omega) hbs) rfl rfl rfl ?_
  refine dc 1 (aS ?_ ?_)<;>intro h<;>try simp at h
  ·refine dv 1 ?_
   exact ⟨(pSm j (j.p + 1)), (a3c hj (by omega) (by have := hj.2.2; omega)), [0, _, _, _], x6x, x6x, x4x, x4x, rfl⟩
  refine s0s fun B X0 w0 => ?_
  refine txR 3 rfl rfl (dv 2 ?_)
  refine rlB a1q a2f ?_
  refine txM [0, 1, 2, 3, 4] [_, _, _, _, _] (y8y bs hbs (pSm j (j.p + 1)) (c + 834) (a3c hj (by omega) (by have := hj.2.2; omega)) 7 Pr 0 0 false (by omega)) rfl rfl rfl rfl fun J hJ => ?_
  obtain ⟨j, jb⟩ := J
  have hj : smOk j (c + 834 + 1) := hJ
  refine z6z rfl (s0s fun B X0 w0 => ?_)
  refine txR 3 rfl rfl (dv 2 ?_)
  refine rlB a1q a2f ?_
  refine txM [0, 1, 2, 3, 4] [_, _, _, _, _] (y8y bs hbs j (c + 834 + 1) hj 2 Pr 0 0 false (by omega)) rfl rfl rfl rfl fun J hJ => ?_
  obtain ⟨j, jb⟩ := J
  have hj : smOk j (c + 834 + 1 + 1) := hJ
  refine z6z rfl (dv 5 ?_)
  refine rlM [4] [_] (x1x true bs (j.p) (2) (by have := hj.2.2; omega) hbs) rfl rfl rfl ?_
  refine dc 1 (aS ?_ ?_)<;>intro h<;>try simp at h
  ·refine dv 1 ?_
   exact ⟨(pSm j (j.p + 1)), (a3c hj (by omega) (by have := hj.2.2; omega)), [0, _, _, _], x6x, x6x, x4x, x4x, rfl⟩
  refine s0s fun B X0 w0 => ?_
  refine txR 9 rfl rfl (dv 6 ?_)
  refine a4i (n := j.w.radio.length) rfl p5p rfl rfl (List.length_map _) ?_
  have hr40 := hj.1.2.2.2.1
  refine a0g (.int .i64 ((j.w.radio.length : Int) - 1)) rfl rfl rfl (a8v rfl (by omega) (by omega) (by omega)) ?_
  refine rlB a1q a2f ?_
  refine txM [0, 1, 2, 3, 4] [_, _, _, _, _] (y8y bs hbs (pSm j (j.p + 1)) (c + 837) (a3c hj (by omega) (by have := hj.2.2; omega)) 4 0 0 ((j.w.radio.length : Int) - 1) false (by omega)) rfl rfl rfl rfl fun J hJ => ?_
  obtain ⟨j, jb⟩ := J
  have hj : smOk j (c + 837 + 1) := hJ
  refine z6z rfl (a7c fun B X0 w0 => ?_)
  refine txR 9 rfl rfl (dv 6 ?_)
  refine a4i (n := j.w.radio.length) rfl p5p rfl rfl (List.length_map _) ?_
  have hr40 := hj.1.2.2.2.1
  refine a0g (.int .i64 ((j.w.radio.length : Int) - 1)) rfl rfl rfl (a8v rfl (by omega) (by omega) (by omega)) ?_
  refine rlB a1q a2f ?_
  refine txM [0, 1, 2, 3, 4] [_, _, _, _, _] (y8y bs hbs j (c + 837 + 1) hj 4 0 0 ((j.w.radio.length : Int) - 1) false (by omega)) rfl rfl rfl rfl fun J hJ => ?_
  obtain ⟨j, jb⟩ := J
  have hj : smOk j (c + 837 + 1 + 1) := hJ
  refine z6z rfl ?_
  exact ⟨j, (hj.mono (by omega)), [0, _, _, _], x6x, x6x, x4x, x4x, rfl⟩
 ·try dsimp only [b2t, b2u]
  refine a7c fun B X0 w0 => ?_
  refine txR 1 rfl rfl (dv 1 ?_)
  refine txM [0, 1, 2, 3, 4] [_, _, _, _, _] (v8v bs hbs T (c + 839) hi 30 6 (by omega)) rfl rfl rfl rfl fun r hr => ?_
  refine z6z rfl ?_
  exact ⟨.inl rfl, r, hr.mono (by omega), [γ 0, _, _, _, γ 4], rfl, rfl, x4x⟩
end
section
theorem a8d (bs : List Nat) (hbs : ∀ b ∈ bs, b < 256) (S : Sm) (c : Nat) (hS : smOk S c) (odd : Nat) (hc : c + 281 ≤ 1000000) : MethE Tryz.prog 215 5 [.ptr 0 0 0, .pv (.int .i64 (odd : Int))] [(0, (0, .box 171 [.ptr 4 0 0, pI S.w.time, a4w true S.w.apps, .ref 1 0, .ref 2 0, pI S.w.hub.round, v7v true S.w.hub.ones, v7v true S.w.hub.twos, v7v true S.w.hub.outs, r8r true S.w.sink, .ref 3 0])), (1, (0, .row 65 13 ((S.w.nodes).map (u1u true)))), (2, (0, .row 79 11 ((S.w.radio).map (u3u true)))), (3, (0, .row 263 5 ((S.list).map a3l))), (4, (0, .box 243 [v3v true bs, .pv (.int .i64 ((S.p : Nat) : Int))]))] (ι := Sm) (fun S' => smOk S' (c + 281)) (fun S' => [0, 4]) (fun S' => .tup []) (fun S' => [(0, (0, .box 171 [.ptr 4 0 0, pI S'.w.time, a4w true S'.w.apps, .ref 1 0, .ref 2 0, pI S'.w.hub.round, v7v true S'.w.hub.ones, v7v true S'.w.hub.twos, v7v true S'.w.hub.outs, r8r true S'.w.sink, .ref 3 0])), (1, (0, .row 65 13 ((S'.w.nodes).map (u1u true)))), (2, (0, .row 79 11 ((S'.w.radio).map (u3u true)))), (3, (0, .row 263 5 ((S'.list).map a3l))), (4, (0, .box 243 [v3v true bs, .pv (.int .i64 ((S'.p : Nat) : Int))]))]) := by
 refine mE (ι := Sm) Tryz.f215 (fun S' => []) 5 0 fun γ => ?_
 refine dv 4 fun K K' => ?_
 refine x5x (ι := Sm × Nat) (fun p γ1 => [(4, pI (p.2 : Int))]) (fun p γ1 => [(1, ((γ1 1), .row 65 13 ((p.1.w.nodes).map (u1u true)))), (2, ((γ1 2), .row 79 11 ((p.1.w.radio).map (u3u true)))), (3, ((γ1 3), .row 263 5 ((p.1.list).map a3l))), (0, ((γ 0), .box 171 [.ptr 4 (γ 4) 0, pI p.1.w.time, a4w true p.1.w.apps, .ref 1 (γ1 1), .ref 2 (γ1 2), pI p.1.w.hub.round, v7v true p.1.w.hub.ones, v7v true p.1.w.hub.twos, v7v true p.1.w.hub.outs, r8r true p.1.w.sink, .ref 3 (γ1 3)])), (4, ((γ 4), .box 243 [v3v true bs, pI ((p.1.p : Nat) : Int)]))]) (fun p => smOk p.1 (c + 7 * p.2) ∧ p.2 ≤ 4) (fun p => 4 - p.2) (r2r [0, 1] rfl) HE.nil (S, 0) ⟨hS, Nat.zero_le _⟩ [0, _, _, _] x6x x4x rfl fun p γ1 hi => ?_
 obtain ⟨S1, k⟩ := p
 obtain ⟨h1, h2⟩ := hi
 dsimp only at h1 h2 ⊢
 have hp := h1.2.2
 refine dc 4 (fun K K' => aI ?_ ?_)<;>intro h<;>try simp at h
 ·refine dv 8 fun K K' => ?_
  refine rlM [4] [_] (x1x true bs (S1.p) (6) (by have := hp; omega) hbs) rfl rfl rfl ?_
  refine dv 1 ?_
  obtain ⟨N, eN, hN⟩ : ∃ N, pk bs S1.p 6 = N ∧ N ≤ 6 := ⟨_, rfl, b0y _ _ _⟩
  rw [eN]
  refine dv 1 ?_
  refine x5x (ι := Sm × Nat) (fun p γ2 => [(5, pI (p.2 : Int))]) (fun p γ2 => [(1, ((γ2 1), .row 65 13 ((p.1.w.nodes).map (u1u true)))), (2, ((γ2 2), .row 79 11 ((p.1.w.radio).map (u3u true)))), (3, ((γ2 3), .row 263 5 ((p.1.list).map a3l))), (0, ((γ 0), .box 171 [.ptr 4 (γ 4) 0, pI p.1.w.time, a4w true p.1.w.apps, .ref 1 (γ2 1), .ref 2 (γ2 2), pI p.1.w.hub.round, v7v true p.1.w.hub.ones, v7v true p.1.w.hub.twos, v7v true p.1.w.hub.outs, r8r true p.1.w.sink, .ref 3 (γ2 3)])), (4, ((γ 4), .box 243 [v3v true bs, pI ((p.1.p : Nat) : Int)]))]) (fun p => smOk p.1 (c + 7 * k + 1 + (N - p.2)) ∧ p.2 ≤ N) (fun p => p.2) (r2r [0, 1, 4] rfl) HE.nil (pSm S1 (S1.p + 1), N) ⟨a3c h1 (by show _ ≤ c + 7 * k + 1 + (N - N); omega) (by show _ ≤ c + 7 * k + 1 + (N - N); omega), Nat.le_refl _⟩ [0, _, _, _] x6x x4x rfl fun p γ2 hi => ?_
  obtain ⟨S2, i⟩ := p
  obtain ⟨j1, j2⟩ := hi
  dsimp only at j1 j2 ⊢
  refine dc 4 (fun K K' => aS ?_ ?_)<;>intro h<;>try simp at h
  ·refine dv 3 ?_
   refine x7x (b := 1) rfl rfl (by omega) (dv 1 ?_)
   exact ⟨(S2, k + 1), ⟨⟨j1.mono (by show _ ≤ c + 7 * (k + 1); omega), by show k + 1 ≤ 4; omega⟩, (by show 4 - (k + 1) < 4 - k; omega)⟩, [0, _, _, _], x6x, x6x, x4x, x4x, rfl⟩
  obtain ⟨i', rfl⟩ : ∃ i', i = i' + 1 := ⟨i - 1, by omega⟩
  refine dv 3 fun K K' => ?_
  refine a7c fun B X0 w0 => ?_
  refine txR 5 rfl rfl (dv 2 ?_)
  refine x0x rfl rfl rfl (a1m ..) (dv 1 ?_)
  refine rlB a1q a2f ?_
  refine txM [0, 1, 2, 3, 4] [_, _, _, _, _] (y8y bs hbs S2 (c + 7 * k + 1 + (N - (i' + 1))) (j1.mono (by omega)) 1 (s7s k) k 0 false (by omega)) rfl rfl rfl rfl fun J hJ => ?_
  obtain ⟨j, jb⟩ := J
  have hj : smOk j (c + 7 * k + 1 + (N - (i' + 1)) + 1) := hJ
  refine z6z rfl (dv 2 ?_)
  refine r1r (b := 1) rfl rfl (by omega) (by omega) (dv 1 ?_)
  exact ⟨(j, i'), ⟨⟨hj.mono (by show _ ≤ c + 7 * k + 1 + (N - i'); omega), by show i' ≤ N; omega⟩, (by show i' < i' + 1; omega)⟩, [0, _, _, _], x6x, x6x, x4x, x4x, rfl⟩
 refine dv 5 fun K K' => ?_
 refine x5x (ι := Sm × Nat) (fun p γ3 => [(6, pI (p.2 : Int))]) (fun p γ3 => [(1, ((γ3 1), .row 65 13 ((p.1.w.nodes).map (u1u true)))), (2, ((γ3 2), .row 79 11 ((p.1.w.radio).map (u3u true)))), (3, ((γ3 3), .row 263 5 ((p.1.list).map a3l))), (0, ((γ 0), .box 171 [.ptr 4 (γ 4) 0, pI p.1.w.time, a4w true p.1.w.apps, .ref 1 (γ3 1), .ref 2 (γ3 2), pI p.1.w.hub.round, v7v true p.1.w.hub.ones, v7v true p.1.w.hub.twos, v7v true p.1.w.hub.outs, r8r true p.1.w.sink, .ref 3 (γ3 3)])), (4, ((γ 4), .box 243 [v3v true bs, pI ((p.1.p : Nat) : Int)]))]) (fun p => smOk p.1 (c + 28 + p.2) ∧ p.2 ≤ 3) (fun p => 3 - p.2) (r2r [0, 1] rfl) HE.nil (S1, 0) ⟨h1.mono (by omega), Nat.zero_le _⟩ [0, _, _, _] x6x x4x rfl fun p γ3 hi => ?_
 obtain ⟨S3, q⟩ := p
 obtain ⟨k1, k2⟩ := hi
 dsimp only at k1 k2 ⊢
 refine dc 4 (fun K K' => aI ?_ ?_)<;>intro h<;>try simp at h
 ·refine dv 3 fun K K' => ?_
  refine a7c fun B X0 w0 => ?_
  refine txR 3 rfl rfl (dv 2 ?_)
  refine rlB a1q a2f ?_
  refine txM [0, 1, 2, 3, 4] [_, _, _, _, _] (y8y bs hbs S3 (c + 28 + q) k1 2 q 0 0 false (by omega)) rfl rfl rfl rfl fun J hJ => ?_
  obtain ⟨j, jb⟩ := J
  have hj : smOk j (c + 28 + q + 1) := hJ
  refine z6z rfl (dv 2 ?_)
  refine x7x (b := 1) rfl rfl (by omega) (dv 1 ?_)
  exact ⟨(j, q + 1), ⟨⟨hj.mono (by show _ ≤ c + 28 + (q + 1); omega), by show q + 1 ≤ 3; omega⟩, (by show 3 - (q + 1) < 3 - q; omega)⟩, [0, _, _, _], x6x, x6x, x4x, x4x, rfl⟩
 refine dv 1 ?_
 refine s0s fun B X0 w0 => ?_
 refine txR 1 rfl rfl (dv 1 ?_)
 refine txM [0, 1, 2, 3, 4] [_, _, _, _, _] (v8v bs hbs S3 (c + 28 + 3) (k1.mono (by omega)) 30 0 (by omega)) rfl rfl rfl rfl fun b hb => ?_
 refine z6z rfl (s0s fun B X0 w0 => ?_)
 refine txR 2 rfl rfl (dv 1 ?_)
 refine rlB a1q a2f ?_
 refine txM [0, 1, 2, 3, 4] [_, _, _, _, _] (y8y bs hbs b (c + 28 + 3 + 4 * 30) hb 3 0 0 0 false (by omega)) rfl rfl rfl rfl fun J hJ => ?_
 obtain ⟨j, jb⟩ := J
 have hj : smOk j (c + 28 + 3 + 4 * 30 + 1) := hJ
 refine z6z rfl (a7c fun B X0 w0 => ?_)
 refine txR 8 rfl rfl (dv 5 ?_)
 refine rlM [4] [_] (x1x true bs (j.p) (30) (by have := hj.2.2; omega) hbs) rfl rfl rfl ?_
 obtain ⟨N, eN, hN⟩ : ∃ N, pk bs j.p 30 = N ∧ N ≤ 30 := ⟨_, rfl, b0y _ _ _⟩
 rw [eN]
 refine x7x (a := 2) rfl rfl (by omega) (dv 1 ?_)
 refine txM [0, 1, 2, 3, 4] [_, _, _, _, _] (v8v bs hbs (pSm j (j.p + 1)) (c + 28 + 3 + 4 * 30 + 1 + 1) (a3c hj (by omega) (by have := hj.2.2; omega)) (2 + N) odd (by omega)) rfl rfl rfl rfl fun r hr => ?_
 refine z6z rfl ?_
 exact ⟨.inl rfl, r, hr.mono (by omega), [γ 0, _, _, _, γ 4], rfl, rfl, x4x⟩
end
section
theorem b7v (bs : List Nat) (hbs : ∀ b ∈ bs, b < 256) (S : Sm) (c : Nat) (hS : smOk S c)  (hc : c + 1030 ≤ 1000000) : MethE Tryz.prog 288 5 [.ptr 0 0 0] [(0, (0, .box 171 [.ptr 4 0 0, pI S.w.time, a4w true S.w.apps, .ref 1 0, .ref 2 0, pI S.w.hub.round, v7v true S.w.hub.ones, v7v true S.w.hub.twos, v7v true S.w.hub.outs, r8r true S.w.sink, .ref 3 0])), (1, (0, .row 65 13 ((S.w.nodes).map (u1u true)))), (2, (0, .row 79 11 ((S.w.radio).map (u3u true)))), (3, (0, .row 263 5 ((S.list).map a3l))), (4, (0, .box 243 [v3v true bs, .pv (.int .i64 ((S.p : Nat) : Int))]))] (ι := Sm) (fun S' => smOk S' (c + 1030)) (fun S' => [0, 4]) (fun S' => .tup []) (fun S' => [(0, (0, .box 171 [.ptr 4 0 0, pI S'.w.time, a4w true S'.w.apps, .ref 1 0, .ref 2 0, pI S'.w.hub.round, v7v true S'.w.hub.ones, v7v true S'.w.hub.twos, v7v true S'.w.hub.outs, r8r true S'.w.sink, .ref 3 0])), (1, (0, .row 65 13 ((S'.w.nodes).map (u1u true)))), (2, (0, .row 79 11 ((S'.w.radio).map (u3u true)))), (3, (0, .row 263 5 ((S'.list).map a3l))), (4, (0, .box 243 [v3v true bs, .pv (.int .i64 ((S'.p : Nat) : Int))]))]) := by
 refine mE (ι := Sm) Tryz.f288 (fun S' => []) 5 0 fun γ => ?_
 refine s0s fun B X0 w0 => ?_
 refine txR 7 rfl rfl (dv 5 ?_)
 refine rlM [4] [_] (x1x true bs (S.p) (2) (by have := hS.2.2; omega) hbs) rfl rfl rfl ?_
 obtain ⟨N, eN, hN⟩ : ∃ N, pk bs S.p 2 = N ∧ N ≤ 2 := ⟨_, rfl, b0y _ _ _⟩
 rw [eN]
 refine x7x (a := 1) rfl rfl (by omega) ?_
 refine txM [0, 1, 2, 3, 4] [_, _, _, _, _] (a1w bs hbs (pSm S (S.p + 1)) (c + 1) (a3c hS (by omega) (by have := hS.2.2; omega)) (1 + N) 0 (by omega)) rfl rfl rfl rfl fun a ha => ?_
 have ha2 : smOk a (c + 586) := ha.mono (by omega)
 refine z6z rfl (s0s fun B X0 w0 => ?_)
 refine txR 1 rfl rfl (dv 1 ?_)
 refine txM [0, 1, 2, 3, 4] [_, _, _, _, _] (a8d bs hbs a (c + 586) ha2 0 (by omega)) rfl rfl rfl rfl fun b hb => ?_
 refine z6z rfl (s0s fun B X0 w0 => ?_)
 refine txR 2 rfl rfl (dv 1 ?_)
 refine rlB a1q a2f ?_
 refine txM [0, 1, 2, 3, 4] [_, _, _, _, _] (y8y bs hbs b (c + 586 + 281) hb 3 0 0 0 false (by omega)) rfl rfl rfl rfl fun J hJ => ?_
 obtain ⟨j, jb⟩ := J
 have hj : smOk j (c + 586 + 281 + 1) := hJ
 refine z6z rfl (dv 6 ?_)
 refine a4i (n := j.w.radio.length) rfl p5p rfl rfl (List.length_map _) ?_
 refine dc 5 (fun K K' => aI ?_ ?_)<;>intro h<;>try simp at h
 ·refine dv 1 ?_
  exact ⟨j, hj.mono (by omega), [γ 0, _, _, _, γ 4], rfl, rfl, x4x⟩
 have hr40 := hj.1.2.2.2.1
 refine dv 3 ?_
 refine r1r (b := 2) rfl rfl (by omega) (by omega) (dv 4 ?_)
 refine rlM [4] [_] (x1x true bs (j.p) (2) (by have := hj.2.2; omega) hbs) rfl rfl rfl ?_
 obtain ⟨X, eX, hX⟩ : ∃ X, pk bs j.p 2 = X ∧ X < 2 := ⟨_, rfl, a3t _ _ _ (by omega)⟩
 rw [eX]
 refine x7x rfl rfl (by have := hj.1.2.2.2.1; omega) ?_
 refine dv 1 ?_
 obtain ⟨z, ez, hz⟩ : ∃ z, j.w.radio.length - 2 + X = z ∧ z < j.w.radio.length := ⟨_, rfl, by omega⟩
 rw [ez]
 obtain ⟨x, hx⟩ := gE j.w.radio z
 refine dv 7 ?_
 refine z0z (j := z) rfl rfl p5p rfl v2v rfl rfl hz ?_
 refine dv 3 ?_
 refine s0s fun B X0 w0 => ?_
 refine txR 3 rfl rfl (dv 2 ?_)
 refine rlB a1q a2f ?_
 refine txM [0, 1, 2, 3, 4] [_, _, _, _, _] (y8y bs hbs (pSm j (j.p + 1)) (c + 869) (a3c hj (by omega) (by have := hj.2.2; omega)) 4 0 0 z true (by omega)) rfl rfl rfl rfl fun J hJ => ?_
 obtain ⟨j, jb⟩ := J
 have hj : smOk j (c + 869 + 1) := hJ
 refine z6z rfl ?_
 refine q8q (ι := Sm) (fun T γ1 => []) (fun T γ1 => [(1, ((γ1 1), .row 65 13 ((T.w.nodes).map (u1u true)))), (2, ((γ1 2), .row 79 11 ((T.w.radio).map (u3u true)))), (3, ((γ1 3), .row 263 5 ((T.list).map a3l))), (0, ((γ 0), .box 171 [.ptr 4 (γ 4) 0, pI T.w.time, a4w true T.w.apps, .ref 1 (γ1 1), .ref 2 (γ1 2), pI T.w.hub.round, v7v true T.w.hub.ones, v7v true T.w.hub.twos, v7v true T.w.hub.outs, r8r true T.w.sink, .ref 3 (γ1 3)])), (4, ((γ 4), .box 243 [v3v true bs, pI ((T.p : Nat) : Int)]))]) (fun T => smOk T (c + 892)) (r2r [0, 4] rfl) HE.nil ?_ fun T γ1 hi => ?_
 ·refine dv 3 ?_
  refine x5x (ι := Sm × Nat) (fun p γ2 => [(5, pI (p.2 : Int))]) (fun p γ2 => [(1, ((γ2 1), .row 65 13 ((p.1.w.nodes).map (u1u true)))), (2, ((γ2 2), .row 79 11 ((p.1.w.radio).map (u3u true)))), (3, ((γ2 3), .row 263 5 ((p.1.list).map a3l))), (0, ((γ 0), .box 171 [.ptr 4 (γ 4) 0, pI p.1.w.time, a4w true p.1.w.apps, .ref 1 (γ2 1), .ref 2 (γ2 2), pI p.1.w.hub.round, v7v true p.1.w.hub.ones, v7v true p.1.w.hub.twos, v7v true p.1.w.hub.outs, r8r true p.1.w.sink, .ref 3 (γ2 3)])), (4, ((γ 4), .box 243 [v3v true bs, pI ((p.1.p : Nat) : Int)]))]) (fun p => smOk p.1 (c + 870 + 2 * p.2) ∧ p.2 ≤ 10) (fun p => 10 - p.2) (r2r [0, 3, 4] rfl) HE.nil (j, 0) ⟨hj.mono (by omega), Nat.zero_le _⟩ [0, _, _, _] x6x x4x rfl fun p γ2 hi => ?_
  obtain ⟨S1, i⟩ := p
  obtain ⟨h1, h2⟩ := hi
  dsimp only at h1 h2 ⊢
  refine dv 7 fun K K' => ?_
  refine rlM [4] [_] (x1x true bs (S1.p) (4) (by have := h1.2.2; omega) hbs) rfl rfl rfl ?_
  obtain ⟨N6, eN6, hN6⟩ : ∃ N6, pk bs S1.p 4 = N6 ∧ N6 ≤ 4 := ⟨_, rfl, b0y _ _ _⟩
  rw [eN6]
  refine x7x (a := 6) rfl rfl (by omega) (dc 2 (aS ?_ ?_))<;>intro h<;>try simp at h
  ·refine dv 11 ?_
   exact ⟨(pSm S1 (S1.p + 1)), (a3c h1 (by omega) (by have := h1.2.2; omega)), [0, _, _, _], x6x, x6x, x4x, x4x, rfl⟩
  refine dv 5 ?_
  refine a4i (n := S1.w.radio.length) rfl p5p rfl rfl (List.length_map _) ?_
  refine dv 1 ?_
  refine x7x (b := 1) rfl rfl (by omega) (dc 2 (aS ?_ ?_))<;>intro h<;>try simp at h
  ·refine dv 1 ?_
   exact ⟨(pSm S1 (S1.p + 1)), (a3c h1 (by omega) (by have := h1.2.2; omega)), [0, _, _, _], x6x, x6x, x4x, x4x, rfl⟩
  refine dv 3 fun K K' => ?_
  refine a7c fun B X0 w0 => ?_
  refine txR 4 rfl rfl (dv 2 ?_)
  refine x7x (b := 1) rfl rfl (by omega) (rlB a1q a2f ?_)
  refine txM [0, 1, 2, 3, 4] [_, _, _, _, _] (y8y bs hbs (pSm S1 (S1.p + 1)) (c + 870 + 2 * i + 1) (a3c h1 (by omega) (by have := h1.2.2; omega)) 4 0 0 ((z + 1 : Nat) : Int) false (by omega)) rfl rfl rfl rfl fun J hJ => ?_
  obtain ⟨j, jb⟩ := J
  have hj : smOk j (c + 870 + 2 * i + 1 + 1) := hJ
  refine z6z rfl (dv 2 ?_)
  refine x7x (b := 1) rfl rfl (by omega) (dv 1 ?_)
  exact ⟨(j, i + 1), ⟨⟨hj.mono (by show _ ≤ c + 870 + 2 * (i + 1); omega), by show i + 1 ≤ 10; omega⟩, (by show 10 - (i + 1) < 10 - i; omega)⟩, [0, _, _, _], x6x, x6x, x4x, x4x, rfl⟩
 ·try dsimp only [b2t, b2u]
  refine s0s fun B X0 w0 => ?_
  refine txR 3 rfl rfl (dv 2 ?_)
  refine rlB a1q a2f ?_
  refine txM [0, 1, 2, 3, 4] [_, _, _, _, _] (y8y bs hbs T (c + 892) hi 6 x.to 0 0 false (by omega)) rfl rfl rfl rfl fun J hJ => ?_
  obtain ⟨j, jb⟩ := J
  have hj : smOk j (c + 892 + 1) := hJ
  refine z6z rfl (s0s fun B X0 w0 => ?_)
  refine txR 3 rfl rfl (dv 2 ?_)
  refine rlB a1q a2f ?_
  refine txM [0, 1, 2, 3, 4] [_, _, _, _, _] (y8y bs hbs j (c + 892 + 1) hj 7 x.to 0 0 false (by omega)) rfl rfl rfl rfl fun J hJ => ?_
  obtain ⟨j, jb⟩ := J
  have hj : smOk j (c + 892 + 1 + 1) := hJ
  refine z6z rfl (s0s fun B X0 w0 => ?_)
  refine txR 1 rfl rfl (dv 1 ?_)
  refine txM [0, 1, 2, 3, 4] [_, _, _, _, _] (a5m bs hbs j (c + 892 + 1 + 1) hj 4 (by omega) (by omega)) rfl rfl rfl rfl fun u hu => ?_
  refine z6z rfl (s0s fun B X0 w0 => ?_)
  refine txR 1 rfl rfl (dv 1 ?_)
  refine txM [0, 1, 2, 3, 4] [_, _, _, _, _] (a5m bs hbs u (c + 892 + 1 + 1 + (2 + 4)) hu 4 (by omega) (by omega)) rfl rfl rfl rfl fun v hv => ?_
  refine z6z rfl (a7c fun B X0 w0 => ?_)
  refine txR 1 rfl rfl (dv 1 ?_)
  refine txM [0, 1, 2, 3, 4] [_, _, _, _, _] (v8v bs hbs v (c + 892 + 1 + 1 + (2 + 4) + (2 + 4)) hv 30 0 (by omega)) rfl rfl rfl rfl fun r hr => ?_
  refine z6z rfl ?_
  exact ⟨.inl rfl, r, hr.mono (by omega), [γ 0, _, _, _, γ 4], rfl, rfl, x4x⟩
end
section
theorem b7w (bs : List Nat) (hbs : ∀ b ∈ bs, b < 256) (S : Sm) (c : Nat) (hS : smOk S c) (odd : Nat) (hc : c + 1040 ≤ 1000000) : MethE Tryz.prog 238 5 [.ptr 0 0 0, .pv (.int .i64 (odd : Int))] [(0, (0, .box 171 [.ptr 4 0 0, pI S.w.time, a4w true S.w.apps, .ref 1 0, .ref 2 0, pI S.w.hub.round, v7v true S.w.hub.ones, v7v true S.w.hub.twos, v7v true S.w.hub.outs, r8r true S.w.sink, .ref 3 0])), (1, (0, .row 65 13 ((S.w.nodes).map (u1u true)))), (2, (0, .row 79 11 ((S.w.radio).map (u3u true)))), (3, (0, .row 263 5 ((S.list).map a3l))), (4, (0, .box 243 [v3v true bs, .pv (.int .i64 ((S.p : Nat) : Int))]))] (ι := Sm) (fun S' => smOk S' (c + 1040)) (fun S' => [0, 4]) (fun S' => .tup []) (fun S' => [(0, (0, .box 171 [.ptr 4 0 0, pI S'.w.time, a4w true S'.w.apps, .ref 1 0, .ref 2 0, pI S'.w.hub.round, v7v true S'.w.hub.ones, v7v true S'.w.hub.twos, v7v true S'.w.hub.outs, r8r true S'.w.sink, .ref 3 0])), (1, (0, .row 65 13 ((S'.w.nodes).map (u1u true)))), (2, (0, .row 79 11 ((S'.w.radio).map (u3u true)))), (3, (0, .row 263 5 ((S'.list).map a3l))), (4, (0, .box 243 [v3v true bs, .pv (.int .i64 ((S'.p : Nat) : Int))]))]) := by
 refine mE (ι := Sm) Tryz.f238 (fun S' => []) 5 0 fun γ => ?_
 refine dv 5 ?_
 refine rlM [4] [_] (x1x true bs (S.p) (3) (by have := hS.2.2; omega) hbs) rfl rfl rfl ?_
 refine dv 1 ?_
 obtain ⟨Pr, ePr, hPr⟩ : ∃ Pr, pk bs S.p 3 = Pr ∧ Pr ≤ 3 := ⟨_, rfl, b0y _ _ _⟩
 rw [ePr]
 refine dv 5 ?_
 refine rlM [4] [_] (x1x true bs (S.p + 1) (20) (by have := hS.2.2; omega) hbs) rfl rfl rfl ?_
 obtain ⟨X, eX, hX⟩ : ∃ X, pk bs (S.p + 1) 20 = X ∧ X ≤ 20 := ⟨_, rfl, b0y _ _ _⟩
 rw [eX]
 have hp2 : S.p + 1 + 1 ≤ c + 2 := by have := hS.2.2; omega
 have hS2 : smOk (pSm S (S.p + 1 + 1)) (c + 2) := a3c hS (by omega) (by have := hS.2.2; omega)
 refine dv 1 ?_
 refine q8q (ι := Bool) (fun b γ1 => [(27, .pv (.bool (b)))]) (fun b γ1 => []) (fun b => True) (r2r [0, 1, 4, 14] rfl) (a1p [0, 1, 2, 3, 4] rfl) ?_ fun b γ1 hi => ?_
 ·refine dc 3 (aI ?_ ?_)<;>intro h<;>try simp at h
  ·refine dv 1 ?_
   exact ⟨_, trivial, [], x6x, x6x, x4x, x4x, rfl⟩
  refine dc 3 (aI ?_ ?_)<;>intro h<;>try simp at h
  ·refine dv 1 ?_
   exact ⟨_, trivial, [], x6x, x6x, x4x, x4x, rfl⟩
  refine dc 3 (aI ?_ ?_)<;>intro h<;>try simp at h
  ·refine dv 1 ?_
   exact ⟨_, trivial, [], x6x, x6x, x4x, x4x, rfl⟩
  refine dc 3 (aI ?_ ?_)<;>intro h<;>try simp at h
  ·refine dv 1 ?_
   exact ⟨_, trivial, [], x6x, x6x, x4x, x4x, rfl⟩
  refine dv 3 ?_
  exact ⟨_, trivial, [], x6x, x6x, x4x, x4x, rfl⟩
 ·try dsimp only [b2t, b2u]
  refine dc 0 (aI ?_ ?_)<;>intro h<;>try simp at h
  ·refine a7c fun B X0 w0 => ?_
   refine txR 1 rfl rfl (dv 1 ?_)
   refine txM [0, 1, 2, 3, 4] [_, _, _, _, _] (a5m bs hbs (pSm S (S.p + 1 + 1)) (c + 2) hS2 8 (by omega) (by omega)) rfl rfl rfl rfl fun r hr => ?_
   refine z6z rfl ?_
   exact ⟨.inl rfl, r, hr.mono (by omega), [γ 0, _, _, _, γ 4], rfl, rfl, x4x⟩
  refine q8q (ι := Bool) (fun b γ2 => [(35, .pv (.bool (b)))]) (fun b γ2 => []) (fun b => True) (r2r [0, 1, 4, 14] rfl) (a1p [0, 1, 2, 3, 4] rfl) ?_ fun b γ2 hi => ?_
  ·refine dc 3 (aI ?_ ?_)<;>intro h<;>try simp at h
   ·refine dv 1 ?_
    exact ⟨_, trivial, [], x6x, x6x, x4x, x4x, rfl⟩
   refine dc 3 (aI ?_ ?_)<;>intro h<;>try simp at h
   ·refine dv 1 ?_
    exact ⟨_, trivial, [], x6x, x6x, x4x, x4x, rfl⟩
   refine dv 3 ?_
   exact ⟨_, trivial, [], x6x, x6x, x4x, x4x, rfl⟩
  ·try dsimp only [b2t, b2u]
   refine dc 0 (aI ?_ ?_)<;>intro h<;>try simp at h
   ·refine s0s fun B X0 w0 => ?_
    refine txR 3 rfl rfl (dv 2 ?_)
    refine rlB a1q a2f ?_
    refine txM [0, 1, 2, 3, 4] [_, _, _, _, _] (y8y bs hbs (pSm S (S.p + 1 + 1)) (c + 2) hS2 2 Pr 0 0 false (by omega)) rfl rfl rfl rfl fun J hJ => ?_
    obtain ⟨j, jb⟩ := J
    have hj : smOk j (c + 2 + 1) := hJ
    refine z6z rfl (a7c fun B X0 w0 => ?_)
    refine txR 7 rfl rfl (dv 5 ?_)
    refine rlM [4] [_] (x1x true bs (j.p) (6) (by have := hj.2.2; omega) hbs) rfl rfl rfl ?_
    obtain ⟨N, eN, hN⟩ : ∃ N, pk bs j.p 6 = N ∧ N ≤ 6 := ⟨_, rfl, b0y _ _ _⟩
    rw [eN]
    refine dv 1 ?_
    refine txM [0, 1, 2, 3, 4] [_, _, _, _, _] (v8v bs hbs (pSm j (j.p + 1)) (c + 4) (a3c hj (by omega) (by have := hj.2.2; omega)) N odd (by omega)) rfl rfl rfl rfl fun r hr => ?_
    refine z6z rfl ?_
    exact ⟨.inl rfl, r, hr.mono (by omega), [γ 0, _, _, _, γ 4], rfl, rfl, x4x⟩
   refine q8q (ι := Bool) (fun b γ3 => [(51, .pv (.bool (b)))]) (fun b γ3 => []) (fun b => True) (r2r [0, 1, 4, 14] rfl) (a1p [0, 1, 2, 3, 4] rfl) ?_ fun b γ3 hi => ?_
   ·refine dc 3 (aI ?_ ?_)<;>intro h<;>try simp at h
    ·refine dv 1 ?_
     exact ⟨_, trivial, [], x6x, x6x, x4x, x4x, rfl⟩
    refine dv 3 ?_
    exact ⟨_, trivial, [], x6x, x6x, x4x, x4x, rfl⟩
   ·try dsimp only [b2t, b2u]
    refine dc 0 (aI ?_ ?_)<;>intro h<;>try simp at h
    ·refine a7c fun B X0 w0 => ?_
     refine txR 8 rfl rfl (dv 5 ?_)
     refine rlM [4] [_] (x1x true bs (S.p + 1 + 1) (20) (by have := hp2; omega) hbs) rfl rfl rfl ?_
     obtain ⟨N, eN, hN⟩ : ∃ N, pk bs (S.p + 1 + 1) 20 = N ∧ N ≤ 20 := ⟨_, rfl, b0y _ _ _⟩
     rw [eN]
     refine x7x (a := 1) rfl rfl (by omega) (dv 1 ?_)
     refine txM [0, 1, 2, 3, 4] [_, _, _, _, _] (v8v bs hbs (pSm S (S.p + 1 + 1 + 1)) (c + 3) (a3c hS (by omega) (by omega)) (1 + N) odd (by omega)) rfl rfl rfl rfl fun r hr => ?_
     refine z6z rfl ?_
     exact ⟨.inl rfl, r, hr.mono (by omega), [γ 0, _, _, _, γ 4], rfl, rfl, x4x⟩
    refine q8q (ι := Bool) (fun b γ4 => [(63, .pv (.bool (b)))]) (fun b γ4 => []) (fun b => True) (r2r [0, 1, 4, 14] rfl) (a1p [0, 1, 2, 3, 4] rfl) ?_ fun b γ4 hi => ?_
    ·refine dc 3 (aI ?_ ?_)<;>intro h<;>try simp at h
     ·refine dv 1 ?_
      exact ⟨_, trivial, [], x6x, x6x, x4x, x4x, rfl⟩
     refine dv 3 ?_
     exact ⟨_, trivial, [], x6x, x6x, x4x, x4x, rfl⟩
    ·try dsimp only [b2t, b2u]
     refine dc 0 (aI ?_ ?_)<;>intro h<;>try simp at h
     ·refine s0s fun B X0 w0 => ?_
      refine txR 2 rfl rfl (dv 1 ?_)
      refine rlB a1q a2f ?_
      refine txM [0, 1, 2, 3, 4] [_, _, _, _, _] (y8y bs hbs (pSm S (S.p + 1 + 1)) (c + 2) hS2 3 0 0 0 false (by omega)) rfl rfl rfl rfl fun J hJ => ?_
      obtain ⟨j, jb⟩ := J
      have hj : smOk j (c + 2 + 1) := hJ
      refine z6z rfl (a7c fun B X0 w0 => ?_)
      refine txR 7 rfl rfl (dv 5 ?_)
      refine rlM [4] [_] (x1x true bs (j.p) (20) (by have := hj.2.2; omega) hbs) rfl rfl rfl ?_
      obtain ⟨N, eN, hN⟩ : ∃ N, pk bs j.p 20 = N ∧ N ≤ 20 := ⟨_, rfl, b0y _ _ _⟩
      rw [eN]
      refine dv 1 ?_
      refine txM [0, 1, 2, 3, 4] [_, _, _, _, _] (v8v bs hbs (pSm j (j.p + 1)) (c + 4) (a3c hj (by omega) (by have := hj.2.2; omega)) N odd (by omega)) rfl rfl rfl rfl fun r hr => ?_
      refine z6z rfl ?_
      exact ⟨.inl rfl, r, hr.mono (by omega), [γ 0, _, _, _, γ 4], rfl, rfl, x4x⟩
     refine dc 3 (aI ?_ ?_)<;>intro h<;>try simp at h
     ·refine a7c fun B X0 w0 => ?_
      refine txR 8 rfl rfl (dv 5 ?_)
      refine rlM [4] [_] (x1x true bs (S.p + 1 + 1) (2) (by have := hp2; omega) hbs) rfl rfl rfl ?_
      obtain ⟨N, eN, hN⟩ : ∃ N, pk bs (S.p + 1 + 1) 2 = N ∧ N ≤ 2 := ⟨_, rfl, b0y _ _ _⟩
      rw [eN]
      refine x7x (a := 1) rfl rfl (by omega) (dv 1 ?_)
      refine txM [0, 1, 2, 3, 4] [_, _, _, _, _] (a1w bs hbs (pSm S (S.p + 1 + 1 + 1)) (c + 3) (a3c hS (by omega) (by omega)) (1 + N) odd (by omega)) rfl rfl rfl rfl fun r hr => ?_
      refine z6z rfl ?_
      exact ⟨.inl rfl, r, hr.mono (by omega), [γ 0, _, _, _, γ 4], rfl, rfl, x4x⟩
     refine q8q (ι := Bool) (fun b γ5 => [(88, .pv (.bool (b)))]) (fun b γ5 => []) (fun b => True) (r2r [0, 1, 4, 14] rfl) (a1p [0, 1, 2, 3, 4] rfl) ?_ fun b γ5 hi => ?_
     ·refine dc 3 (aI ?_ ?_)<;>intro h<;>try simp at h
      ·refine dv 1 ?_
       exact ⟨_, trivial, [], x6x, x6x, x4x, x4x, rfl⟩
      refine dv 3 ?_
      exact ⟨_, trivial, [], x6x, x6x, x4x, x4x, rfl⟩
     ·try dsimp only [b2t, b2u]
      refine dc 0 (aI ?_ ?_)<;>intro h<;>try simp at h
      ·refine a7c fun B X0 w0 => ?_
       refine txR 2 rfl rfl (dv 2 ?_)
       refine txM [0, 1, 2, 3, 4] [_, _, _, _, _] (a8d bs hbs (pSm S (S.p + 1 + 1)) (c + 2) hS2 odd (by omega)) rfl rfl rfl rfl fun r hr => ?_
       refine z6z rfl ?_
       exact ⟨.inl rfl, r, hr.mono (by omega), [γ 0, _, _, _, γ 4], rfl, rfl, x4x⟩
      refine dc 3 (aI ?_ ?_)<;>intro h<;>try simp at h
      ·refine a7c fun B X0 w0 => ?_
       refine txR 3 rfl rfl (dv 2 ?_)
       refine rlB a1q a2f ?_
       refine txM [0, 1, 2, 3, 4] [_, _, _, _, _] (y8y bs hbs (pSm S (S.p + 1 + 1)) (c + 2) hS2 6 Pr 0 0 false (by omega)) rfl rfl rfl rfl fun J hJ => ?_
       obtain ⟨j, jb⟩ := J
       have hj : smOk j (c + 2 + 1) := hJ
       refine z6z rfl ?_
       exact ⟨.inl rfl, j, hj.mono (by omega), [γ 0, _, _, _, γ 4], rfl, rfl, x4x⟩
      refine dc 3 (aI ?_ ?_)<;>intro h<;>try simp at h
      ·refine a7c fun B X0 w0 => ?_
       refine txR 3 rfl rfl (dv 2 ?_)
       refine rlB a1q a2f ?_
       refine txM [0, 1, 2, 3, 4] [_, _, _, _, _] (y8y bs hbs (pSm S (S.p + 1 + 1)) (c + 2) hS2 7 Pr 0 0 false (by omega)) rfl rfl rfl rfl fun J hJ => ?_
       obtain ⟨j, jb⟩ := J
       have hj : smOk j (c + 2 + 1) := hJ
       refine z6z rfl ?_
       exact ⟨.inl rfl, j, hj.mono (by omega), [γ 0, _, _, _, γ 4], rfl, rfl, x4x⟩
      refine dc 3 (aI ?_ ?_)<;>intro h<;>try simp at h
      ·refine a7c fun B X0 w0 => ?_
       refine txR 2 rfl rfl (dv 1 ?_)
       refine rlB a1q a2f ?_
       refine txM [0, 1, 2, 3, 4] [_, _, _, _, _] (y8y bs hbs (pSm S (S.p + 1 + 1)) (c + 2) hS2 8 0 0 0 false (by omega)) rfl rfl rfl rfl fun J hJ => ?_
       obtain ⟨j, jb⟩ := J
       have hj : smOk j (c + 2 + 1) := hJ
       refine z6z rfl ?_
       exact ⟨.inl rfl, j, hj.mono (by omega), [γ 0, _, _, _, γ 4], rfl, rfl, x4x⟩
      refine dc 3 (aI ?_ ?_)<;>intro h<;>try simp at h
      ·refine dv 5 ?_
       refine rlM [4] [_] (x1x true bs (S.p + 1 + 1) (2) (by have := hp2; omega) hbs) rfl rfl rfl ?_
       refine dc 1 (aI ?_ ?_)<;>intro h<;>try simp at h
       ·refine a7c fun B X0 w0 => ?_
        refine txR 1 rfl rfl (dv 1 ?_)
        refine txM [0, 1, 2, 3, 4] [_, _, _, _, _] (b7v bs hbs (pSm S (S.p + 1 + 1 + 1)) (c + 3) (a3c hS (by omega) (by omega))  (by omega)) rfl rfl rfl rfl fun r hr => ?_
        refine z6z rfl ?_
        exact ⟨.inl rfl, r, hr.mono (by omega), [γ 0, _, _, _, γ 4], rfl, rfl, x4x⟩
       refine a7c fun B X0 w0 => ?_
       refine txR 1 rfl rfl (dv 1 ?_)
       refine txM [0, 1, 2, 3, 4] [_, _, _, _, _] (b9l bs hbs (pSm S (S.p + 1 + 1 + 1)) (c + 3) (a3c hS (by omega) (by omega))  (by omega)) rfl rfl rfl rfl fun r hr => ?_
       refine z6z rfl ?_
       exact ⟨.inl rfl, r, hr.mono (by omega), [γ 0, _, _, _, γ 4], rfl, rfl, x4x⟩
      refine s0s fun B X0 w0 => ?_
      refine txR 1 rfl rfl (dv 1 ?_)
      refine txM [0, 1, 2, 3, 4] [_, _, _, _, _] (a1w bs hbs (pSm S (S.p + 1 + 1)) (c + 2) hS2 3 0 (by omega)) rfl rfl rfl rfl fun a ha => ?_
      refine z6z rfl (s0s fun B X0 w0 => ?_)
      refine txR 2 rfl rfl (dv 1 ?_)
      refine rlB a1q a2f ?_
      refine txM [0, 1, 2, 3, 4] [_, _, _, _, _] (y8y bs hbs a (c + 2 + 195 * 3) ha 3 0 0 0 false (by omega)) rfl rfl rfl rfl fun J hJ => ?_
      obtain ⟨j, jb⟩ := J
      have hj : smOk j (c + 2 + 195 * 3 + 1) := hJ
      refine z6z rfl (s0s fun B X0 w0 => ?_)
      refine txR 1 rfl rfl (dv 1 ?_)
      refine txM [0, 1, 2, 3, 4] [_, _, _, _, _] (v8v bs hbs j (c + 2 + 195 * 3 + 1) hj 30 0 (by omega)) rfl rfl rfl rfl fun b hb => ?_
      refine z6z rfl (s0s fun B X0 w0 => ?_)
      refine txR 1 rfl rfl (dv 1 ?_)
      refine txM [0, 1, 2, 3, 4] [_, _, _, _, _] (a1w bs hbs b (c + 2 + 195 * 3 + 1 + 4 * 30) hb 1 0 (by omega)) rfl rfl rfl rfl fun d hd => ?_
      refine z6z rfl (a7c fun B X0 w0 => ?_)
      refine txR 2 rfl rfl (dv 1 ?_)
      refine rlB a1q a2f ?_
      refine txM [0, 1, 2, 3, 4] [_, _, _, _, _] (y8y bs hbs d (c + 2 + 195 * 3 + 1 + 4 * 30 + 195 * 1) hd 8 0 0 0 false (by omega)) rfl rfl rfl rfl fun J hJ => ?_
      obtain ⟨j, jb⟩ := J
      have hj : smOk j (c + 2 + 195 * 3 + 1 + 4 * 30 + 195 * 1 + 1) := hJ
      refine z6z rfl ?_
      exact ⟨.inl rfl, j, hj.mono (by omega), [γ 0, _, _, _, γ 4], rfl, rfl, x4x⟩
end
section
theorem d1b (bs : List Nat) (hbs : ∀ b ∈ bs, b < 256) (p0 : Nat) (hp : p0 + 5 ≤ 1000000) : MethE Tryz.prog 287 1 [.ptr 0 0 0] [(0, (0, .box 243 [v3v true bs, .pv (.int .i64 ((p0 : Nat) : Int))]))] (ι := Op_ × Nat) (fun S' => b0r S'.1 ∧ S'.2 ≤ p0 + 5) (fun S' => [0]) (fun S' => .agg (b2o S'.1)) (fun S' => [(0, (0, .box 243 [v3v true bs, .pv (.int .i64 ((S'.2 : Nat) : Int))]))]) := by
 refine mE (ι := Op_ × Nat) Tryz.f287 (fun S' => [.agg (b2o S'.1)]) 1 1 fun γ => ?_
 refine dv 1 ?_
 refine x3x (id := 1) a0z b6u rfl (dv 3 fun K K' => ?_)
 refine rlM [0] [_] (x1x true bs (p0) (10) (by have := hp; omega) hbs) rfl rfl rfl ?_
 refine dc 4 (aI ?_ ?_)<;>intro h<;>try simp at h
 ·refine dv 2 ?_
  refine rlM [0] [_] (x1x true bs (p0 + 1) (2) (by have := hp; omega) hbs) rfl rfl rfl ?_
  refine dv 1 ?_
  refine rlM [0] [_] (x1x true bs (p0 + 1 + 1) (20) (by have := hp; omega) hbs) rfl rfl rfl ?_
  refine rlB a0z b6u ?_
  refine dv 2 ?_
  exact ⟨(⟨1, (pk bs (p0 + 1) 2 : Int), (pk bs (p0 + 1 + 1) 20 : Int), 0, 0⟩, p0 + 1 + 1 + 1), ⟨(by have h0 := a3t bs (p0 + 1) 2 (by omega); have h1 := a3t bs (p0 + 1 + 1) 20 (by omega); unfold b0r a3d b4m; dsimp only; omega), (by show p0 + 1 + 1 + 1 ≤ p0 + 5; omega)⟩, [γ 0], rfl, rfl, x4x⟩
 refine dc 3 (aI ?_ ?_)<;>intro h<;>try simp at h
 ·refine dv 2 ?_
  refine rlM [0] [_] (x1x true bs (p0 + 1) (2) (by have := hp; omega) hbs) rfl rfl rfl ?_
  refine dv 1 ?_
  refine rlM [0] [_] (x1x true bs (p0 + 1 + 1) (2) (by have := hp; omega) hbs) rfl rfl rfl ?_
  refine rlB a0z b6u ?_
  refine dv 2 ?_
  exact ⟨(⟨2, (pk bs (p0 + 1) 2 : Int), (pk bs (p0 + 1 + 1) 2 : Int), 0, 0⟩, p0 + 1 + 1 + 1), ⟨(by have h0 := a3t bs (p0 + 1) 2 (by omega); have h1 := a3t bs (p0 + 1 + 1) 2 (by omega); unfold b0r a3d b4m; dsimp only; omega), (by show p0 + 1 + 1 + 1 ≤ p0 + 5; omega)⟩, [γ 0], rfl, rfl, x4x⟩
 refine dc 3 (aI ?_ ?_)<;>intro h<;>try simp at h
 ·refine dv 2 ?_
  refine rlM [0] [_] (x1x true bs (p0 + 1) (2) (by have := hp; omega) hbs) rfl rfl rfl ?_
  refine dv 1 ?_
  refine rlM [0] [_] (x1x true bs (p0 + 1 + 1) (9) (by have := hp; omega) hbs) rfl rfl rfl ?_
  have q9 := a3t bs (p0 + 1 + 1) 9 (by omega)
  refine x7x (a := 1) rfl rfl (by omega) (rlB a0z b6u ?_)
  refine dv 2 ?_
  exact ⟨(⟨3, (pk bs (p0 + 1) 2 : Int), ((1 + pk bs (p0 + 1 + 1) 9 : Nat) : Int), 0, 0⟩, p0 + 1 + 1 + 1), ⟨(by have h0 := a3t bs (p0 + 1) 2 (by omega); have h1 := a3t bs (p0 + 1 + 1) 9 (by omega); unfold b0r a3d b4m; dsimp only; omega), (by show p0 + 1 + 1 + 1 ≤ p0 + 5; omega)⟩, [γ 0], rfl, rfl, x4x⟩
 refine dc 3 (aI ?_ ?_)<;>intro h<;>try simp at h
 ·refine dv 2 ?_
  refine rlM [0] [_] (x1x true bs (p0 + 1) (2) (by have := hp; omega) hbs) rfl rfl rfl ?_
  refine rlB a0z b6u ?_
  refine dv 2 ?_
  exact ⟨(⟨4, (pk bs (p0 + 1) 2 : Int), 0, 0, 0⟩, p0 + 1 + 1), ⟨(by have h0 := a3t bs (p0 + 1) 2 (by omega); unfold b0r a3d b4m; dsimp only; omega), (by show p0 + 1 + 1 ≤ p0 + 5; omega)⟩, [γ 0], rfl, rfl, x4x⟩
 refine dc 3 (aI ?_ ?_)<;>intro h<;>try simp at h
 ·refine dv 2 ?_
  refine rlM [0] [_] (x1x true bs (p0 + 1) (2) (by have := hp; omega) hbs) rfl rfl rfl ?_
  refine dv 1 ?_
  refine rlM [0] [_] (x1x true bs (p0 + 1 + 1) (60) (by have := hp; omega) hbs) rfl rfl rfl ?_
  refine dv 1 ?_
  refine rlM [0] [_] (x1x true bs (p0 + 1 + 1 + 1) (2) (by have := hp; omega) hbs) rfl rfl rfl ?_
  have q9 := a3t bs (p0 + 1 + 1 + 1) 2 (by omega)
  refine x7x (a := 1) rfl rfl (by omega) (rlB a0z b6u ?_)
  refine dv 2 ?_
  exact ⟨(⟨5, (pk bs (p0 + 1) 2 : Int), (pk bs (p0 + 1 + 1) 60 : Int), ((1 + pk bs (p0 + 1 + 1 + 1) 2 : Nat) : Int), 0⟩, p0 + 1 + 1 + 1 + 1), ⟨(by have h0 := a3t bs (p0 + 1) 2 (by omega); have h1 := a3t bs (p0 + 1 + 1) 60 (by omega); have h2 := a3t bs (p0 + 1 + 1 + 1) 2 (by omega); unfold b0r a3d b4m; dsimp only; omega), (by show p0 + 1 + 1 + 1 + 1 ≤ p0 + 5; omega)⟩, [γ 0], rfl, rfl, x4x⟩
 refine q8q (ι := Bool) (fun b γ1 => [(42, .pv (.bool (b)))]) (fun b γ1 => []) (fun b => True) (r2r [0, 2] rfl) (a1p [0, 1] rfl) ?_ fun b γ1 hi => ?_
 ·refine dc 3 (aI ?_ ?_)<;>intro h<;>try simp at h
  ·refine dv 1 ?_
   exact ⟨_, trivial, [], x6x, x6x, x4x, x4x, rfl⟩
  refine dc 3 (aI ?_ ?_)<;>intro h<;>try simp at h
  ·refine dv 1 ?_
   exact ⟨_, trivial, [], x6x, x6x, x4x, x4x, rfl⟩
  refine dv 3 ?_
  exact ⟨_, trivial, [], x6x, x6x, x4x, x4x, rfl⟩
 ·try dsimp only [b2t, b2u]
  refine dc 0 (aS ?_ ?_)<;>intro h<;>try simp at h
  ·refine dv 3 ?_
   refine rlM [0] [_] (x1x true bs (p0 + 1) (2) (by have := hp; omega) hbs) rfl rfl rfl ?_
   refine rlB a0z b6u ?_
   refine dv 2 ?_
   exact ⟨(⟨7, (pk bs (p0 + 1) 2 : Int), 0, 0, 0⟩, p0 + 1 + 1), ⟨(by have h0 := a3t bs (p0 + 1) 2 (by omega); unfold b0r a3d b4m; dsimp only; omega), (by show p0 + 1 + 1 ≤ p0 + 5; omega)⟩, [γ 0], rfl, rfl, x4x⟩
  refine dv 2 ?_
  refine rlM [0] [_] (x1x true bs (p0 + 1) (4) (by have := hp; omega) hbs) rfl rfl rfl ?_
  refine dv 1 ?_
  refine rlM [0] [_] (x1x true bs (p0 + 1 + 1) (3) (by have := hp; omega) hbs) rfl rfl rfl ?_
  refine dv 1 ?_
  refine rlM [0] [_] (x1x true bs (p0 + 1 + 1 + 1) (7) (by have := hp; omega) hbs) rfl rfl rfl ?_
  have q9 := a3t bs (p0 + 1 + 1 + 1) 7 (by omega)
  refine x7x (a := 1) rfl rfl (by omega) (dv 1 ?_)
  refine rlM [0] [_] (x1x true bs (p0 + 1 + 1 + 1 + 1) (2) (by have := hp; omega) hbs) rfl rfl rfl ?_
  refine rlB a0z b6u ?_
  refine dv 2 ?_
  exact ⟨(⟨6, (pk bs (p0 + 1) 4 : Int), (pk bs (p0 + 1 + 1) 3 : Int), ((1 + pk bs (p0 + 1 + 1 + 1) 7 : Nat) : Int), (pk bs (p0 + 1 + 1 + 1 + 1) 2 : Int)⟩, p0 + 1 + 1 + 1 + 1 + 1), ⟨(by have h0 := a3t bs (p0 + 1) 4 (by omega); have h1 := a3t bs (p0 + 1 + 1) 3 (by omega); have h2 := a3t bs (p0 + 1 + 1 + 1) 7 (by omega); have h3 := a3t bs (p0 + 1 + 1 + 1 + 1) 2 (by omega); unfold b0r a3d b4m; dsimp only; omega), (by show p0 + 1 + 1 + 1 + 1 + 1 ≤ p0 + 5; omega)⟩, [γ 0], rfl, rfl, x4x⟩
end
section
theorem c4j (bs : List Nat) (hbs : ∀ b ∈ bs, b < 256) (p0 : Nat) (hp : p0 + 500 ≤ 1000000) : MethE Tryz.prog 237 1 [.ptr 0 0 0] [(0, (0, .box 243 [v3v true bs, .pv (.int .i64 ((p0 : Nat) : Int))]))] (ι := List Ap × Nat) (fun S' => a5r S'.1 ∧ S'.2 ≤ p0 + 500) (fun S' => [0]) (fun S' => a4w true S'.1) (fun S' => [(0, (0, .box 243 [v3v true bs, .pv (.int .i64 ((S'.2 : Nat) : Int))]))]) := by
 refine mE (ι := List Ap × Nat) Tryz.f237 (fun S' => [a4w true S'.1]) 1 16 fun γ => ?_
 refine dv 3 ?_
 refine y1y (id := 1) c5y rfl a5c rfl (dv 5 fun K K' => ?_)
 refine x5x (ι := List Ap × Nat) (fun p γ1 => [(3, .ref 1 (γ1 1)), (4, pI (p.1.length : Int))]) (fun p γ1 => [(1, ((γ1 1), .row 121 1 ((p.1).map (b7q true)))), (15, ((γ1 15), .dead)), (16, ((γ1 16), .dead)), (0, ((γ 0), .box 243 [v3v true bs, pI ((p.2 : Nat) : Int)])), (2, ((γ1 2), .dead)), (3, ((γ1 3), .dead)), (4, ((γ1 4), .dead)), (5, ((γ1 5), .dead)), (6, ((γ1 6), .dead)), (7, ((γ1 7), .dead)), (8, ((γ1 8), .dead)), (9, ((γ1 9), .dead)), (10, ((γ1 10), .dead)), (11, ((γ1 11), .dead)), (12, ((γ1 12), .dead)), (13, ((γ1 13), .dead)), (14, ((γ1 14), .dead))]) (fun p => p.1.length ≤ 4 ∧ (∀ a ∈ p.1, d1i a) ∧ p.2 ≤ p0 + 120 * p.1.length) (fun p => 4 - p.1.length) (x8x 0 rfl Cov.nil) HE.nil ([], p0) ⟨Nat.zero_le _, fun a h => (by cases h), Nat.le_refl _⟩ [0, _, _, _, _, _, _, _, _, _, _, _, _, _, _, _, _] x6x (HE.row rfl (by rfl) (HE.kill rfl (HE.kill rfl (HE.box rfl rfl (HE.kill rfl (HE.kill rfl (HE.kill rfl (HE.kill rfl (HE.kill rfl (HE.kill rfl (HE.kill rfl (HE.kill rfl (HE.kill rfl (HE.kill rfl (HE.kill rfl (HE.kill rfl (HE.kill rfl HE.nil))))))))))))))))) rfl fun p γ1 hi => ?_
 obtain ⟨l, q⟩ := p
 obtain ⟨h1, h2, h3⟩ := hi
 dsimp only at h1 h2 h3 ⊢
 refine dc 4 (fun K K' => aS ?_ ?_)<;>intro o<;>try simp at o
 ·have h4 : l.length = 4 := by omega
  have hT : a5r l := ⟨h4, h2⟩
  refine dv 1 ?_
  refine r6r (f := b7q true) 3 rfl rfl (fun _ => rfl) ?_
  refine dv 4 ?_
  exact ⟨(l, q), ⟨hT, by show q ≤ p0 + 500; omega⟩, [γ 0], rfl, rfl, x4x⟩
 have h1l : l.length < 4 := by omega
 refine dv 4 fun K K' => ?_
 refine rlB a5c b4g ?_
 refine x3x (id := 2) a5c b4g rfl (dv 5 fun K K' => ?_)
 refine a1d 2 0 15 232 2 rfl rfl rfl rfl rfl ?_
 refine x5x (ι := List Ru × Nat) (fun p γ2 => [(6, pI (p.1.length : Int))]) (fun p γ2 => [(15, ((γ2 15), .row 232 2 ((p.1).map (c7m true)))), (16, ((γ2 16), .dead)), (0, ((γ 0), .box 243 [v3v true bs, pI ((p.2 : Nat) : Int)])), (2, ((γ1 2 + 1), .box 121 [.ref 15 (γ2 15)])), (3, ((γ2 3), .dead)), (4, ((γ2 4), .dead)), (5, ((γ2 5), .dead)), (6, ((γ2 6), .dead)), (7, ((γ2 7), .dead)), (8, ((γ2 8), .dead)), (9, ((γ2 9), .dead)), (10, ((γ2 10), .dead)), (11, ((γ2 11), .dead)), (12, ((γ2 12), .dead))]) (fun p => p.1.length ≤ 3 ∧ f5h p.1 ∧ p.2 ≤ q + 40 * p.1.length) (fun p => 3 - p.1.length) (r2r [0, 3, 4, 5] rfl) (a1p [1, 13, 14] rfl) ([], q) ⟨Nat.zero_le _, fun i r h => (by simp at h), Nat.le_refl _⟩ [0, 0, 0, _, _, _, _, _, _, _, _, _, _, 0, 0, _, _] x6x (HE.row rfl (by rfl) (HE.kill rfl (HE.box rfl rfl (HE.box rfl rfl (HE.kill rfl (HE.kill rfl (HE.kill rfl (HE.kill rfl (HE.kill rfl (HE.kill rfl (HE.kill rfl (HE.kill rfl (HE.kill rfl (HE.kill rfl HE.nil)))))))))))))) rfl fun p γ2 hi => ?_
 obtain ⟨rs, q1⟩ := p
 obtain ⟨k1, k2, k3⟩ := hi
 dsimp only at k1 k2 k3 ⊢
 refine dc 4 (fun K K' => aS ?_ ?_)<;>intro o<;>try simp at o
 ·refine dv 1 ?_
  refine v4v (b := e2a true rs) 2 0 rfl rfl rfl (.ref rfl (Le.ow_map _ (fun _ => rfl) (fun _ => rfl)) .nil) rfl rfl rfl rfl ?_
  refine dv 3 ?_
  refine y5y (id := 13) c5y rfl a5c rfl rfl rfl rfl rfl rfl ?_
  refine y6y (zs := ((l ++ [(⟨rs⟩ : Ap)]).map (b7q true))) rfl rfl c5y rfl a5c rfl rfl rfl rfl (by rfl) (u0u (b7q true) l ⟨rs⟩) (by (simp only [a0b, r5r, s1s, s3s, a0t, a3b, T121]; omega)) ?_
  refine dv 3 ?_
  refine x7x (b := 1) rfl rfl (by omega) (dv 1 ?_)
  exact ⟨(l ++ [⟨rs⟩], q1), ⟨(f4t h2 (f4r k1 k2) h1l h3 k3 k1), (by show 4 - (l ++ [_]).length < 4 - l.length; rw [List.length_append]; show 4 - (l.length + 1) < _; omega)⟩, [0, _, _, _, _, _, _, _, _, _, _, _, _, _, _, _, _], (x8x 3 rfl (Cov.cons' (t := 4) rfl ((by rw [List.length_append]; rfl)) Cov.nil)), x6x, (HE.row rfl (by rfl) (HE.kill rfl (HE.kill rfl (HE.box rfl rfl (HE.kill rfl (HE.kill rfl (HE.kill rfl (HE.kill rfl (HE.kill rfl (HE.kill rfl (HE.kill rfl (HE.kill rfl (HE.kill rfl (HE.kill rfl (HE.kill rfl (HE.kill rfl (HE.kill rfl HE.nil))))))))))))))))), x4x, rfl⟩
 have k1l : rs.length < 3 := by omega
 refine dv 5 fun K K' => ?_
 refine rlB b9q d3t ?_
 refine x3x (id := 3) b9q d3t rfl (dv 4 fun K K' => ?_)
 refine rlM [0] [_] (x1x true bs (q1) (5) (by have := k3; omega) hbs) rfl rfl rfl ?_
 obtain ⟨N, eN, hN⟩ : ∃ N, pk bs q1 5 = N ∧ N ≤ 5 := ⟨_, rfl, b0y _ _ _⟩
 rw [eN]
 refine x7x (a := 2) rfl rfl (by omega) (dv 2 ?_)
 refine a1d 3 1 16 297 5 rfl rfl rfl rfl rfl ?_
 refine x5x (ι := List Op_ × Nat × Nat) (fun p γ3 => [(8, pI (p.2.2 : Int))]) (fun p γ3 => [(16, ((γ3 16), .row 297 5 ((p.1).map b2o))), (0, ((γ 0), .box 243 [v3v true bs, pI ((p.2.1 : Nat) : Int)])), (3, ((γ2 3 + 1), .box 232 [pI (rs.length : Int), .ref 16 (γ3 16)])), (4, ((γ3 4), .dead)), (5, ((γ3 5), .dead)), (6, ((γ3 6), .dead)), (7, ((γ3 7), .dead)), (8, ((γ3 8), .dead)), (9, ((γ3 9), .dead)), (10, ((γ3 10), .dead))]) (fun p => c8j ⟨(rs.length : Int), p.1⟩ ∧ p.2.1 + 5 * p.2.2 ≤ q1 + 1 + 5 * (2 + N)) (fun p => p.2.2) (r2r [0, 3, 4, 5, 6, 7] rfl) (a1p [1, 2, 11, 12, 13, 14, 15] rfl) ([], q1 + 1, 2 + N) ⟨ru0, by show q1 + 1 + 5 * (2 + N) ≤ _; omega⟩ [0, 0, 0, 0, _, _, _, _, _, _, _, 0, 0, 0, 0, 0, _] x6x (HE.row rfl (by rfl) (HE.box rfl rfl (HE.box rfl rfl (HE.kill rfl (HE.kill rfl (HE.kill rfl (HE.kill rfl (HE.kill rfl (HE.kill rfl (HE.kill rfl HE.nil)))))))))) rfl fun p γ3 hi => ?_
 obtain ⟨ops, q2, n⟩ := p
 obtain ⟨l1, l2⟩ := hi
 dsimp only at l1 l2 ⊢
 refine dc 4 (fun K K' => aS ?_ ?_)<;>intro o<;>try simp at o
 ·refine dv 1 ?_
  refine v4v (b := e8b true ops) 3 1 rfl rfl rfl (.ref rfl (Le.ow_map _ (fun _ => rfl) (fun _ => rfl)) .nil) rfl rfl rfl rfl ?_
  refine dv 4 ?_
  refine y5y (id := 11) d3q rfl b9q rfl rfl rfl rfl rfl rfl ?_
  refine y6y (zs := ((rs ++ [(⟨(rs.length : Int), ops⟩ : Ru)]).map (c7m true))) rfl rfl d3q rfl b9q rfl rfl rfl rfl (by rfl) (u0u (c7m true) rs (⟨(rs.length : Int), ops⟩ : Ru)) (by (simp only [a0b, r5r, s1s, s3s, a0t, a3b, T232]; omega)) ?_
  refine dv 4 ?_
  refine x7x (b := 1) rfl rfl (by omega) (dv 1 ?_)
  exact ⟨(rs ++ [(⟨(rs.length : Int), ops⟩ : Ru)], q2), ⟨(f4s k2 l1 k1l k3 (by omega)), (by show 3 - (rs ++ [_]).length < 3 - rs.length; rw [List.length_append]; show 3 - (rs.length + 1) < _; omega)⟩, [0, 0, 0, _, _, _, _, _, _, _, _, _, _, 0, 0, _, _], (Cov.cons' (t := 6) rfl ((by rw [List.length_append]; rfl)) Cov.nil), x6x, (HE.row rfl (by rfl) (HE.kill rfl (HE.box rfl rfl (HE.box rfl rfl (HE.kill rfl (HE.kill rfl (HE.kill rfl (HE.kill rfl (HE.kill rfl (HE.kill rfl (HE.kill rfl (HE.kill rfl (HE.kill rfl (HE.kill rfl HE.nil)))))))))))))), x4x, rfl⟩
 obtain ⟨n', rfl⟩ : ∃ n', n = n' + 1 := ⟨n - 1, by omega⟩
 refine dv 1 ?_
 refine q8q (ι := List Op_ × Nat) (fun os γ4 => []) (fun os γ4 => [(16, ((γ4 16), .row 297 5 ((os.1).map b2o))), (0, ((γ 0), .box 243 [v3v true bs, pI ((os.2 : Nat) : Int)])), (3, ((γ2 3 + 1), .box 232 [pI (rs.length : Int), .ref 16 (γ4 16)])), (4, ((γ4 4), .dead)), (5, ((γ4 5), .dead)), (6, ((γ4 6), .dead)), (7, ((γ4 7), .dead)), (8, ((γ4 8), .dead)), (9, ((γ4 9), .dead)), (10, ((γ4 10), .dead))]) (fun os => c8j ⟨(rs.length : Int), os.1⟩ ∧ os.2 ≤ q2 + 5) (r2r [0, 3, 4, 5, 6, 7, 8] rfl) (a1p [1, 2, 11, 12, 13, 14, 15] rfl) ?_ fun os γ4 hi => ?_
 ·refine dv 1 ?_
  refine s0s fun B X0 w0 => ?_
  refine txR 1 rfl rfl (dv 1 ?_)
  refine txM [0] [_] (d1b bs hbs q2 (by omega)) rfl rfl rfl rfl fun j hj => ?_
  obtain ⟨hj1, hj2⟩ := hj
  have hol : ops.length ≤ 8 := l1.2.1
  refine txR 2 rfl rfl (x3x (id := 4) a0z b6u rfl (dv 1 ?_))
  refine z6z rfl (dv 2 ?_)
  refine y1y (id := 5) b6t rfl a0z rfl (dv 2 ?_)
  refine y6y (zs := (ops.map b2o)) rfl rfl b6t rfl a0z rfl rfl rfl rfl (z8z (fun _ => rfl) _) rfl (by (simp only [a0b, r5r, s1s, s3s, a0t, a3b, T297]; omega)) ?_
  refine dv 1 ?_
  refine y5y (id := 7) b6t rfl a0z rfl rfl rfl rfl rfl rfl ?_
  refine y6y (zs := ((ops ++ [j.1]).map b2o)) rfl rfl b6t rfl a0z rfl rfl rfl rfl (by rfl) (u0u b2o ops j.1) (by (simp only [a0b, r5r, s1s, s3s, a0t, a3b, T297]; omega)) ?_
  refine rlB b9q d3t ?_
  refine b5i rfl rfl rfl (.agg rfl (.cl rfl (.ref rfl (Le.ow_map _ nf (fun _ => rfl)) .nil)) .nil) (b3a false (⟨(rs.length : Int), ops ++ [j.1]⟩ : Ru) (by show (ops ++ [j.1]).length ≤ _; rw [List.length_append]; show ops.length + 1 ≤ _; have : ops.length ≤ 8 := hol; omega)) (.pv _) ?_
  refine dc 0 (aS ?_ ?_)<;>intro hc12<;>try simp at hc12
  ·refine dv 1 ?_
   exact ⟨(ops, j.2), ⟨l1, hj2⟩, [0, 0, 0, 0, _, _, _, _, _, _, _, 0, 0, 0, 0, 0, _], x6x, x6x, x4x, x4x, rfl⟩
  have hru : c8j (⟨(rs.length : Int), ops ++ [j.1]⟩ : Ru) := a0o.1 (by simpa using hc12)
  refine dv 4 ?_
  refine y5y (id := 9) b6t rfl a0z rfl rfl rfl rfl rfl rfl ?_
  refine y6y (zs := ((ops ++ [j.1]).map b2o)) rfl rfl b6t rfl a0z rfl rfl rfl rfl (by rfl) (u0u b2o ops j.1) (by (simp only [a0b, r5r, s1s, s3s, a0t, a3b, T297]; omega)) ?_
  refine dv 2 ?_
  exact ⟨(ops ++ [j.1], j.2), ⟨hru, hj2⟩, [0, 0, 0, 0, _, _, _, _, _, _, _, 0, 0, 0, 0, 0, _], x6x, x6x, x4x, x4x, rfl⟩
 ·try dsimp only [b2t, b2u]
  refine dv 2 ?_
  refine r1r (b := 1) rfl rfl (by omega) (by omega) (dv 1 ?_)
  exact ⟨(os.1, os.2, n'), ⟨⟨hi.1, by have := hi.2; show os.2 + 5 * n' ≤ _; omega⟩, (by show n' < n' + 1; omega)⟩, [0, 0, 0, 0, _, _, _, _, _, _, _, 0, 0, 0, 0, 0, _], x6x, x6x, x4x, x4x, rfl⟩
end
section
theorem c4k (c : Bool) (l : List Ap) (hA : a5r l) : a0j Tryz.prog 88 [a4w c l] (a4w true l) := by
 refine pX Tryz.f88 [a4w true l] 9 ?_
 have hl4 := hA.1
 refine dv 3 ?_
 refine y1y (id := 0) c5y rfl a5c rfl (dv 5 fun K K' => ?_)
 refine x5x (ι := Nat) (fun i γ1 => [(3, .ref 0 (γ1 0)), (4, pI (i : Int))]) (fun i γ1 => [(0, ((γ1 0), .row 121 1 ((l.take i).map (b7q true)))), (8, ((γ1 8), .dead)), (1, ((γ1 1), .dead)), (2, ((γ1 2), .dead)), (3, ((γ1 3), .dead)), (4, ((γ1 4), .dead)), (5, ((γ1 5), .dead)), (6, ((γ1 6), .dead)), (7, ((γ1 7), .dead))]) (fun i => i ≤ l.length) (fun i => l.length - i) (x8x 0 rfl Cov.nil) HE.nil 0 (by omega) [_, _, _, _, _, _, _, _, _] x6x (HE.row rfl (by rw [List.take_zero]; rfl) (HE.kill rfl (HE.kill rfl (HE.kill rfl (HE.kill rfl (HE.kill rfl (HE.kill rfl (HE.kill rfl (HE.kill rfl HE.nil))))))))) rfl fun i γ1 hi => ?_
 refine dc 6 (fun K K' => aS ?_ ?_)<;>intro h<;>try simp at h
 ·obtain rfl : i = l.length := by omega
  refine dv 5 ?_
  refine a4j rfl rfl (fun _ => rfl) ?_
  rw [List.take_length]
 obtain ⟨a, ha⟩ := gE l i
 have hap := hA.2 a (List.mem_of_getElem? ha)
 have har := hap.1
 refine dv 4 fun K K' => ?_
 refine rlB a5c b4g ?_
 refine x3x (id := 1) a5c b4g rfl (dv 5 fun K K' => ?_)
 refine a1d 1 0 8 232 2 rfl rfl rfl rfl rfl ?_
 refine x5x (ι := Nat) (fun k γ2 => [(6, pI (k : Int))]) (fun k γ2 => [(8, ((γ2 8), .row 232 2 ((a.rules.take k).map (c7m true)))), (1, ((γ1 1 + 1), .box 121 [.ref 8 (γ2 8)])), (2, ((γ2 2), .dead)), (3, ((γ2 3), .dead)), (4, ((γ2 4), .dead)), (5, ((γ2 5), .dead))]) (fun k => k ≤ a.rules.length) (fun k => a.rules.length - k) (r2r [0, 3, 4, 5] rfl) (a1p [0, 6, 7] rfl) 0 (by omega) [0, 0, _, _, _, _, 0, 0, _] x6x (HE.row rfl (by rw [List.take_zero]; rfl) (HE.box rfl rfl (HE.kill rfl (HE.kill rfl (HE.kill rfl (HE.kill rfl HE.nil)))))) rfl fun k γ2 hi => ?_
 refine dc 10 (fun K K' => aS ?_ ?_)<;>intro h<;>try simp at h
 ·obtain rfl : k = a.rules.length := by omega
  rw [List.take_length]
  refine dv 1 ?_
  refine v4v (b := e2a true a.rules) 1 0 rfl rfl rfl (.ref rfl (Le.ow_map _ (fun _ => rfl) (fun _ => rfl)) .nil) rfl rfl rfl rfl ?_
  refine dv 3 ?_
  refine y5y (id := 6) c5y rfl a5c rfl rfl rfl rfl rfl rfl ?_
  refine y6y (zs := (l.take i ++ [a]).map (b7q true)) rfl rfl c5y rfl a5c rfl rfl rfl rfl (by rfl) (u0u _ _ _) (by (simp only [a0b, r5r, s1s, s3s, a0t, T121]; omega)) ?_
  refine dv 3 ?_
  refine u7u rfl rfl rfl (dv 1 ?_)
  exact ⟨i + 1, ⟨by omega, by omega⟩, [_, _, _, _, _, _, _, _, _], (x8x 3 rfl (Cov.cons' (t := 4) rfl (by rw [x9x (by omega) (by omega)]; rfl) Cov.nil)), x6x, (HE.row rfl (by rw [z5z ha]) (HE.kill rfl (HE.kill rfl (HE.kill rfl (HE.kill rfl (HE.kill rfl (HE.kill rfl (HE.kill rfl (HE.kill rfl HE.nil))))))))), x4x, rfl⟩
 obtain ⟨r, hr⟩ := gE a.rules k
 have hro := (hap.2 k r hr).2.1.2.1
 refine dv 15 fun K K' => ?_
 refine y1y (id := 2) b6t rfl a0z rfl (dv 9 ?_)
 refine a1n w5w (zs := r.ops.map b2o) rfl rfl b6t rfl a0z rfl rfl rfl (z8z (fun _ => rfl) _) rfl (by (simp only [a0b, r5r, s1s, s3s, a0t, T297]; omega)) (Le.ow_map _ (fun _ => rfl) (fun _ => rfl)) ?_
 refine rlB b9q d3t ?_
 refine y5y (id := 4) d3q rfl b9q rfl rfl rfl rfl rfl rfl ?_
 refine y6y (zs := (a.rules.take k ++ [r]).map (c7m true)) rfl rfl d3q rfl b9q rfl rfl rfl rfl (by rfl) (u0u _ _ _) (by (simp only [a0b, r5r, s1s, s3s, a0t, T232]; omega)) ?_
 refine dv 4 ?_
 refine u7u rfl rfl rfl (dv 1 ?_)
 exact ⟨k + 1, ⟨by omega, by omega⟩, [0, 0, _, _, _, _, 0, 0, _], (Cov.cons' (t := 6) rfl (by rw [x9x (by omega) (by omega)]; rfl) Cov.nil), x6x, (HE.row rfl (by rw [z5z hr]) (HE.box rfl rfl (HE.kill rfl (HE.kill rfl (HE.kill rfl (HE.kill rfl HE.nil)))))), x4x, rfl⟩
end
section
theorem b7x (l : List Ap) (fA : a5r l) : Meth Tryz.prog 16 1 [] [a4w true l] [(0, (0, .dead))] (.agg [pI 0, a4w true l, .ref 0 0, .pv (.slice none 0 0), pI 0, .pv (.slice none 0 0), .pv (.slice none 0 0), .pv (.slice none 0 0), .pv (.slice none 0 0)]) [(0, (0, .row 65 13 ((a8z 3).map (u1u true))))] := by
 refine mX Tryz.f16 [.agg [pI 0, a4w true l, .ref 0 0, .pv (.slice none 0 0), pI 0, .pv (.slice none 0 0), .pv (.slice none 0 0), .pv (.slice none 0 0), .pv (.slice none 0 0)]] 1 4 fun γ => ?_
 have hb : ∀ a ∈ l, ∀ r ∈ a.rules, r.ops.length ≤ 1048576 := fun a ha r hr => by obtain ⟨i, hi⟩ := List.getElem?_of_mem hr; have := ((fA.2 a ha).2 i r hi).2.1.2.1; omega
 refine dv 1 ?_
 refine x3x (id := 1) b5e b8j rfl (dv 3 fun K K' => ?_)
 refine x0x rfl rfl rfl (a8r true l hb) (dc 1 (aI ?_ ?_))<;>intro hc2<;>try simp at hc2
 ·exact absurd fA (a0p (by simpa using hc2))
 refine dv 3 ?_
 refine x0x rfl rfl rfl (c4k true l fA) (rlB b5e b8j ?_)
 refine x3x (id := 2) b5e b8j rfl (dv 5 fun K K' => ?_)
 refine a1d 2 2 0 65 13 rfl rfl rfl rfl rfl ?_
 refine x5x (ι := Nat) (fun i γ1 => [(4, pI (i : Int))]) (fun i γ1 => [(0, ((γ1 0), .row 65 13 ((a8z i).map (u1u true)))), (2, ((0 + 1), .box 31 [pI 0, a4w true l, .ref 0 (γ1 0), .pv (.slice none 0 0), pI 0, .pv (.slice none 0 0), .pv (.slice none 0 0), .pv (.slice none 0 0), .pv (.slice none 0 0)])), (3, ((γ1 3), .dead)), (4, ((γ1 4), .dead))]) (fun i => i ≤ 3) (fun i => 3 - i) (r2r [2, 3] rfl) (w9w 1 rfl HE.nil) 0 (by omega) [_, 0, 0, _, _] x6x (HE.row rfl (by rfl) (HE.box rfl rfl (HE.kill rfl (HE.kill rfl HE.nil)))) rfl fun i γ1 hi => ?_
 refine dc 4 (fun K K' => aS ?_ ?_)<;>intro h<;>try simp at h
 ·obtain rfl : i = 3 := by omega
  refine dv 5 ?_
  exact ⟨[_], rfl, rfl, x4x⟩
 refine dv 7 fun K K' => ?_
 refine x0x rfl rfl rfl (b9y (i : Int)) ?_
 refine y5y (id := 3) a6l rfl u6u rfl rfl rfl rfl rfl rfl ?_
 refine y6y (zs := (a8z i ++ [a0u (i : Int)]).map (u1u true)) rfl rfl a6l rfl u6u rfl rfl rfl rfl (by rfl) (u0u _ _ _) (by (simp only [a0b, r5r, s1s, s3s, a0t, a8z, a3b, T65]; omega)) ?_
 refine dv 4 ?_
 refine u7u rfl rfl rfl (dv 1 ?_)
 exact ⟨i + 1, ⟨by omega, by omega⟩, [_, 0, 0, _, _], (Cov.cons' (t := 4) rfl (by rw [x9x (by omega) (by omega)]; rfl) Cov.nil), x6x, (HE.row rfl (by rw [d0h]) (HE.box rfl rfl (HE.kill rfl (HE.kill rfl HE.nil)))), x4x, rfl⟩
end
section
theorem c4l (bs : List Nat) (hbs : ∀ b ∈ bs, b < 256) (p0 most : Nat) (hp : p0 + 502 + 1040 * most ≤ 1000000) : MethE Tryz.prog 133 5 [.ptr 4 0 0, .pv (.int .i64 (most : Int))] [(0, (0, .dead)), (1, (0, .dead)), (2, (0, .dead)), (3, (0, .dead)), (4, (0, .box 243 [v3v true bs, .pv (.int .i64 ((p0 : Nat) : Int))]))] (ι := Sm) (fun S' => smOk S' (p0 + 502 + 1040 * most)) (fun S' => [4]) (fun S' => .ptr 0 0 0) (fun S' => [(0, (0, .box 171 [.ptr 4 0 0, pI S'.w.time, a4w true S'.w.apps, .ref 1 0, .ref 2 0, pI S'.w.hub.round, v7v true S'.w.hub.ones, v7v true S'.w.hub.twos, v7v true S'.w.hub.outs, r8r true S'.w.sink, .ref 3 0])), (1, (0, .row 65 13 ((S'.w.nodes).map (u1u true)))), (2, (0, .row 79 11 ((S'.w.radio).map (u3u true)))), (3, (0, .row 263 5 ((S'.list).map a3l))), (4, (0, .box 243 [v3v true bs, .pv (.int .i64 ((S'.p : Nat) : Int))]))]) := by
 refine mE (ι := Sm) Tryz.f133 (fun S' => [.ptr 0 0 0]) 5 1 fun γ => ?_
 refine dv 2 ?_
 refine s0s fun B X0 w0 => ?_
 refine txR 2 rfl rfl (dv 2 ?_)
 refine txM [4] [_] (c4j bs hbs p0 (by omega)) rfl rfl rfl rfl fun A hA => ?_
 obtain ⟨hA1, hA2⟩ := hA
 refine txR 4 rfl rfl ?_
 refine rlM [1] [_] (b7x A.1 hA1) rfl rfl rfl ?_
 refine rlB f2s f2x ?_
 refine y3y (id := 0) rfl rfl rfl (dv 1 ?_)
 refine z6z rfl (a1d 0 4 2 79 11 rfl rfl rfl rfl rfl (a1d 0 10 3 263 5 rfl rfl rfl rfl rfl ?_))
 refine e7o 0 rfl (.same (.same (.same (.same (.same (.same (.le (b := v7v true ([] : List Wo)) rfl .nil rfl (.le (b := v7v true ([] : List Wo)) rfl .nil rfl (.le (b := v7v true ([] : List Wo)) rfl .nil rfl (.le (b := r8r true ([] : List Ou)) rfl .nil rfl (LeCs.refl _))))))))))) ?_
 refine dv 1 ?_
 refine w8w (id := 5) a0k rfl r3r rfl rfl rfl rfl (.val rfl rfl (.val rfl rfl (.val rfl rfl (.val rfl rfl (.val rfl rfl .nil))))) rfl (r9r rfl) (r9r rfl) (r9r rfl) rfl rfl ?_
 refine dv 1 ?_
 refine rlM [4] [_] (x1x true bs (A.2) (5) (by have := hA2; omega) hbs) rfl rfl rfl ?_
 obtain ⟨z, ez, hz⟩ : ∃ z, pk bs A.2 5 = z ∧ z < 5 := ⟨_, rfl, a3t _ _ _ (by omega)⟩
 rw [ez]
 obtain ⟨odd, hodd⟩ : ∃ x, [0, 0, 3, 6, 12][z]? = some x := ⟨_, List.getElem?_eq_getElem hz⟩
 refine z0z (f := fun x : Nat => [pI (x : Int)]) (l := [0, 0, 3, 6, 12]) (j := z) rfl rfl a0k rfl r3r rfl rfl hz ?_
 refine a5f (f := fun x : Nat => [pI (x : Int)]) (l := [0, 0, 3, 6, 12]) rfl r3r rfl hodd rfl ?_
 refine dv 5 fun K K' => ?_
 refine rlM [4] [_] (x1x true bs (A.2 + 1) (most) (by have := hA2; omega) hbs) rfl rfl rfl ?_
 refine dv 1 ?_
 obtain ⟨N, eN, hN⟩ : ∃ N, pk bs (A.2 + 1) most = N ∧ N ≤ most := ⟨_, rfl, b0y _ _ _⟩
 rw [eN]
 refine dv 1 ?_
 refine x5x (ι := Sm × Nat) (fun p γ1 => [(7, pI (p.2 : Int))]) (fun p γ1 => [(1, ((γ1 1), .row 65 13 ((p.1.w.nodes).map (u1u true)))), (2, ((γ1 2), .row 79 11 ((p.1.w.radio).map (u3u true)))), (3, ((γ1 3), .row 263 5 ((p.1.list).map a3l))), (0, ((γ 0 + 1), .box 171 [.ptr 4 (γ 4) 0, pI p.1.w.time, a4w true p.1.w.apps, .ref 1 (γ1 1), .ref 2 (γ1 2), pI p.1.w.hub.round, v7v true p.1.w.hub.ones, v7v true p.1.w.hub.twos, v7v true p.1.w.hub.outs, r8r true p.1.w.sink, .ref 3 (γ1 3)])), (4, ((γ 4), .box 243 [v3v true bs, pI ((p.1.p : Nat) : Int)]))]) (fun p => smOk p.1 (p0 + 502 + 1040 * (N - p.2)) ∧ p.2 ≤ N) (fun p => p.2) (r2r [5, 6] rfl) (w9w 5 rfl HE.nil) ((⟨⟨0, A.1, a8z 3, [], hb0, []⟩, [], A.2 + 1 + 1⟩ : Sm), N) ⟨e6q hA1 (by show A.2 + 1 + 1 ≤ p0 + 502 + 1040 * (N - N); omega), Nat.le_refl _⟩ [0, _, _, _] x6x x4x rfl fun p γ1 hi => ?_
 obtain ⟨S1, i⟩ := p
 obtain ⟨h1, h2⟩ := hi
 dsimp only at h1 h2 ⊢
 refine dc 4 (fun K K' => aS ?_ ?_)<;>intro h<;>try simp at h
 ·refine dv 5 ?_
  exact ⟨S1, h1.mono (by omega), [_, _, _, _, γ 4], rfl, rfl, x4x⟩
 obtain ⟨i', rfl⟩ : ∃ i', i = i' + 1 := ⟨i - 1, by omega⟩
 refine dv 3 fun K K' => ?_
 refine a7c fun B X0 w0 => ?_
 refine txR 2 rfl rfl (dv 2 ?_)
 refine txM [0, 1, 2, 3, 4] [_, _, _, _, _] (b7w bs hbs S1 (p0 + 502 + 1040 * (N - (i' + 1))) h1 odd (by omega)) rfl rfl rfl rfl fun j hj => ?_
 refine z6z rfl (dv 2 ?_)
 refine r1r (b := 1) rfl rfl (by omega) (by omega) (dv 1 ?_)
 exact ⟨(j, i'), ⟨⟨hj.mono (by show _ ≤ p0 + 502 + 1040 * (N - i'); omega), by show i' ≤ N; omega⟩, (by show i' < i' + 1; omega)⟩, [0, _, _, _], x6x, x6x, x4x, x4x, rfl⟩
end
section
theorem c4m (bs : List Nat) (hbs : ∀ b ∈ bs, b < 256) (p0 : Nat) (hp : p0 + 502 + 1040 * 14 ≤ 1000000) : MethE Tryz.prog 225 1 [.ptr 0 0 0] [(0, (0, .box 243 [v3v true bs, .pv (.int .i64 ((p0 : Nat) : Int))]))] (ι := Sm × Nd) (fun S' => smOk S'.1 (p0 + 503 + 1040 * 14) ∧ S'.2 ∈ S'.1.w.nodes) (fun S' => [0]) (fun S' => .tup [.agg (d7f true S'.1.w), .agg (u1u true S'.2)]) (fun S' => [(0, (0, .box 243 [v3v true bs, .pv (.int .i64 ((S'.1.p : Nat) : Int))]))]) := by
 refine mE (ι := Sm × Nd) Tryz.f225 (fun S' => [.agg (d7f true S'.1.w), .agg (u1u true S'.2)]) 1 7 fun γ => ?_
 refine dv 1 ?_
 refine x3x (id := 1) b5e b8j rfl (x3x (id := 2) u6u q4q rfl (s0s fun B X0 w0 => ?_))
 refine txR 1 rfl rfl (dv 1 ?_)
 refine txM [4, 5, 6, 7, 0] [_, _, _, _, _] (c4l bs hbs p0 14 hp) rfl rfl rfl rfl fun S hS => ?_
 refine txR 5 rfl rfl (dv 3 ?_)
 refine x3x (id := 3) b5e b8j rfl (dv 1 ?_)
 refine z6z rfl (dv 5 ?_)
 refine rlM [0] [_] (x1x true bs (S.p) (3) (by have := hS.2.2; omega) hbs) rfl rfl rfl ?_
 obtain ⟨z, ez, hz⟩ : ∃ z, pk bs S.p 3 = z ∧ z < 3 := ⟨_, rfl, a3t _ _ _ (by omega)⟩
 rw [ez]
 obtain ⟨n, hnd, hnI⟩ := b3f hS.1 (i := z) (by omega)
 refine z0z (j := z) rfl rfl a6l rfl u6u rfl rfl (z2z hnd) ?_
 refine s6s rfl u6u rfl (by assumption) rfl rfl ?_
 refine dv 2 ?_
 refine v4v (b := f2d true S.w.nodes) 1 2 rfl rfl rfl (.ref rfl (Le.ow_map _ (fun _ => rfl) (fun _ => rfl)) .nil) rfl rfl rfl rfl ?_
 refine v4v (b := v7v true S.w.radio) 1 3 rfl rfl rfl (.ref rfl (Le.ow_map _ (fun _ => rfl) (fun _ => rfl)) .nil) rfl rfl rfl rfl ?_
 refine dv 1 ?_
 exact ⟨(pSm S (S.p + 1), n), ⟨a3c hS (by omega) (by have := hS.2.2; omega), List.mem_of_getElem? hnd⟩, [γ 0], rfl, rfl, x4x⟩
end
section
theorem a8e (bs : List Nat) (hbs : ∀ b ∈ bs, b < 256) (p0 : Nat) (hp : p0 + 10 ≤ 100000000) : MethE Tryz.prog 216 1 [.ptr 0 0 0] [(0, (0, .box 243 [v3v true bs, .pv (.int .i64 ((p0 : Nat) : Int))]))] (ι := Ev × Nat) (fun S' => S'.2 ≤ p0 + 10) (fun S' => [0]) (fun S' => .agg (z1z S'.1)) (fun S' => [(0, (0, .box 243 [v3v true bs, .pv (.int .i64 ((S'.2 : Nat) : Int))]))]) := by
 refine mE (ι := Ev × Nat) Tryz.f216 (fun S' => [.agg (z1z S'.1)]) 1 5 fun γ => ?_
 refine dv 1 ?_
 refine x3x (id := 1) z4z a8g rfl (dv 2 ?_)
 refine rlM [0] [_] (x1x true bs (p0) (41) (by have := hp; omega) hbs) rfl rfl rfl ?_
 refine dv 1 ?_
 refine rlM [0] [_] (x1x true bs (p0 + 1) (4) (by have := hp; omega) hbs) rfl rfl rfl ?_
 refine dv 1 ?_
 refine rlM [0] [_] (x1x true bs (p0 + 1 + 1) (5) (by have := hp; omega) hbs) rfl rfl rfl ?_
 have h5 := a3t bs (p0 + 1 + 1) 5 (by omega)
 refine a0g (.int .i64 ((pk bs (p0 + 1 + 1) 5 : Int) - 1)) rfl rfl rfl (a8v rfl (by omega) (by omega) (by omega)) ?_
 refine dv 1 ?_
 refine rlM [0] [_] (x1x true bs (p0 + 1 + 1 + 1) (13) (by have := hp; omega) hbs) rfl rfl rfl ?_
 refine dv 1 ?_
 refine rlM [0] [_] (x1x true bs (p0 + 1 + 1 + 1 + 1) (3) (by have := hp; omega) hbs) rfl rfl rfl ?_
 refine dv 1 ?_
 refine rlM [0] [_] (x1x true bs (p0 + 1 + 1 + 1 + 1 + 1) (3) (by have := hp; omega) hbs) rfl rfl rfl ?_
 refine dv 1 ?_
 refine rlM [0] [_] (x1x true bs (p0 + 1 + 1 + 1 + 1 + 1 + 1) (40) (by have := hp; omega) hbs) rfl rfl rfl ?_
 refine rlB z4z a8g ?_
 refine x3x (id := 2) z4z a8g rfl (dv 1 ?_)
 refine q8q (ι := Ev × Nat) (fun s γ1 => []) (fun s γ1 => [(0, ((γ 0), .box 243 [v3v true bs, pI ((s.2 : Nat) : Int)])), (2, ((0 + 1), .box 56 (z1z s.1))), (3, ((γ1 3), .dead)), (4, ((γ1 4), .dead)), (5, ((γ1 5), .dead))]) (fun s => s.2 ≤ p0 + 10) (r2r [2, 3] rfl) (w9w 1 rfl HE.nil) ?_ fun s γ1 hi => ?_
 ·refine dv 2 ?_
  refine rlM [0] [_] (x1x true bs (p0 + 1 + 1 + 1 + 1 + 1 + 1 + 1) (20) (by have := hp; omega) hbs) rfl rfl rfl ?_
  refine dc 4 (aI ?_ ?_)<;>intro h<;>try simp at h
  ·refine dv 1 ?_
   refine w8w (id := 3) a0k rfl r3r rfl rfl rfl rfl (.val rfl rfl (.val rfl rfl (.val rfl rfl .nil))) rfl (r9r rfl) (r9r rfl) (r9r rfl) rfl rfl ?_
   refine dv 1 ?_
   refine rlM [0] [_] (x1x true bs (p0 + 1 + 1 + 1 + 1 + 1 + 1 + 1 + 1) (3) (by have := hp; omega) hbs) rfl rfl rfl ?_
   obtain ⟨z, ez, hz⟩ : ∃ z, pk bs (p0 + 1 + 1 + 1 + 1 + 1 + 1 + 1 + 1) 3 = z ∧ z < 3 := ⟨_, rfl, a3t _ _ _ (by omega)⟩
   rw [ez]
   obtain ⟨v, hv⟩ : ∃ x, ([-1, 40, 41] : List Int)[z]? = some x := ⟨_, List.getElem?_eq_getElem hz⟩
   refine z0z (f := fun x : Int => [pI x]) (l := [-1, 40, 41]) (j := z) rfl rfl a0k rfl r3r rfl rfl hz ?_
   refine a5f (f := fun x : Int => [pI x]) (l := [-1, 40, 41]) rfl r3r rfl hv rfl ?_
   refine dv 2 ?_
   exact ⟨({ (⟨(pk bs (p0) 41 : Int), (pk bs (p0 + 1) 4 : Int), (pk bs (p0 + 1 + 1) 5 : Int) - 1, (pk bs (p0 + 1 + 1 + 1) 13 : Int), (pk bs (p0 + 1 + 1 + 1 + 1) 3 : Int), (pk bs (p0 + 1 + 1 + 1 + 1 + 1) 3 : Int), (pk bs (p0 + 1 + 1 + 1 + 1 + 1 + 1) 40 : Int)⟩ : Ev) with time := v }, p0 + 1 + 1 + 1 + 1 + 1 + 1 + 1 + 1 + 1), (by show p0 + 1 + 1 + 1 + 1 + 1 + 1 + 1 + 1 + 1 ≤ _; omega), [0, 0, 0, _, _, _], x6x, x6x, x4x, x4x, rfl⟩
  refine dc 3 (aI ?_ ?_)<;>intro h<;>try simp at h
  ·refine dv 1 ?_
   refine w8w (id := 4) a0k rfl r3r rfl rfl rfl rfl (.val rfl rfl (.val rfl rfl .nil)) rfl (r9r rfl) (r9r rfl) (r9r rfl) rfl rfl ?_
   refine dv 1 ?_
   refine rlM [0] [_] (x1x true bs (p0 + 1 + 1 + 1 + 1 + 1 + 1 + 1 + 1) (2) (by have := hp; omega) hbs) rfl rfl rfl ?_
   obtain ⟨z, ez, hz⟩ : ∃ z, pk bs (p0 + 1 + 1 + 1 + 1 + 1 + 1 + 1 + 1) 2 = z ∧ z < 2 := ⟨_, rfl, a3t _ _ _ (by omega)⟩
   rw [ez]
   obtain ⟨v, hv⟩ : ∃ x, ([-1, 4] : List Int)[z]? = some x := ⟨_, List.getElem?_eq_getElem hz⟩
   refine z0z (f := fun x : Int => [pI x]) (l := [-1, 4]) (j := z) rfl rfl a0k rfl r3r rfl rfl hz ?_
   refine a5f (f := fun x : Int => [pI x]) (l := [-1, 4]) rfl r3r rfl hv rfl ?_
   refine dv 2 ?_
   exact ⟨({ (⟨(pk bs (p0) 41 : Int), (pk bs (p0 + 1) 4 : Int), (pk bs (p0 + 1 + 1) 5 : Int) - 1, (pk bs (p0 + 1 + 1 + 1) 13 : Int), (pk bs (p0 + 1 + 1 + 1 + 1) 3 : Int), (pk bs (p0 + 1 + 1 + 1 + 1 + 1) 3 : Int), (pk bs (p0 + 1 + 1 + 1 + 1 + 1 + 1) 40 : Int)⟩ : Ev) with to := v }, p0 + 1 + 1 + 1 + 1 + 1 + 1 + 1 + 1 + 1), (by show p0 + 1 + 1 + 1 + 1 + 1 + 1 + 1 + 1 + 1 ≤ _; omega), [0, 0, 0, _, _, _], x6x, x6x, x4x, x4x, rfl⟩
  refine dc 3 (aS ?_ ?_)<;>intro h<;>try simp at h
  ·refine dv 1 ?_
   exact ⟨((⟨(pk bs (p0) 41 : Int), (pk bs (p0 + 1) 4 : Int), (pk bs (p0 + 1 + 1) 5 : Int) - 1, (pk bs (p0 + 1 + 1 + 1) 13 : Int), (pk bs (p0 + 1 + 1 + 1 + 1) 3 : Int), (pk bs (p0 + 1 + 1 + 1 + 1 + 1) 3 : Int), (pk bs (p0 + 1 + 1 + 1 + 1 + 1 + 1) 40 : Int)⟩ : Ev), p0 + 1 + 1 + 1 + 1 + 1 + 1 + 1 + 1), (by show p0 + 1 + 1 + 1 + 1 + 1 + 1 + 1 + 1 ≤ _; omega), [0, 0, 0, _, _, _], x6x, x6x, x4x, x4x, rfl⟩
  refine dv 1 ?_
  refine w8w (id := 5) a0k rfl r3r rfl rfl rfl rfl (.val rfl rfl (.val rfl rfl (.val rfl rfl .nil))) rfl (r9r rfl) (r9r rfl) (r9r rfl) rfl rfl ?_
  refine dv 1 ?_
  refine rlM [0] [_] (x1x true bs (p0 + 1 + 1 + 1 + 1 + 1 + 1 + 1 + 1) (3) (by have := hp; omega) hbs) rfl rfl rfl ?_
  obtain ⟨z, ez, hz⟩ : ∃ z, pk bs (p0 + 1 + 1 + 1 + 1 + 1 + 1 + 1 + 1) 3 = z ∧ z < 3 := ⟨_, rfl, a3t _ _ _ (by omega)⟩
  rw [ez]
  obtain ⟨v, hv⟩ : ∃ x, ([-1, 999, 1000] : List Int)[z]? = some x := ⟨_, List.getElem?_eq_getElem hz⟩
  refine z0z (f := fun x : Int => [pI x]) (l := [-1, 999, 1000]) (j := z) rfl rfl a0k rfl r3r rfl rfl hz ?_
  refine a5f (f := fun x : Int => [pI x]) (l := [-1, 999, 1000]) rfl r3r rfl hv rfl ?_
  refine dv 2 ?_
  exact ⟨({ (⟨(pk bs (p0) 41 : Int), (pk bs (p0 + 1) 4 : Int), (pk bs (p0 + 1 + 1) 5 : Int) - 1, (pk bs (p0 + 1 + 1 + 1) 13 : Int), (pk bs (p0 + 1 + 1 + 1 + 1) 3 : Int), (pk bs (p0 + 1 + 1 + 1 + 1 + 1) 3 : Int), (pk bs (p0 + 1 + 1 + 1 + 1 + 1 + 1) 40 : Int)⟩ : Ev) with arg := v }, p0 + 1 + 1 + 1 + 1 + 1 + 1 + 1 + 1 + 1), (by show p0 + 1 + 1 + 1 + 1 + 1 + 1 + 1 + 1 + 1 ≤ _; omega), [0, 0, 0, _, _, _], x6x, x6x, x4x, x4x, rfl⟩
 ·try dsimp only [b2t, b2u]
  refine dv 4 ?_
  exact ⟨s, hi, [γ 0], rfl, rfl, x4x⟩
theorem c8f (bs : List Nat) (hbs : ∀ b ∈ bs, b < 256) (p0 : Nat) (hp : p0 + 10 ≤ 100000000) : MethE Tryz.prog 226 1 [.ptr 0 0 0] [(0, (0, .box 243 [v3v true bs, .pv (.int .i64 ((p0 : Nat) : Int))]))] (ι := Ou × Nat) (fun S' => S'.2 ≤ p0 + 5) (fun S' => [0]) (fun S' => .agg (q5q S'.1)) (fun S' => [(0, (0, .box 243 [v3v true bs, .pv (.int .i64 ((S'.2 : Nat) : Int))]))]) := by
 refine mE (ι := Ou × Nat) Tryz.f226 (fun S' => [.agg (q5q S'.1)]) 1 1 fun γ => ?_
 refine dv 1 ?_
 refine x3x (id := 1) v9v c4x rfl (dv 2 ?_)
 refine rlM [0] [_] (x1x true bs (p0) (6) (by have := hp; omega) hbs) rfl rfl rfl ?_
 refine dv 1 ?_
 refine rlM [0] [_] (x1x true bs (p0 + 1) (4) (by have := hp; omega) hbs) rfl rfl rfl ?_
 refine dv 1 ?_
 refine rlM [0] [_] (x1x true bs (p0 + 1 + 1) (3) (by have := hp; omega) hbs) rfl rfl rfl ?_
 refine dv 1 ?_
 refine rlM [0] [_] (x1x true bs (p0 + 1 + 1 + 1) (2) (by have := hp; omega) hbs) rfl rfl rfl ?_
 refine dv 1 ?_
 refine rlM [0] [_] (x1x true bs (p0 + 1 + 1 + 1 + 1) (4) (by have := hp; omega) hbs) rfl rfl rfl ?_
 refine rlB v9v c4x ?_
 refine dv 2 ?_
 exact ⟨((⟨(pk bs (p0) 6 : Int), (pk bs (p0 + 1) 4 : Int), (pk bs (p0 + 1 + 1) 3 : Int), (pk bs (p0 + 1 + 1 + 1) 2 : Int), (pk bs (p0 + 1 + 1 + 1 + 1) 4 : Int)⟩ : Ou), p0 + 1 + 1 + 1 + 1 + 1), (by show p0 + 1 + 1 + 1 + 1 + 1 ≤ _; omega), [γ 0], rfl, rfl, x4x⟩
theorem c0d (bs : List Nat) (hbs : ∀ b ∈ bs, b < 256) (p0 m : Nat) (hm : m ≤ 1000) (hp : p0 + 1 + 13 * m ≤ 100000000) : MethE Tryz.prog 227 1 [.ptr 0 0 0, .pv (.int .i64 (m : Int))] [(0, (0, .box 243 [v3v true bs, .pv (.int .i64 ((p0 : Nat) : Int))]))] (ι := List Ev × Nat) (fun S' => S'.1.length ≤ m ∧ S'.2 ≤ p0 + 1 + 13 * m) (fun S' => [0]) (fun S' => a0m true S'.1) (fun S' => [(0, (0, .box 243 [v3v true bs, .pv (.int .i64 ((S'.2 : Nat) : Int))]))]) := by
 refine mE (ι := List Ev × Nat) Tryz.f227 (fun S' => [a0m true S'.1]) 1 4 fun γ => ?_
 refine dv 3 ?_
 refine y1y (id := 1) v6v rfl z4z rfl (dv 5 fun K K' => ?_)
 refine rlM [0] [_] (x1x true bs (p0) (m) (by have := hp; omega) hbs) rfl rfl rfl ?_
 refine dv 1 ?_
 obtain ⟨N, eN, hN⟩ : ∃ N, pk bs p0 m = N ∧ N ≤ m := ⟨_, rfl, b0y _ _ _⟩
 rw [eN]
 refine dv 1 ?_
 refine x5x (ι := List Ev × Nat × Nat) (fun p γ1 => [(5, .ref 1 (γ1 1)), (6, pI (p.2.2 : Int))]) (fun p γ1 => [(1, ((γ1 1), .row 56 7 ((p.1).map z1z))), (0, ((γ 0), .box 243 [v3v true bs, pI ((p.2.1 : Nat) : Int)])), (2, ((γ1 2), .dead)), (3, ((γ1 3), .dead)), (4, ((γ1 4), .dead))]) (fun p => p.1.length + p.2.2 ≤ N ∧ p.2.1 + 13 * p.2.2 ≤ p0 + 1 + 13 * N) (fun p => p.2.2) (x8x 0 rfl Cov.nil) HE.nil ([], p0 + 1, N) ⟨Nat.le_of_eq (Nat.zero_add _), Nat.le_refl _⟩ [0, _, _, _, _] x6x (HE.row rfl (by rfl) (HE.box rfl rfl (HE.kill rfl (HE.kill rfl (HE.kill rfl HE.nil))))) rfl fun p γ1 hi => ?_
 obtain ⟨l, q, n⟩ := p
 obtain ⟨h1, h2⟩ := hi
 dsimp only at h1 h2 ⊢
 refine dc 4 (fun K K' => aS ?_ ?_)<;>intro h<;>try simp at h
 ·refine dv 1 ?_
  refine r6r (f := z1z) 5 rfl rfl (fun _ => rfl) ?_
  refine dv 4 ?_
  exact ⟨(l, q), ⟨by show l.length ≤ m; omega, by show q ≤ p0 + 1 + 13 * m; omega⟩, [γ 0], rfl, rfl, x4x⟩
 obtain ⟨n', rfl⟩ : ∃ n', n = n' + 1 := ⟨n - 1, by omega⟩
 refine dv 3 fun K K' => ?_
 refine s0s fun B X0 w0 => ?_
 refine txR 1 rfl rfl (dv 1 ?_)
 refine txM [0] [_] (a8e bs hbs q (by omega)) rfl rfl rfl rfl fun e he => ?_
 refine txR 2 rfl rfl (x3x (id := 2) z4z a8g rfl (dv 1 ?_))
 refine z6z rfl ?_
 refine q8q (ι := Ev × Nat) (fun s γ2 => []) (fun s γ2 => [(0, ((γ 0), .box 243 [v3v true bs, pI ((s.2 : Nat) : Int)])), (2, ((γ1 2 + 1), .box 56 (z1z s.1)))]) (fun s => s.2 ≤ q + 13) (r2r [0, 5, 6, 7] rfl) (a1p [1, 3, 4] rfl) ?_ fun s γ2 hi => ?_
 ·refine dv 2 ?_
  refine a4i (n := l.length) rfl v6v rfl rfl (List.length_map _) ?_
  refine dc 2 (aS ?_ ?_)<;>intro h<;>try simp at h
  ·refine dv 5 ?_
   exact ⟨(e.1, e.2), (by show e.2 ≤ _; omega), [], x6x, x6x, x4x, x4x, rfl⟩
  refine dv 1 ?_
  refine rlM [0] [_] (x1x true bs (e.2) (4) (by have := he; omega) hbs) rfl rfl rfl ?_
  refine dc 2 (aS ?_ ?_)<;>intro h<;>try simp at h
  ·refine dv 1 ?_
   exact ⟨(e.1, e.2 + 1), (by show e.2 + 1 ≤ _; omega), [], x6x, x6x, x4x, x4x, rfl⟩
  refine dv 4 ?_
  refine a4i (n := l.length) rfl v6v rfl rfl (List.length_map _) ?_
  refine rlM [0] [_] (x1x true bs (e.2 + 1) (l.length) (by have := he; omega) hbs) rfl rfl rfl ?_
  obtain ⟨z, ez, hz⟩ : ∃ z, pk bs (e.2 + 1) l.length = z ∧ z < l.length := ⟨_, rfl, a3t _ _ _ (by omega)⟩
  rw [ez]
  obtain ⟨v, hv⟩ : ∃ v, l[z]? = some v := ⟨_, List.getElem?_eq_getElem hz⟩
  refine z0z (j := z) rfl rfl v6v rfl z4z rfl rfl hz ?_
  refine s6s rfl z4z rfl (by assumption) rfl rfl ?_
  refine dv 3 ?_
  refine rlM [0] [_] (x1x true bs (e.2 + 1 + 1) (3) (by have := he; omega) hbs) rfl rfl rfl ?_
  refine dv 2 ?_
  exact ⟨({ v with n := (pk bs (e.2 + 1 + 1) 3 : Int) }, e.2 + 1 + 1 + 1), (by show e.2 + 1 + 1 + 1 ≤ _; omega), [], x6x, x6x, x4x, x4x, rfl⟩
 ·try dsimp only [b2t, b2u]
  refine dv 3 ?_
  refine y5y (id := 3) v6v rfl z4z rfl rfl rfl rfl rfl rfl ?_
  refine y6y (zs := (l ++ [s.1]).map z1z) rfl rfl v6v rfl z4z rfl rfl rfl rfl (by rfl) (u0u z1z l s.1) (by (simp only [a0b, r5r, s1s, s3s, a0t, a3b, T56]; omega)) ?_
  refine dv 3 ?_
  refine r1r (b := 1) rfl rfl (by omega) (by omega) (dv 1 ?_)
  exact ⟨(l ++ [s.1], s.2, n'), ⟨⟨by show (l ++ [s.1]).length + n' ≤ N; rw [List.length_append]; show l.length + 1 + n' ≤ N; omega, by show s.2 + 13 * n' ≤ _; omega⟩, (by show n' < n' + 1; omega)⟩, [0, _, _, _, _], x6x, x6x, (HE.row rfl (by rfl) (HE.box rfl rfl (HE.kill rfl (HE.kill rfl (HE.kill rfl HE.nil))))), x4x, rfl⟩
end
section
theorem b9m (c : Bool) (n : Nd) (hl : n.lanes.length ≤ 1000000) (hk : n.kept.length ≤ 1000000) (ho : n.outs.length ≤ 1000000) (hd : ∀ l ∈ n.lanes, lb l) : Meth Tryz.prog 155 5 [] [.agg (u1u c n)] [(0, (0, .dead)), (1, (0, .dead)), (2, (0, .dead)), (3, (0, .dead)), (4, (0, .dead))] (.agg [pI n.id, .pv (.bool n.up), pI n.inc, pI n.g, .ref 0 0, .ref 3 0, .ref 4 0, pI n.led, pI 0, .ref 1 0, .ref 2 0, pI 0, pI 41]) [(0, (0, .row 44 5 ((n.lanes.map p1p).map (r4r true)))), (1, (0, .row 190 3 ([vi0, vi0, vi0].map (a4b true)))), (2, (0, .row 3 1 ([0, 0, 0].map a6j))), (3, (0, .row 56 7 ((n.kept).map z1z))), (4, (0, .row 141 5 ((n.outs).map q5q)))] := by
 refine mX Tryz.f155 [.agg [pI n.id, .pv (.bool n.up), pI n.inc, pI n.g, .ref 0 0, .ref 3 0, .ref 4 0, pI n.led, pI 0, .ref 1 0, .ref 2 0, pI 0, pI 41]] 5 11 fun γ => ?_
 refine dv 1 ?_
 refine y3y (id := 5) rfl rfl rfl (x3x (id := 6) u6u q4q rfl (dv 9 ?_))
 refine y1y (id := 3) v6v rfl z4z rfl (dv 2 ?_)
 refine w6w (zs := (n.kept).map z1z) rfl rfl v6v rfl z4z rfl rfl rfl (z8z (fun _ => rfl) _) rfl (by (simp only [a0b, r5r, s1s, s3s, a0t, a3b, b2s, T56]; omega)) ?_
 refine y1y (id := 4) a0c rfl v9v rfl (dv 2 ?_)
 refine w6w (zs := (n.outs).map q5q) rfl rfl a0c rfl v9v rfl rfl rfl (z8z (fun _ => rfl) _) rfl (by (simp only [a0b, r5r, s1s, s3s, a0t, a3b, b2s, T141]; omega)) ?_
 refine dv 2 ?_
 refine rlB u6u q4q ?_
 refine x3x (id := 9) u6u q4q rfl (dv 5 fun K K' => ?_)
 refine a1d 9 4 0 44 5 rfl rfl rfl rfl rfl ?_
 refine x5x (ι := Nat) (fun i γ1 => [(4, pI (i : Int))]) (fun i γ1 => [(0, ((γ1 0), .row 44 5 (((n.lanes.take i).map p1p).map (r4r true)))), (9, ((0 + 1), .box 65 [pI n.id, .pv (.bool n.up), pI n.inc, pI n.g, .ref 0 (γ1 0), .ref 3 (γ 3 + 1 + 1), .ref 4 (γ 4 + 1 + 1), pI n.led, pI 0, .pv (.slice none 0 0), .pv (.slice none 0 0), pI 0, pI 41])), (10, ((γ1 10), .dead)), (11, ((γ1 11), .dead))]) (fun i => i ≤ n.lanes.length) (fun i => n.lanes.length - i) (r2r [1, 2, 3] rfl) (a1p [1, 2, 3, 4, 5, 6, 7, 8, 12, 13, 14, 15] rfl) 0 (by omega) [_, 0, 0, 0, 0, 0, 0, 0, 0, 0, _, _] x6x (HE.row rfl (by rw [List.take_zero]; rfl) (HE.box rfl rfl (HE.kill rfl (HE.kill rfl HE.nil)))) rfl fun i γ1 hi => ?_
 refine dc 7 (fun K K' => aI ?_ ?_)<;>intro o<;>try simp at o
 ·obtain ⟨a, ha⟩ := gE n.lanes i
  have had := hd a (List.mem_of_getElem? ha)
  refine dv 11 fun K K' => ?_
  refine x0x rfl rfl rfl (a2t c a 0 0 had.1 (by omega) (by omega) had.2) ?_
  refine y5y (id := 10) a8u rfl a0y rfl rfl rfl rfl rfl rfl ?_
  refine y6y (zs := ((n.lanes.take i).map p1p ++ [p1p a]).map (r4r true)) rfl rfl a8u rfl a0y rfl rfl rfl rfl (by rfl) (u0u _ _ _) (by (simp only [a0b, r5r, s1s, s3s, a0t, a3b, b2s, T44]; omega)) ?_
  refine dv 4 ?_
  refine u7u rfl rfl rfl (dv 1 ?_)
  exact ⟨i + 1, ⟨by omega, by omega⟩, [_, 0, 0, 0, 0, 0, 0, 0, 0, 0, _, _], (Cov.cons' (t := 4) rfl (by rw [x9x (by omega) (by omega)]; rfl) Cov.nil), x6x, (HE.row rfl (by simp only [z5z ha, List.map_append, List.map_cons, List.map_nil]) (HE.box rfl rfl (HE.kill rfl (HE.kill rfl HE.nil)))), x4x, rfl⟩
 obtain rfl : i = n.lanes.length := by omega
 refine dv 5 fun K K' => ?_
 refine a1d 9 9 1 190 3 rfl rfl rfl rfl rfl (a1d 9 10 2 3 1 rfl rfl rfl rfl rfl ?_)
 refine x5x (ι := Nat) (fun i γ2 => [(5, pI (i : Int))]) (fun i γ2 => [(1, ((γ2 1), .row 190 3 ((List.range i).map fun _ => b1f))), (2, ((γ2 2), .row 3 1 ((List.range i).map fun _ => a6j 0))), (9, ((0 + 1), .box 65 [pI n.id, .pv (.bool n.up), pI n.inc, pI n.g, .ref 0 (γ1 0), .ref 3 (γ 3 + 1 + 1), .ref 4 (γ 4 + 1 + 1), pI n.led, pI 0, .ref 1 (γ2 1), .ref 2 (γ2 2), pI 0, pI 41])), (12, ((γ2 12), .dead)), (13, ((γ2 13), .dead)), (14, ((γ2 14), .dead)), (15, ((γ2 15), .dead))]) (fun i => i ≤ 3) (fun i => 3 - i) (r2r [2, 3] rfl) (a1p [0, 3, 4, 5, 6, 7, 8, 10, 11] rfl) 0 (by omega) [0, _, _, 0, 0, 0, 0, 0, 0, 0, 0, 0, _, _, _, _] x6x x4x rfl fun i γ2 hi => ?_
 refine dc 4 (fun K K' => aS ?_ ?_)<;>intro o<;>try simp at o
 ·obtain rfl : i = 3 := by omega
  rw [List.take_length]
  refine dv 4 ?_
  refine c9l (f := fun _ => b1f) (f' := fun _ => a4b true vi0) (l := List.range 3) 1 rfl (fun _ => .same (.same (.le rfl .nil rfl .nil))) ?_
  refine dv 1 ?_
  exact ⟨[_, _, _, _, _], rfl, rfl, x4x⟩
 refine dv 6 fun K K' => ?_
 refine rlB a0d a9n ?_
 refine y5y (id := 12) b1m rfl a0d rfl rfl rfl rfl rfl rfl ?_
 refine y6y (zs := (List.range i).map (fun _ => b1f) ++ [b1f]) rfl rfl b1m rfl a0d rfl rfl rfl rfl (by rfl) rfl (by (simp only [a0b, r5r, s1s, s3s, a0t, a3b, b2s, T190]; omega)) ?_
 refine dv 5 ?_
 refine a9o (id := 14) a0k rfl r3r rfl rfl rfl rfl rfl ?_
 refine y6y (zs := (List.range i).map (fun _ => a6j 0) ++ [a6j 0]) rfl rfl a0k rfl r3r rfl rfl rfl rfl (by rfl) rfl (by (simp only [a0b, r5r, s1s, s3s, a0t, a3b, b2s, T3]; omega)) ?_
 refine dv 4 ?_
 refine u7u rfl rfl rfl (dv 1 ?_)
 exact ⟨i + 1, ⟨by omega, by omega⟩, [0, _, _, 0, 0, 0, 0, 0, 0, 0, 0, 0, _, _, _, _], (Cov.cons' (t := 5) rfl (by rw [x9x (by omega) (by omega)]; rfl) Cov.nil), x6x, (HE.row rfl (by rw [List.range_succ, List.map_append]; rfl) (HE.row rfl (by rw [List.range_succ, List.map_append]; rfl) (HE.box rfl rfl (HE.kill rfl (HE.kill rfl (HE.kill rfl (HE.kill rfl HE.nil))))))), x4x, rfl⟩
theorem c0e (c : Bool) (n : Nd) (h : nb n) : Meth Tryz.prog 161 5 [] [.agg (u1u c n)] [(0, (0, .dead)), (1, (0, .dead)), (2, (0, .dead)), (3, (0, .dead)), (4, (0, .dead))] (.agg [pI n.id, .pv (.bool n.up), pI n.inc, pI n.g, .ref 0 0, .ref 3 0, .ref 4 0, pI n.led, pI n.version, .ref 1 0, .ref 2 0, pI n.round, pI n.low]) [(0, (0, .row 44 5 ((n.lanes).map a4p))), (1, (0, .row 190 3 ((n.views).map (a4b true)))), (2, (0, .row 3 1 (n.known.map a6j))), (3, (0, .row 56 7 ((n.kept).map z1z))), (4, (0, .row 141 5 ((n.outs).map q5q)))] := by
 refine mX Tryz.f161 [.agg [pI n.id, .pv (.bool n.up), pI n.inc, pI n.g, .ref 0 0, .ref 3 0, .ref 4 0, pI n.led, pI n.version, .ref 1 0, .ref 2 0, pI n.round, pI n.low]] 5 11 fun γ => ?_
 obtain ⟨b1, b2, b3, b4, b5, b6, b7⟩ := h
 refine dv 1 ?_
 refine y3y (id := 5) rfl rfl rfl (x3x (id := 6) u6u q4q rfl (dv 2 ?_))
 refine rlM [0, 13, 14, 3, 4] [_, _, _, _, _] (b9m c n b1 b2 b3 b4) rfl rfl rfl ?_
 refine x3x (id := 7) u6u q4q rfl (dv 5 fun K K' => ?_)
 refine x5x (ι := Nat) (fun i γ1 => [(4, pI (i : Int))]) (fun i γ1 => [(15, ((γ1 15), .dead)), (0, ((γ 0 + 1), .row 44 5 ((n.lanes.take i).map a4p ++ ((n.lanes.drop i).map p1p).map (r4r true))))]) (fun i => i ≤ n.lanes.length) (fun i => n.lanes.length - i) (r2r [1, 2, 3] rfl) (a1p [1, 2, 3, 4, 5, 6, 7, 8, 9, 10, 11, 12, 13, 14] rfl) 0 (by omega) [0, 0, 0, 0, 0, 0, 0, 0, 0, 0, 0, 0, 0, 0, 0, _] x6x (HE.kill rfl (HE.row rfl (by rw [List.take_zero, List.drop_zero]; rfl) HE.nil)) rfl fun i γ1 hi => ?_
 refine dc 7 (fun K K' => aI ?_ ?_)<;>intro o<;>try simp at o
 ·obtain ⟨p, hp⟩ := gE n.lanes i
  have hpl := b4 p (List.mem_of_getElem? hp)
  have hAl : ((n.lanes.take i).map a4p).length = i := by rw [List.length_map, List.length_take]; omega
  rw [p2p hp, List.map_cons, List.map_cons]
  refine dv 19 fun K K' => ?_
  refine rlM [15] [_] (b1h c p 0 p.done.length hpl.1 (by omega) hpl.1 hpl.2) rfl rfl rfl ?_
  refine c1l rfl rfl a8u rfl a0y rfl rfl hAl (c5b hAl rfl rfl a0y rfl rfl rfl rfl (.val rfl rfl (.val rfl rfl (.val rfl rfl (.val rfl rfl (.ref rfl (q0q fun _ => rfl) .nil rfl rfl))))) rfl ?_)
  refine dv 2 ?_
  refine u7u rfl rfl rfl (dv 1 ?_)
  exact ⟨i + 1, ⟨by omega, by omega⟩, [0, 0, 0, 0, 0, 0, 0, 0, 0, 0, 0, 0, 0, 0, 0, _], (Cov.cons' (t := 4) rfl (by rw [x9x (by omega) (by omega)]; rfl) Cov.nil), x6x, (HE.kill rfl (HE.row rfl (by rw [b5o]; simp only [z5z hp, List.map_append, List.append_assoc]; rfl) HE.nil)), x4x, rfl⟩
 obtain rfl : i = n.lanes.length := by omega
 rw [List.take_length, List.drop_length, List.map_nil, List.map_nil, List.append_nil]
 refine dv 17 ?_
 refine y1y (id := 1) b1m rfl a0d rfl (dv 6 fun K K' => ?_)
 refine x5x (ι := Nat) (fun j γ2 => [(5, pI (j : Int))]) (fun j γ2 => [(1, ((γ2 1), .row 190 3 ((n.views.take j).map (a4b true)))), (7, ((0 + 1), .box 65 [pI n.id, .pv (.bool n.up), pI n.inc, pI n.g, .ref 0 (γ 0 + 1), .ref 3 (γ 3 + 1), .ref 4 (γ 4 + 1), pI n.led, pI n.version, .ref 1 (γ2 1), .ref 14 (0 + 1), pI n.round, pI n.low])), (8, ((γ2 8), .dead)), (9, ((γ2 9), .dead)), (10, ((γ2 10), .dead)), (11, ((γ2 11), .dead))]) (fun j => j ≤ n.views.length) (fun j => n.views.length - j) (r2r [1, 2, 3] rfl) (a1p [0, 2, 3, 4, 5, 6, 12, 13, 14, 15] rfl) 0 (by omega) [0, _, 0, 0, 0, 0, 0, 0, _, _, _, _] x6x (HE.row rfl (by rw [List.take_zero]; rfl) (HE.box rfl rfl (HE.kill rfl (HE.kill rfl (HE.kill rfl (HE.kill rfl HE.nil)))))) rfl fun j γ2 hi => ?_
 refine dc 7 (fun K K' => aS ?_ ?_)<;>intro o<;>try simp at o
 ·obtain rfl : j = n.views.length := by omega
  rw [List.take_length]
  refine dv 2 ?_
  refine y1y (id := 2) a0k rfl r3r rfl (dv 2 ?_)
  refine w6w (zs := n.known.map a6j) rfl rfl a0k rfl r3r rfl rfl rfl (z8z (fun _ => rfl) _) rfl (by (simp only [a0b, r5r, s1s, s3s, a0t, a3b, b2s, T3]; omega)) ?_
  refine dv 6 ?_
  exact ⟨[_, _, _, _, _], rfl, rfl, x4x⟩
 obtain ⟨v, hv⟩ := gE n.views j
 have hve := b6 v (List.mem_of_getElem? hv)
 refine dv 18 fun K K' => ?_
 refine y1y (id := 8) v6v rfl z4z rfl (dv 6 ?_)
 refine a1n w5w (zs := (v.events).map z1z) rfl rfl v6v rfl z4z rfl rfl rfl (z8z (fun _ => rfl) _) rfl (by (simp only [a0b, r5r, s1s, s3s, a0t, a3b, b2s, T56]; omega)) (Le.ow_map _ (fun _ => rfl) (fun _ => rfl)) ?_
 refine rlB a0d a9n ?_
 refine y5y (id := 10) b1m rfl a0d rfl rfl rfl rfl rfl rfl ?_
 refine y6y (zs := (n.views.take j ++ [v]).map (a4b true)) rfl rfl b1m rfl a0d rfl rfl rfl rfl (by rfl) (u0u _ _ _) (by (simp only [a0b, r5r, s1s, s3s, a0t, a3b, b2s, T190]; omega)) ?_
 refine dv 4 ?_
 refine u7u rfl rfl rfl (dv 1 ?_)
 exact ⟨j + 1, ⟨by omega, by omega⟩, [0, _, 0, 0, 0, 0, 0, 0, _, _, _, _], (Cov.cons' (t := 5) rfl (by rw [x9x (by omega) (by omega)]; rfl) Cov.nil), x6x, (HE.row rfl (by rw [z5z hv]) (HE.box rfl rfl (HE.kill rfl (HE.kill rfl (HE.kill rfl (HE.kill rfl HE.nil)))))), x4x, rfl⟩
end
section
def c3i (n : Nd) (t : Int) : Prop := y0y n ∧ (0 ≤ t ∧ t ≤ 2) ∧ ¬ t = n.id
open Classical in
noncomputable def d1c (n : Nd) (t : Int) : List Ev := if c3i n t then a1l n t else []
variable {n : Nd} {t : Int}
theorem d5v (h : c3i n t) : d1c n t = a1l n t := if_pos h
theorem c8g (h : ¬ c3i n t) : d1c n t = [] := if_neg h
end
section

def c5o (n : Nd) : Prop := (p7p n).length ≤ 100
variable {n : Nd}
theorem f6l (h : ndI n) : (p7p n).length ≤ 98 := e6g h.1 h.2.2
theorem e6r (h : (p7p n).length ≤ 98) (e : Ev) : c5o { n with kept := n.kept ++ [e] } := by
 have e1 : (p7p { n with kept := n.kept ++ [e] }).length = (p7p n).length + 1 := by
  simp only [p7p, List.length_append, List.length_cons, List.length_nil]; omega
 unfold c5o; omega
theorem e6s (h : (p7p n).length ≤ 98) {l0 : La} {rest : List La} (hl : n.lanes = l0 :: rest) {p : Pa} (hp : p.sends = []) : c5o { n with lanes := ⟨l0.proc, l0.base, l0.done ++ [p]⟩ :: rest } := by
 have e1 : p7p { n with lanes := ⟨l0.proc, l0.base, l0.done ++ [p]⟩ :: rest } = p7p n := by
  unfold p7p
  show n.kept ++ (a4k ⟨l0.proc, l0.base, l0.done ++ [p]⟩ ++ rest.flatMap a4k) = n.kept ++ n.lanes.flatMap a4k
  rw [hl]
  have e2 : a4k ⟨l0.proc, l0.base, l0.done ++ [p]⟩ = a4k l0 := by
   show (l0.done ++ [p]).flatMap Pa.sends = l0.done.flatMap Pa.sends
   rw [List.flatMap_append]
   show _ ++ (p.sends ++ []) = _
   rw [hp, List.append_nil, List.append_nil]
  rw [e2]; rfl
 unfold c5o; rw [e1]; omega
theorem e6t (h : y0y n) (hc : c5o n) {t : Nat} (ht : t < 3) : a1r (a3s n (t : Int)) := by
 obtain ⟨⟨n1, n2, n3, n4, n5, n6, n7⟩, _⟩ := h.1
 refine ⟨⟨by show (1 : Int) ≤ 1 ∧ (1 : Int) ≤ 7; omega, n1, by show 0 ≤ (t : Int) ∧ (t : Int) ≤ 2; omega, by show 0 ≤ n.inc ∧ n.inc ≤ 9999; omega, n5, by show (0 : Int) ≤ 0 ∧ (0 : Int) ≤ 9999; omega, n3⟩, ⟨.inl rfl, fun v hv => by cases hv⟩, ⟨.inl rfl, fun v hv => by cases hv⟩, ?_, rfl⟩
 refine (d4q c6t).2 ⟨?_, fun a ha => ?_, b2h _⟩
 ·have h1 := a3y ((p7p n).filter (d2g n (t : Int)))
  have h2 := List.length_filter_le (d2g n (t : Int)) (p7p n)
  unfold c5o at hc
  show ((u2u ((p7p n).filter (d2g n (t : Int)))).length : Int) ≤ 100
  omega
 ·have ha : a ∈ u2u ((p7p n).filter (d2g n (t : Int))) := ha
  unfold u2u at ha
  rw [b0l] at ha
  exact d4r h.1 (List.mem_filter.1 ha).1
theorem f1y (h : y0y n) : a1r (a8i n) := by
 have ho := h.1.2.2.1
 obtain ⟨⟨n1, n2, n3, n4, n5, n6, n7⟩, _⟩ := h.1
 exact ⟨⟨by show (1 : Int) ≤ 7 ∧ (7 : Int) ≤ 7; omega, n1, by show (0 : Int) ≤ 0 ∧ (0 : Int) ≤ 2; omega, by show (0 : Int) ≤ 0 ∧ (0 : Int) ≤ 9999; omega, by show (0 : Int) ≤ 0 ∧ (0 : Int) ≤ 9999; omega, by show (0 : Int) ≤ 0 ∧ (0 : Int) ≤ 9999; omega, n3⟩, ⟨.inl rfl, fun v hv => by cases hv⟩, ⟨.inl rfl, fun v hv => by cases hv⟩, rfl, ho⟩
theorem b0d {n : Nd} {w : Wo} : ∀ {k : Nat}, w ∈ a2y n k → ∃ t : Nat, t < k ∧ ¬ (t : Int) = n.id ∧ w = a3s n (t : Int)
 | 0, h => by cases h
 | k + 1, h => by
  by_cases e : (k : Int) = n.id
  ·rw [b7m e] at h
   obtain ⟨t, h1, h2⟩ := b0d h
   exact ⟨t, by omega, h2⟩
  ·rw [b7l e] at h
   rcases List.mem_append.1 h with h | h
   ·obtain ⟨t, h1, h2⟩ := b0d h
    exact ⟨t, by omega, h2⟩
   ·exact ⟨k, by omega, e, List.mem_singleton.1 h⟩
variable {w : Wo}
theorem d1e (hk : y0y n ∧ n.up = true) (h : w ∈ a5h n) : (∃ t : Nat, t < 3 ∧ ¬ (t : Int) = n.id ∧ w = a3s n (t : Int)) ∨ w = a8i n := by
 by_cases h0 : n.id = 0
 ·rw [c7a hk h0] at h; exact .inl (b0d h)
 ·rw [c7b hk h0] at h
  rcases List.mem_append.1 h with h | h
  ·exact .inl (b0d h)
  ·exact .inr (List.mem_singleton.1 h)
theorem e6u (hk : y0y n ∧ n.up = true) (hc : c5o n) : ∀ w ∈ a5h n, a1r w ∧ w.from' = n.id := fun w hw => by
 rcases d1e hk hw with ⟨t, h1, h2, rfl⟩ | rfl
 ·exact ⟨e6t hk.1 hc h1, rfl⟩
 ·exact ⟨f1y hk.1, rfl⟩
theorem e3n (hk : y0y n ∧ n.up = true) (hw : w ∈ a5h n) (k : w.kind = 1) : w.events = d1c n w.to ∧ w.inc = n.inc ∧ w.version = n.version ∧ w.g = n.g := by
 rcases d1e hk hw with ⟨t, h1, h2, rfl⟩ | rfl
 ·exact ⟨(d5v (t := (t : Int)) ⟨hk.1, by omega, h2⟩).symm, rfl, rfl, rfl⟩
 ·exact absurd k (by show ¬ (7 : Int) = 1; omega)
theorem c5p {n : Nd} (h0 : 0 ≤ n.id) : ∀ k : Nat, (a2y n k).length + (if n.id < (k : Int) then 1 else 0) = k
 | 0 => by rw [if_neg (by omega)]; rfl
 | k + 1 => by
  have ih := c5p h0 k
  by_cases e : (k : Int) = n.id
  ·rw [b7m e, if_pos (by omega)]
   rw [if_neg (by omega)] at ih; omega
  ·rw [b7l e, List.length_append]
   simp only [List.length_cons, List.length_nil]
   by_cases g : n.id < (k : Int)
   ·rw [if_pos g] at ih; rw [if_pos (by omega)]; omega
   ·rw [if_neg g] at ih; rw [if_neg (by omega)]; omega
def isT (w : Wo) : Bool := decide (w.kind = 1)

noncomputable def e3o (n : Nd) (i : Nat) : Nat := (((a5h n).take i).filter isT).length
variable {i : Nat}
theorem f6m (h : (a5h n)[i]? = some w) (k : w.kind = 1) : e3o n (i + 1) = e3o n i + 1 := by
 unfold e3o
 rw [z5z h, List.filter_append, List.length_append]
 have : [w].filter isT = [w] := by simp [isT, k]
 rw [this]; rfl
theorem f6n (h : (a5h n)[i]? = some w) (k : ¬ w.kind = 1) : e3o n (i + 1) = e3o n i := by
 unfold e3o
 rw [z5z h, List.filter_append, List.length_append]
 have : [w].filter isT = [] := by simp [isT, k]
 rw [this]; rfl
theorem f1z (n : Nd) (i : Nat) : e3o n i ≤ i := by
 unfold e3o
 have h1 := List.length_filter_le isT ((a5h n).take i)
 have h2 : ((a5h n).take i).length ≤ i := by rw [List.length_take]; omega
 omega
theorem f2a (hk : y0y n ∧ n.up = true) : e3o n (a5h n).length = 2 := by
 have hi := hk.1.1.1.1
 have h1 := c5p (n := n) hi.1 3
 rw [if_pos (by omega)] at h1
 have h2 : (a2y n 3).filter isT = a2y n 3 := List.filter_eq_self.2 fun w hw => by
  obtain ⟨t, _, _, rfl⟩ := b0d hw
  rfl
 unfold e3o
 rw [List.take_length]
 by_cases h0 : n.id = 0
 ·rw [c7a hk h0, h2]; omega
 ·rw [c7b hk h0, List.filter_append, h2, List.length_append]
  have : [a8i n].filter isT = [] := rfl
  rw [this]; simp only [List.length_nil]; omega
end
section
theorem b6a (bs : List Nat) (hbs : ∀ b ∈ bs, b < 256) (p0 : Nat) (hp : p0 + 502 + 1040 * 14 ≤ 1000000) : MethE Tryz.prog 122 1 [.ptr 0 0 0] [(0, (0, .box 243 [v3v true bs, .pv (.int .i64 ((p0 : Nat) : Int))]))] (ι := Tw × Nd × Nat) (fun S' => b9i S'.1 ∧ c5o S'.2.1 ∧ S'.2.2 ≤ p0 + 15200) (fun S' => [0]) (fun S' => .tup [.agg (d7f true S'.1), .agg (u1u true S'.2.1)]) (fun S' => [(0, (0, .box 243 [v3v true bs, .pv (.int .i64 ((S'.2.2 : Nat) : Int))]))]) := by
 refine mE (ι := Tw × Nd × Nat) Tryz.f122 (fun S' => [.agg (d7f true S'.1), .agg (u1u true S'.2.1)]) 1 20 fun γ => ?_
 refine dv 1 ?_
 refine x3x (id := 1) b5e b8j rfl (x3x (id := 2) u6u q4q rfl (s0s fun B X0 w0 => ?_))
 refine txR 1 rfl rfl (dv 1 ?_)
 refine txM [0] [_] (c4m bs hbs p0 hp) rfl rfl rfl rfl fun j hj => ?_
 obtain ⟨hj1, hj2⟩ := hj
 have hq : j.1.p ≤ p0 + 503 + 1040 * 14 := hj1.2.2
 have hI := hj1.1.2.2.1 j.2 hj2
 have fS := hI.1.1
 have fb := b8v fS
 have fB := w2w fS
 obtain ⟨g1, g2, g3, g4, g5, g6⟩ := fB
 have hJ := f6l hI
 refine txR 7 rfl rfl (dv 3 ?_)
 refine x3x (id := 3) b5e b8j rfl (x3x (id := 4) u6u q4q rfl (dv 2 ?_))
 refine z6z rfl (dv 2 ?_)
 refine rlM [15, 16, 17, 18, 19] [_, _, _, _, _] (c0e true j.2 fb) rfl rfl rfl ?_
 refine dv 1 ?_
 refine q8q (ι := Nd × Nat × List (List AV)) (fun s γ1 => []) (fun s γ1 => [(15, ((γ1 15), .row 44 5 (s.2.2))), (16, ((γ1 16), .row 190 3 ((s.1.views).map (a4b true)))), (17, ((γ1 17), .row 3 1 ((s.1.known).map a6j))), (18, ((γ1 18), .row 56 7 ((s.1.kept).map z1z))), (19, ((γ1 19), .row 141 5 ((s.1.outs).map q5q))), (20, ((γ1 20), .dead)), (0, ((γ 0), .box 243 [v3v true bs, pI ((s.2.1 : Nat) : Int)])), (4, ((0 + 1), .box 65 [pI s.1.id, .pv (.bool s.1.up), pI s.1.inc, pI s.1.g, .ref 15 (γ1 15), .ref 18 (γ1 18), .ref 19 (γ1 19), pI s.1.led, pI s.1.version, .ref 16 (γ1 16), .ref 17 (γ1 17), pI s.1.round, pI s.1.low])), (5, ((γ1 5), .dead)), (6, ((γ1 6), .dead)), (7, ((γ1 7), .dead)), (8, ((γ1 8), .dead)), (9, ((γ1 9), .dead)), (10, ((γ1 10), .dead)), (11, ((γ1 11), .dead)), (12, ((γ1 12), .dead)), (13, ((γ1 13), .dead)), (14, ((γ1 14), .dead))]) (fun s => c5o s.1 ∧ s.2.1 ≤ p0 + 15200 ∧ Le true (.row .ow 44 5 s.2.2) (b9t true s.1.lanes)) (r2r [2, 3, 4, 5] rfl) (a1p [1, 2, 3] rfl) ?_ fun s γ1 hi => ?_
 ·refine dv 2 ?_
  refine rlM [0] [_] (x1x true bs (j.1.p) (24) (by have := hq; omega) hbs) rfl rfl rfl ?_
  refine dc 4 (aI ?_ ?_)<;>intro u<;>try simp at u
  ·refine dv 2 ?_
   refine rlM [0] [_] (x1x true bs (j.1.p + 1) (5) (by have := hq; omega) hbs) rfl rfl rfl ?_
   have h5 := a3t bs (j.1.p + 1) 5 (by omega)
   refine a0g (.int .i64 ((pk bs (j.1.p + 1) 5 : Int) - 1)) rfl rfl rfl (a8v rfl (by omega) (by omega) (by omega)) ?_
   refine dv 2 ?_
   exact ⟨({ j.2 with id := (pk bs (j.1.p + 1) 5 : Int) - 1 }, j.1.p + 1 + 1, j.2.lanes.map a4p), (by exact ⟨(show c5o j.2 from Nat.le_trans hJ (by omega)), by show j.1.p + 1 + 1 ≤ p0 + 15200; omega, (a5y _)⟩), [0, 0, 0, 0, 0, _, _, _, _, _, _, _, _, _, _, _, _, _, _, _, _], x6x, x6x, x4x, x4x, rfl⟩
  refine dc 3 (aI ?_ ?_)<;>intro u<;>try simp at u
  ·refine dv 1 ?_
   refine x0x rfl rfl rfl (z9z ..) (x0x rfl rfl rfl (z9z ..) (a0g (.int .i64 10000) rfl rfl rfl rfl ?_))
   refine w8w (id := 5) a0k rfl r3r rfl rfl rfl rfl (.val rfl rfl (.val rfl rfl (.val rfl rfl .nil))) rfl (r9r rfl) (r9r rfl) (r9r rfl) rfl rfl ?_
   refine dv 1 ?_
   refine rlM [0] [_] (x1x true bs (j.1.p + 1) (3) (by have := hq; omega) hbs) rfl rfl rfl ?_
   obtain ⟨z, ez, hz⟩ : ∃ z, pk bs (j.1.p + 1) 3 = z ∧ z < 3 := ⟨_, rfl, a3t _ _ _ (by omega)⟩
   rw [ez]
   obtain ⟨v, hv⟩ : ∃ x, ([0, 9999, 10000] : List Int)[z]? = some x := ⟨_, List.getElem?_eq_getElem hz⟩
   refine z0z (f := fun x : Int => [pI x]) (l := [0, 9999, 10000]) (j := z) rfl rfl a0k rfl r3r rfl rfl hz ?_
   refine a5f (f := fun x : Int => [pI x]) (l := [0, 9999, 10000]) rfl r3r rfl hv rfl ?_
   refine dv 2 ?_
   exact ⟨({ j.2 with inc := v }, j.1.p + 1 + 1, j.2.lanes.map a4p), (by exact ⟨(show c5o j.2 from Nat.le_trans hJ (by omega)), by show j.1.p + 1 + 1 ≤ p0 + 15200; omega, (a5y _)⟩), [0, 0, 0, 0, 0, _, _, _, _, _, _, _, _, _, _, _, _, _, _, _, _], x6x, x6x, x4x, x4x, rfl⟩
  refine dc 3 (aI ?_ ?_)<;>intro u<;>try simp at u
  ·refine dv 1 ?_
   refine w8w (id := 6) a0k rfl r3r rfl rfl rfl rfl (.val rfl rfl (.val rfl rfl (.val rfl rfl (.val rfl rfl .nil)))) rfl (r9r rfl) (r9r rfl) (r9r rfl) rfl rfl ?_
   refine dv 1 ?_
   refine rlM [0] [_] (x1x true bs (j.1.p + 1) (4) (by have := hq; omega) hbs) rfl rfl rfl ?_
   obtain ⟨z, ez, hz⟩ : ∃ z, pk bs (j.1.p + 1) 4 = z ∧ z < 4 := ⟨_, rfl, a3t _ _ _ (by omega)⟩
   rw [ez]
   obtain ⟨v, hv⟩ : ∃ x, ([-1, 41, 42, 3] : List Int)[z]? = some x := ⟨_, List.getElem?_eq_getElem hz⟩
   refine z0z (f := fun x : Int => [pI x]) (l := [-1, 41, 42, 3]) (j := z) rfl rfl a0k rfl r3r rfl rfl hz ?_
   refine a5f (f := fun x : Int => [pI x]) (l := [-1, 41, 42, 3]) rfl r3r rfl hv rfl ?_
   refine dv 2 ?_
   exact ⟨({ j.2 with g := v }, j.1.p + 1 + 1, j.2.lanes.map a4p), (by exact ⟨(show c5o j.2 from Nat.le_trans hJ (by omega)), by show j.1.p + 1 + 1 ≤ p0 + 15200; omega, (a5y _)⟩), [0, 0, 0, 0, 0, _, _, _, _, _, _, _, _, _, _, _, _, _, _, _, _], x6x, x6x, x4x, x4x, rfl⟩
  refine dc 3 (aI ?_ ?_)<;>intro u<;>try simp at u
  ·refine d5a 3 (b4k w5w 0 3 rfl rfl ?_)
   refine dv 3 ?_
   refine b5u c3r (by rfl) [0] [_] (a8e bs hbs (j.1.p + 1) (by omega)) rfl rfl rfl rfl (by decide) rfl rfl f2h (fun _ => (by (simp only [pI, a2x, a2z, c0k, gl, nx, a7k, Nat.beq]; rfl))) (fun _ => (by (simp only [pI, a2x, a2z, c0k, gl, nx, a7k, Nat.beq]; rfl))) (⟨0, 0, 0, 0, 0, 0, 0⟩, j.1.p + 1) (by show j.1.p + 1 ≤ _; omega) fun e he => ?_
   refine b4l w5w 4 4 rfl rfl ?_
   refine y5y (id := 7) v6v rfl z4z rfl rfl rfl rfl rfl rfl ?_
   refine y6y (zs := (j.2.kept ++ [e.1]).map z1z) rfl rfl v6v rfl z4z rfl rfl rfl rfl (by rfl) (u0u z1z j.2.kept e.1) (by (simp only [a0b, r5r, s1s, s3s, a0t, a3b, T56]; omega)) ?_
   refine dv 2 ?_
   refine c2n (by kernel_rfl) ?_
   exact ⟨({ j.2 with kept := j.2.kept ++ [e.1] }, e.2, j.2.lanes.map a4p), (by exact ⟨e6r hJ e.1, by show e.2 ≤ p0 + 15200; omega, (a5y _)⟩), [0, 0, 0, 0, 0, _, _, _, _, _, _, _, _, _, _, _, _, _, _, _, _], x6x, x6x, x4x, x4x, rfl⟩
  refine dc 3 (aI ?_ ?_)<;>intro u<;>try simp at u
  ·refine d5a 3 (b4k w5w 0 3 rfl rfl ?_)
   refine dv 3 ?_
   refine b5u c3r (by rfl) [0] [_] (c8f bs hbs (j.1.p + 1) (by omega)) rfl rfl rfl rfl (by decide) rfl rfl f2h (fun _ => (by (simp only [pI, a2x, a2z, c0k, gl, nx, a7k, Nat.beq]; rfl))) (fun _ => (by (simp only [pI, a2x, a2z, c0k, gl, nx, a7k, Nat.beq]; rfl))) (⟨0, 0, 0, 0, 0⟩, j.1.p + 1) (by show j.1.p + 1 ≤ _; omega) fun o ho => ?_
   refine b4l w5w 4 4 rfl rfl ?_
   refine y5y (id := 9) a0c rfl v9v rfl rfl rfl rfl rfl rfl ?_
   refine y6y (zs := (j.2.outs ++ [o.1]).map q5q) rfl rfl a0c rfl v9v rfl rfl rfl rfl (by rfl) (u0u q5q j.2.outs o.1) (by (simp only [a0b, r5r, s1s, s3s, a0t, a3b, T141]; omega)) ?_
   refine dv 2 ?_
   refine c2n (by kernel_rfl) ?_
   exact ⟨({ j.2 with outs := j.2.outs ++ [o.1] }, o.2, j.2.lanes.map a4p), (by exact ⟨(show c5o j.2 from Nat.le_trans hJ (by omega)), by show o.2 ≤ p0 + 15200; omega, (a5y _)⟩), [0, 0, 0, 0, 0, _, _, _, _, _, _, _, _, _, _, _, _, _, _, _, _], x6x, x6x, x4x, x4x, rfl⟩
  refine dc 3 (aI ?_ ?_)<;>intro u<;>try simp at u
  ·refine dv 1 ?_
   refine x0x rfl rfl rfl (z9z ..) (x0x rfl rfl rfl (z9z ..) (a0g (.int .i64 10000) rfl rfl rfl rfl ?_))
   refine w8w (id := 11) a0k rfl r3r rfl rfl rfl rfl (.val rfl rfl (.val rfl rfl (.val rfl rfl .nil))) rfl (r9r rfl) (r9r rfl) (r9r rfl) rfl rfl ?_
   refine dv 1 ?_
   refine rlM [0] [_] (x1x true bs (j.1.p + 1) (3) (by have := hq; omega) hbs) rfl rfl rfl ?_
   obtain ⟨z, ez, hz⟩ : ∃ z, pk bs (j.1.p + 1) 3 = z ∧ z < 3 := ⟨_, rfl, a3t _ _ _ (by omega)⟩
   rw [ez]
   obtain ⟨v, hv⟩ : ∃ x, ([-1, 9999, 10000] : List Int)[z]? = some x := ⟨_, List.getElem?_eq_getElem hz⟩
   refine z0z (f := fun x : Int => [pI x]) (l := [-1, 9999, 10000]) (j := z) rfl rfl a0k rfl r3r rfl rfl hz ?_
   refine a5f (f := fun x : Int => [pI x]) (l := [-1, 9999, 10000]) rfl r3r rfl hv rfl ?_
   refine dv 2 ?_
   exact ⟨({ j.2 with version := v }, j.1.p + 1 + 1, j.2.lanes.map a4p), (by exact ⟨(show c5o j.2 from Nat.le_trans hJ (by omega)), by show j.1.p + 1 + 1 ≤ p0 + 15200; omega, (a5y _)⟩), [0, 0, 0, 0, 0, _, _, _, _, _, _, _, _, _, _, _, _, _, _, _, _], x6x, x6x, x4x, x4x, rfl⟩
  refine dc 3 (aI ?_ ?_)<;>intro u<;>try simp at u
  ·refine d5a 5 (b4k w5w 0 5 rfl rfl ?_)
   refine dv 3 ?_
   refine rlM [0] [_] (x1x true bs (j.1.p + 1) (3) (by have := hq; omega) hbs) rfl rfl rfl ?_
   refine dv 1 ?_
   refine b5u c3r (by rfl) [0] [_] (c0d bs hbs (j.1.p + 1 + 1) 3 (by omega) (by omega)) rfl rfl rfl rfl (by decide) rfl rfl f2h (fun _ => (by (simp only [pI, a2x, a2z, c0k, gl, nx, a7k, Nat.beq]; rfl))) (fun _ => (by (simp only [pI, a2x, a2z, c0k, gl, nx, a7k, Nat.beq]; rfl))) ([], j.1.p + 1 + 1) ⟨Nat.zero_le _, by show j.1.p + 1 + 1 ≤ _; omega⟩ fun l hl => ?_
   refine b4l w5w 6 3 rfl rfl ?_
   have h3v : j.2.views.length = 3 := fS.2.2.2.2.2.1
   obtain ⟨z, ez, hz⟩ : ∃ z, pk bs (j.1.p + 1) 3 = z ∧ z < 3 := ⟨_, rfl, a3t _ _ _ (by omega)⟩
   rw [ez]
   obtain ⟨v, hv⟩ := gE j.2.views z
   refine z0z (j := z) rfl rfl b1m rfl a0d rfl rfl (z2z hv) ?_
   refine dv 1 ?_
   refine b3p { v with events := l.1 } rfl rfl v6v rfl rfl rfl hv rfl (by decide) (.val rfl rfl .nil) rfl rfl ?_
   refine c2n (by kernel_rfl) ?_
   exact ⟨({ j.2 with views := j.2.views.set z { v with events := l.1 } }, l.2, j.2.lanes.map a4p), (by exact ⟨(show c5o j.2 from Nat.le_trans hJ (by omega)), by show l.2 ≤ p0 + 15200; omega, (a5y _)⟩), [0, 0, 0, 0, 0, _, _, _, _, _, _, _, _, _, _, _, _, _, _, _, _], x6x, x6x, x4x, x4x, rfl⟩
  refine dc 3 (aI ?_ ?_)<;>intro u<;>try simp at u
  ·obtain ⟨l0, rest, hl⟩ : ∃ l0 rest, j.2.lanes = l0 :: rest := by have h := e3h fS; match hm : j.2.lanes with | [] => (rw [hm] at h; cases h) | a :: r => exact ⟨a, r, rfl⟩
   have hld := (fb.2.2.2.1 l0 (by rw [hl]; exact List.mem_cons_self ..)).1
   rw [hl]
   refine d9n (A := []) (B := rest.map a4p) (cs := a4p l0) (j := 0) 15 4 20 rfl rfl rfl rfl rfl rfl ?_
   refine d5a 8 (b4k w5w 0 8 rfl rfl ?_)
   refine dv 4 ?_
   refine c1l (A := []) (j := 0) rfl rfl a8u rfl a0y rfl rfl rfl ?_
   refine dv 1 ?_
   refine e4o (A := []) rfl rfl a9l rfl rfl ?_
   refine dv 1 ?_
   refine b5u c3r (by rfl) [0] [_] (a8e bs hbs (j.1.p + 1) (by omega)) rfl rfl rfl rfl (by decide) rfl rfl f2h (fun _ => (by (simp only [pI, a2x, a2z, c0k, gl, nx, a7k, Nat.beq]; rfl))) (fun _ => (by (simp only [pI, a2x, a2z, c0k, gl, nx, a7k, Nat.beq]; rfl))) (⟨0, 0, 0, 0, 0, 0, 0⟩, j.1.p + 1) (by show j.1.p + 1 ≤ _; omega) fun e he => ?_
   refine b4l w5w 9 6 rfl rfl ?_
   refine rlB a6m c3q ?_
   refine y5y (id := 12) a9l rfl a6m rfl rfl rfl rfl rfl rfl ?_
   refine y6y (zs := l0.done.map (a2v true) ++ [d7p e.1]) rfl rfl a9l rfl a6m rfl rfl rfl rfl rfl rfl (by (simp only [a0b, r5r, s1s, s3s, a0t, a3b, T58]; omega)) ?_
   refine c1l (A := []) (j := 0) rfl rfl a8u rfl a0y rfl rfl rfl ?_
   refine dv 1 ?_
   refine a6f rfl rfl a9l rfl rfl rfl (Nat.succ_pos _) (r9r rfl) (.ref rfl (e6k _ _) .nil rfl rfl) rfl ?_
   refine c2n (by kernel_rfl) ?_
   exact ⟨({ j.2 with lanes := ⟨l0.proc, l0.base, l0.done ++ [d7q e.1]⟩ :: rest }, e.2, e3g l0 e.1 :: rest.map a4p), (by exact ⟨e6s hJ hl (p := d7q e.1) rfl, by show e.2 ≤ p0 + 15200; omega, e6j _ _ _⟩), [0, 0, 0, 0, 0, _, _, _, _, _, _, _, _, _, _, _, _, _, _, _, _], x6x, x6x, x4x, x4x, rfl⟩
  refine dc 3 (aI ?_ ?_)<;>intro u<;>try simp at u
  ·refine dv 1 ?_
   refine x0x rfl rfl rfl (z9z ..) (x0x rfl rfl rfl (z9z ..) (a0g (.int .i64 10000) rfl rfl rfl rfl ?_))
   refine w8w (id := 14) a0k rfl r3r rfl rfl rfl rfl (.val rfl rfl (.val rfl rfl (.val rfl rfl .nil))) rfl (r9r rfl) (r9r rfl) (r9r rfl) rfl rfl ?_
   refine dv 1 ?_
   refine rlM [0] [_] (x1x true bs (j.1.p + 1) (3) (by have := hq; omega) hbs) rfl rfl rfl ?_
   obtain ⟨z, ez, hz⟩ : ∃ z, pk bs (j.1.p + 1) 3 = z ∧ z < 3 := ⟨_, rfl, a3t _ _ _ (by omega)⟩
   rw [ez]
   obtain ⟨v, hv⟩ : ∃ x, ([-1, 9999, 10000] : List Int)[z]? = some x := ⟨_, List.getElem?_eq_getElem hz⟩
   refine z0z (f := fun x : Int => [pI x]) (l := [-1, 9999, 10000]) (j := z) rfl rfl a0k rfl r3r rfl rfl hz ?_
   refine a5f (f := fun x : Int => [pI x]) (l := [-1, 9999, 10000]) rfl r3r rfl hv rfl ?_
   refine dv 2 ?_
   exact ⟨({ j.2 with round := v }, j.1.p + 1 + 1, j.2.lanes.map a4p), (by exact ⟨(show c5o j.2 from Nat.le_trans hJ (by omega)), by show j.1.p + 1 + 1 ≤ p0 + 15200; omega, (a5y _)⟩), [0, 0, 0, 0, 0, _, _, _, _, _, _, _, _, _, _, _, _, _, _, _, _], x6x, x6x, x4x, x4x, rfl⟩
  refine dc 3 (aS ?_ ?_)<;>intro u<;>try simp at u
  ·refine dv 1 ?_
   exact ⟨(j.2, j.1.p + 1, j.2.lanes.map a4p), (by exact ⟨(show c5o j.2 from Nat.le_trans hJ (by omega)), by show j.1.p + 1 ≤ p0 + 15200; omega, (a5y _)⟩), [0, 0, 0, 0, 0, _, _, _, _, _, _, _, _, _, _, _, _, _, _, _, _], x6x, x6x, x4x, x4x, rfl⟩
  refine dv 6 ?_
  exact ⟨({ j.2 with up := !j.2.up }, j.1.p + 1, j.2.lanes.map a4p), (by exact ⟨(show c5o j.2 from Nat.le_trans hJ (by omega)), by show j.1.p + 1 ≤ p0 + 15200; omega, (a5y _)⟩), [0, 0, 0, 0, 0, _, _, _, _, _, _, _, _, _, _, _, _, _, _, _, _], x6x, x6x, x4x, x4x, rfl⟩
 ·try dsimp only [b2t, b2u]
  refine v4v (b := b9t true s.1.lanes) 4 4 rfl rfl rfl (.ref rfl hi.2.2 .nil) rfl rfl rfl rfl ?_
  refine v4v (b := c3l true s.1.views) 4 9 rfl rfl rfl (.ref rfl (Le.ow_map _ (fun _ => rfl) (fun _ => rfl)) .nil) rfl rfl rfl rfl ?_
  refine v4v (b := a4u true s.1.known) 4 10 rfl rfl rfl (.ref rfl (Le.ow_map _ (fun _ => rfl) (fun _ => rfl)) .nil) rfl rfl rfl rfl ?_
  refine v4v (b := a0m true s.1.kept) 4 5 rfl rfl rfl (.ref rfl (Le.ow_map _ (fun _ => rfl) (fun _ => rfl)) .nil) rfl rfl rfl rfl ?_
  refine v4v (b := r8r true s.1.outs) 4 6 rfl rfl rfl (.ref rfl (Le.ow_map _ (fun _ => rfl) (fun _ => rfl)) .nil) rfl rfl rfl rfl ?_
  refine dv 6 ?_
  exact ⟨(j.1.w, s.1, s.2.1), ⟨hj1.1, hi.1, hi.2.1⟩, [γ 0], rfl, rfl, x4x⟩
theorem b6c (bs : List Nat) (hbs : ∀ b ∈ bs, b < 256)  : MethE Tryz.prog 140 0 [v3v true bs] [] (ι := Nd) (fun S' => c5o S') (fun S' => []) (fun S' => .agg (u1u true S')) (fun S' => []) := by
 refine mE (ι := Nd) Tryz.f140 (fun S' => [.agg (u1u true S')]) 0 4 fun γ => ?_
 refine dv 1 ?_
 refine x3x (id := 0) u6u q4q rfl (s0s fun B X0 w0 => ?_)
 refine txR 2 rfl rfl (dv 1 ?_)
 refine rlM [3] [_] (c7u true bs) rfl rfl rfl ?_
 refine txM [3] [_] (b6a (bs.take 2000) (fun b hb => hbs b (List.mem_of_mem_take hb)) (0) (by omega)) rfl rfl rfl rfl fun j hj => ?_
 refine txR 7 rfl rfl (dv 3 ?_)
 refine x3x (id := 1) b5e b8j rfl (x3x (id := 2) u6u q4q rfl (dv 2 ?_))
 refine z6z rfl (dv 4 ?_)
 exact ⟨j.2.1, hj.2.1, [], rfl, rfl, x4x⟩
theorem b3i (bs : List Nat) (hbs : ∀ b ∈ bs, b < 256)  : MethE Tryz.prog 48 0 [v3v true bs] [] (ι := Nd) (fun S' => c5o S') (fun S' => []) (fun S' => .agg (u1u true S')) (fun S' => []) := by
 refine mE (ι := Nd) Tryz.f48 (fun S' => [.agg (u1u true S')]) 0 1 fun γ => ?_
 refine dv 1 ?_
 refine x3x (id := 0) u6u q4q rfl (s0s fun B X0 w0 => ?_)
 refine txR 1 rfl rfl (dv 1 ?_)
 refine txM [] [] (b6c bs hbs) rfl rfl rfl rfl fun n hn => ?_
 refine txR 1 rfl rfl (dv 1 ?_)
 refine z6z rfl (dv 1 ?_)
 exact ⟨n, hn, [], rfl, rfl, x4x⟩
end
section
def a9e (l : List Ev) : List (Value × AV) := (p0p l).map fun k => (c3k (evN k), pI (l.count k : Nat))
def a3u (l : List Ev) (e : Ev) : Nat := (a6o (p0p l) e).getD (p0p l).length
def b6d (l : List Ev) (e : Ev) : List (Value × AV) := if e ∈ l then a9e l else a9e l ++ [(c3k (evN e), pI (l.count e : Nat))]
theorem a1x (l : List Ev) : (a9e l).map (·.1) = (p0p l).map fun k => c3k (evN k) := by
 rw [a9e, List.map_map]; rfl
variable {l : List Ev} {e : Ev}
theorem d5w {j : Nat} (h : a6o (p0p l) e = some j) : (a9e l)[j]? = some (c3k (evN e), pI (l.count e : Nat)) := by
 rw [a9e, List.getElem?_map, b5j h]; rfl
theorem c8h (h : a6o (p0p l) e = none) : e ∉ l ∧ l.count e = 0 := by
 have := b2c.1 h
 rw [a1t] at this
 exact ⟨this, List.count_eq_zero.2 this⟩
variable {tt : TT} {et : TypeId} {S : TS}
theorem b9n (hs : tt et = some S) (hz : b8n S = pI 0) (l : List Ev) (e : Ev) : (∃ j kv, a6o (p0p l) e = some j ∧ (a9e l)[j]? = some (kv, pI (l.count e : Nat))) ∨ (a6o (p0p l) e = none ∧ ∃ S, tt et = some S ∧ pI (l.count e : Nat) = b8n S) := by
 cases h : a6o (p0p l) e with
 | some j => exact .inl ⟨j, _, rfl, d5w h⟩
 | none => exact .inr ⟨rfl, S, hs, by rw [hz, (c8h h).2]; rfl⟩
theorem a4m (hs : tt et = some S) (hz : b8n S = pI 0) (l : List Ev) (e : Ev) :
  (a6o (p0p l) e = some (a3u l e) ∧ (a9e l)[a3u l e]? = some (c3k (evN e), pI (l.count e : Nat)) ∧ b6d l e = a9e l) ∨
   (a6o (p0p l) e = none ∧ a3u l e = (a9e l).length ∧ b6d l e = a9e l ++ [(c3k (evN e), pI (l.count e : Nat))] ∧ ∃ S, tt et = some S ∧ pI (l.count e : Nat) = b8n S) := by
 cases h : a6o (p0p l) e with
 | some j =>
  have hm : e ∈ l := by
   rw [← a1t]; exact List.mem_of_getElem? (b5j h)
  have hp : a3u l e = j := by rw [a3u, h]; rfl
  exact .inl ⟨by rw [hp], by rw [hp]; exact d5w h, if_pos hm⟩
 | none =>
  have hn := c8h h
  exact .inr ⟨rfl, by rw [a3u, h, a9e, List.length_map]; rfl, if_neg hn.1, S, hs, by rw [hz, hn.2]; rfl⟩
theorem a1y (l : List Ev) (e : Ev) : (b6d l e)[a3u l e]? = some (c3k (evN e), pI (l.count e : Nat)) := by
 rcases a4m (tt := fun _ => some ⟨.oth, 1, 8, [.int .i64 0]⟩) (et := 0) rfl rfl l e with ⟨h1, h2, h3⟩ | ⟨h1, h2, h3, _⟩
 ·rw [h3]; exact h2
 ·rw [h3, h2, List.getElem?_append_right (Nat.le_refl _), Nat.sub_self]; rfl
def e6v (l : List Ev) (e : Ev) : List Ev := if e ∈ l then p0p l else p0p l ++ [e]
theorem b3y (l : List Ev) (e : Ev) : (b6d l e).map (·.1) = (e6v l e).map fun k => c3k (evN k) := by
 unfold b6d e6v
 split
 ·exact a1x l
 ·rw [List.map_append, List.map_append, a1x]; rfl
theorem d1f {κ : Type} [DecidableEq κ] {k : κ} : ∀ {ks : List κ}, a6o ks k = none → a6o (ks ++ [k]) k = some ks.length
 | [], _ => by simp [a6o]
 | a :: r, h => by
  simp only [a6o] at h
  split at h
  ·cases h
  ·rename_i hne
   simp only [List.cons_append, a6o, if_neg hne, List.length_cons]
   rw [d1f (by simpa using h)]; rfl
theorem b3z (l : List Ev) (e : Ev) : (∃ j kv, a6o (e6v l e) e = some j ∧ (b6d l e)[j]? = some (kv, pI (l.count e : Nat))) ∨ (a6o (e6v l e) e = none ∧ ∃ S, tt et = some S ∧ pI (l.count e : Nat) = b8n S) := by
 refine .inl ⟨a3u l e, _, ?_, a1y l e⟩
 unfold e6v
 cases h : a6o (p0p l) e with
 | some j =>
  have hm : e ∈ l := by rw [← a1t]; exact List.mem_of_getElem? (b5j h)
  rw [if_pos hm, a3u, h]; rfl
 | none => rw [if_neg (c8h h).1, d1f h, a3u, h]; rfl
theorem a2p (l : List Ev) (e : Ev) : (b6d l e).set (a3u l e) (c3k (evN e), pI ((l.count e + 1 : Nat) : Int)) = a9e (l ++ [e]) := by
 have hc : ∀ k, k ≠ e → (l ++ [e]).count k = l.count k := fun k hk => by
  rw [List.count_append, List.count_singleton]
  simp [Ne.symm hk]
 have hce : (l ++ [e]).count e = l.count e + 1 := by
  rw [List.count_append, List.count_singleton]; simp
 by_cases hm : e ∈ l
 ·have ho : p0p (l ++ [e]) = p0p l := by rw [b0m, if_pos ((a1t e l).2 hm)]
  obtain ⟨j, hj⟩ := c9a ((a1t e l).2 hm)
  have hp : a3u l e = j := by rw [a3u, hj]; rfl
  have hg := b5j hj
  rw [b6d, if_pos hm, hp, a9e, a9e, ho]
  apply List.ext_getElem?
  intro i
  rw [List.getElem?_set, List.getElem?_map, List.length_map]
  by_cases hi : j = i
  ·subst hi
   rw [if_pos rfl, if_pos (List.getElem?_eq_some_iff.1 hg).1, List.getElem?_map, hg]
   simp only [Option.map_some, hce]
  ·rw [if_neg hi, List.getElem?_map]
   cases hk : (p0p l)[i]? with
   | none => rfl
   | some k =>
    have hne : k ≠ e := fun h => by
     subst h
     exact hi ((List.getElem?_inj (List.getElem?_eq_some_iff.1 hg).1 (b9s l)).1 (hg.trans hk.symm))
    simp only [Option.map_some, hc k hne]
 ·have h0 : a6o (p0p l) e = none := b2c.2 (by rw [a1t]; exact hm)
  have ho : p0p (l ++ [e]) = p0p l ++ [e] := by rw [b0m, if_neg (by rw [a1t]; exact hm)]
  have hp : a3u l e = (a9e l).length := by rw [a3u, h0, a9e, List.length_map]; rfl
  rw [b6d, if_neg hm, hp, List.set_append_right _ _ (Nat.le_refl _), Nat.sub_self, List.set_cons_zero, a9e, a9e, ho, List.map_append]
  congr 1
  ·refine List.map_congr_left fun k hk => ?_
   rw [hc k (fun h => hm ((a1t e l).1 (h ▸ hk)))]
  ·simp only [List.map_cons, List.map_nil, hce]
theorem d3a : (l ++ [e]).count e = 1 → b4c a2g (p0p (l ++ [e])) = b9w a2g (b4c a2g (p0p l)) e := fun h => by
 have : e ∉ l := by
  rw [List.count_append, List.count_singleton] at h
  exact List.count_eq_zero.1 (by simpa using h)
 rw [b0m, if_neg (by rw [a1t]; exact this), d6t]
theorem d3b : ¬ (l ++ [e]).count e = 1 → p0p (l ++ [e]) = p0p l := fun h => by
 have : e ∈ l := by
  rw [List.count_append, List.count_singleton] at h
  refine Classical.byContradiction fun hn => h ?_
  rw [List.count_eq_zero.2 hn]; simp
 rw [b0m, if_pos (by rw [a1t]; exact this)]
end
section
theorem a6i (l : List Ev) (x : Ev) (hl : l.length ≤ 1000000000) : Meth Tryz.prog 275 2 [0] [.ptr 0 0 0, .agg (z1z x)] [(0, (0, .box 303 [.ref 1 0, .fn (.func 127) [] []])), (1, (0, .row 153 7 ((l).map z1z)))] (.tup []) [(0, (0, .box 303 [.ref 1 0, .fn (.func 127) [] []])), (1, (0, .row 153 7 ((b9w a2g l x).map z1z)))] := by
 refine mX Tryz.f275 [] 2 3 fun γ => ?_
 refine dv 1 ?_
 refine y3y (id := 2) rfl rfl rfl (dv 7 ?_)
 refine y5y (id := 3) a2e rfl q2q rfl rfl rfl rfl rfl rfl (y6y rfl rfl a2e rfl q2q rfl rfl rfl rfl (by rfl) (u0u _ _ _) (by (simp only [a0b, r5r, s1s, s3s, T153]; omega)) ?_)
 refine dv 9 ?_
 refine r1r (b := 1) rfl rfl (by (simp; done)) (by (simp; omega)) ?_
 refine dv 2 ?_
 refine x5x (ι := Nat × List Ev) (fun i γ1 => [(4, pI (i.1 : Int))]) (fun i γ1 => [(1, ((γ1 1), .row 153 7 ((i.2).map z1z))), (0, ((γ 0), .box 303 [.ref 1 (γ1 1), .fn (.func 127) [] []]))]) (fun i => a8p a2g i.2 i.1 = b9w a2g l x ∧ i.1 < i.2.length ∧ i.2.length = l.length + 1) (fun i => i.1) (x8x 0 rfl Cov.nil) (a1p [2, 3, 4] rfl) (l.length, l ++ [x]) ⟨rfl, by simp, by simp⟩ [0, _] (Cov.cons' (t := 4) rfl (by simp) Cov.nil) x4x rfl fun i γ1 hi => ?_
 obtain ⟨k, m⟩ := i
 obtain ⟨h1, h2, h3⟩ := hi
 dsimp only at h1 h2 h3 ⊢
 refine dc 4 (fun K K' => aS ?_ ?_)<;>intro h<;>try simp at h
 ·have hk : k = 0 := by omega
  subst hk
  have hfin := siftUp_zero.symm.trans h1
  refine dv 1 ?_
  exact ⟨[γ 0, _], rfl, rfl, HE.box rfl rfl (HE.row rfl (by rw [← hfin]) HE.nil)⟩
 obtain ⟨a, ha⟩ := gE m k
 obtain ⟨b, hb⟩ := gE m ((k - 1) / 2)
 have hp : (k - 1) / 2 < k := by omega
 refine dv 4 ?_
 refine r1r (b := 1) rfl rfl (by omega) (by omega) (d1x (b := 2) rfl rfl (by omega) (by omega) (dv 12 fun K K' => ?_))
 refine z0z (j := k) rfl rfl a2e rfl q2q rfl rfl (by omega) ?_
 refine dv 6 ?_
 refine z0z (j := (k - 1) / 2) rfl rfl a2e rfl q2q rfl rfl (by omega) ?_
 refine dv 1 ?_
 refine x0x rfl rfl rfl (a5z _ _) (dc 1 (aI ?_ ?_))<;>intro hc4<;>try simp at hc4
 ·have hfin := (c1q ha hb hc4).symm.trans h1
  refine dv 1 ?_
  exact ⟨[γ 0, _], rfl, rfl, HE.box rfl rfl (HE.row rfl (by rw [← hfin]) HE.nil)⟩
 have hg := hc4
 refine dv 17 ?_
 refine z0z (j := (k - 1) / 2) rfl rfl a2e rfl q2q rfl rfl (by omega) ?_
 refine dv 6 ?_
 refine z0z (j := k) rfl rfl a2e rfl q2q rfl rfl (by omega) ?_
 refine dv 1 ?_
 refine z0z (j := k) rfl rfl a2e rfl q2q rfl rfl (by omega) ?_
 refine v5v (el' := b) rfl rfl q2q rfl rfl rfl ha rfl (a5w _) rfl rfl ?_
 refine z0z (j := (k - 1) / 2) rfl rfl a2e rfl q2q rfl rfl (by rw [List.length_set]; omega) ?_
 refine v5v (el' := a) rfl rfl q2q rfl rfl rfl (by rw [List.getElem?_set_ne (by omega)]; exact hb) rfl (a5w _) rfl rfl ?_
 refine dv 3 ?_
 exact ⟨((k - 1) / 2, sw m k ((k - 1) / 2)), ⟨⟨by rw [← h1, c1p (by omega) ha hb hg], by rw [b4i]; dsimp only; omega, by rw [b4i]; exact h3⟩, (by dsimp only; omega)⟩, [0, _], x6x, x6x, (HE.row rfl (by rw [e9p ha hb]) (HE.box rfl rfl HE.nil)), x4x, rfl⟩
theorem a6t (m : Ev) (r : List Ev) (hl : r.length ≤ 1000000000) : Meth Tryz.prog 305 2 [0] [.ptr 0 0 0] [(0, (0, .box 303 [.ref 1 0, .fn (.func 127) [] []])), (1, (0, .row 153 7 ((m :: r).map z1z)))] (.agg (z1z m)) [(0, (0, .box 303 [.ref 1 0, .fn (.func 127) [] []])), (1, (0, .row 153 7 ((b5m a2g (m :: r)).map z1z)))] := by
 refine a2s w5w (fn := Tryz.f305) (by kernel_rfl) (by kernel_rfl) rfl (O0 := [.agg (z1z m)]) 2 2 (r9r rfl) (by rfl) (by repeat (first | exact BndH.nil | refine BndH.box rfl ?_ | refine BndH.row (q0q fun _ => rfl) ?_)) (by repeat (first | exact BndH.nil | refine BndH.box rfl ?_ | refine BndH.row (q0q fun _ => rfl) ?_)) (by rfl) fun γ => ?_
 show Ex Tryz.prog _ _ [(0, .ptr 0 (γ 0) 0)] [(0, ((γ 0), .box 303 [.ref 1 (γ 1), .fn (.func 127) [] []])), (1, ((γ 1), .row 153 7 ((m :: r).map z1z))), (3, (0, .dead)), (2, (0, .dead))] _
 obtain ⟨T0, hT⟩ : ∃ T0, T0 = ((m :: r).set 0 ((m :: r).getLast (by simp))).take r.length := ⟨_, rfl⟩
 have hres : b5m a2g (m :: r) = a2h a2g T0 0 := by rw [hT]; rfl
 have hTl : T0.length = r.length := by rw [hT]; simp
 have hlast : (m :: r)[(m :: r).length - 1]? = some ((m :: r).getLast (by simp)) := by rw [← List.getLast?_eq_getElem?, List.getLast?_eq_some_getLast]
 refine exR (x3x (id := 2) q2q c4y rfl (exR (s5s rfl (e7j rfl rfl (p6p rfl d8r rfl rfl a2e rfl rfl (y9y rfl a2e rfl rfl ?_))))))
 refine z0z (j := 0) rfl rfl a2e rfl q2q rfl rfl (by simp) ?_
 refine s6s rfl q2q rfl (show (m :: r)[0]? = some m from rfl) rfl rfl ?_
 refine x3x (id := 3) q2q c4y rfl (dv 7 ?_)
 refine r1r (b := 1) rfl rfl (by (simp; done)) (by (simp; omega)) ?_
 refine dv 11 ?_
 refine z0z (j := (m :: r).length - 1) rfl rfl a2e rfl q2q rfl rfl (by simp) ?_
 refine dv 1 ?_
 refine z0z (j := 0) rfl rfl a2e rfl q2q rfl rfl (by simp) ?_
 refine v5v (el' := ((m :: r).getLast (by simp))) rfl rfl q2q rfl rfl rfl (show (m :: r)[0]? = some m from rfl) rfl (a5w _) rfl rfl ?_
 refine dv 7 ?_
 refine e4l w5w (u := (m :: r).length - 1) (ys := T0.map z1z) rfl a2e rfl q2q rfl rfl rfl (by (simp; done)) (by rw [hT, List.map_take]; rfl) ?_
 refine dv 6 ?_
 refine x5x (ι := Nat × List Ev) (fun i γ1 => [(5, pI (i.1 : Int))]) (fun i γ1 => [(1, ((γ1 1), .row 153 7 ((i.2).map z1z))), (0, ((γ 0), .box 303 [.ref 1 (γ1 1), .fn (.func 127) [] []]))]) (fun i => a2h a2g i.2 i.1 = b5m a2g (m :: r) ∧ i.2.length = r.length ∧ i.1 ≤ r.length) (fun i => i.2.length - i.1) (r2r [0, 2, 3, 4] rfl) (a1p [2, 3] rfl) (0, T0) ⟨hres.symm, hTl, by omega⟩ [0, _] x6x x4x rfl fun i γ1 hi => ?_
 obtain ⟨k, t⟩ := i
 obtain ⟨h1, h2, h3⟩ := hi
 dsimp only at h1 h2 h3 ⊢
 refine dv 3 ?_
 refine b8m (a := 2) rfl rfl (by omega) (x7x (b := 1) rfl rfl (by omega) (dc 6 (fun K K' => aI ?_ ?_)))<;>intro h<;>try simp at h
 ·have hfin := (a6x (lt := a2g) (l := t) (k := k) (by omega)).symm.trans h1
  refine dv 4 ?_
  exact ⟨[γ 0, _], rfl, rfl, HE.box rfl rfl (HE.row rfl (by rw [← hfin]) HE.nil)⟩
 have hlt : 2 * k + 1 < t.length := by omega
 refine dv 1 ?_
 refine q8q (ι := Unit) (fun _i γ2 => [(6, pI (a4t a2g t k : Int))]) (fun _i γ2 => []) (fun _i => True) (r2r [0, 2, 3, 4, 5] rfl) (a1p [0, 1, 2, 3] rfl) ?_ fun _i γ2 hi => ?_
 ·refine dv 2 ?_
  refine x7x (b := 1) rfl rfl (by omega) (dc 3 (aS ?_ ?_))<;>intro h<;>try simp at h
  ·have hlt2 : ¬ 2 * k + 2 < t.length := by omega
   refine dv 22 ?_
   exact ⟨(), trivial, [], (Cov.cons' (t := 6) rfl (by rw [e9s (by omega)]) Cov.nil), x6x, x4x, x4x, rfl⟩
  have hlt2 : 2 * k + 1 + 1 < t.length := by omega
  obtain ⟨c1, hc1⟩ := gE t (2 * k + 1 + 1)
  obtain ⟨d1, hd1⟩ := gE t (2 * k + 1)
  refine dv 9 ?_
  refine x7x (b := 1) rfl rfl (by omega) (dv 0 ?_)
  refine z0z (j := 2 * k + 1 + 1) rfl rfl a2e rfl q2q rfl rfl (by omega) ?_
  refine dv 6 ?_
  refine z0z (j := 2 * k + 1) rfl rfl a2e rfl q2q rfl rfl (by omega) ?_
  refine dv 1 ?_
  refine x0x rfl rfl rfl (a5z _ _) (dc 1 (aS ?_ ?_))<;>intro hc4<;>try simp at hc4
  ·try have hl1 := hc4
   refine dv 1 ?_
   exact ⟨(), trivial, [], (Cov.cons' (t := 6) rfl (by rw [e9r hc1 hd1 hl1]) Cov.nil), x6x, x4x, x4x, rfl⟩
  have hl1 := hc4
  refine dv 2 ?_
  refine x7x (b := 1) rfl rfl (by omega) (dv 1 ?_)
  exact ⟨(), trivial, [], (Cov.cons' (t := 6) rfl (by rw [e9q hc1 hd1 hl1]) Cov.nil), x6x, x4x, x4x, rfl⟩
 ·try dsimp only [b2t, b2u]
  have hch := b3q (lt := a2g) t k
  obtain ⟨a, ha⟩ := gE t (a4t a2g t k)
  obtain ⟨b, hb⟩ := gE t k
  refine dv 11 fun K K' => ?_
  refine z0z (j := a4t a2g t k) rfl rfl a2e rfl q2q rfl rfl (by omega) ?_
  refine dv 6 ?_
  refine z0z (j := k) rfl rfl a2e rfl q2q rfl rfl (by omega) ?_
  refine dv 1 ?_
  refine x0x rfl rfl rfl (a5z _ _) (dc 1 (aI ?_ ?_))<;>intro hc7<;>try simp at hc7
  ·have hfin := (b7f ha hb hc7).symm.trans h1
   refine dv 4 ?_
   exact ⟨[γ 0, _], rfl, rfl, HE.box rfl rfl (HE.row rfl (by rw [← hfin]) HE.nil)⟩
  have hg := hc7
  refine dv 17 ?_
  refine z0z (j := a4t a2g t k) rfl rfl a2e rfl q2q rfl rfl (by omega) ?_
  refine dv 6 ?_
  refine z0z (j := k) rfl rfl a2e rfl q2q rfl rfl (by omega) ?_
  refine dv 1 ?_
  refine z0z (j := k) rfl rfl a2e rfl q2q rfl rfl (by omega) ?_
  refine v5v (el' := a) rfl rfl q2q rfl rfl rfl hb rfl (a5w _) rfl rfl ?_
  refine z0z (j := a4t a2g t k) rfl rfl a2e rfl q2q rfl rfl (by rw [List.length_set]; omega) ?_
  refine v5v (el' := b) rfl rfl q2q rfl rfl rfl (by rw [List.getElem?_set_ne (by omega)]; exact ha) rfl (a5w _) rfl rfl ?_
  refine dv 3 ?_
  exact ⟨(a4t a2g t k, sw t (a4t a2g t k) k), ⟨⟨by rw [← h1, b7e (by omega) ha hb hg], by rw [b4i]; exact h2, by dsimp only; omega⟩, (by dsimp only; rw [b4i]; omega)⟩, [0, _], x6x, x6x, (HE.row rfl (by rw [e9p ha hb, List.set_comm _ _ (by omega)]) (HE.box rfl rfl HE.nil)), x4x, rfl⟩
theorem a5v (l : List Ev) (hl : l.length ≤ 1000000000) : Meth Tryz.prog 276 2 [0] [.ptr 0 0 0] [(0, (0, .box 303 [.ref 1 0, .fn (.func 127) [] []])), (1, (0, .row 153 7 ((l).map z1z)))] (.row (.rd true) 153 7 ((a7t a2g l.length l).map z1z)) [(0, (0, .box 303 [.ref 1 0, .fn (.func 127) [] []])), (1, (0, .row 153 7 ((([] : List Ev)).map z1z)))] := by
 refine mX Tryz.f276 [.row (.rd true) 153 7 ((a7t a2g l.length l).map z1z)] 2 3 fun γ => ?_
 refine dv 8 ?_
 refine d3z w5w (id := 2) a2e rfl q2q rfl rfl (by (simp only [a0b, r5r, s1s, s3s, T153]; omega)) (by (unfold maxLen; omega)) rfl ?_
 refine dv 3 fun K K' => ?_
 refine x5x (ι := List Ev × List Ev) (fun i γ1 => [(3, .ref 2 (γ1 2))]) (fun i γ1 => [(1, ((γ1 1), .row 153 7 ((i.1).map z1z))), (2, ((γ1 2), .row 153 7 ((i.2).map z1z))), (0, ((γ 0), .box 303 [.ref 1 (γ1 1), .fn (.func 127) [] []])), (3, ((γ1 3), .dead)), (4, ((γ1 4), .dead))]) (fun i => i.2 ++ a7t a2g i.1.length i.1 = a7t a2g l.length l ∧ i.1.length + i.2.length = l.length) (fun i => i.1.length) (x8x 0 rfl Cov.nil) HE.nil (l, []) ⟨rfl, rfl⟩ [0, _, _, _, _] x6x x4x rfl fun i γ1 hi => ?_
 obtain ⟨ls, o⟩ := i
 obtain ⟨h1, h2⟩ := hi
 dsimp only at h1 h2 ⊢
 refine dc 8 (fun K K' => aS ?_ ?_)<;>intro hc3<;>try simp at hc3
 ·obtain rfl : ls = [] := hc3
  have ho : o = a7t a2g l.length l := by rw [← h1]; simp [a7t]
  subst ho
  refine dv 1 ?_
  refine r6r 3 rfl rfl (fun _ => rfl) ?_
  refine dv 4 ?_
  exact ⟨[γ 0, _], rfl, rfl, x4x⟩
 obtain ⟨m, r, rfl⟩ : ∃ m r, ls = m :: r := by cases ls with | nil => simp at hc3 | cons m r => exact ⟨m, r, rfl⟩
 simp only [s1s] at h2
 refine dv 5 ?_
 refine rlM [0, 1] [_, _] (a6t m r (by omega)) rfl rfl rfl ?_
 refine y5y (id := 3) a2e rfl q2q rfl rfl rfl rfl rfl rfl (y6y rfl rfl a2e rfl q2q rfl rfl rfl rfl (by rfl) (u0u _ _ _) (by (simp only [a0b, r5r, s1s, s3s, T153]; omega)) ?_)
 refine dv 1 ?_
 exact ⟨(b5m a2g (m :: r), o ++ [m]), ⟨⟨by rw [← h1, b7g, List.append_assoc]; rfl, by rw [b7g, List.length_append]; simp only [s1s, s3s] at h2 ⊢; omega⟩, (by dsimp only; rw [b7g]; simp)⟩, [0, _, _, _, _], x6x, x6x, (HE.row rfl rfl (HE.row rfl (by simp) (HE.box rfl rfl (HE.kill rfl (HE.kill rfl HE.nil))))), x4x, rfl⟩
end
section
theorem b1l (c : Bool) (l : List Ev) (hl : l.length ≤ 1000000000) : Meth Tryz.prog 210 1 [] [a0m c l] [(0, (0, .dead))] (.ref 0 0) [(0, (0, .row 56 7 ((u2u l).map z1z)))] := by
 refine mX Tryz.f210 [.ref 0 0] 1 8 fun γ => ?_
 refine dv 3 ?_
 refine rlB d8r e7i ?_
 refine x3x (id := 1) d8r e7i rfl (dv 2 ?_)
 refine c5a (id := 2) rfl (dv 7 fun K K' => ?_)
 refine a1d 1 0 7 153 7 rfl rfl rfl rfl rfl ?_
 refine x5x (ι := Nat) (fun i γ1 => [(15, pI (i : Int))]) (fun i γ1 => [(7, ((γ1 7), .row 153 7 ((b4c a2g (p0p (l.take i))).map z1z))), (1, ((0 + 1), .box 303 [.ref 7 (γ1 7), .fn (.func 127) [] []])), (2, ((0 + 1), .map (a9e (l.take i)))), (3, ((γ1 3), .dead)), (4, ((γ1 4), .dead))]) (fun i => i ≤ l.length) (fun i => l.length - i) (r2r [3, 4, 13, 14] rfl) (a1p [0, 5, 6, 8] rfl) 0 (by omega) [0, 0, 0, _, _, 0, 0, _] x6x (HE.row rfl (by rw [List.take_zero]; try rfl) (HE.box rfl rfl (HE.map rfl (by rw [List.take_zero]; try rfl) (HE.kill rfl (HE.kill rfl HE.nil))))) rfl fun i γ1 hi => ?_
 refine dc 3 (fun K K' => aS ?_ ?_)<;>intro o<;>try simp at o
 ·obtain rfl : i = l.length := by omega
  obtain ⟨H, hH⟩ : ∃ H, H = b4c a2g (p0p (l.take l.length)) := ⟨_, rfl⟩
  rw [← hH]
  have hhl : H.length ≤ 1000000000 := by rw [hH, b7h]; exact Nat.le_trans (b8r _) (by rw [List.length_take]; omega)
  refine dv 5 ?_
  refine d3z w5w (id := 0) v6v rfl z4z rfl rfl (by (simp only [a0b, r5r, s1s, s3s, T56]; omega)) (by (unfold maxLen; omega)) rfl ?_
  refine dv 3 fun K K' => ?_
  refine rlM [1, 7] [_, _] (a5v _ hhl) rfl rfl rfl ?_
  refine dv 3 ?_
  obtain ⟨D, hD⟩ : ∃ D, D = a7t a2g H.length H := ⟨_, rfl⟩
  rw [← hD]
  have hDl : D.length ≤ 1000000000 := Nat.le_trans (by rw [hD]; exact c1s _ _) hhl
  refine x5x (ι := Nat) (fun i γ3 => [(8, .ref 0 (γ3 0)), (40, pI (i : Int))]) (fun i γ3 => [(0, ((γ3 0), .row 56 7 ((D.take i).map z1z))), (5, ((γ3 5), .dead)), (6, ((γ3 6), .dead)), (7, ((γ3 7), .dead))]) (fun i => i ≤ D.length) (fun i => D.length - i) (r2r [38, 39] rfl) (a1p [1, 2, 3, 4, 8] rfl) 0 (by omega) [_, 0, 0, 0, 0, _, _, _] x6x (HE.row rfl (by rw [List.take_zero]; try rfl) (HE.kill rfl (HE.kill rfl (HE.kill rfl HE.nil)))) rfl fun i γ3 hi => ?_
  refine dc 3 (fun K K' => aS ?_ ?_)<;>intro o<;>try simp at o
  ·refine dv 5 ?_
   exact ⟨[_], rfl, rfl, HE.row rfl (by rw [List.take_of_length_le (by omega), hD, hH, List.take_length, b7h, c1u]) HE.nil⟩
  obtain ⟨k1, hk1⟩ := gE D i
  have hDi : (D.take i).length ≤ 1000000000 := by rw [List.length_take]; omega
  refine dv 6 fun K K' => ?_
  refine x3x (id := 5) q2q c4y rfl (dv 4 ?_)
  refine x0x rfl rfl rfl (b2y ..) (y5y (id := 6) v6v rfl z4z rfl rfl rfl rfl rfl rfl (y6y rfl rfl v6v rfl z4z rfl rfl rfl rfl (by rfl) (u0u _ _ _) (by (simp only [a0b, r5r, s1s, s3s, T56]; omega)) ?_))
  refine dv 2 ?_
  refine x7x (b := 1) rfl rfl (by omega) (dv 1 ?_)
  exact ⟨i + 1, ⟨by omega, by omega⟩, [_, 0, 0, 0, 0, _, _, _], x6x, x6x, (HE.row rfl (by rw [z5z hk1]) (HE.kill rfl (HE.kill rfl (HE.kill rfl HE.nil)))), x4x, rfl⟩
 obtain ⟨e, he⟩ := gE l i
 have hcnt : (l.take i).count e ≤ 1000000000 := Nat.le_trans List.count_le_length (by rw [List.length_take]; omega)
 refine dv 6 fun K K' => ?_
 refine x3x (id := 3) z4z a8g rfl (dv 3 ?_)
 refine x0x rfl rfl rfl (b2x ..) (x3x (id := 4) q2q c4y rfl (dv 1 ?_))
 refine q8q (ι := Unit) (fun _i γ2 => []) (fun _i γ2 => [(2, ((0 + 1), .map (a9e (l.take i ++ [e]))))]) (fun _i => True) (r2r [3, 4, 7, 13, 14, 15] rfl) (a1p [0, 1, 3, 4, 5, 6, 7, 8] rfl) ?_ fun _i γ2 hi => ?_
 ·refine c3u c3r rfl fun B X0 w0 => ?_
  refine z7z w5w (l := [0, 1]) (by kernel_rfl) (by decide) ?_
  refine .cons rfl rfl rfl ?_ ?_
  ·refine dv 1 ?_
   refine z7z w5w (l := [1]) (by kernel_rfl) (by decide) ?_
   refine .cons rfl rfl rfl ?_ ?_
   ·refine dv 1 ?_
    refine z7z w5w (l := [2, 4]) (by kernel_rfl) (by decide) ?_
    refine .cons rfl rfl rfl ?_ ?_
    ·refine a6e w5w (ks := p0p (l.take i)) (k := e) Tryz.underlying304 evF rfl rfl (fun _ _ _ h => a5t h) rfl (a1x (l.take i)) (b9n r3r rfl (l.take i) e) ?_
     refine dv 0 ?_
     refine z7z w5w (l := [3, 4]) (by kernel_rfl) (by decide) ?_
     refine .cons rfl rfl rfl ?_ ?_
     ·refine x7x (b := 1) rfl rfl (by omega) (dv 0 ?_)
      refine z7z w5w (l := [4]) (by kernel_rfl) (by decide) ?_
      refine .cons rfl rfl rfl ?_ ?_
      ·refine a5s w5w (es' := b6d (l.take i) e) (j := a3u (l.take i) e) (out := pI ((l.take i).count e : Nat)) (ks := p0p (l.take i)) (k := e) Tryz.underlying304 evF rfl rfl (fun _ _ _ h => a5t h) rfl (a1x _) (a4m r3r rfl _ _) ?_
       refine dv 0 ?_
       refine z7z w5w (l := [5]) (by kernel_rfl) (by decide) ?_
       refine .cons rfl rfl rfl ?_ ?_
       ·refine dv 1 ?_
        refine z7z w5w (l := [6]) (by kernel_rfl) (by decide) ?_
        refine .cons rfl rfl rfl ?_ ?_
        ·refine q9q (j := a3u (l.take i) e) rfl rfl rfl rfl (a1y _ _) (a2p _ _) ?_
         refine dv 0 ?_
         refine a2l (by kernel_rfl) ?_
         exact ⟨(), trivial, [], x6x, x6x, (HE.map rfl rfl HE.nil), x4x, rfl⟩
        exact .nil
       exact .nil
      exact .nil
     refine .cons rfl rfl rfl ?_ ?_
     ·refine a5s w5w (es' := b6d (l.take i) e) (j := a3u (l.take i) e) (out := pI ((l.take i).count e : Nat)) (ks := p0p (l.take i)) (k := e) Tryz.underlying304 evF rfl rfl (fun _ _ _ h => a5t h) rfl (a1x _) (a4m r3r rfl _ _) ?_
      refine dv 0 ?_
      refine z7z w5w (l := [3, 5]) (by kernel_rfl) (by decide) ?_
      refine .cons rfl rfl rfl ?_ ?_
      ·refine x7x (b := 1) rfl rfl (by omega) (dv 0 ?_)
       refine z7z w5w (l := [5]) (by kernel_rfl) (by decide) ?_
       refine .cons rfl rfl rfl ?_ ?_
       ·refine dv 1 ?_
        refine z7z w5w (l := [6]) (by kernel_rfl) (by decide) ?_
        refine .cons rfl rfl rfl ?_ ?_
        ·refine q9q (j := a3u (l.take i) e) rfl rfl rfl rfl (a1y _ _) (a2p _ _) ?_
         refine dv 0 ?_
         refine a2l (by kernel_rfl) ?_
         exact ⟨(), trivial, [], x6x, x6x, (HE.map rfl rfl HE.nil), x4x, rfl⟩
        exact .nil
       exact .nil
      refine .cons rfl rfl rfl ?_ ?_
      ·refine dv 1 ?_
       refine z7z w5w (l := [3]) (by kernel_rfl) (by decide) ?_
       refine .cons rfl rfl rfl ?_ ?_
       ·refine x7x (b := 1) rfl rfl (by omega) (dv 0 ?_)
        refine z7z w5w (l := [6]) (by kernel_rfl) (by decide) ?_
        refine .cons rfl rfl rfl ?_ ?_
        ·refine q9q (j := a3u (l.take i) e) rfl rfl rfl rfl (a1y _ _) (a2p _ _) ?_
         refine dv 0 ?_
         refine a2l (by kernel_rfl) ?_
         exact ⟨(), trivial, [], x6x, x6x, (HE.map rfl rfl HE.nil), x4x, rfl⟩
        exact .nil
       exact .nil
      exact .nil
     exact .nil
    refine .cons rfl rfl rfl ?_ ?_
    ·refine a5s w5w (es' := b6d (l.take i) e) (j := a3u (l.take i) e) (out := pI ((l.take i).count e : Nat)) (ks := p0p (l.take i)) (k := e) Tryz.underlying304 evF rfl rfl (fun _ _ _ h => a5t h) rfl (a1x _) (a4m r3r rfl _ _) ?_
     refine dv 0 ?_
     refine z7z w5w (l := [2, 5]) (by kernel_rfl) (by decide) ?_
     refine .cons rfl rfl rfl ?_ ?_
     ·refine a6e w5w (ks := e6v (l.take i) e) (k := e) Tryz.underlying304 evF rfl rfl (fun _ _ _ h => a5t h) rfl (b3y (l.take i) e) (b3z (l.take i) e) ?_
      refine dv 0 ?_
      refine z7z w5w (l := [3, 5]) (by kernel_rfl) (by decide) ?_
      refine .cons rfl rfl rfl ?_ ?_
      ·refine x7x (b := 1) rfl rfl (by omega) (dv 0 ?_)
       refine z7z w5w (l := [5]) (by kernel_rfl) (by decide) ?_
       refine .cons rfl rfl rfl ?_ ?_
       ·refine dv 1 ?_
        refine z7z w5w (l := [6]) (by kernel_rfl) (by decide) ?_
        refine .cons rfl rfl rfl ?_ ?_
        ·refine q9q (j := a3u (l.take i) e) rfl rfl rfl rfl (a1y _ _) (a2p _ _) ?_
         refine dv 0 ?_
         refine a2l (by kernel_rfl) ?_
         exact ⟨(), trivial, [], x6x, x6x, (HE.map rfl rfl HE.nil), x4x, rfl⟩
        exact .nil
       exact .nil
      refine .cons rfl rfl rfl ?_ ?_
      ·refine dv 1 ?_
       refine z7z w5w (l := [3]) (by kernel_rfl) (by decide) ?_
       refine .cons rfl rfl rfl ?_ ?_
       ·refine x7x (b := 1) rfl rfl (by omega) (dv 0 ?_)
        refine z7z w5w (l := [6]) (by kernel_rfl) (by decide) ?_
        refine .cons rfl rfl rfl ?_ ?_
        ·refine q9q (j := a3u (l.take i) e) rfl rfl rfl rfl (a1y _ _) (a2p _ _) ?_
         refine dv 0 ?_
         refine a2l (by kernel_rfl) ?_
         exact ⟨(), trivial, [], x6x, x6x, (HE.map rfl rfl HE.nil), x4x, rfl⟩
        exact .nil
       exact .nil
      exact .nil
     refine .cons rfl rfl rfl ?_ ?_
     ·refine dv 1 ?_
      refine z7z w5w (l := [2]) (by kernel_rfl) (by decide) ?_
      refine .cons rfl rfl rfl ?_ ?_
      ·refine a6e w5w (ks := e6v (l.take i) e) (k := e) Tryz.underlying304 evF rfl rfl (fun _ _ _ h => a5t h) rfl (b3y (l.take i) e) (b3z (l.take i) e) ?_
       refine dv 0 ?_
       refine z7z w5w (l := [3]) (by kernel_rfl) (by decide) ?_
       refine .cons rfl rfl rfl ?_ ?_
       ·refine x7x (b := 1) rfl rfl (by omega) (dv 0 ?_)
        refine z7z w5w (l := [6]) (by kernel_rfl) (by decide) ?_
        refine .cons rfl rfl rfl ?_ ?_
        ·refine q9q (j := a3u (l.take i) e) rfl rfl rfl rfl (a1y _ _) (a2p _ _) ?_
         refine dv 0 ?_
         refine a2l (by kernel_rfl) ?_
         exact ⟨(), trivial, [], x6x, x6x, (HE.map rfl rfl HE.nil), x4x, rfl⟩
        exact .nil
       exact .nil
      exact .nil
     exact .nil
    exact .nil
   exact .nil
  refine .cons rfl rfl rfl ?_ ?_
  ·refine dv 1 ?_
   refine z7z w5w (l := [0]) (by kernel_rfl) (by decide) ?_
   refine .cons rfl rfl rfl ?_ ?_
   ·refine dv 1 ?_
    refine z7z w5w (l := [2, 4]) (by kernel_rfl) (by decide) ?_
    refine .cons rfl rfl rfl ?_ ?_
    ·refine a6e w5w (ks := p0p (l.take i)) (k := e) Tryz.underlying304 evF rfl rfl (fun _ _ _ h => a5t h) rfl (a1x (l.take i)) (b9n r3r rfl (l.take i) e) ?_
     refine dv 0 ?_
     refine z7z w5w (l := [3, 4]) (by kernel_rfl) (by decide) ?_
     refine .cons rfl rfl rfl ?_ ?_
     ·refine x7x (b := 1) rfl rfl (by omega) (dv 0 ?_)
      refine z7z w5w (l := [4]) (by kernel_rfl) (by decide) ?_
      refine .cons rfl rfl rfl ?_ ?_
      ·refine a5s w5w (es' := b6d (l.take i) e) (j := a3u (l.take i) e) (out := pI ((l.take i).count e : Nat)) (ks := p0p (l.take i)) (k := e) Tryz.underlying304 evF rfl rfl (fun _ _ _ h => a5t h) rfl (a1x _) (a4m r3r rfl _ _) ?_
       refine dv 0 ?_
       refine z7z w5w (l := [5]) (by kernel_rfl) (by decide) ?_
       refine .cons rfl rfl rfl ?_ ?_
       ·refine dv 1 ?_
        refine z7z w5w (l := [6]) (by kernel_rfl) (by decide) ?_
        refine .cons rfl rfl rfl ?_ ?_
        ·refine q9q (j := a3u (l.take i) e) rfl rfl rfl rfl (a1y _ _) (a2p _ _) ?_
         refine dv 0 ?_
         refine a2l (by kernel_rfl) ?_
         exact ⟨(), trivial, [], x6x, x6x, (HE.map rfl rfl HE.nil), x4x, rfl⟩
        exact .nil
       exact .nil
      exact .nil
     refine .cons rfl rfl rfl ?_ ?_
     ·refine a5s w5w (es' := b6d (l.take i) e) (j := a3u (l.take i) e) (out := pI ((l.take i).count e : Nat)) (ks := p0p (l.take i)) (k := e) Tryz.underlying304 evF rfl rfl (fun _ _ _ h => a5t h) rfl (a1x _) (a4m r3r rfl _ _) ?_
      refine dv 0 ?_
      refine z7z w5w (l := [3, 5]) (by kernel_rfl) (by decide) ?_
      refine .cons rfl rfl rfl ?_ ?_
      ·refine x7x (b := 1) rfl rfl (by omega) (dv 0 ?_)
       refine z7z w5w (l := [5]) (by kernel_rfl) (by decide) ?_
       refine .cons rfl rfl rfl ?_ ?_
       ·refine dv 1 ?_
        refine z7z w5w (l := [6]) (by kernel_rfl) (by decide) ?_
        refine .cons rfl rfl rfl ?_ ?_
        ·refine q9q (j := a3u (l.take i) e) rfl rfl rfl rfl (a1y _ _) (a2p _ _) ?_
         refine dv 0 ?_
         refine a2l (by kernel_rfl) ?_
         exact ⟨(), trivial, [], x6x, x6x, (HE.map rfl rfl HE.nil), x4x, rfl⟩
        exact .nil
       exact .nil
      refine .cons rfl rfl rfl ?_ ?_
      ·refine dv 1 ?_
       refine z7z w5w (l := [3]) (by kernel_rfl) (by decide) ?_
       refine .cons rfl rfl rfl ?_ ?_
       ·refine x7x (b := 1) rfl rfl (by omega) (dv 0 ?_)
        refine z7z w5w (l := [6]) (by kernel_rfl) (by decide) ?_
        refine .cons rfl rfl rfl ?_ ?_
        ·refine q9q (j := a3u (l.take i) e) rfl rfl rfl rfl (a1y _ _) (a2p _ _) ?_
         refine dv 0 ?_
         refine a2l (by kernel_rfl) ?_
         exact ⟨(), trivial, [], x6x, x6x, (HE.map rfl rfl HE.nil), x4x, rfl⟩
        exact .nil
       exact .nil
      exact .nil
     exact .nil
    refine .cons rfl rfl rfl ?_ ?_
    ·refine a5s w5w (es' := b6d (l.take i) e) (j := a3u (l.take i) e) (out := pI ((l.take i).count e : Nat)) (ks := p0p (l.take i)) (k := e) Tryz.underlying304 evF rfl rfl (fun _ _ _ h => a5t h) rfl (a1x _) (a4m r3r rfl _ _) ?_
     refine dv 0 ?_
     refine z7z w5w (l := [2, 5]) (by kernel_rfl) (by decide) ?_
     refine .cons rfl rfl rfl ?_ ?_
     ·refine a6e w5w (ks := e6v (l.take i) e) (k := e) Tryz.underlying304 evF rfl rfl (fun _ _ _ h => a5t h) rfl (b3y (l.take i) e) (b3z (l.take i) e) ?_
      refine dv 0 ?_
      refine z7z w5w (l := [3, 5]) (by kernel_rfl) (by decide) ?_
      refine .cons rfl rfl rfl ?_ ?_
      ·refine x7x (b := 1) rfl rfl (by omega) (dv 0 ?_)
       refine z7z w5w (l := [5]) (by kernel_rfl) (by decide) ?_
       refine .cons rfl rfl rfl ?_ ?_
       ·refine dv 1 ?_
        refine z7z w5w (l := [6]) (by kernel_rfl) (by decide) ?_
        refine .cons rfl rfl rfl ?_ ?_
        ·refine q9q (j := a3u (l.take i) e) rfl rfl rfl rfl (a1y _ _) (a2p _ _) ?_
         refine dv 0 ?_
         refine a2l (by kernel_rfl) ?_
         exact ⟨(), trivial, [], x6x, x6x, (HE.map rfl rfl HE.nil), x4x, rfl⟩
        exact .nil
       exact .nil
      refine .cons rfl rfl rfl ?_ ?_
      ·refine dv 1 ?_
       refine z7z w5w (l := [3]) (by kernel_rfl) (by decide) ?_
       refine .cons rfl rfl rfl ?_ ?_
       ·refine x7x (b := 1) rfl rfl (by omega) (dv 0 ?_)
        refine z7z w5w (l := [6]) (by kernel_rfl) (by decide) ?_
        refine .cons rfl rfl rfl ?_ ?_
        ·refine q9q (j := a3u (l.take i) e) rfl rfl rfl rfl (a1y _ _) (a2p _ _) ?_
         refine dv 0 ?_
         refine a2l (by kernel_rfl) ?_
         exact ⟨(), trivial, [], x6x, x6x, (HE.map rfl rfl HE.nil), x4x, rfl⟩
        exact .nil
       exact .nil
      exact .nil
     refine .cons rfl rfl rfl ?_ ?_
     ·refine dv 1 ?_
      refine z7z w5w (l := [2]) (by kernel_rfl) (by decide) ?_
      refine .cons rfl rfl rfl ?_ ?_
      ·refine a6e w5w (ks := e6v (l.take i) e) (k := e) Tryz.underlying304 evF rfl rfl (fun _ _ _ h => a5t h) rfl (b3y (l.take i) e) (b3z (l.take i) e) ?_
       refine dv 0 ?_
       refine z7z w5w (l := [3]) (by kernel_rfl) (by decide) ?_
       refine .cons rfl rfl rfl ?_ ?_
       ·refine x7x (b := 1) rfl rfl (by omega) (dv 0 ?_)
        refine z7z w5w (l := [6]) (by kernel_rfl) (by decide) ?_
        refine .cons rfl rfl rfl ?_ ?_
        ·refine q9q (j := a3u (l.take i) e) rfl rfl rfl rfl (a1y _ _) (a2p _ _) ?_
         refine dv 0 ?_
         refine a2l (by kernel_rfl) ?_
         exact ⟨(), trivial, [], x6x, x6x, (HE.map rfl rfl HE.nil), x4x, rfl⟩
        exact .nil
       exact .nil
      exact .nil
     exact .nil
    exact .nil
   exact .nil
  exact .nil
 ·try dsimp only [b2t, b2u]
  refine dv 3 ?_
  refine a6e w5w (ks := p0p (l.take i ++ [e])) (k := e) Tryz.underlying304 evF rfl rfl (fun _ _ _ h => a5t h) rfl (a1x (l.take i ++ [e])) (b9n r3r rfl (l.take i ++ [e]) e) ?_
  refine dc 1 (aS ?_ ?_)<;>intro hc5<;>try simp at hc5
  ·have hq : ¬ (l.take i ++ [e]).count e = 1 := by (have := hc5; simp at this ⊢; omega)
   refine dv 2 ?_
   refine x7x (b := 1) rfl rfl (by omega) (dv 1 ?_)
   exact ⟨i + 1, ⟨by omega, by omega⟩, [0, 0, 0, _, _, 0, 0, _], x6x, x6x, (HE.row rfl (by rw [z5z he, d3b hq]) (HE.box rfl rfl (HE.map rfl (by rw [z5z he]) (HE.kill rfl (HE.kill rfl HE.nil))))), x4x, rfl⟩
  have hq : (l.take i ++ [e]).count e = 1 := by (have := hc5; simp at this ⊢; omega)
  have hpl : (b4c a2g (p0p (l.take i))).length ≤ 1000000000 := by rw [b7h]; exact Nat.le_trans (b8r _) (by rw [List.length_take]; omega)
  refine dv 2 ?_
  refine rlM [1, 7] [_, _] (a6i _ e hpl) rfl rfl rfl ?_
  refine dv 1 ?_
  refine x7x (b := 1) rfl rfl (by omega) (dv 1 ?_)
  exact ⟨i + 1, ⟨by omega, by omega⟩, [0, 0, 0, _, _, 0, 0, _], x6x, x6x, (HE.row rfl (by rw [z5z he, d3a hq]) (HE.box rfl rfl (HE.map rfl (by rw [z5z he]) (HE.kill rfl (HE.kill rfl HE.nil))))), x4x, rfl⟩
end
section
theorem a2w (c : Bool) (a : Ev) (l : List Ev) (hl : (a :: l).length ≤ 10000000) : Meth Tryz.prog 245 1 [] [a0m c (a :: l)] [(0, (0, .dead))] (.ref 0 0) [(0, (0, .row 56 7 ((a :: l).map z1z)))] := by
 refine mX Tryz.f245 [.ref 0 0] 1 1 fun γ => ?_
 refine dv 5 fun K K' => ?_
 refine b8k rfl rfl (by (intro p q h; cases h)) (.inl rfl) (d9o Tryz.underlying47 _ _ (by simp)) ?_
 refine a0f rfl (fun hc2 => ?_) (fun hc2 => ?_)
 ·simp [a6u] at hc2
 try simp at hc2
 refine dv 2 ?_
 refine y1y (id := 0) v6v rfl z4z rfl (dv 1 ?_)
 refine w6w (zs := (a :: l).map z1z) rfl rfl v6v rfl z4z rfl rfl rfl (z8z (fun _ => rfl) _) rfl (by (simp only [a0b, r5r, s1s, s3s, a0t, T56] at *; omega)) ?_
 refine dv 2 ?_
 exact ⟨[_], rfl, rfl, x4x⟩
theorem a3e (c : Bool) : Meth Tryz.prog 245 1 [] [a0m c []] [(0, (0, .dead))] (.ref 0 0) [(0, (0, .row 56 7 (([] : List Ev).map z1z)))] := by
 refine mX Tryz.f245 [.ref 0 0] 1 1 fun γ => ?_
 refine d4f 0 rfl fun A0 cap hcap => ?_
 refine dv 5 fun K K' => ?_
 refine b8k rfl rfl (by (intro p q h h2; cases h; cases h2; rfl)) (.inl rfl) (c9g Tryz.underlying47 _ _ _ _ _) ?_
 refine dc 0 (aI ?_ ?_)<;>intro j<;>try simp at j
 ·refine dv 2 ?_
  refine a3h 2 0 56 7 rfl rfl (dv 1 ?_)
  exact ⟨[_], rfl, rfl, x4x⟩
 refine dv 1 ?_
 refine e7m 0 56 7 rfl hcap (dv 1 ?_)
 refine y1y (id := 0) v6v rfl z4z rfl (dv 1 ?_)
 refine w6w (zs := ([] : List Ev).map z1z) rfl rfl v6v rfl z4z rfl rfl rfl (by rfl) rfl (by (simp only [a0b, r5r, s1s, s3s, a0t, T56] at *; omega)) ?_
 refine dv 2 ?_
 exact ⟨[_], rfl, rfl, x4x⟩
theorem a0r (c : Bool) (l : List Ev) (hl : l.length ≤ 10000000) : Meth Tryz.prog 245 1 [] [a0m c l] [(0, (0, .dead))] (.ref 0 0) [(0, (0, .row 56 7 (l.map z1z)))] := by
 cases l with
 | nil => exact a3e c
 | cons a l => exact a2w c a l hl
theorem a3v (c : Bool) (a : Ou) (l : List Ou) (hl : (a :: l).length ≤ 10000000) : Meth Tryz.prog 152 1 [] [r8r c (a :: l)] [(0, (0, .dead))] (.ref 0 0) [(0, (0, .row 141 5 ((a :: l).map q5q)))] := by
 refine mX Tryz.f152 [.ref 0 0] 1 1 fun γ => ?_
 refine dv 5 fun K K' => ?_
 refine b8k rfl rfl (by (intro p q h; cases h)) (.inl rfl) (d9o Tryz.underlying29 _ _ (by simp)) ?_
 refine a0f rfl (fun hc2 => ?_) (fun hc2 => ?_)
 ·simp [a6u] at hc2
 try simp at hc2
 refine dv 2 ?_
 refine y1y (id := 0) a0c rfl v9v rfl (dv 1 ?_)
 refine w6w (zs := (a :: l).map q5q) rfl rfl a0c rfl v9v rfl rfl rfl (z8z (fun _ => rfl) _) rfl (by (simp only [a0b, r5r, s1s, s3s, a0t, T141] at *; omega)) ?_
 refine dv 2 ?_
 exact ⟨[_], rfl, rfl, x4x⟩
theorem a4f (c : Bool) : Meth Tryz.prog 152 1 [] [r8r c []] [(0, (0, .dead))] (.ref 0 0) [(0, (0, .row 141 5 (([] : List Ou).map q5q)))] := by
 refine mX Tryz.f152 [.ref 0 0] 1 1 fun γ => ?_
 refine d4f 0 rfl fun A0 cap hcap => ?_
 refine dv 5 fun K K' => ?_
 refine b8k rfl rfl (by (intro p q h h2; cases h; cases h2; rfl)) (.inl rfl) (c9g Tryz.underlying29 _ _ _ _ _) ?_
 refine dc 0 (aI ?_ ?_)<;>intro j<;>try simp at j
 ·refine dv 2 ?_
  refine a3h 2 0 141 5 rfl rfl (dv 1 ?_)
  exact ⟨[_], rfl, rfl, x4x⟩
 refine dv 1 ?_
 refine e7m 0 141 5 rfl hcap (dv 1 ?_)
 refine y1y (id := 0) a0c rfl v9v rfl (dv 1 ?_)
 refine w6w (zs := ([] : List Ou).map q5q) rfl rfl a0c rfl v9v rfl rfl rfl (by rfl) rfl (by (simp only [a0b, r5r, s1s, s3s, a0t, T56] at *; omega)) ?_
 refine dv 2 ?_
 exact ⟨[_], rfl, rfl, x4x⟩
theorem a5p (c : Bool) (l : List Ou) (hl : l.length ≤ 10000000) : Meth Tryz.prog 152 1 [] [r8r c l] [(0, (0, .dead))] (.ref 0 0) [(0, (0, .row 141 5 (l.map q5q)))] := by
 cases l with
 | nil => exact a4f c
 | cons a l => exact a3v c a l hl
end
section
theorem c8i (c : Bool) (n : Nd) (hl : n.lanes.length ≤ 1048576) : Meth Tryz.prog 158 1 [] [.agg (u1u c n)] [(0, (0, .dead))] (.agg [pI n.id, pI n.inc, pI n.g, pI n.led, .ref 0 0, a0m c n.kept, r8r c n.outs]) [(0, (0, .row 41 3 ((n.lanes).map fun l => a2b l.base)))] := by
 refine mX Tryz.f158 [.agg [pI n.id, pI n.inc, pI n.g, pI n.led, .ref 0 0, a0m c n.kept, r8r c n.outs]] 1 6 fun γ => ?_
 refine dv 1 ?_
 refine y3y (id := 1) rfl rfl rfl (x3x (id := 2) d3r d8s rfl (dv 13 ?_))
 refine rlB d3r d8s ?_
 refine x3x (id := 3) d3r d8s rfl (dv 8 fun K K' => ?_)
 refine a1d 3 4 0 41 3 rfl rfl rfl rfl rfl ?_
 refine x5x (ι := Nat) (fun i γ1 => [(22, pI (i : Int))]) (fun i γ1 => [(0, ((γ1 0), .row 41 3 ((n.lanes.take i).map fun l => a2b l.base))), (3, ((0 + 1), .box 160 [pI n.id, pI n.inc, pI n.g, pI n.led, .ref 0 (γ1 0), a0m c n.kept, r8r c n.outs])), (4, ((γ1 4), .dead)), (5, ((γ1 5), .dead)), (6, ((γ1 6), .dead))]) (fun i => i ≤ n.lanes.length) (fun i => n.lanes.length - i) (r2r [2, 3, 20, 21] rfl) (a1p [1, 2] rfl) 0 (by omega) [_, 0, 0, 0, _, _, _] x6x (HE.row rfl (by rw [List.take_zero]; rfl) (HE.box rfl rfl (HE.kill rfl (HE.kill rfl (HE.kill rfl HE.nil))))) rfl fun i γ1 hi => ?_
 refine dc 3 (fun K K' => aS ?_ ?_)<;>intro o<;>try simp at o
 ·obtain rfl : i = n.lanes.length := by omega
  refine dv 5 ?_
  exact ⟨[_], rfl, rfl, HE.row rfl (by rw [List.take_length]) HE.nil⟩
 obtain ⟨p, hp⟩ := gE n.lanes i
 refine dv 6 fun K K' => ?_
 refine x3x (id := 4) a0y a9m rfl (dv 5 ?_)
 refine y9y (out := .agg (a2b p.base)) rfl a7q rfl rfl ?_
 refine y5y (id := 5) d8p rfl a7q rfl rfl rfl rfl rfl rfl ?_
 refine y6y (zs := (n.lanes.take i ++ [p]).map fun l => a2b l.base) rfl rfl d8p rfl a7q rfl rfl rfl rfl (by rfl) (u0u _ _ _) (by (simp only [a0b, r5r, s1s, s3s, a0t, a3b, T41]; omega)) ?_
 refine dv 3 ?_
 refine u7u rfl rfl rfl (dv 1 ?_)
 exact ⟨i + 1, ⟨by omega, by omega⟩, [_, 0, 0, 0, _, _, _], (Cov.cons' (t := 22) rfl (by rw [x9x (by omega) (by omega)]; rfl) Cov.nil), x6x, (HE.row rfl (by rw [z5z hp]) (HE.box rfl rfl (HE.kill rfl (HE.kill rfl (HE.kill rfl HE.nil))))), x4x, rfl⟩
theorem c4n (c : Bool) (n : Nd) (hl : n.lanes.length ≤ 1048576) : Meth Tryz.prog 157 5 [0] [.agg [pI n.id, pI n.inc, pI n.g, pI n.led, .ref 0 0, a0m c n.kept, r8r c n.outs]] [(0, (0, .row 41 3 ((n.lanes).map fun l => a2b l.base))), (1, (0, .dead)), (2, (0, .dead)), (3, (0, .dead)), (4, (0, .dead))] (.ptr 4 0 0) [(4, (0, .box 164 [pI n.id, pI n.inc, pI n.g, pI n.led, .ref 0 0, a0m c n.kept, r8r c n.outs, .pv (.bool false), .ref 1 0, pI 0, .mp 2 0, .ref 3 0, pI 0, pI 41])), (1, (0, .row 42 1 ((n.lanes).map fun _ => [b3u c []]))), (2, (0, .map [])), (3, (0, .row 3 1 ([0, 0, 0].map a6j)))] := by
 refine mX Tryz.f157 [.ptr 4 0 0] 5 1 fun γ => ?_
 refine dv 1 ?_
 refine y3y (id := 5) rfl rfl rfl (dv 6 ?_)
 refine d8u (id := 1) c1e rfl a9l f5u rfl rfl rfl rfl (by (simp only [a0b, r5r, s1s, s3s, a0t, a3b, T42]; omega)) rfl ?_
 refine c5a (id := 2) rfl ?_
 refine d8u (n := 3) (id := 3) a0k rfl r3r f6p rfl rfl rfl rfl (by (simp only [a0b, r5r, s1s, s3s, a0t, a3b, T3]; omega)) rfl ?_
 refine rlB f2r f2w ?_
 refine y3y (id := 4) rfl rfl rfl (dv 1 ?_)
 refine b2d 1 (xs' := n.lanes.map fun _ => [.pv (.slice none 0 0)]) rfl (by simp [List.map_const', T42]) ?_
 refine c9l (f := fun _ => [.pv (.slice none 0 0)]) (f' := fun _ => [b3u c []]) (l := n.lanes) 1 rfl (fun _ => .le rfl .nil rfl .nil) ?_
 refine dv 1 ?_
 exact ⟨[γ 0, _, _, _, _], rfl, rfl, HE.box rfl rfl (HE.row rfl rfl (HE.map rfl rfl (HE.row rfl rfl (HE.same rfl HE.nil))))⟩
theorem b0z (c : Bool) (n : Nd) (hl : n.lanes.length ≤ 1048576) (hv : n.views.length ≤ 1048576) (hk3 : n.known.length = 3) : Meth Tryz.prog 125 5 [] [.agg (u1u c n)] [(0, (0, .dead)), (1, (0, .dead)), (2, (0, .dead)), (3, (0, .dead)), (4, (0, .dead))] (.ptr 4 0 0) [(0, (0, .row 41 3 ((n.lanes).map fun l => a2b l.base))), (1, (0, .row 42 1 ((n.lanes).map fun l => [b3u c l.done]))), (2, (0, .map (c0p c n.views))), (3, (0, .row 3 1 (n.known.map a6j))), (4, (0, .box 164 [pI n.id, pI n.inc, pI n.g, pI n.led, .ref 0 0, a0m c n.kept, r8r c n.outs, .pv (.bool n.up), .ref 1 0, pI n.version, .mp 2 0, .ref 3 0, pI n.round, pI n.low]))] := by
 refine a2s w5w (fn := Tryz.f125) (by kernel_rfl) (by kernel_rfl) rfl (O0 := [.ptr 4 0 0]) 5 3 (r9r rfl) (by rfl) (by repeat (first | exact BndH.nil | refine BndH.dead ?_ )) (by repeat (first | exact BndH.nil | refine BndH.box rfl ?_ | refine BndH.row (q0q fun _ => rfl) ?_ | refine BndH.map (a8b _ _) ?_ )) (by rfl) fun γ => ?_
 show Ex Tryz.prog _ _ [(0, .agg (u1u c n))] [(0, ((γ 0), .dead)), (1, ((γ 1), .dead)), (2, ((γ 2), .dead)), (3, ((γ 3), .dead)), (4, ((γ 4), .dead)), (7, (0, .dead)), (6, (0, .dead)), (5, (0, .dead))] _
 refine dv 1 ?_
 refine y3y (id := 5) rfl rfl rfl (dv 3 ?_)
 refine rlM [0] [_] (c8i c n hl) rfl rfl rfl ?_
 refine rlM [0, 1, 2, 3, 4] [_, _, _, _, _] (c4n c n hl) rfl rfl rfl ?_
 refine dv 8 fun K K' => ?_
 refine x5x (ι := Nat) (fun i γ1 => [(14, pI (i : Int))]) (fun i γ1 => [(1, ((γ 1 + 1), .row 42 1 ((n.lanes.take i).map (fun l => [b3u c l.done]) ++ (n.lanes.drop i).map fun _ => [b3u c []]))), (6, ((γ1 6), .dead))]) (fun i => i ≤ n.lanes.length) (fun i => n.lanes.length - i) (r2r [1, 3, 12, 13] rfl) (a1p [0, 2, 3, 4, 5, 7] rfl) 0 (by omega) [0, 0, 0, 0, 0, 0, _] x6x (HE.row rfl (by rw [List.take_zero, List.drop_zero]; rfl) (HE.kill rfl HE.nil)) rfl fun i γ1 hi => ?_
 refine dc 3 (fun K K' => aI ?_ ?_)<;>intro o<;>try simp at o
 ·obtain ⟨p, hp⟩ := gE n.lanes i
  have hAl : ((n.lanes.take i).map fun l => [b3u c l.done]).length = i := by rw [List.length_map, List.length_take]; omega
  rw [p2p hp, List.map_cons]
  refine dv 7 fun K K' => ?_
  refine x3x (id := 6) a0y a9m rfl (dv 10 ?_)
  refine c1l rfl rfl c1e rfl a9l rfl rfl hAl (d9m hAl rfl rfl a9l rfl rfl rfl rfl rfl rfl rfl rfl (dv 1 ?_))
  refine u7u rfl rfl rfl (dv 1 ?_)
  exact ⟨i + 1, ⟨by omega, by omega⟩, [0, 0, 0, 0, 0, 0, _], (Cov.cons' (t := 14) rfl (by rw [x9x (by omega) (by omega)]; rfl) Cov.nil), x6x, (HE.row rfl (by rw [z5z hp, List.map_append, List.append_assoc]; rfl) (HE.kill rfl HE.nil)), x4x, rfl⟩
 obtain rfl : i = n.lanes.length := by omega
 refine dv 8 fun K K' => ?_
 refine x5x (ι := Nat) (fun j γ2 => [(31, pI (j : Int))]) (fun j γ2 => [(2, ((γ 2 + 1), .map (c0p c (n.views.take j)))), (7, ((γ2 7), .dead))]) (fun j => j ≤ n.views.length) (fun j => n.views.length - j) (r2r [1, 3, 29, 30] rfl) (a1p [0, 1, 3, 4, 5, 6] rfl) 0 (by omega) [0, 0, 0, 0, 0, 0, 0, _] x6x (HE.map rfl (by rw [List.take_zero]; rfl) (HE.kill rfl HE.nil)) rfl fun j γ2 hi => ?_
 refine dc 3 (fun K K' => aI ?_ ?_)<;>intro o<;>try simp at o
 ·obtain ⟨q, hq⟩ := gE n.views j
  have hjl : (n.views.take j).length = j := by rw [List.length_take]; omega
  refine dv 7 fun K K' => ?_
  refine x3x (id := 7) a0d a9n rfl (dv 9 ?_)
  refine c9d (κ := Int) (enc := fun n => .int .i64 n) (ks := c4f j) (k := (j : Int)) (es' := c0p c (n.views.take j ++ [q])) Tryz.underlying162 (c8z Tryz.underlying3) rfl rfl rfl (fun _ _ _ h => f3h h) rfl (by rw [d0y, hjl]) (.inr ⟨e6m j, by rw [e3i, hjl]; try rfl⟩) ?_
  refine dv 1 ?_
  refine u7u rfl rfl rfl (dv 1 ?_)
  exact ⟨j + 1, ⟨by omega, by omega⟩, [0, 0, 0, 0, 0, 0, 0, _], (Cov.cons' (t := 31) rfl (by rw [x9x (by omega) (by omega)]; rfl) Cov.nil), x6x, (HE.map rfl (by rw [z5z hq]) (HE.kill rfl HE.nil)), x4x, rfl⟩
 obtain rfl : j = n.views.length := by omega
 refine dv 8 ?_
 refine e4p w5w (l := n.known) a0k rfl r3r rfl rfl rfl rfl (by rw [hk3]; rfl) ?_
 refine dv 29 ?_
 exact ⟨[_, _, _, _, _], rfl, rfl, HE.row rfl rfl (HE.row rfl (by rw [List.take_length, List.drop_length, List.map_nil, List.append_nil]) (HE.map rfl (by rw [List.take_length]) (HE.row rfl rfl (HE.box rfl rfl HE.nil))))⟩
end
section
theorem c0f (c : Bool) (n : Nd) (hs : (p7p n).length ≤ 5000000) (hlen : n.lanes.length ≤ 1048576) : Meth Tryz.prog 229 6 [0, 1, 2, 3, 4] [.ptr 4 0 0] [(0, (0, .row 41 3 ((n.lanes).map fun l => a2b l.base))), (1, (0, .row 42 1 ((n.lanes).map fun l => [b3u c l.done]))), (2, (0, .map (c0p c n.views))), (3, (0, .row 3 1 (n.known.map a6j))), (4, (0, .box 164 [pI n.id, pI n.inc, pI n.g, pI n.led, .ref 0 0, a0m c n.kept, r8r c n.outs, .pv (.bool n.up), .ref 1 0, pI n.version, .mp 2 0, .ref 3 0, pI n.round, pI n.low])), (5, (0, .dead))] (.ref 5 0) [(5, (0, .row 56 7 ((p7p n).map z1z)))] := by
 refine a2s w5w (fn := Tryz.f229) (by kernel_rfl) (by kernel_rfl) rfl (O0 := [.ref 5 0]) 6 2 (r9r rfl) (by rfl) (by repeat (first | exact BndH.nil | refine BndH.dead ?_ | refine BndH.box rfl ?_ | refine BndH.row (q0q fun _ => rfl) ?_ | refine BndH.map (a8b _ _) ?_ )) (by repeat (first | exact BndH.nil | refine BndH.row (q0q fun _ => rfl) ?_ )) (by rfl) fun γ => ?_
 show Ex Tryz.prog _ _ [(0, .ptr 4 (γ 4) 0)] [(0, ((γ 0), .row 41 3 ((n.lanes).map fun l => a2b l.base))), (1, ((γ 1), .row 42 1 ((n.lanes).map fun l => [b3u c l.done]))), (2, ((γ 2), .map (c0p c n.views))), (3, ((γ 3), .row 3 1 (n.known.map a6j))), (4, ((γ 4), .box 164 [pI n.id, pI n.inc, pI n.g, pI n.led, .ref 0 (γ 0), a0m c n.kept, r8r c n.outs, .pv (.bool n.up), .ref 1 (γ 1), pI n.version, .mp 2 (γ 2), .ref 3 (γ 3), pI n.round, pI n.low])), (5, ((γ 5), .dead)), (7, (0, .dead)), (6, (0, .dead))] _
 have hkl : n.kept.length ≤ 5000000 := by simp only [p7p, r5r] at hs; omega
 refine dv 8 ?_
 refine rlM [5] [_] (a0r c n.kept (by omega)) rfl rfl rfl ?_
 refine dv 10 fun K K' => ?_
 refine x5x (ι := Nat) (fun i γ1 => [(3, .ref 5 (γ1 5)), (19, pI (i : Int))]) (fun i γ1 => [(5, ((γ1 5), .row 56 7 ((n.kept ++ (n.lanes.take i).flatMap a4k).map z1z))), (6, ((γ1 6), .dead)), (7, ((γ1 7), .dead))]) (fun i => i ≤ n.lanes.length) (fun i => n.lanes.length - i) (r2r [17, 18] rfl) (a1p [0, 1, 2, 3, 4] rfl) 0 (by omega) [0, 0, 0, 0, 0, _, _, _] x6x (HE.row rfl (by simp) (HE.kill rfl (HE.kill rfl HE.nil))) rfl fun i γ1 hi => ?_
 refine dc 3 (fun K K' => aS ?_ ?_)<;>intro o<;>try simp at o
 ·obtain rfl : i = n.lanes.length := by omega
  refine dv 5 ?_
  exact ⟨[γ 0, γ 1, γ 2, γ 3, γ 4, _], rfl, rfl, HE.row rfl (by rw [List.take_length]; rfl) (a1p [0, 1, 2, 3, 4] rfl)⟩
 obtain ⟨p, hp⟩ := gE n.lanes i
 refine dv 4 fun K K' => ?_
 refine z0z (j := i) rfl rfl c1e rfl a9l rfl rfl (z2z hp) ?_
 refine dv 7 ?_
 refine u9u 23 rfl fun hlen2 => ?_
 refine x5x (ι := Nat) (fun j γ2 => [(3, .ref 5 (γ2 5)), (25, pI (j : Int))]) (fun j γ2 => [(5, ((γ2 5), .row 56 7 ((n.kept ++ (n.lanes.take i).flatMap a4k ++ (p.done.take j).flatMap Pa.sends).map z1z))), (6, ((γ2 6), .dead)), (7, ((γ2 7), .dead))]) (fun j => j ≤ p.done.length) (fun j => p.done.length - j) (r2r [17, 18, 19, 23, 24] rfl) (a1p [0, 1, 2, 3, 4] rfl) 0 (by omega) [0, 0, 0, 0, 0, _, _, _] x6x (HE.row rfl (by simp) (HE.kill rfl (HE.kill rfl HE.nil))) rfl fun j γ2 hi => ?_
 refine dc 3 (fun K K' => aS ?_ ?_)<;>intro o<;>try simp at o
 ·obtain rfl : j = p.done.length := by omega
  refine dv 2 ?_
  refine u7u rfl rfl rfl (dv 1 ?_)
  exact ⟨i + 1, ⟨by omega, by omega⟩, [0, 0, 0, 0, 0, _, _, _], (x8x 3 rfl (Cov.cons' (t := 19) rfl (by rw [x9x (by omega) (by omega)]; rfl) Cov.nil)), x6x, (HE.row rfl (by simp only [a2m hp, List.append_assoc, a4k, List.take_length]) (HE.kill rfl (HE.kill rfl HE.nil))), x4x, rfl⟩
 obtain ⟨q, hq⟩ := gE p.done j
 have hsp := c1x hp hq
 refine dv 6 fun K K' => ?_
 refine x3x (id := 6) a6m c3q rfl (dv 5 ?_)
 refine w6w (zs := (n.kept ++ (n.lanes.take i).flatMap a4k ++ (p.done.take j).flatMap Pa.sends ++ q.sends).map z1z) rfl rfl v6v rfl z4z rfl rfl rfl (z8z (fun _ => rfl) _) (a7s _ _ _) (by have hb56 : T56.bytes = 56 := rfl; rw [List.length_map, hb56]; omega) ?_
 refine dv 2 ?_
 refine u7u rfl rfl rfl (dv 1 ?_)
 exact ⟨j + 1, ⟨by omega, by omega⟩, [0, 0, 0, 0, 0, _, _, _], (x8x 3 rfl (Cov.cons' (t := 25) rfl (by rw [x9x (by omega) (by omega)]; rfl) Cov.nil)), (x8x 17 rfl (x8x 18 rfl (x8x 19 rfl (x8x 23 rfl (x8x 24 rfl Cov.nil))))), (HE.row rfl (by simp only [a2m hq, List.append_assoc]) (HE.kill rfl (HE.kill rfl HE.nil))), (w9w 0 rfl (w9w 1 rfl (w9w 2 rfl (w9w 3 rfl (w9w 4 rfl HE.nil))))), rfl⟩
theorem b7y (c : Bool) (n : Nd) (proc : Int) (e : Ev) : Meth Tryz.prog 231 7 [0, 1, 2, 3, 4, 5, 6] [.agg (z1z e), .ptr 5 0 0, .ptr 6 0 0] [(0, (0, .row 41 3 ((n.lanes).map fun l => a2b l.base))), (1, (0, .row 42 1 ((n.lanes).map fun l => [b3u c l.done]))), (2, (0, .map (c0p c n.views))), (3, (0, .row 3 1 (n.known.map a6j))), (4, (0, .box 164 [pI n.id, pI n.inc, pI n.g, pI n.led, .ref 0 0, a0m c n.kept, r8r c n.outs, .pv (.bool n.up), .ref 1 0, pI n.version, .mp 2 0, .ref 3 0, pI n.round, pI n.low])), (5, (0, .box 3 [pI proc])), (6, (0, .box 148 [.ptr 4 0 0]))] (.pv (.bool (a7v proc n.g e))) [] := by
 refine a2s w5w (fn := Tryz.f231) (by kernel_rfl) (by kernel_rfl) rfl (O0 := [.pv (.bool (a7v proc n.g e))]) 7 1 (r9r rfl) (by rfl) (by repeat (first | exact BndH.nil | refine BndH.box rfl ?_ | refine BndH.row (q0q fun _ => rfl) ?_ | refine BndH.map (a8b _ _) ?_ )) (by repeat (exact BndH.nil )) (by rfl) fun γ => ?_
 show Ex Tryz.prog _ _ [(0, .agg (z1z e)), (1, .ptr 5 (γ 5) 0), (2, .ptr 6 (γ 6) 0)] [(0, ((γ 0), .row 41 3 ((n.lanes).map fun l => a2b l.base))), (1, ((γ 1), .row 42 1 ((n.lanes).map fun l => [b3u c l.done]))), (2, ((γ 2), .map (c0p c n.views))), (3, ((γ 3), .row 3 1 (n.known.map a6j))), (4, ((γ 4), .box 164 [pI n.id, pI n.inc, pI n.g, pI n.led, .ref 0 (γ 0), a0m c n.kept, r8r c n.outs, .pv (.bool n.up), .ref 1 (γ 1), pI n.version, .mp 2 (γ 2), .ref 3 (γ 3), pI n.round, pI n.low])), (5, ((γ 5), .box 3 [pI proc])), (6, ((γ 6), .box 148 [.ptr 4 (γ 4) 0])), (7, (0, .dead))] _
 refine dv 1 ?_
 refine y3y (id := 7) rfl rfl rfl (dc 7 (aS ?_ ?_))<;>intro o<;>try simp at o
 ·refine dv 10 ?_
  exact ⟨[γ 0, γ 1, γ 2, γ 3, γ 4, γ 5, γ 6], rfl, congrArg (fun b : Bool => some [AV.pv (.bool b)]) ((decide_eq_false (by omega)).symm), x4x⟩
 refine dv 11 ?_
 exact ⟨[γ 0, γ 1, γ 2, γ 3, γ 4, γ 5, γ 6], rfl, congrArg (fun b : Bool => some [AV.pv (.bool b)]) (by exact decide_eq_decide.2 (by omega)), (w9w 0 rfl (w9w 1 rfl (w9w 2 rfl (w9w 3 rfl (w9w 4 rfl (w9w 5 rfl (w9w 6 rfl HE.nil)))))))⟩
theorem a8f (c : Bool) (n : Nd) (proc : Int) (l : List Ev) (hl : l.length ≤ 10000000) : Meth Tryz.prog 230 7 [0, 1, 2, 3, 4, 5, 6] [a0m true l, .fn (.func 231) [] [.ptr 5 0 0, .ptr 6 0 0]] [(0, (0, .row 41 3 ((n.lanes).map fun l => a2b l.base))), (1, (0, .row 42 1 ((n.lanes).map fun l => [b3u c l.done]))), (2, (0, .map (c0p c n.views))), (3, (0, .row 3 1 (n.known.map a6j))), (4, (0, .box 164 [pI n.id, pI n.inc, pI n.g, pI n.led, .ref 0 0, a0m c n.kept, r8r c n.outs, .pv (.bool n.up), .ref 1 0, pI n.version, .mp 2 0, .ref 3 0, pI n.round, pI n.low])), (5, (0, .box 3 [pI proc])), (6, (0, .box 148 [.ptr 4 0 0]))] (a0m true (l.filter (a7v proc n.g))) [] := by
 refine a2s w5w (fn := Tryz.f230) (by kernel_rfl) (by kernel_rfl) rfl (O0 := [a0m true (l.filter (a7v proc n.g))]) 7 4 (r9r rfl) (by rfl) (by repeat (first | exact BndH.nil | refine BndH.box rfl ?_ | refine BndH.row (q0q fun _ => rfl) ?_ | refine BndH.map (a8b _ _) ?_ )) (by repeat (exact BndH.nil )) (by rfl) fun γ => ?_
 show Ex Tryz.prog _ _ [(0, a0m true l), (1, .fn (.func 231) [] [.ptr 5 (γ 5) 0, .ptr 6 (γ 6) 0])] [(0, ((γ 0), .row 41 3 ((n.lanes).map fun l => a2b l.base))), (1, ((γ 1), .row 42 1 ((n.lanes).map fun l => [b3u c l.done]))), (2, ((γ 2), .map (c0p c n.views))), (3, ((γ 3), .row 3 1 (n.known.map a6j))), (4, ((γ 4), .box 164 [pI n.id, pI n.inc, pI n.g, pI n.led, .ref 0 (γ 0), a0m c n.kept, r8r c n.outs, .pv (.bool n.up), .ref 1 (γ 1), pI n.version, .mp 2 (γ 2), .ref 3 (γ 3), pI n.round, pI n.low])), (5, ((γ 5), .box 3 [pI proc])), (6, ((γ 6), .box 148 [.ptr 4 (γ 4) 0])), (10, (0, .dead)), (9, (0, .dead)), (8, (0, .dead)), (7, (0, .dead))] _
 refine dv 10 fun K K' => ?_
 refine a3h 5 10 56 7 rfl rfl ?_
 refine x5x (ι := Nat) (fun i γ1 => [(5, .ref 10 (γ1 10)), (10, pI (i : Int))]) (fun i γ1 => [(10, ((γ1 10), .row 56 7 (((l.take i).filter (a7v proc n.g)).map z1z))), (7, ((γ1 7), .dead)), (8, ((γ1 8), .dead)), (9, ((γ1 9), .dead))]) (fun i => i ≤ l.length) (fun i => l.length - i) (r2r [1, 8, 9] rfl) (a1p [0, 1, 2, 3, 4, 5, 6] rfl) 0 (by omega) [0, 0, 0, 0, 0, 0, 0, _, _, _, _] x6x (HE.row rfl (by rw [List.take_zero]; rfl) (HE.kill rfl (HE.kill rfl (HE.kill rfl HE.nil)))) rfl fun i γ1 hi => ?_
 refine dc 3 (fun K K' => aS ?_ ?_)<;>intro o<;>try simp at o
 ·obtain rfl : i = l.length := by omega
  rw [List.take_length]
  refine dv 1 ?_
  refine r6r 5 rfl rfl (fun _ => rfl) ?_
  refine dv 4 ?_
  exact ⟨[γ 0, γ 1, γ 2, γ 3, γ 4, γ 5, γ 6], rfl, rfl, x4x⟩
 obtain ⟨p, hp⟩ := gE l i
 have hfl : ((l.take i).filter (a7v proc n.g)).length ≤ 10000000 := Nat.le_trans (List.length_filter_le _ _) (by rw [List.length_take]; omega)
 refine dv 6 fun K K' => ?_
 refine x3x (id := 7) z4z a8g rfl (dv 4 ?_)
 refine rlM [0, 1, 2, 3, 4, 5, 6] [_, _, _, _, _, _, _] (b7y c n proc p) rfl rfl rfl ?_
 refine dc 0 (aS ?_ ?_)<;>intro hc5<;>try simp at hc5
 ·have hw : ¬ a7v proc n.g p = true := by rw [hc5]; decide
  refine dv 2 ?_
  refine u7u rfl rfl rfl (dv 1 ?_)
  exact ⟨i + 1, ⟨by omega, by omega⟩, [0, 0, 0, 0, 0, 0, 0, _, _, _, _], (x8x 5 rfl (Cov.cons' (t := 10) rfl (by rw [x9x (by omega) (by omega)]; rfl) Cov.nil)), x6x, (HE.row rfl (by rw [r7r hp]; rw [if_neg hw, List.append_nil]) (HE.kill rfl (HE.kill rfl (HE.kill rfl HE.nil)))), x4x, rfl⟩
 have hw : a7v proc n.g p = true := hc5
 refine dv 3 ?_
 refine y5y (id := 8) v6v rfl z4z rfl rfl rfl rfl rfl rfl ?_
 refine y6y (zs := ((l.take i).filter (a7v proc n.g) ++ [p]).map z1z) rfl rfl v6v rfl z4z rfl rfl rfl rfl (by rfl) (u0u _ _ _) (by (simp only [a0b, r5r, s1s, s3s, a0t, a3b, T56]; omega)) ?_
 refine dv 2 ?_
 refine u7u rfl rfl rfl (dv 1 ?_)
 exact ⟨i + 1, ⟨by omega, by omega⟩, [0, 0, 0, 0, 0, 0, 0, _, _, _, _], (x8x 5 rfl (Cov.cons' (t := 10) rfl (by rw [x9x (by omega) (by omega)]; rfl) Cov.nil)), (x8x 1 rfl (x8x 8 rfl (x8x 9 rfl Cov.nil))), (HE.row rfl (by rw [r7r hp]; rw [if_pos hw]) (HE.kill rfl (HE.kill rfl (HE.kill rfl HE.nil)))), (w9w 0 rfl (w9w 1 rfl (w9w 2 rfl (w9w 3 rfl (w9w 4 rfl (w9w 5 rfl (w9w 6 rfl HE.nil))))))), rfl⟩
theorem c0g (c : Bool) (n : Nd) (proc : Int) (hs : (p7p n).length + (s4s n 3).length ≤ 5000000) (hlen : n.lanes.length ≤ 1048576) (hv3 : n.views.length = 3) : Meth Tryz.prog 126 6 [0, 1, 2, 3, 4] [.ptr 4 0 0, .pv (.int .i64 proc)] [(0, (0, .row 41 3 ((n.lanes).map fun l => a2b l.base))), (1, (0, .row 42 1 ((n.lanes).map fun l => [b3u c l.done]))), (2, (0, .map (c0p c n.views))), (3, (0, .row 3 1 (n.known.map a6j))), (4, (0, .box 164 [pI n.id, pI n.inc, pI n.g, pI n.led, .ref 0 0, a0m c n.kept, r8r c n.outs, .pv (.bool n.up), .ref 1 0, pI n.version, .mp 2 0, .ref 3 0, pI n.round, pI n.low])), (5, (0, .dead))] (.ref 5 0) [(5, (0, .row 56 7 ((a1k n proc).map z1z)))] := by
 refine a2s w5w (fn := Tryz.f126) (by kernel_rfl) (by kernel_rfl) rfl (O0 := [.ref 5 0]) 6 4 (r9r rfl) (by rfl) (by repeat (first | exact BndH.nil | refine BndH.dead ?_ | refine BndH.box rfl ?_ | refine BndH.row (q0q fun _ => rfl) ?_ | refine BndH.map (a8b _ _) ?_ )) (by repeat (first | exact BndH.nil | refine BndH.row (q0q fun _ => rfl) ?_ )) (by rfl) fun γ => ?_
 show Ex Tryz.prog _ _ [(0, .ptr 4 (γ 4) 0), (1, .pv (.int .i64 proc))] [(0, ((γ 0), .row 41 3 ((n.lanes).map fun l => a2b l.base))), (1, ((γ 1), .row 42 1 ((n.lanes).map fun l => [b3u c l.done]))), (2, ((γ 2), .map (c0p c n.views))), (3, ((γ 3), .row 3 1 (n.known.map a6j))), (4, ((γ 4), .box 164 [pI n.id, pI n.inc, pI n.g, pI n.led, .ref 0 (γ 0), a0m c n.kept, r8r c n.outs, .pv (.bool n.up), .ref 1 (γ 1), pI n.version, .mp 2 (γ 2), .ref 3 (γ 3), pI n.round, pI n.low])), (5, ((γ 5), .dead)), (9, (0, .dead)), (8, (0, .dead)), (7, (0, .dead)), (6, (0, .dead))] _
 refine dv 1 ?_
 refine d1u (id := 6) rfl rfl rfl rfl (d1u (id := 7) rfl rfl rfl rfl (dv 3 ?_))
 refine rlM [0, 1, 2, 3, 4, 9] [_, _, _, _, _, _] (c0f c n (by omega) hlen) rfl rfl rfl ?_
 refine dv 5 fun K K' => ?_
 refine x5x (ι := Nat) (fun i γ1 => [(5, .ref 9 (γ1 9)), (9, pI (i : Int))]) (fun i γ1 => [(9, ((γ1 9), .row 56 7 ((p7p n ++ s4s n i).map z1z))), (8, ((γ1 8), .dead))]) (fun i => i ≤ 3) (fun i => 3 - i) (r2r [2, 3] rfl) (a1p [0, 1, 2, 3, 4, 5, 6, 7] rfl) 0 (by omega) [0, 0, 0, 0, 0, 0, 0, 0, _, _] x6x (HE.row rfl (by simp [s4s]) (HE.kill rfl HE.nil)) rfl fun i γ1 hi => ?_
 refine dc 3 (fun K K' => aS ?_ ?_)<;>intro o<;>try simp at o
 ·obtain rfl : i = 3 := by omega
  refine dv 1 ?_
  refine r6r 5 rfl rfl (fun _ => rfl) ?_
  refine dv 2 ?_
  refine c1m rfl rfl ?_
  refine rlM [0, 1, 2, 3, 4, 7, 6] [_, _, _, _, _, _, _] (a8f c n proc _ (by rw [List.length_append]; omega)) rfl rfl rfl ?_
  refine rlM [5] [_] (b1l true _ (Nat.le_trans (List.length_filter_le _ _) (by rw [List.length_append]; omega))) rfl rfl rfl ?_
  refine dv 2 ?_
  exact ⟨[γ 0, γ 1, γ 2, γ 3, γ 4, _], rfl, rfl, x4x⟩
 obtain ⟨v, hv⟩ := gE n.views i
 have hg : n.views.getD i vi0 = v := by rw [List.getD_eq_getElem?_getD, hv]; rfl
 have hol := c9s n (i := i + 1) (by omega)
 rw [a2j] at hol
 refine dc 14 (fun K K' => aS ?_ ?_)<;>intro hc5<;>try simp at hc5
 ·have hve : b2g n i = [] := by rw [b2g, if_pos hc5]
  refine dv 2 ?_
  refine u7u rfl rfl rfl (dv 1 ?_)
  exact ⟨i + 1, ⟨by omega, by omega⟩, [0, 0, 0, 0, 0, 0, 0, 0, _, _], (x8x 5 rfl (Cov.cons' (t := 9) rfl (by rw [x9x (by omega) (by omega)]; rfl) Cov.nil)), x6x, (HE.row rfl (by rw [a2j, hve]; simp) (HE.kill rfl HE.nil)), x4x, rfl⟩
 have hve : b2g n i = v.events := by rw [b2g, if_neg hc5, hg]
 rw [hve] at hol
 simp only [r5r] at hol
 refine dv 7 ?_
 refine a6e (κ := Int) (enc := fun n => .int .i64 n) (ks := c4f n.views.length) (k := (i : Int)) (out := .agg (a4b c v)) w5w Tryz.underlying162 (c8z Tryz.underlying3) rfl rfl (fun _ _ _ h => f3h h) rfl (d0y _ _) (e3j hv) ?_
 refine dv 1 ?_
 refine w6w (zs := (p7p n ++ s4s n i ++ v.events).map z1z) rfl rfl v6v rfl z4z rfl rfl rfl (z8z (fun _ => rfl) _) (a7s _ _ _) (by have hb56 : T56.bytes = 56 := rfl; rw [List.length_map, hb56]; simp only [r5r]; omega) ?_
 refine dv 2 ?_
 refine u7u rfl rfl rfl (dv 1 ?_)
 exact ⟨i + 1, ⟨by omega, by omega⟩, [0, 0, 0, 0, 0, 0, 0, 0, _, _], (x8x 5 rfl (Cov.cons' (t := 9) rfl (by rw [x9x (by omega) (by omega)]; rfl) Cov.nil)), x6x, (HE.row rfl (by rw [a2j, hve]; simp) (HE.kill rfl HE.nil)), x4x, rfl⟩
end
section
theorem b7z (c : Bool) (n : Nd) (hs : (p7p n).length ≤ 5000000) (hlen : n.lanes.length ≤ 1048576) : Meth Tryz.prog 229 6 [0, 1, 2, 3, 4] [.ptr 4 0 0] [(0, (0, .row 41 3 ((n.lanes).map fun l => a2b l.base))), (1, (0, .row 42 1 ((n.lanes).map fun l => [b3u c l.done]))), (2, (0, .map (c0p c n.views))), (3, (0, .row 3 1 (n.known.map a6j))), (4, (0, .box 164 [pI n.id, pI n.inc, pI n.g, pI n.led, .ref 0 0, a0m c n.kept, r8r c n.outs, .pv (.bool n.up), .ref 1 0, pI n.version, .mp 2 0, .ref 3 0, pI n.round, pI n.low])), (5, (0, .dead))] (a0m true (p7p n)) [(5, (0, .dead))] := by
 refine a2s w5w (fn := Tryz.f229) (by kernel_rfl) (by kernel_rfl) rfl (O0 := [a0m true (p7p n)]) 6 2 (r9r rfl) (by rfl) (by repeat (first | exact BndH.nil | refine BndH.dead ?_ | refine BndH.box rfl ?_ | refine BndH.row (q0q fun _ => rfl) ?_ | refine BndH.map (a8b _ _) ?_ )) (by repeat (first | exact BndH.nil | refine BndH.dead ?_ )) (by rfl) fun γ => ?_
 show Ex Tryz.prog _ _ [(0, .ptr 4 (γ 4) 0)] [(0, ((γ 0), .row 41 3 ((n.lanes).map fun l => a2b l.base))), (1, ((γ 1), .row 42 1 ((n.lanes).map fun l => [b3u c l.done]))), (2, ((γ 2), .map (c0p c n.views))), (3, ((γ 3), .row 3 1 (n.known.map a6j))), (4, ((γ 4), .box 164 [pI n.id, pI n.inc, pI n.g, pI n.led, .ref 0 (γ 0), a0m c n.kept, r8r c n.outs, .pv (.bool n.up), .ref 1 (γ 1), pI n.version, .mp 2 (γ 2), .ref 3 (γ 3), pI n.round, pI n.low])), (5, ((γ 5), .dead)), (7, (0, .dead)), (6, (0, .dead))] _
 have hkl : n.kept.length ≤ 5000000 := by simp only [p7p, r5r] at hs; omega
 refine dv 8 ?_
 refine rlM [5] [_] (a0r c n.kept (by omega)) rfl rfl rfl ?_
 refine dv 10 fun K K' => ?_
 refine x5x (ι := Nat) (fun i γ1 => [(3, .ref 5 (γ1 5)), (19, pI (i : Int))]) (fun i γ1 => [(5, ((γ1 5), .row 56 7 ((n.kept ++ (n.lanes.take i).flatMap a4k).map z1z))), (6, ((γ1 6), .dead)), (7, ((γ1 7), .dead))]) (fun i => i ≤ n.lanes.length) (fun i => n.lanes.length - i) (r2r [17, 18] rfl) (a1p [0, 1, 2, 3, 4] rfl) 0 (by omega) [0, 0, 0, 0, 0, _, _, _] x6x (HE.row rfl (by simp) (HE.kill rfl (HE.kill rfl HE.nil))) rfl fun i γ1 hi => ?_
 refine dc 3 (fun K K' => aS ?_ ?_)<;>intro h<;>try simp at h
 ·obtain rfl : i = n.lanes.length := by omega
  refine dv 4 ?_
  refine r6r 2 rfl rfl (fun _ => rfl) ?_
  refine dv 1 ?_
  exact ⟨[γ 0, γ 1, γ 2, γ 3, γ 4, _], rfl, congrArg (fun l : List Ev => some [a0m true l]) (by rw [List.take_length]; rfl), x4x⟩
 obtain ⟨p, hp⟩ := gE n.lanes i
 refine dv 4 fun K K' => ?_
 refine z0z (j := i) rfl rfl c1e rfl a9l rfl rfl (z2z hp) ?_
 refine dv 7 ?_
 refine u9u 23 rfl fun hlen2 => ?_
 refine x5x (ι := Nat) (fun j γ2 => [(3, .ref 5 (γ2 5)), (25, pI (j : Int))]) (fun j γ2 => [(5, ((γ2 5), .row 56 7 ((n.kept ++ (n.lanes.take i).flatMap a4k ++ (p.done.take j).flatMap Pa.sends).map z1z))), (6, ((γ2 6), .dead)), (7, ((γ2 7), .dead))]) (fun j => j ≤ p.done.length) (fun j => p.done.length - j) (r2r [17, 18, 19, 23, 24] rfl) (a1p [0, 1, 2, 3, 4] rfl) 0 (by omega) [0, 0, 0, 0, 0, _, _, _] x6x (HE.row rfl (by simp) (HE.kill rfl (HE.kill rfl HE.nil))) rfl fun j γ2 hi => ?_
 refine dc 3 (fun K K' => aS ?_ ?_)<;>intro h<;>try simp at h
 ·obtain rfl : j = p.done.length := by omega
  refine dv 2 ?_
  refine u7u rfl rfl rfl (dv 1 ?_)
  exact ⟨i + 1, ⟨by omega, by omega⟩, [0, 0, 0, 0, 0, _, _, _], (x8x 3 rfl (Cov.cons' (t := 19) rfl (by rw [x9x (by omega) (by omega)]; rfl) Cov.nil)), x6x, (HE.row rfl (by simp only [a2m hp, List.append_assoc, a4k, List.take_length]) (HE.kill rfl (HE.kill rfl HE.nil))), x4x, rfl⟩
 obtain ⟨q, hq⟩ := gE p.done j
 have hsp := c1x hp hq
 refine dv 6 fun K K' => ?_
 refine x3x (id := 6) a6m c3q rfl (dv 5 ?_)
 refine w6w (zs := (n.kept ++ (n.lanes.take i).flatMap a4k ++ (p.done.take j).flatMap Pa.sends ++ q.sends).map z1z) rfl rfl v6v rfl z4z rfl rfl rfl (z8z (fun _ => rfl) _) (a7s _ _ _) (by have hb56 : T56.bytes = 56 := rfl; rw [List.length_map, hb56]; omega) ?_
 refine dv 2 ?_
 refine u7u rfl rfl rfl (dv 1 ?_)
 exact ⟨j + 1, ⟨by omega, by omega⟩, [0, 0, 0, 0, 0, _, _, _], (x8x 3 rfl (Cov.cons' (t := 25) rfl (by rw [x9x (by omega) (by omega)]; rfl) Cov.nil)), x6x, (HE.row rfl (by simp only [a2m hq, List.append_assoc]) (HE.kill rfl (HE.kill rfl HE.nil))), x4x, rfl⟩
theorem b6e (to kn : Int) (e : Ev) : Meth Tryz.prog 240 2 [0, 1] [.agg (z1z e), .ptr 0 0 0, .ptr 1 0 0] [(0, (0, .box 3 [pI to])), (1, (0, .box 3 [pI kn]))] (.pv (.bool (a7b to kn e))) [] := by
 refine mX Tryz.f240 [.pv (.bool (a7b to kn e))] 2 1 fun γ => ?_
 refine dv 1 ?_
 refine y3y (id := 2) rfl rfl rfl (dv 4 ?_)
 refine x0x rfl rfl rfl (b7t ..) (dc 3 (aS ?_ ?_))<;>intro h<;>try simp at h
 ·refine dv 6 ?_
  exact ⟨[γ 0, γ 1], rfl, congrArg (fun b : Bool => some [AV.pv (.bool b)]) ((decide_eq_false (by omega)).symm), x4x⟩
 refine dv 7 ?_
 exact ⟨[γ 0, γ 1], rfl, congrArg (fun b : Bool => some [AV.pv (.bool b)]) (decide_eq_decide.2 (by omega)), x4x⟩
theorem a7i (to kn : Int) (l : List Ev) (hl : l.length ≤ 10000000) : Meth Tryz.prog 230 2 [0, 1] [a0m true l, .fn (.func 240) [] [.ptr 0 0 0, .ptr 1 0 0]] [(0, (0, .box 3 [pI to])), (1, (0, .box 3 [pI kn]))] (a0m true (l.filter (a7b to kn))) [] := by
 refine mX Tryz.f230 [a0m true (l.filter (a7b to kn))] 2 4 fun γ => ?_
 refine dv 10 fun K K' => ?_
 refine a3h 5 5 56 7 rfl rfl ?_
 refine x5x (ι := Nat) (fun i γ1 => [(5, .ref 5 (γ1 5)), (10, pI (i : Int))]) (fun i γ1 => [(5, ((γ1 5), .row 56 7 (((l.take i).filter (a7b to kn)).map z1z))), (2, ((γ1 2), .dead)), (3, ((γ1 3), .dead)), (4, ((γ1 4), .dead))]) (fun i => i ≤ l.length) (fun i => l.length - i) (r2r [1, 8, 9] rfl) (a1p [0, 1] rfl) 0 (by omega) [0, 0, _, _, _, _] x6x (HE.row rfl (by rw [List.take_zero]; rfl) (HE.kill rfl (HE.kill rfl (HE.kill rfl HE.nil)))) rfl fun i γ1 hi => ?_
 refine dc 3 (fun K K' => aS ?_ ?_)<;>intro h<;>try simp at h
 ·obtain rfl : i = l.length := by omega
  rw [List.take_length]
  refine dv 1 ?_
  refine r6r 5 rfl rfl (fun _ => rfl) ?_
  refine dv 4 ?_
  exact ⟨[γ 0, γ 1], rfl, rfl, x4x⟩
 obtain ⟨p, hp⟩ := gE l i
 have hfl : ((l.take i).filter (a7b to kn)).length ≤ 10000000 := Nat.le_trans (List.length_filter_le _ _) (by rw [List.length_take]; omega)
 refine dv 6 fun K K' => ?_
 refine x3x (id := 2) z4z a8g rfl (dv 4 ?_)
 refine rlM [0, 1] [_, _] (b6e to kn p) rfl rfl rfl ?_
 refine dc 0 (aS ?_ ?_)<;>intro hc5<;>try simp at hc5
 ·have hw : ¬ a7b to kn p = true := by rw [hc5]; decide
  refine dv 2 ?_
  refine u7u rfl rfl rfl (dv 1 ?_)
  exact ⟨i + 1, ⟨by omega, by omega⟩, [0, 0, _, _, _, _], (x8x 5 rfl (Cov.cons' (t := 10) rfl (by rw [x9x (by omega) (by omega)]; rfl) Cov.nil)), x6x, (HE.row rfl (by rw [r7r hp]; rw [if_neg hw, List.append_nil]) (HE.kill rfl (HE.kill rfl (HE.kill rfl HE.nil)))), x4x, rfl⟩
 have hw : a7b to kn p = true := hc5
 refine dv 3 ?_
 refine y5y (id := 3) v6v rfl z4z rfl rfl rfl rfl rfl rfl ?_
 refine y6y (zs := ((l.take i).filter (a7b to kn) ++ [p]).map z1z) rfl rfl v6v rfl z4z rfl rfl rfl rfl (by rfl) (u0u _ _ _) (by (simp only [a0b, r5r, s1s, s3s, a0t, a3b, T56] at *; omega)) ?_
 refine dv 2 ?_
 refine u7u rfl rfl rfl (dv 1 ?_)
 exact ⟨i + 1, ⟨by omega, by omega⟩, [0, 0, _, _, _, _], (x8x 5 rfl (Cov.cons' (t := 10) rfl (by rw [x9x (by omega) (by omega)]; rfl) Cov.nil)), (x8x 1 rfl (x8x 8 rfl (x8x 9 rfl Cov.nil))), (HE.row rfl (by rw [r7r hp]; rw [if_pos hw]) (HE.kill rfl (HE.kill rfl (HE.kill rfl HE.nil)))), (w9w 0 rfl (w9w 1 rfl HE.nil)), rfl⟩
theorem b0e (c : Bool) (n : Nd) (t : Nat) (ht : t < 3) (hk3 : n.known.length = 3) (hs : (p7p n).length ≤ 5000000) (hlen : n.lanes.length ≤ 1048576) : Meth Tryz.prog 138 6 [0, 1, 2, 3, 4] [.ptr 4 0 0, .pv (.int .i64 (t : Int))] [(0, (0, .row 41 3 ((n.lanes).map fun l => a2b l.base))), (1, (0, .row 42 1 ((n.lanes).map fun l => [b3u c l.done]))), (2, (0, .map (c0p c n.views))), (3, (0, .row 3 1 (n.known.map a6j))), (4, (0, .box 164 [pI n.id, pI n.inc, pI n.g, pI n.led, .ref 0 0, a0m c n.kept, r8r c n.outs, .pv (.bool n.up), .ref 1 0, pI n.version, .mp 2 0, .ref 3 0, pI n.round, pI n.low])), (5, (0, .dead))] (.ref 5 0) [(5, (0, .row 56 7 ((a1l n (t : Int)).map z1z)))] := by
 refine a2s w5w (fn := Tryz.f138) (by kernel_rfl) (by kernel_rfl) rfl (O0 := [.ref 5 0]) 6 3 (r9r rfl) (by rfl) (by repeat (first | exact BndH.nil | refine BndH.dead ?_ | refine BndH.box rfl ?_ | refine BndH.row (q0q fun _ => rfl) ?_ | refine BndH.map (a8b _ _) ?_ )) (by repeat (first | exact BndH.nil | refine BndH.row (q0q fun _ => rfl) ?_ )) (by rfl) fun γ => ?_
 show Ex Tryz.prog _ _ [(0, .ptr 4 (γ 4) 0), (1, .pv (.int .i64 (t : Int)))] [(0, ((γ 0), .row 41 3 ((n.lanes).map fun l => a2b l.base))), (1, ((γ 1), .row 42 1 ((n.lanes).map fun l => [b3u c l.done]))), (2, ((γ 2), .map (c0p c n.views))), (3, ((γ 3), .row 3 1 (n.known.map a6j))), (4, ((γ 4), .box 164 [pI n.id, pI n.inc, pI n.g, pI n.led, .ref 0 (γ 0), a0m c n.kept, r8r c n.outs, .pv (.bool n.up), .ref 1 (γ 1), pI n.version, .mp 2 (γ 2), .ref 3 (γ 3), pI n.round, pI n.low])), (5, ((γ 5), .dead)), (8, (0, .dead)), (7, (0, .dead)), (6, (0, .dead))] _
 obtain ⟨kn, hkn⟩ := gE n.known t
 refine dv 1 ?_
 refine d1u (id := 6) rfl rfl rfl rfl (dv 7 ?_)
 refine z0z (j := t) rfl rfl a0k rfl r3r rfl rfl (z2z hkn) ?_
 refine dv 1 ?_
 refine x3x (id := 7) r3r f6p rfl (dv 3 ?_)
 refine rlM [0, 1, 2, 3, 4, 8] [_, _, _, _, _, _] (b7z c n hs hlen) rfl rfl rfl ?_
 refine c1m rfl rfl ?_
 refine rlM [6, 7] [_, _] (a7i (t : Int) kn _ (by omega)) rfl rfl rfl ?_
 refine rlM [5] [_] (b1l true _ (Nat.le_trans (List.length_filter_le _ _) (by omega))) rfl rfl rfl ?_
 refine dv 2 ?_
 exact ⟨[γ 0, γ 1, γ 2, γ 3, γ 4, _], rfl, rfl, HE.row rfl (by rw [d0a hkn]) (a1p [0, 1, 2, 3, 4] rfl)⟩
end
section
theorem c0h (c : Bool) (p : Pa) (ps : List Pa) : Meth Tryz.prog 236 1 [0] [.ptr 0 0 0, .agg (a2v c p)] [(0, (0, .chn 256 259 ((ps).map (a2v c))))] (.tup []) [(0, (0, .chn 256 259 ((ps ++ [p]).map (a2v c))))] := by
 refine mX Tryz.f236 [] 1 2 fun γ => ?_
 refine e9i (e7n 0 rfl fun b0 bs hbl hbn => ?_)
 have hbl2 : bs.length = ps.length := by rw [hbl, List.length_map]
 refine exR (y3y (id := 1) rfl rfl rfl (exR (c8v rfl a6m rfl rfl rfl (rlB d3s f3a ?_))))
 refine y3y (id := 2) rfl rfl rfl (p9p rfl (a5b fun K1 hK1 => ?_))
 refine d9z 4 0 2 rfl rfl (by intro h; cases h) rfl rfl rfl fun bn hbn2 => ?_
 refine exA 3 rfl rfl ?_
 refine c6k w5w (out := .pv (b4a bs.getLast?)) rfl b1x rfl rfl ?_
 refine b8k rfl rfl (by intro a c h h2; cases h; cases h2; rfl) (.inl rfl) (d9q (by kernel_rfl) _ _ _) ?_
 refine a0f rfl ?_ ?_<;>intro hc2<;>try simp at hc2
 ·obtain rfl : bs = [] := by cases bs with | nil => rfl | cons b r => (simp [List.getLast?_cons, a6u] at hc2)
  obtain rfl : ps = [] := List.eq_nil_of_length_eq_zero (by simpa using hbl2.symm)
  refine exG (a1o 4 rfl rfl (c1n w5w rfl rfl b1x rfl rfl rfl rfl rfl (hK1 _ _ (exG (a1o 4 rfl rfl (c1n w5w rfl rfl b1x rfl rfl rfl rfl rfl (Conv.step (c6i 0 b0 256 259 ([bn]) ([a2v c p]) rfl rfl rfl) (Conv.done ?_))))))))
  exact ⟨.inl rfl, [γ 0], rfl, rfl, x4x⟩
 obtain ⟨bs0, bl, rfl⟩ := d9x (l := bs) hc2
 obtain ⟨ps0, pl, rfl⟩ := d9x (l := ps) (by rintro rfl; simp at hbl2)
 refine exG (a1o 3 rfl rfl ?_)
 refine c6k w5w (out := PQ bl 0) rfl b1x rfl (by rw [List.getLast?_concat]; rfl) ?_
 refine s5s rfl (d2a rfl (a6w w5w rfl d3s rfl rfl b1x rfl ?_))
 refine e0a w5w (bty := 259) ((b0, 256, [.pv (b4a (bs0 ++ [bl]).head?), .pv (b4a (bs0 ++ [bl]).getLast?)]) :: d1g 259 (some bl) bs0 (ps0.map (a2v c))) [(bn, 259, a2v c p ++ [.pv (.pointer none)])] (cs := a2v c pl ++ [.pv (.pointer none)]) 0 rfl rfl b1x rfl rfl rfl (by rw [chB, List.map_append, List.map_cons, List.map_nil, c9k (by rw [List.length_map]; simpa using hbl2)]; simp [b4a]) (r9r rfl) rfl ?_
 refine hK1 _ _ (exG (a1o 4 rfl rfl (c1n w5w rfl rfl b1x rfl rfl rfl rfl rfl ?_)))
 refine Conv.step (c6i 0 b0 256 259 (bs0 ++ [bl] ++ [bn]) (((ps0 ++ [pl]) ++ [p]).map (a2v c)) rfl (by simp at hbl2 ⊢; exact hbl2) (by rw [List.map_append, List.map_cons (l := []), List.map_nil, e4r (by rw [List.length_map]; exact hbl2), List.map_append, List.map_cons, List.map_nil, c9k (by rw [List.length_map]; simpa using hbl2)]; cases bs0 <;> simp [b4a] <;> rfl)) (Conv.done ?_)
 exact ⟨.inl rfl, [γ 0], rfl, rfl, x4x⟩
theorem c4o (c : Bool) (l : List Pa) : Meth Tryz.prog 131 1 [] [b3u c l] [(0, (0, .dead))] (.ptr 0 0 0) [(0, (0, .chn 256 259 ((l).map (a2v c))))] := by
 refine mX Tryz.f131 [.ptr 0 0 0] 1 1 fun γ => ?_
 refine u9u 0 rfl fun hlen => ?_
 refine exR (p9p rfl (exR (rlB f2v f2z ?_)))
 refine y3y (id := 0) rfl rfl rfl (p9p rfl (a5b fun K1 hK1 => ?_))
 refine exR (s5s rfl (c6a rfl a9l rfl (s5s rfl (a8n (d9y 0 259 rfl ?_)))))
 refine x5x (ι := Nat) (fun i γ1 => [(10, pI (i : Int))]) (fun i γ1 => [(0, ((γ 0 + 1), .chn 256 259 ((l.take i).map (a2v c)))), (1, ((γ1 1), .dead))]) (fun i => i ≤ l.length) (fun i => l.length - i) (r2r [3, 8, 9] rfl) HE.nil 0 (by omega) [0, _] x6x (HE.chn rfl (by rw [List.take_zero]; rfl) (HE.kill rfl HE.nil)) rfl fun i γ1 hi => ?_
 refine exR (b7a rfl rfl rfl (a5b fun K2 hK2 => ?_))
 refine d5t rfl ?_ ?_<;>intro o<;>try simp at o
 ·obtain rfl : i = l.length := by omega
  refine b1w (hK1 _ _ (exA 2 rfl rfl (b1a ?_)))
  rw [List.take_length]
  exact ⟨.inr rfl, [_], rfl, rfl, x4x⟩
 obtain ⟨p, hp⟩ := gE l i
 refine b5d (hK2 _ _ (a5b fun K4 hK4 => ?_))
 refine a8n (exR (b1z rfl rfl a9l rfl a6m rfl (by assumption) ?_))
 refine b1y rfl a6m rfl rfl (x3x (id := 1) a6m c3q rfl (c1h rfl rfl a6m rfl rfl rfl rfl (exG (a1o 2 rfl rfl ?_))))
 refine rlM [0] [_] (c0h c p (l.take i)) rfl rfl rfl ?_
 refine hK4 _ _ (exG (x7x (b := 1) rfl rfl (by omega) (s5s rfl ?_)))
 exact ⟨i + 1, ⟨by omega, by omega⟩, [0, _], x6x, x6x, (HE.chn rfl (by rw [z5z hp]) (HE.kill rfl HE.nil)), x4x, rfl⟩
theorem b3j (c c' : Bool) (ps : List Pa) (s : List Ev) : Meth Tryz.prog 132 1 [0] [.ptr 0 0 0, a0m c' s] [(0, (0, .chn 256 259 ((ps).map (a2v c))))] (.pv (.int .i64 (same ps s : Int))) [] := by
 refine mX Tryz.f132 [.pv (.int .i64 (same ps s : Int))] 1 0 fun γ => ?_
 refine u9u 1 rfl fun hlen => ?_
 refine e7n 0 rfl fun b0 bs hbl hbn => ?_
 have hbl2 : bs.length = ps.length := by rw [hbl, List.length_map]
 refine exR (p9p rfl (exR (p9p rfl (a5b fun K1 hK1 => ?_))))
 refine exA 3 rfl rfl ?_
 refine c6k w5w (out := .pv (b4a bs.head?)) rfl b1x rfl rfl ?_
 refine p9p rfl (a8n ?_)
 refine x5x (ι := Nat) (fun i γ1 => [(5, pI (i : Int)), (6, .pv (b4a bs[i]?))]) (fun i γ1 => []) (fun i => i ≤ ps.length ∧ i ≤ s.length ∧ same ps s = i + same (ps.drop i) (s.drop i)) (fun i => ps.length - i) (x8x 1 rfl Cov.nil) (w9w 0 rfl HE.nil) 0 ⟨by omega, by omega, by rw [List.drop_zero, List.drop_zero, Nat.zero_add]⟩ [] (x8x 5 rfl (Cov.cons' (t := 6) rfl ((by rw [List.head?_eq_getElem?])) Cov.nil)) x4x rfl fun i γ1 hi => ?_
 obtain ⟨h1, h2, h3⟩ := hi
 refine a5b fun K2 hK2 => ?_
 refine exD (s5s rfl (b8k rfl rfl (by intro a c h h2; cases h; cases h2; rfl) (.inr rfl) (d9q (by kernel_rfl) _ _ _) ?_))
 refine s5s rfl (f4q rfl rfl ?_ ?_)<;>intro o<;>try simp at o
 ·have g1 : ps.length ≤ i := by omega
  refine a1o 16 rfl rfl ⟨by kernel_rfl, a0f rfl (fun hc8 => ?_) (fun hc8 => ?_)⟩
  ·simp at hc8
  try simp at hc8
  try have heq : ¬ p.ev = e := by simpa [a6u] using hc8
  refine b1w (hK1 _ _ (exA 2 rfl rfl (c6j 0 b0 256 259 (bs) (ps.map (a2v c)) rfl hbl rfl ?_)))
  refine b1a ?_
  refine ⟨.inr rfl, [γ 0], rfl, ?_, HE.same rfl HE.nil⟩
  exact congrArg (fun v : Nat => some [AV.pv (.int .i64 (v : Int))]) (h3.trans (by rw [c9v g1]; rfl)).symm
 obtain ⟨b, hb⟩ := gE bs i
 rw [hb]
 have g1 : i < ps.length := by have := (List.getElem?_eq_some_iff.1 hb).1; omega
 obtain ⟨p, hp⟩ := gE ps i
 refine a1o 2 rfl rfl (b9v rfl rfl (c6a rfl v6v rfl (a1o 3 rfl rfl (f4q rfl rfl ?_ ?_))))<;>intro o<;>try simp at o
 ·have g2 : s.length ≤ i := by omega
  refine a1o 10 rfl rfl ⟨by kernel_rfl, a0f rfl (fun hc7 => ?_) (fun hc7 => ?_)⟩
  ·simp at hc7
  try simp at hc7
  try have heq : ¬ p.ev = e := by simpa [a6u] using hc7
  refine b1w (hK1 _ _ (exA 2 rfl rfl (c6j 0 b0 256 259 (bs) (ps.map (a2v c)) rfl hbl rfl ?_)))
  refine b1a ?_
  refine ⟨.inr rfl, [γ 0], rfl, ?_, HE.same rfl HE.nil⟩
  exact congrArg (fun v : Nat => some [AV.pv (.int .i64 (v : Int))]) (h3.trans (by rw [c9w g2]; rfl)).symm
 have g2 : i < s.length := by omega
 obtain ⟨e, he⟩ := gE s i
 refine s5s rfl (b9v rfl rfl (d2a rfl (b9v rfl rfl (a6w w5w rfl d3s rfl rfl a6m rfl (b9v rfl rfl (a6w w5w rfl a6m rfl rfl z4z rfl (b9v rfl rfl ?_)))))))
 refine d4h w5w (out := .agg (z1z p.ev)) 0 rfl z4z rfl (d9w hbl hb (e1m hp)) rfl ?_
 refine a1o 2 rfl rfl (b9v rfl rfl (b1z rfl rfl v6v rfl z4z rfl he (b9v rfl rfl ?_)))
 refine v0v (out := .agg (z1z e)) rfl z4z rfl ?_
 refine b9v rfl rfl (b8k rfl rfl (by intro a c h; cases h) (.inl rfl) (f2c _ _ _ _) ?_)
 refine d3v rfl rfl ⟨by kernel_rfl, d5t rfl ?_ ?_⟩<;>intro hc5<;>try simp at hc5
 ·try have heq : ¬ p.ev = e := by simpa [a6u] using hc5
  refine b1w (hK1 _ _ (exA 2 rfl rfl (c6j 0 b0 256 259 (bs) (ps.map (a2v c)) rfl hbl rfl ?_)))
  refine b1a ?_
  refine ⟨.inr rfl, [γ 0], rfl, ?_, HE.same rfl HE.nil⟩
  exact congrArg (fun v : Nat => some [AV.pv (.int .i64 (v : Int))]) (h3.trans (by rw [c9u hp he heq]; rfl)).symm
 try have heq : p.ev = e := by simpa [a6u] using hc5
 refine b5d (hK2 _ _ (a5b fun K6 hK6 => ?_))
 refine a8n (exG (s5s rfl (x7x (b := 1) rfl rfl (by omega) (p9p rfl (hK6 _ _ (exG (s5s rfl (d2a rfl (a6w w5w rfl d3s rfl rfl b1x rfl ?_)))))))))
 refine d4h w5w (out := .pv (b4a bs[i + 1]?)) 0 rfl b1x rfl (d9w hbl hb (e1m hp)) rfl ?_
 refine p9p rfl ?_
 exact ⟨i + 1, ⟨⟨by omega, by omega, by rw [h3, c9t hp he heq]; omega⟩, by omega⟩, [], x6x, x6x, x4x, x4x, rfl⟩
end
section
theorem b8a (c : Bool) (n : Nd) : a0j Tryz.prog 38 [.agg (u1u c n)] (.pv (.bool (kb (y0y n)))) := by
 refine pX Tryz.f38 [.pv (.bool (kb (y0y n)))] 8 ?_
 have hpl := a5g n.id 4
 refine dv 1 ?_
 refine y3y (id := 0) rfl rfl rfl (dv 4 fun K K' => ?_)
 refine x0x rfl rfl rfl (c4b ..) (dc 1 (aI ?_ ?_))<;>intro hc2<;>try simp at hc2
 ·try have hX : ¬ a1e n := a0p (by simpa using hc2)
  refine dv 3 ?_
  refine x2x rfl ?_ rfl
  exact congrArg (fun b : Bool => [AV.pv (.bool b)]) (a4v (fun h => hX h.1))
 have fS : a1e n := a0o.1 (by simpa using hc2)
 have fB := w2w fS
 have fL := fS.2.2.2.2.1
 have fV := fS.2.2.2.2.2.1
 refine dv 3 ?_
 refine rlM [1, 2, 3, 4, 5] [_, _, _, _, _] (b0z c n (by omega) (by omega) fS.2.2.2.2.2.2.1) rfl rfl rfl ?_
 refine dv 5 fun K K' => ?_
 refine x0x rfl rfl rfl (b4o ..) (dv 3 ?_)
 refine x5x (ι := Nat) (fun j γ1 => [(16, pI (j : Int))]) (fun j γ1 => [(6, ((γ1 6), .dead)), (7, ((γ1 7), .dead))]) (fun j => j ≤ (w7w n.id 4).length ∧ c6w n.lanes (fun j l => ∀ p, (w7w n.id 4)[j]? = some p → l.done.length ≤ same l.done (a1k n p) ∧ (a1k n p).length ≤ 100) j) (fun j => (w7w n.id 4).length - j) (r2r [3, 14, 15] rfl) (a1p [0, 1, 2, 3, 4, 5] rfl) 0 ⟨by omega, a0v⟩ [0, 0, 0, 0, 0, 0, _, _] x6x x4x rfl fun j γ1 hi => ?_
 obtain ⟨d1, d2⟩ := hi
 refine dc 3 (fun K K' => aS ?_ ?_)<;>intro o<;>try simp at o
 ·have fC := fun (i : Nat) p l (a : (w7w n.id 4)[i]? = some p) (b : n.lanes[i]? = some l) => a2i d2 (by omega) i l b p a
  refine dv 4 ?_
  refine x2x rfl ?_ rfl
  exact congrArg (fun b : Bool => [AV.pv (.bool b)]) (e3t ⟨fS, fC⟩)
 obtain ⟨l, hl⟩ := gE n.lanes j
 obtain ⟨p, hp⟩ := gE (w7w n.id 4) j
 obtain ⟨hdl, _⟩ := a1g (fS.2.2.2.2.2.2.2.1 j l hl).2
 refine dv 12 fun K K' => ?_
 refine rlM [1, 2, 3, 4, 5, 6] [_, _, _, _, _, _] (c0g c n p (a7o fS) (by omega) fS.2.2.2.2.2.1) rfl rfl rfl ?_
 refine dv 1 ?_
 refine r6r 6 rfl rfl (fun _ => rfl) ?_
 refine dc 5 (aS ?_ ?_)<;>intro o<;>try simp at o
 ·refine dv 23 ?_
  refine x2x rfl ?_ rfl
  exact congrArg (fun b : Bool => [AV.pv (.bool b)]) (a4v (fun h => by have := h.2 _ _ _ hp hl; omega))
 refine dv 5 ?_
 refine z0z (j := j) rfl rfl c1e rfl a9l rfl rfl (z2z hl) ?_
 refine dv 1 ?_
 refine rlM [7] [_] (c4o c l.done) rfl rfl rfl ?_
 refine dv 1 ?_
 refine rlM [7] [_] (b3j c true l.done (a1k n p)) rfl rfl rfl ?_
 refine dv 5 ?_
 refine z0z (j := j) rfl rfl c1e rfl a9l rfl rfl (z2z hl) ?_
 refine dc 4 (aS ?_ ?_)<;>intro o<;>try simp at o
 ·refine dv 2 ?_
  refine x7x (b := 1) rfl rfl (by omega) (dv 1 ?_)
  exact ⟨j + 1, ⟨⟨by omega, r0r d2 hl (fun p2 hp2 => by rw [hp] at hp2; cases hp2; omega)⟩, by omega⟩, [0, 0, 0, 0, 0, 0, _, _], x6x, x6x, x4x, x4x, rfl⟩
 refine dv 3 ?_
 refine x2x rfl ?_ rfl
 exact congrArg (fun b : Bool => [AV.pv (.bool b)]) (a4v (fun h => by have := h.2 _ _ _ hp hl; omega))
end
section
theorem b8c (c : Bool) (n : Nd) (t : Int) : Meth Tryz.prog 41 1 [] [.agg (u1u c n), .pv (.int .i64 t)] [(0, (0, .dead))] (.ref 0 0) [(0, (0, .row 56 7 ((d1c n t).map z1z)))] := by
 refine mX Tryz.f41 [.ref 0 0] 1 6 fun γ => ?_
 refine dv 1 ?_
 refine y3y (id := 1) rfl rfl rfl (dv 4 fun K K' => ?_)
 refine x0x rfl rfl rfl (b8a c n) (dc 2 (aS ?_ ?_))<;>intro hg2<;>try simp at hg2
 ·have fX : ¬ c3i n t := fun h => a0p (by simpa using hg2) h.1
  refine dv 12 ?_
  refine a3h 4 0 56 7 rfl rfl (dv 1 ?_)
  exact ⟨[_], rfl, rfl, HE.row rfl (by rw [c8g fX]; rfl) HE.nil⟩
 have fK : y0y n := a0o.1 (by simpa using hg2)
 refine dv 1 ?_
 refine x0x rfl rfl rfl (a7f t) (dc 3 (aS ?_ ?_))<;>intro hg3<;>try simp at hg3
 ·have fX : ¬ c3i n t := fun h => by have := h.2.1; simp_all; try omega
  refine dv 7 ?_
  refine a3h 4 0 56 7 rfl rfl (dv 1 ?_)
  exact ⟨[_], rfl, rfl, HE.row rfl (by rw [c8g fX]; rfl) HE.nil⟩
 have fI : 0 ≤ t ∧ t ≤ 2 := hg3
 refine dc 5 (aI ?_ ?_)<;>intro hc4<;>try simp at hc4
 ·have fX : ¬ c3i n t := fun h => h.2.2 (by simpa using hc4)
  refine dv 2 ?_
  refine a3h 4 0 56 7 rfl rfl (dv 1 ?_)
  exact ⟨[_], rfl, rfl, HE.row rfl (by rw [c8g fX]; rfl) HE.nil⟩
 have fF : c3i n t := ⟨fK, fI, by exact hc4⟩
 have fS := fK.1
 have fB := w2w fS
 have fV := fS.2.2.2.2.2.1
 obtain ⟨k, rfl⟩ := Int.eq_ofNat_of_zero_le fI.1
 refine dv 3 ?_
 refine rlM [2, 3, 4, 5, 6] [_, _, _, _, _] (b0z c n (by omega) (by omega) fS.2.2.2.2.2.2.1) rfl rfl rfl ?_
 refine dv 1 ?_
 refine rlM [2, 3, 4, 5, 6, 0] [_, _, _, _, _, _] (b0e c n k (by omega) fS.2.2.2.2.2.2.1 (by have := a7o fS; omega) (by omega)) rfl rfl rfl ?_
 refine dv 1 ?_
 skip
 refine dv 1 ?_
 exact ⟨[_], rfl, rfl, HE.row rfl (by rw [d5v fF]) HE.nil⟩
end
section
theorem b3k (i v g f t : Int) (l : List Ev) : Meth Tryz.prog 151 1 [0] [.agg [pI i, pI v, pI g, .ref 0 0], .pv (.int .i64 f), .pv (.int .i64 t)] [(0, (0, .row 56 7 ((l).map z1z)))] (.agg [pI 1, pI f, pI t, pI i, pI v, pI 0, pI g, .pv (.slice none 0 0), .pv (.slice none 0 0), .ref 0 0, .pv (.slice none 0 0)]) [] := by
 refine mX Tryz.f151 [.agg [pI 1, pI f, pI t, pI i, pI v, pI 0, pI g, .pv (.slice none 0 0), .pv (.slice none 0 0), .ref 0 0, .pv (.slice none 0 0)]] 1 2 fun γ => ?_
 refine dv 1 ?_
 refine y3y (id := 1) rfl rfl rfl (x3x (id := 2) v2v a6n rfl (dv 11 ?_))
 refine rlB v2v a6n ?_
 refine dv 2 ?_
 exact ⟨[γ 0], rfl, rfl, x4x⟩
theorem b4e (g f t : Int) (l : List Ou) : Meth Tryz.prog 153 1 [0] [.agg [pI g, .ref 0 0], .pv (.int .i64 f), .pv (.int .i64 t)] [(0, (0, .row 141 5 ((l).map q5q)))] (.agg [pI 7, pI f, pI t, pI 0, pI 0, pI 0, pI g, .pv (.slice none 0 0), .pv (.slice none 0 0), .pv (.slice none 0 0), .ref 0 0]) [] := by
 refine mX Tryz.f153 [.agg [pI 7, pI f, pI t, pI 0, pI 0, pI 0, pI g, .pv (.slice none 0 0), .pv (.slice none 0 0), .pv (.slice none 0 0), .ref 0 0]] 1 2 fun γ => ?_
 refine dv 1 ?_
 refine y3y (id := 1) rfl rfl rfl (x3x (id := 2) v2v a6n rfl (dv 7 ?_))
 refine rlB v2v a6n ?_
 refine dv 2 ?_
 exact ⟨[γ 0], rfl, rfl, x4x⟩
theorem c3j (c : Bool) (n : Nd) : Meth Tryz.prog 50 1 [] [.agg (u1u c n)] [(0, (0, .dead))] (.ref 0 0) [(0, (0, .row 79 11 ((a5h n).map b4j)))] := by
 refine mX Tryz.f50 [.ref 0 0] 1 12 fun γ => ?_
 refine dv 1 ?_
 refine y3y (id := 1) rfl rfl rfl (dv 4 fun K K' => ?_)
 refine x0x rfl rfl rfl (b8a ..) (dc 2 (aS ?_ ?_))<;>intro hg2<;>try simp at hg2
 ·have fX : ¬ (y0y n ∧ n.up = true) := fun h => a0p (by simpa using hg2) h.1
  refine dv 6 ?_
  refine a3h 2 0 79 11 rfl rfl (dv 1 ?_)
  exact ⟨[_], rfl, rfl, HE.row rfl (by rw [b8w fX]; rfl) HE.nil⟩
 have fK : y0y n := a0o.1 (by simpa using hg2)
 have fS := fK.1
 have fB := w2w fS
 have fV := fS.2.2.2.2.2.1
 refine dc 4 (aI ?_ ?_)<;>intro hc3<;>try simp at hc3
 ·have fX : ¬ (y0y n ∧ n.up = true) := by (intro h; simp_all; done)
  refine dv 2 ?_
  refine a3h 2 0 79 11 rfl rfl (dv 1 ?_)
  exact ⟨[_], rfl, rfl, HE.row rfl (by rw [b8w fX]; rfl) HE.nil⟩
 have fU : n.up = true := hc3
 refine dv 3 ?_
 refine rlM [5, 6, 7, 8, 9] [_, _, _, _, _] (b0z c n (by omega) (by omega) fS.2.2.2.2.2.2.1) rfl rfl rfl ?_
 refine dv 7 fun K K' => ?_
 refine a3h 4 0 79 11 rfl rfl ?_
 refine x5x (ι := Nat) (fun i γ1 => [(4, .ref 0 (γ1 0)), (17, pI (i : Int))]) (fun i γ1 => [(0, ((γ1 0), .row 79 11 ((a2y n i).map b4j))), (10, ((γ1 10), .dead)), (2, ((γ1 2), .dead)), (3, ((γ1 3), .dead))]) (fun i => i ≤ 3) (fun i => 3 - i) (r2r [1, 3] rfl) (a1p [1, 4, 5, 6, 7, 8, 9, 11, 12] rfl) 0 (by omega) [_, 0, _, _, 0, 0, 0, 0, 0, 0, _] x6x (HE.row rfl (by rfl) (HE.kill rfl (HE.kill rfl (HE.kill rfl HE.nil)))) rfl fun i γ1 hi => ?_
 refine dc 3 (fun K K' => aI ?_ ?_)<;>intro j<;>try simp at j
 ·refine dc 11 (fun K K' => aS ?_ ?_)<;>intro hc8<;>try simp at hc8
  ·have hto : (i : Int) = n.id := hc8
   refine dv 1 ?_
   skip
   refine dv 1 ?_
   refine u7u rfl rfl rfl (dv 1 ?_)
   exact ⟨i + 1, ⟨by omega, by omega⟩, [_, 0, _, _, 0, 0, 0, 0, 0, 0, _], (x8x 4 rfl (Cov.cons' (t := 17) rfl (by rw [x9x (by omega) (by omega)]; rfl) Cov.nil)), x6x, (HE.row rfl (by rw [b7m hto]) (HE.kill rfl (HE.kill rfl (HE.kill rfl HE.nil)))), x4x, rfl⟩
  have hto : ¬ (i : Int) = n.id := hc8
  have htl := c1z fS (i : Int)
  have htn := b2i n i
  refine dv 9 ?_
  refine rlM [5, 6, 7, 8, 9, 10] [_, _, _, _, _, _] (b0e c n i (by omega) fS.2.2.2.2.2.2.1 (by have := a7o fS; omega) (by omega)) rfl rfl rfl ?_
  refine rlB e7c e7g ?_
  refine x3x (id := 2) e7c e7g rfl (dv 7 ?_)
  refine rlM [10] [_] (b3k n.inc n.version n.g n.id (i : Int) (a1l n (i : Int))) rfl rfl rfl ?_
  refine w8w (id := 3) p5p rfl v2v rfl rfl rfl rfl (.val rfl rfl (.val rfl rfl (.val rfl rfl (.val rfl rfl (.val rfl rfl (.val rfl rfl (.val rfl rfl (.val rfl rfl (.val rfl rfl (.ref rfl (q0q fun _ => rfl) (.val rfl rfl .nil) rfl rfl)))))))))) rfl (r9r rfl) (r9r rfl) (r9r rfl) rfl rfl ?_
  refine c9m w5w (zs := (a2y n i).map b4j ++ [[pI (a3s n (i : Int)).kind, pI (a3s n (i : Int)).from', pI (a3s n (i : Int)).to, pI (a3s n (i : Int)).inc, pI (a3s n (i : Int)).version, pI (a3s n (i : Int)).round, pI (a3s n (i : Int)).g, .pv (.slice none 0 0), .pv (.slice none 0 0), .row .ow 56 7 ((a1l n (i : Int)).map z1z), .pv (.slice none 0 0)]]) rfl rfl p5p rfl v2v rfl rfl rfl rfl rfl rfl (by (simp only [a0b, r5r, s1s, s3s, a0t, a3b, T79] at *; omega)) ?_
  refine dv 1 ?_
  refine e0b 0 rfl (NilLs.snoc (x' := b4j (a3s n (i : Int))) (.same (.same (.same (.same (.same (.same (.same (.own (.own (.same (.own .nil))))))))))) _) ?_
  refine dv 1 ?_
  refine u7u rfl rfl rfl (dv 1 ?_)
  exact ⟨i + 1, ⟨by omega, by omega⟩, [_, 0, _, _, 0, 0, 0, 0, 0, 0, _], (x8x 4 rfl (Cov.cons' (t := 17) rfl (by rw [x9x (by omega) (by omega)]; rfl) Cov.nil)), x6x, (HE.row rfl (by (rw [b7l hto, List.map_append]; rfl)) (HE.kill rfl (HE.kill rfl (HE.kill rfl HE.nil)))), x4x, rfl⟩
 obtain rfl : i = 3 := by omega
 have htn := b2i n 3
 refine dc 6 (fun K K' => aS ?_ ?_)<;>intro hc10<;>try simp at hc10
 ·have h0 : n.id = 0 := hc10
  refine dv 1 ?_
  skip
  refine dv 3 ?_
  skip
  refine dv 1 ?_
  exact ⟨[_], rfl, rfl, HE.row rfl (by rw [c7a ⟨fK, fU⟩ h0]) HE.nil⟩
 have h0 : ¬ n.id = 0 := hc10
 refine dv 6 ?_
 refine rlM [11] [_] (a5p c n.outs (by omega)) rfl rfl rfl ?_
 refine rlB f2t f2y ?_
 refine dv 2 ?_
 refine rlM [11] [_] (b4e n.g n.id 0 n.outs) rfl rfl rfl ?_
 refine w8w (id := 4) p5p rfl v2v rfl rfl rfl rfl (.val rfl rfl (.val rfl rfl (.val rfl rfl (.val rfl rfl (.val rfl rfl (.val rfl rfl (.val rfl rfl (.val rfl rfl (.val rfl rfl (.val rfl rfl (.ref rfl (q0q fun _ => rfl) .nil rfl rfl))))))))))) rfl (r9r rfl) (r9r rfl) (r9r rfl) rfl rfl ?_
 refine c9m w5w (zs := (a2y n 3).map b4j ++ [[pI (a8i n).kind, pI (a8i n).from', pI (a8i n).to, pI (a8i n).inc, pI (a8i n).version, pI (a8i n).round, pI (a8i n).g, .pv (.slice none 0 0), .pv (.slice none 0 0), .pv (.slice none 0 0), .row .ow 141 5 (n.outs.map q5q)]]) rfl rfl p5p rfl v2v rfl rfl rfl rfl rfl rfl (by (simp only [a0b, r5r, s1s, s3s, a0t, a3b, T79] at *; omega)) ?_
 refine dv 1 ?_
 refine e0b 0 rfl (NilLs.snoc (x' := b4j (a8i n)) (.same (.same (.same (.same (.same (.same (.same (.own (.own (.own (.same .nil))))))))))) _) ?_
 refine dv 3 ?_
 skip
 refine dv 1 ?_
 exact ⟨[_], rfl, rfl, HE.row rfl (by rw [c7b ⟨fK, fU⟩ h0, List.map_append]; rfl) HE.nil⟩
end
section
theorem b9o (bs : List Nat) (hbs : ∀ b ∈ bs, b < 256)  : a0j Tryz.prog 8 [v3v true bs] (.pv (.bool (true))) := by
 refine pX Tryz.f8 [.pv (.bool (true))] 4 ?_
 refine dc 7 (fun K K' => aI ?_ ?_)<;>intro j<;>try simp at j
 ·refine dv 3 ?_
  refine x2x rfl ?_ rfl
  rfl
 refine dv 1 ?_
 refine s0s fun B X0 w0 => ?_
 refine txR 1 rfl rfl (dv 1 ?_)
 refine txM [] [] (b3i bs hbs) rfl rfl rfl rfl fun n hn => ?_
 refine txR 2 rfl rfl (x3x (id := 0) u6u q4q rfl (dv 1 ?_))
 refine z6z rfl (dv 2 ?_)
 refine x0x rfl rfl rfl (b3h true n) (dv 3 ?_)
 refine rlM [2] [_] (c3j true n) rfl rfl rfl ?_
 refine dv 2 fun K K' => ?_
 refine d3y 5 rfl (.ref rfl (Le.ow_map2 (f := b4j) (f' := u3u true) (a5h n) (fun _ => rfl) (d6z fun _ => rfl)) .nil) ?_
 refine dv 3 ?_
 refine x0x rfl rfl rfl (c3x true true (a5h n) (a5h n)) ?_
 refine dv 1 ?_
 refine a0f rfl (fun hc4 => ?_) (fun hc4 => ?_)
 ·(simp at hc4; done)
 try simp at hc4
 refine dv 4 fun K K' => ?_
 refine x0x rfl rfl rfl (w0w true n) (dc 2 (aS ?_ ?_))<;>intro hg6<;>try simp at hg6
 ·have fX : ¬ (y0y n ∧ n.up = true) := fun h => a0p (by simpa using hg6) h.1
  refine dv 3 ?_
  refine a0f rfl (fun hc21 => ?_) (fun hc21 => ?_)
  rotate_left
  ·(simp at hc21; done)
  try simp at hc21
  refine dv 6 ?_
  refine x2x rfl ?_ rfl
  exact congrArg (fun b : Bool => [AV.pv (.bool b)]) (by rw [b8w fX]; rfl)
 have fK : y0y n := a0o.1 (by simpa using hg6)
 refine dc 4 (aI ?_ ?_)<;>intro hc7<;>try simp at hc7
 ·have fX : ¬ (y0y n ∧ n.up = true) := fun h => by simp_all
  refine dv 6 ?_
  refine x2x rfl ?_ rfl
  exact congrArg (fun b : Bool => [AV.pv (.bool b)]) (by rw [b8w fX]; rfl)
 have hK : y0y n ∧ n.up = true := ⟨fK, by simpa using hc7⟩
 have hf2 := f2a hK
 refine dv 7 fun K K' => ?_
 refine u9u 5 rfl fun hlen => ?_
 refine x5x (ι := Nat) (fun i γ1 => [(6, pI (e3o n i : Int)), (7, pI (i : Int))]) (fun i γ1 => [(3, ((γ1 3), .dead)), (1, ((γ1 1), .dead))]) (fun i => i ≤ (a5h n).length) (fun i => (a5h n).length - i) (r2r [3, 5] rfl) (a1p [0, 2] rfl) 0 (by omega) [0, _, 0, _] (Cov.cons' (t := 6) rfl ((by rfl)) (x8x 7 rfl Cov.nil)) x4x rfl fun i γ1 hi => ?_
 refine dc 6 (fun K K' => aS ?_ ?_)<;>intro j<;>try simp at j
 ·obtain rfl : i = (a5h n).length := by omega
  refine dc 5 (aS ?_ ?_)<;>intro j<;>try simp at j
  ·have hbad : False := by omega
   refine dv 6 ?_
   refine x2x rfl ?_ rfl
   exact hbad.elim
  refine dv 3 ?_
  refine x0x rfl rfl rfl (d0x true (a5h n) n.id (e6u hK hn)) ?_
  refine dv 3 ?_
  refine x2x rfl ?_ rfl
  rfl
 obtain ⟨w, hw⟩ := gE (a5h n) i
 have hfl := f1z n i
 refine dv 7 fun K K' => ?_
 refine v0v (out := .agg (u3u true w)) rfl v2v rfl ?_
 refine x3x (id := 1) v2v a6n rfl (dc 5 (aS ?_ ?_))<;>intro hc12<;>try simp at hc12
 ·have e6 := f6n hw hc12
  refine dv 3 ?_
  refine x7x (b := 1) rfl rfl (by omega) (dv 1 ?_)
  exact ⟨i + 1, ⟨by omega, by omega⟩, [0, _, 0, _], (Cov.cons' (t := 6) rfl ((by rw [e6])) (x8x 7 rfl Cov.nil)), x6x, x4x, x4x, rfl⟩
 have hk1 : w.kind = 1 := hc12
 have e6 := f6m hw hk1
 obtain ⟨q1, q2, q3, q4⟩ := e3n hK (List.mem_of_getElem? hw) hk1
 refine dv 2 ?_
 refine x7x (b := 1) rfl rfl (by omega) (dv 7 ?_)
 refine rlM [3] [_] (b8c true n w.to) rfl rfl rfl ?_
 refine b5i rfl rfl rfl (.cl rfl (f0p rfl .nil)) (b2v true false w.events (d1c n w.to)) (.pv _) ?_
 refine dc 2 (aS ?_ ?_)<;>intro j<;>try simp at j
 ·refine dv 19 ?_
  refine a0f rfl (fun hc19 => ?_) (fun hc19 => ?_)
  ·repeat clear K' K
   (simp_all; done)
  (simp at hc19; done)
 refine dc 7 (aS ?_ ?_)<;>intro j<;>try simp at j
 ·refine dv 12 ?_
  refine a0f rfl (fun hc18 => ?_) (fun hc18 => ?_)
  ·repeat clear K' K
   (simp_all; done)
  (simp at hc18; done)
 refine dc 7 (aS ?_ ?_)<;>intro j<;>try simp at j
 ·refine dv 5 ?_
  refine a0f rfl (fun hc17 => ?_) (fun hc17 => ?_)
  ·repeat clear K' K
   (simp_all; done)
  (simp at hc17; done)
 refine dv 6 ?_
 refine a0f rfl (fun hc16 => ?_) (fun hc16 => ?_)
 ·(simp [q1, q2, q3, q4] at hc16; done)
 try simp at hc16
 refine dv 3 ?_
 refine x7x (b := 1) rfl rfl (by omega) (dv 1 ?_)
 exact ⟨i + 1, ⟨by omega, by omega⟩, [0, _, 0, _], (Cov.cons' (t := 6) rfl ((by rw [e6])) (x8x 7 rfl Cov.nil)), x6x, x4x, x4x, rfl⟩
end
section
def X0 (w : World) : Cx := ⟨fun b => b < w.heap.size, fun b => b < w.heap.size, fun _ _ => none, fun _ _ => none⟩
theorem e6w (w : World) : SRh (X0 w) ⟨w, fun _ => False, fun b => b < w.heap.size, fun b => b < w.heap.size⟩ (fun _ => none) w := by
 refine ⟨fun _ => [], ?_, ?_, ?_, ?_, ?_, ?_, ?_, ?_, ?_, rfl, rfl, rfl, Nat.le_refl _, fun _ _ _ => rfl⟩
 ·intro id g e h; cases h
 ·intro id ge b h; cases h
 ·intro id id' ge ge' b h; cases h
 ·intro b hb; exact ⟨hb, fun id ge h => by cases h⟩
 ·intro b hb; exact hb
 ·intro b hb; exact .inl hb
 ·intro b hb; exact .inl hb
 ·intro id ge b h; cases h
 ·intro id g h; exact ⟨rfl, rfl⟩
theorem d3c (hC : a0j P f avs (.pv u)) (w : World) (vs : List Value) (hl : vs.length = avs.length) (hr : ∀ (i : Nat) (a : AV) (v : Value), avs[i]? = some a → vs[i]? = some v → VR (X0 w) w a v) :
  Calls P f vs.toArray w fun e w' => e = .returned u ∧ Below w.heap.size w w' :=
 (hC.2 (X0 w) _ (fun _ => none) w vs (e6w w) hl hr (fun id ge h => by cases h)).mono fun e w' ⟨v, he, X', hX, hS, hk, hv⟩ => by
  rw [hv.pv_inv] at he
  obtain ⟨F, hS⟩ := hS
  exact ⟨he, hS.os, hS.tape, hS.output, hS.size, fun k hk => hS.keep k hk (fun h => h)⟩
def f2b (k : IntKind) (w : World) (a : Option Addr) (len cap : Nat) (zs : List Int) : Prop :=
 (a = none ∧ len = 0 ∧ cap = 0 ∧ zs = []) ∨
 ∃ x, a = some x ∧ len ≤ cap ∧ cap ≤ maxLen ∧ zs.length = cap ∧ (∀ i, i < zs.length → w.cell? (x.add i) = some (.int k (zs.getD i 0))) ∧ ∀ n ∈ zs, (Lit.int k n).wf = true
theorem e3p (h : f2b .u8 w a len cap zs) : ∃ bs : List Nat, (∀ b ∈ bs, b < 256) ∧ VR (X0 w) w (v3v true bs) (.slice a len cap) := by
 rcases h with ⟨rfl, rfl, rfl, rfl⟩ | ⟨x, rfl, hl, hm, hz, hc, hw⟩
 ·exact ⟨[], (fun b hb => by cases hb), .cl (.row none 0 (fun _ _ => undef) (Nat.le_refl _) (Nat.zero_le _) (fun j x hx => by simp at hx) (fun j i x y hx => by simp at hx) (fun h => by simp at h) (fun ad j i x y hA => by cases hA) (fun j i x y hx => by simp at hx))⟩
 ·have hb : ∀ n ∈ zs, 0 ≤ n ∧ n < 256 := fun n hn => by
   have := hw n hn
   simp only [Lit.wf, Bool.and_eq_true, decide_eq_true_eq, IntKind.min, IntKind.max] at this
   simp [IntKind.signed, IntKind.bits] at this
   omega
  refine ⟨(zs.take len).map Int.toNat, fun b hb' => ?_, ?_⟩
  ·obtain ⟨n, hn, rfl⟩ := List.mem_map.1 hb'
   have := hb n (List.mem_of_mem_take hn)
   omega
  ·have hlen : ((zs.take len).map Int.toNat).length = len := by rw [List.length_map, List.length_take]; omega
   have hg : ∀ (j : Nat) (y : List AV), (((zs.take len).map Int.toNat).map f5b)[j]? = some y → j < len ∧ ∃ n, zs[j]? = some n ∧ y = [.pv (.int .u8 n)] := fun j y hy => by
    rw [List.getElem?_map, List.getElem?_map, List.getElem?_take] at hy
    split at hy
    ·rename_i hj
     cases hn : zs[j]? with
     | none => rw [hn] at hy; cases hy
     | some n =>
      rw [hn] at hy
      refine ⟨hj, n, rfl, ?_⟩
      have h0 := hb n (List.mem_of_getElem? hn)
      simp only [Option.map_some, Option.some.injEq] at hy
      rw [← hy, f5b, Int.toNat_of_nonneg h0.1]
    ·cases hy
   have key := CR.row (ok1 := (X0 w).ok1) (ok2 := (X0 w).ok2) (w := w) (m := true) (ty := 5) (sz := 1) (xs := ((zs.take len).map Int.toNat).map f5b) (some x) cap (fun j _ => .int .u8 (zs.getD j 0))
    (by rw [List.length_map, hlen]; exact hl) hm (fun j y hy => by obtain ⟨_, n, _, rfl⟩ := hg j y hy; rfl)
    (fun j i y z hy hz' => by
     obtain ⟨_, n, _, rfl⟩ := hg j y hy
     cases i with
     | zero => simp at hz'; subst hz'; rfl
     | succ i => simp at hz')
    (fun hp => ⟨x, rfl, by
     rw [List.length_map, hlen] at hp
     have := hc 0 (by omega)
     have h2 := World.block_lt_of_cell? w _ this
     show x.block < w.heap.size
     simpa [Addr.add] using h2⟩)
    (fun ad j i y z hA hy hz' => by
     cases hA
     obtain ⟨hj, n, hn, rfl⟩ := hg j y hy
     cases i with
     | zero =>
      have := hc j (by omega)
      simpa using this
     | succ i => simp at hz')
    (fun j i y z hy hz' => by
     obtain ⟨hj, n, hn, rfl⟩ := hg j y hy
     cases i with
     | zero =>
      simp at hz'; subst hz'
      rw [List.getD_eq_getElem?_getD, hn]
      exact .pv _
     | succ i => simp at hz')
   rw [List.length_map, hlen] at key
   exact .cl key
end
end Go.Proofs.YtlgknoapdbpojaaGreat.Am
