/- Part 5 of the texts that the proof of LawFnNodeReport leans on, merged by program. -/
import Derived.Test.YtlgknoapdbpojaaGreatKr4
set_option linter.unusedVariables false
set_option linter.unusedSimpArgs false
set_option maxHeartbeats 4000000
set_option autoImplicit true
set_option relaxedAutoImplicit true
namespace Go.Proofs.YtlgknoapdbpojaaGreat.Am
open Go Go.RowKit
section
theorem z0z (bs : List Nat) (hbs : ∀ b ∈ bs, b < 256) (S : Sm) (c : Nat) (hS : smOk S c) (ek en ep ew : Int) (eb : Bool) (hc : c ≤ 1000000) : MethE Tryz.prog 239 5 [.ptr 0 0 0, .agg [pI ek, pI en, pI ep, pI ew, .pv (.bool eb)]] [(0, (0, .box 171 [.ptr 4 0 0, pI S.w.time, a4w true S.w.apps, .ref 1 0, .ref 2 0, pI S.w.hub.round, w0w true S.w.hub.ones, w0w true S.w.hub.twos, w0w true S.w.hub.outs, r9r true S.w.sink, .ref 3 0])), (1, (0, .row 65 13 ((S.w.nodes).map (u1u true)))), (2, (0, .row 79 11 ((S.w.radio).map (u9u true)))), (3, (0, .row 263 5 ((S.list).map a3i))), (4, (0, .box 243 [v5v true bs, .pv (.int .i64 ((S.p : Nat) : Int))]))] (ι := Sm × Bool) (fun S' => smOk S'.1 (c + 1)) (fun S' => [0, 4]) (fun S' => .pv (.bool (S'.2))) (fun S' => [(0, (0, .box 171 [.ptr 4 0 0, pI S'.1.w.time, a4w true S'.1.w.apps, .ref 1 0, .ref 2 0, pI S'.1.w.hub.round, w0w true S'.1.w.hub.ones, w0w true S'.1.w.hub.twos, w0w true S'.1.w.hub.outs, r9r true S'.1.w.sink, .ref 3 0])), (1, (0, .row 65 13 ((S'.1.w.nodes).map (u1u true)))), (2, (0, .row 79 11 ((S'.1.w.radio).map (u9u true)))), (3, (0, .row 263 5 ((S'.1.list).map a3i))), (4, (0, .box 243 [v5v true bs, .pv (.int .i64 ((S'.1.p : Nat) : Int))]))]) := by
 refine mE (ι := Sm × Bool) Tryz.f239 (fun S' => [.pv (.bool (S'.2))]) 5 4 fun γ => ?_
 have hll := hS.2.1
 refine dv 1 ?_
 refine x9x (id := 5) rfl rfl rfl (dv 1 ?_)
 refine d3e 5 (b4t v9v 0 5 rfl rfl ?_)
 refine dv 5 ?_
 refine b4t v9v 9 1 rfl rfl ?_
 refine x3x (id := 6) b5o b8r rfl (b6f c1k (by rfl) [1, 2] [_, _] (d1m S.w ek en ep ew eb hS.1) rfl rfl rfl rfl (by decide) rfl rfl f1z (fun _ => (by (simp only [pI, a2d, a2e, b9u, gl, nx, a7d, Nat.beq]; rfl))) (fun _ => (by (simp only [pI, a2d, a2e, b9u, gl, nx, a7d, Nat.beq]; rfl))) (S.w, false) ⟨hS.1, fun _ => rfl⟩ fun j hj => ?_)
 obtain ⟨hj1, hj2⟩ := hj
 refine b4u v9v 6 3 rfl rfl ?_
 refine dv 3 ?_
 refine b4u v9v 10 2 rfl rfl ?_
 refine dv 2 ?_
 refine c2x (by kernel_rfl) ?_
 refine dc 3 (fun K K' => aS ?_ ?_)<;>intro hc2<;>try simp at hc2
 ·have hb : j.2 = false := hc2
  obtain ⟨T, b⟩ := j
  obtain rfl : b = false := hb
  refine dv 5 ?_
  exact ⟨(⟨{ S.w with nodes := T.nodes }, S.list, S.p⟩, false), ⟨f1t hS.1 hj1, Nat.le_succ_of_le hll, Nat.le_succ_of_le hS.2.2⟩, [γ 0, _, γ 2, γ 3, γ 4], rfl, rfl, HE.box rfl rfl (HE.row rfl rfl (HE.row rfl (congrArg (List.map (u9u true)) (hj2 rfl)) (HE.row rfl rfl (HE.box rfl rfl HE.nil))))⟩
 have hb : j.2 = true := hc2
 obtain ⟨T, b⟩ := j
 obtain rfl : b = true := hb
 refine dv 5 ?_
 refine a0m rfl rfl b5o rfl rfl rfl rfl (s8s rfl) rfl ?_
 refine dv 7 ?_
 refine y6y (id := 7) d8t rfl a1j rfl rfl rfl rfl rfl rfl ?_
 refine y7y (zs := (S.list ++ [(⟨ek, en, ep, ew, eb⟩ : Te)]).map a3i) rfl rfl d8t rfl a1j rfl rfl rfl rfl (by rfl) (z8z a3i S.list (⟨ek, en, ep, ew, eb⟩ : Te)) (by (simp only [s2s, r5r, s1s, s3s, a0l, a2z, T263]; omega)) ?_
 refine dv 7 ?_
 exact ⟨(⟨T, S.list ++ [(⟨ek, en, ep, ew, eb⟩ : Te)], S.p⟩, true), ⟨hj1, by show (S.list ++ [_]).length ≤ _; rw [List.length_append]; exact Nat.succ_le_succ hll, Nat.le_succ_of_le hS.2.2⟩, [γ 0, _, _, _, γ 4], rfl, rfl, x5x⟩
end
section
theorem w3w (bs : List Nat) (hbs : ∀ b ∈ bs, b < 256) (S : Sm) (c : Nat) (hS : smOk S c) (m odd : Nat) (hc : c + 4 * m ≤ 1000000) : MethE Tryz.prog 280 5 [.ptr 0 0 0, .pv (.int .i64 (m : Int)), .pv (.int .i64 (odd : Int))] [(0, (0, .box 171 [.ptr 4 0 0, pI S.w.time, a4w true S.w.apps, .ref 1 0, .ref 2 0, pI S.w.hub.round, w0w true S.w.hub.ones, w0w true S.w.hub.twos, w0w true S.w.hub.outs, r9r true S.w.sink, .ref 3 0])), (1, (0, .row 65 13 ((S.w.nodes).map (u1u true)))), (2, (0, .row 79 11 ((S.w.radio).map (u9u true)))), (3, (0, .row 263 5 ((S.list).map a3i))), (4, (0, .box 243 [v5v true bs, .pv (.int .i64 ((S.p : Nat) : Int))]))] (ι := Sm) (fun S' => smOk S' (c + 4 * m)) (fun S' => [0, 4]) (fun S' => .tup []) (fun S' => [(0, (0, .box 171 [.ptr 4 0 0, pI S'.w.time, a4w true S'.w.apps, .ref 1 0, .ref 2 0, pI S'.w.hub.round, w0w true S'.w.hub.ones, w0w true S'.w.hub.twos, w0w true S'.w.hub.outs, r9r true S'.w.sink, .ref 3 0])), (1, (0, .row 65 13 ((S'.w.nodes).map (u1u true)))), (2, (0, .row 79 11 ((S'.w.radio).map (u9u true)))), (3, (0, .row 263 5 ((S'.list).map a3i))), (4, (0, .box 243 [v5v true bs, .pv (.int .i64 ((S'.p : Nat) : Int))]))]) := by
 refine mE (ι := Sm) Tryz.f280 (fun S' => []) 5 1 fun γ => ?_
 refine dv 3 ?_
 refine x6x (ι := Sm × Nat) (fun p γ1 => [(6, pI (p.2 : Int))]) (fun p γ1 => [(1, ((γ1 1), .row 65 13 ((p.1.w.nodes).map (u1u true)))), (2, ((γ1 2), .row 79 11 ((p.1.w.radio).map (u9u true)))), (3, ((γ1 3), .row 263 5 ((p.1.list).map a3i))), (0, ((γ 0), .box 171 [.ptr 4 (γ 4) 0, pI p.1.w.time, a4w true p.1.w.apps, .ref 1 (γ1 1), .ref 2 (γ1 2), pI p.1.w.hub.round, w0w true p.1.w.hub.ones, w0w true p.1.w.hub.twos, w0w true p.1.w.hub.outs, r9r true p.1.w.sink, .ref 3 (γ1 3)])), (4, ((γ 4), .box 243 [v5v true bs, pI ((p.1.p : Nat) : Int)])), (5, ((γ1 5), .dead))]) (fun p => smOk p.1 (c + 4 * p.2) ∧ p.2 ≤ m) (fun p => m - p.2) (r7r [0, 1, 2] rfl) HE.nil (S, 0) ⟨hS, Nat.zero_le _⟩ [0, _, _, _, 0, _] x7x x5x rfl fun p γ1 hi => ?_
 obtain ⟨S1, i⟩ := p
 obtain ⟨h1, h2⟩ := hi
 dsimp only at h1 h2 ⊢
 have hp := h1.2.2
 refine dc 6 (fun K K' => aS ?_ ?_)<;>intro h<;>try simp at h
 ·refine dv 9 ?_
  exact ⟨S1, h1.mono (by omega), [γ 0, _, _, _, γ 4], rfl, rfl, x5x⟩
 refine dv 5 ?_
 refine a4i (n := S1.w.radio.length) rfl q4q rfl rfl (List.length_map _) ?_
 refine dc 2 (aS ?_ ?_)<;>intro h<;>try simp at h
 ·refine dv 1 ?_
  exact ⟨S1, h1.mono (by omega), [γ 0, _, _, _, γ 4], rfl, rfl, x5x⟩
 refine dv 4 fun K K' => ?_
 refine rlB a1j a2c ?_
 refine x3x (id := 5) a1j a2c rfl (dv 1 ?_)
 refine r0r (ι := Nat × Int × Int × Bool) (fun q4 γ2 => []) (fun q4 γ2 => [(4, ((γ 4), .box 243 [v5v true bs, pI ((q4.1 : Nat) : Int)])), (5, ((γ1 5 + 1), .box 263 [pI q4.2.1, pI 0, pI 0, pI q4.2.2.1, .pv (.bool q4.2.2.2)]))]) (fun q4 => q4.1 ≤ c + 4 * i + 3) (r7r [0, 1, 2, 6, 7] rfl) (a1m [0, 1, 2, 3] rfl) ?_ fun q4 γ2 hi => ?_
 ·refine dc 4 (aS ?_ ?_)<;>intro h<;>try simp at h
  ·refine dv 9 ?_
   exact ⟨(S1.p, 4, 0, false), (by show S1.p ≤ c + 4 * i + 3; omega), [], x7x, x7x, x5x, x5x, rfl⟩
  refine dv 5 ?_
  refine rlM [4] [_] (x1x true bs (S1.p) (odd) (by have := hp; omega) hbs) rfl rfl rfl ?_
  refine dc 2 (aS ?_ ?_)<;>intro h<;>try simp at h
  ·refine dv 1 ?_
   exact ⟨(S1.p + 1, 4, 0, false), (by show S1.p + 1 ≤ c + 4 * i + 3; omega), [], x7x, x7x, x5x, x5x, rfl⟩
  refine dv 5 ?_
  refine rlM [4] [_] (x1x true bs (S1.p + 1) (4) (by have := hp; omega) hbs) rfl rfl rfl ?_
  refine dc 4 (aI ?_ ?_)<;>intro h<;>try simp at h
  ·refine dv 3 ?_
   exact ⟨(S1.p + 1 + 1, 5, 0, false), (by show S1.p + 1 + 1 ≤ c + 4 * i + 3; omega), [], x7x, x7x, x5x, x5x, rfl⟩
  refine dc 3 (aI ?_ ?_)<;>intro h<;>try simp at h
  ·refine dv 3 ?_
   exact ⟨(S1.p + 1 + 1, 4, 0, true), (by show S1.p + 1 + 1 ≤ c + 4 * i + 3; omega), [], x7x, x7x, x5x, x5x, rfl⟩
  refine dv 10 ?_
  refine a4i (n := S1.w.radio.length) rfl q4q rfl rfl (List.length_map _) ?_
  refine rlM [4] [_] (x1x true bs (S1.p + 1 + 1) (S1.w.radio.length) (by have := hp; omega) hbs) rfl rfl rfl ?_
  refine dv 2 ?_
  exact ⟨(S1.p + 1 + 1 + 1, 4, (pk bs (S1.p + 1 + 1) S1.w.radio.length : Int), false), (by show S1.p + 1 + 1 + 1 ≤ c + 4 * i + 3; omega), [], x7x, x7x, x5x, x5x, rfl⟩
 ·try dsimp only [b3d, b3e]
  obtain ⟨q, ek, ew, eb⟩ := q4
  dsimp only at hi ⊢
  refine a7j fun B X0 w0 => ?_
  refine txR 2 rfl rfl (dv 2 ?_)
  refine txM [0, 1, 2, 3, 4] [_, _, _, _, _] (z0z bs hbs (pSm S1 q) (c + 4 * i + 3) (a3b h1 (by omega) hi) ek 0 0 ew eb (by omega)) rfl rfl rfl rfl fun J hJ => ?_
  obtain ⟨j, jb⟩ := J
  have hj : smOk j (c + 4 * i + 3 + 1) := hJ
  refine z7z rfl (dv 2 ?_)
  refine x8x (b := 1) rfl rfl (by omega) (dv 1 ?_)
  exact ⟨(j, i + 1), ⟨⟨hj.mono (by show _ ≤ c + 4 * (i + 1); omega), by show i + 1 ≤ m; omega⟩, (by show m - (i + 1) < m - i; omega)⟩, [0, _, _, _, 0, _], x7x, x7x, x5x, x5x, rfl⟩
end
section
theorem a5l (bs : List Nat) (hbs : ∀ b ∈ bs, b < 256) (S : Sm) (c : Nat) (hS : smOk S c) (m : Nat) (hm : m ≤ 1000) (hc : c + (2 + m) ≤ 1000000) : MethE Tryz.prog 134 5 [.ptr 0 0 0, .pv (.int .i64 (m : Int))] [(0, (0, .box 171 [.ptr 4 0 0, pI S.w.time, a4w true S.w.apps, .ref 1 0, .ref 2 0, pI S.w.hub.round, w0w true S.w.hub.ones, w0w true S.w.hub.twos, w0w true S.w.hub.outs, r9r true S.w.sink, .ref 3 0])), (1, (0, .row 65 13 ((S.w.nodes).map (u1u true)))), (2, (0, .row 79 11 ((S.w.radio).map (u9u true)))), (3, (0, .row 263 5 ((S.list).map a3i))), (4, (0, .box 243 [v5v true bs, .pv (.int .i64 ((S.p : Nat) : Int))]))] (ι := Sm) (fun S' => smOk S' (c + (2 + m))) (fun S' => [0, 4]) (fun S' => .tup []) (fun S' => [(0, (0, .box 171 [.ptr 4 0 0, pI S'.w.time, a4w true S'.w.apps, .ref 1 0, .ref 2 0, pI S'.w.hub.round, w0w true S'.w.hub.ones, w0w true S'.w.hub.twos, w0w true S'.w.hub.outs, r9r true S'.w.sink, .ref 3 0])), (1, (0, .row 65 13 ((S'.w.nodes).map (u1u true)))), (2, (0, .row 79 11 ((S'.w.radio).map (u9u true)))), (3, (0, .row 263 5 ((S'.list).map a3i))), (4, (0, .box 243 [v5v true bs, .pv (.int .i64 ((S'.p : Nat) : Int))]))]) := by
 refine mE (ι := Sm) Tryz.f134 (fun S' => []) 5 0 fun γ => ?_
 have hp := hS.2.2
 refine dv 5 ?_
 refine rlM [4] [_] (x1x true bs (S.p) (4) (by have := hp; omega) hbs) rfl rfl rfl ?_
 refine dv 1 ?_
 obtain ⟨Pr, ePr, hPr⟩ : ∃ Pr, pk bs S.p 4 = Pr ∧ Pr ≤ 4 := ⟨_, rfl, b1i _ _ _⟩
 rw [ePr]
 refine dv 6 ?_
 refine rlM [4] [_] (x1x true bs (S.p + 1) (m) (by have := hp; omega) hbs) rfl rfl rfl ?_
 refine dv 1 ?_
 obtain ⟨N, eN, hN⟩ : ∃ N, pk bs (S.p + 1) m = N ∧ N ≤ m := ⟨_, rfl, b1i _ _ _⟩
 rw [eN]
 refine dv 1 ?_
 refine x6x (ι := Sm × Nat) (fun p γ1 => [(5, pI (p.2 : Int))]) (fun p γ1 => [(1, ((γ1 1), .row 65 13 ((p.1.w.nodes).map (u1u true)))), (2, ((γ1 2), .row 79 11 ((p.1.w.radio).map (u9u true)))), (3, ((γ1 3), .row 263 5 ((p.1.list).map a3i))), (0, ((γ 0), .box 171 [.ptr 4 (γ 4) 0, pI p.1.w.time, a4w true p.1.w.apps, .ref 1 (γ1 1), .ref 2 (γ1 2), pI p.1.w.hub.round, w0w true p.1.w.hub.ones, w0w true p.1.w.hub.twos, w0w true p.1.w.hub.outs, r9r true p.1.w.sink, .ref 3 (γ1 3)])), (4, ((γ 4), .box 243 [v5v true bs, pI ((p.1.p : Nat) : Int)]))]) (fun p => smOk p.1 (c + 2 + (N - p.2)) ∧ p.2 ≤ N) (fun p => p.2) (r7r [0, 4] rfl) HE.nil (pSm S (S.p + 1 + 1), N) ⟨a3b hS (by show _ ≤ c + 2 + (N - N); omega) (by show _ ≤ c + 2 + (N - N); omega), Nat.le_refl _⟩ [0, _, _, _] x7x x5x rfl fun p γ1 hi => ?_
 obtain ⟨S1, i⟩ := p
 obtain ⟨h1, h2⟩ := hi
 dsimp only at h1 h2 ⊢
 refine dc 4 (fun K K' => aS ?_ ?_)<;>intro h<;>try simp at h
 ·refine dv 1 ?_
  exact ⟨S1, h1.mono (by omega), [γ 0, _, _, _, γ 4], rfl, rfl, x5x⟩
 obtain ⟨i', rfl⟩ : ∃ i', i = i' + 1 := ⟨i - 1, by omega⟩
 refine dv 3 fun K K' => ?_
 refine a7j fun B X0 w0 => ?_
 refine txR 5 rfl rfl (dv 2 ?_)
 refine x0x rfl rfl rfl (a1g ..) (dv 1 ?_)
 refine rlB a1j a2c ?_
 refine txM [0, 1, 2, 3, 4] [_, _, _, _, _] (z0z bs hbs S1 (c + 2 + (N - (i' + 1))) (h1.mono (by omega)) 1 (a0e Pr) Pr 0 false (by omega)) rfl rfl rfl rfl fun J hJ => ?_
 obtain ⟨j, jb⟩ := J
 have hj : smOk j (c + 2 + (N - (i' + 1)) + 1) := hJ
 refine z7z rfl (dv 2 ?_)
 refine r6r (b := 1) rfl rfl (by omega) (by omega) (dv 1 ?_)
 exact ⟨(j, i'), ⟨⟨hj.mono (by show _ ≤ c + 2 + (N - i'); omega), by show i' ≤ N; omega⟩, (by show i' < i' + 1; omega)⟩, [0, _, _, _], x7x, x7x, x5x, x5x, rfl⟩
end
section
theorem a1u (bs : List Nat) (hbs : ∀ b ∈ bs, b < 256) (S : Sm) (c : Nat) (hS : smOk S c) (m odd : Nat) (hc : c + 195 * m ≤ 1000000) : MethE Tryz.prog 249 5 [.ptr 0 0 0, .pv (.int .i64 (m : Int)), .pv (.int .i64 (odd : Int))] [(0, (0, .box 171 [.ptr 4 0 0, pI S.w.time, a4w true S.w.apps, .ref 1 0, .ref 2 0, pI S.w.hub.round, w0w true S.w.hub.ones, w0w true S.w.hub.twos, w0w true S.w.hub.outs, r9r true S.w.sink, .ref 3 0])), (1, (0, .row 65 13 ((S.w.nodes).map (u1u true)))), (2, (0, .row 79 11 ((S.w.radio).map (u9u true)))), (3, (0, .row 263 5 ((S.list).map a3i))), (4, (0, .box 243 [v5v true bs, .pv (.int .i64 ((S.p : Nat) : Int))]))] (ι := Sm) (fun S' => smOk S' (c + 195 * m)) (fun S' => [0, 4]) (fun S' => .tup []) (fun S' => [(0, (0, .box 171 [.ptr 4 0 0, pI S'.w.time, a4w true S'.w.apps, .ref 1 0, .ref 2 0, pI S'.w.hub.round, w0w true S'.w.hub.ones, w0w true S'.w.hub.twos, w0w true S'.w.hub.outs, r9r true S'.w.sink, .ref 3 0])), (1, (0, .row 65 13 ((S'.w.nodes).map (u1u true)))), (2, (0, .row 79 11 ((S'.w.radio).map (u9u true)))), (3, (0, .row 263 5 ((S'.list).map a3i))), (4, (0, .box 243 [v5v true bs, .pv (.int .i64 ((S'.p : Nat) : Int))]))]) := by
 refine mE (ι := Sm) Tryz.f249 (fun S' => []) 5 0 fun γ => ?_
 refine dv 3 ?_
 refine x6x (ι := Sm × Nat) (fun p γ1 => [(6, pI (p.2 : Int))]) (fun p γ1 => [(1, ((γ1 1), .row 65 13 ((p.1.w.nodes).map (u1u true)))), (2, ((γ1 2), .row 79 11 ((p.1.w.radio).map (u9u true)))), (3, ((γ1 3), .row 263 5 ((p.1.list).map a3i))), (0, ((γ 0), .box 171 [.ptr 4 (γ 4) 0, pI p.1.w.time, a4w true p.1.w.apps, .ref 1 (γ1 1), .ref 2 (γ1 2), pI p.1.w.hub.round, w0w true p.1.w.hub.ones, w0w true p.1.w.hub.twos, w0w true p.1.w.hub.outs, r9r true p.1.w.sink, .ref 3 (γ1 3)])), (4, ((γ 4), .box 243 [v5v true bs, pI ((p.1.p : Nat) : Int)]))]) (fun p => smOk p.1 (c + 195 * p.2) ∧ p.2 ≤ m) (fun p => m - p.2) (r7r [0, 1, 2] rfl) HE.nil (S, 0) ⟨hS, Nat.zero_le _⟩ [0, _, _, _] x7x x5x rfl fun p γ1 hi => ?_
 obtain ⟨S1, k⟩ := p
 obtain ⟨h1, h2⟩ := hi
 dsimp only at h1 h2 ⊢
 refine dc 5 (fun K K' => aS ?_ ?_)<;>intro h<;>try simp at h
 ·refine dv 1 ?_
  exact ⟨S1, h1.mono (by omega), [γ 0, _, _, _, γ 4], rfl, rfl, x5x⟩
 refine dv 7 fun K K' K K' => ?_
 refine x6x (ι := Sm × Nat) (fun p γ2 => [(7, pI (p.2 : Int))]) (fun p γ2 => [(1, ((γ2 1), .row 65 13 ((p.1.w.nodes).map (u1u true)))), (2, ((γ2 2), .row 79 11 ((p.1.w.radio).map (u9u true)))), (3, ((γ2 3), .row 263 5 ((p.1.list).map a3i))), (0, ((γ 0), .box 171 [.ptr 4 (γ 4) 0, pI p.1.w.time, a4w true p.1.w.apps, .ref 1 (γ2 1), .ref 2 (γ2 2), pI p.1.w.hub.round, w0w true p.1.w.hub.ones, w0w true p.1.w.hub.twos, w0w true p.1.w.hub.outs, r9r true p.1.w.sink, .ref 3 (γ2 3)])), (4, ((γ 4), .box 243 [v5v true bs, pI ((p.1.p : Nat) : Int)]))]) (fun p => smOk p.1 (c + 195 * k + (30 * p.2)) ∧ p.2 ≤ 4) (fun p => 4 - p.2) (r7r [0, 1, 2, 6] rfl) HE.nil (S1, 0) ⟨h1, Nat.zero_le _⟩ [0, _, _, _] x7x x5x rfl fun p γ2 hi => ?_
 obtain ⟨S2, i⟩ := p
 obtain ⟨j1, j2⟩ := hi
 dsimp only at j1 j2 ⊢
 refine dc 4 (fun K K' => aS ?_ ?_)<;>intro h<;>try simp at h
 ·refine dv 4 ?_
  refine x6x (ι := Sm × Nat) (fun p γ5 => [(9, pI (p.2 : Int))]) (fun p γ5 => [(1, ((γ5 1), .row 65 13 ((p.1.w.nodes).map (u1u true)))), (2, ((γ5 2), .row 79 11 ((p.1.w.radio).map (u9u true)))), (3, ((γ5 3), .row 263 5 ((p.1.list).map a3i))), (0, ((γ 0), .box 171 [.ptr 4 (γ 4) 0, pI p.1.w.time, a4w true p.1.w.apps, .ref 1 (γ5 1), .ref 2 (γ5 2), pI p.1.w.hub.round, w0w true p.1.w.hub.ones, w0w true p.1.w.hub.twos, w0w true p.1.w.hub.outs, r9r true p.1.w.sink, .ref 3 (γ5 3)])), (4, ((γ 4), .box 243 [v5v true bs, pI ((p.1.p : Nat) : Int)]))]) (fun p => smOk p.1 (c + 195 * k + (120 + 25 * p.2)) ∧ p.2 ≤ 3) (fun p => 3 - p.2) (r7r [0, 1, 2, 6] rfl) HE.nil (S2, 0) ⟨j1.mono (by omega), Nat.zero_le _⟩ [0, _, _, _] x7x x5x rfl fun p γ5 hi => ?_
  obtain ⟨S4, q⟩ := p
  obtain ⟨l1, l2⟩ := hi
  dsimp only at l1 l2 ⊢
  refine dc 4 (fun K K' => aS ?_ ?_)<;>intro h<;>try simp at h
  ·refine dv 3 ?_
   refine x8x (b := 1) rfl rfl (by omega) (dv 1 ?_)
   exact ⟨(S4, k + 1), ⟨⟨l1.mono (by show _ ≤ c + 195 * (k + 1); omega), by show k + 1 ≤ m; omega⟩, (by show m - (k + 1) < m - k; omega)⟩, [0, _, _, _], x7x, x7x, x5x, x5x, rfl⟩
  refine dv 3 fun K K' => ?_
  refine s6s fun B X0 w0 => ?_
  refine txR 3 rfl rfl (dv 2 ?_)
  refine rlB a1j a2c ?_
  refine txM [0, 1, 2, 3, 4] [_, _, _, _, _] (z0z bs hbs S4 (c + 195 * k + (120 + 25 * q)) l1 2 q 0 0 false (by omega)) rfl rfl rfl rfl fun J hJ => ?_
  obtain ⟨j, jb⟩ := J
  have hj : smOk j (c + 195 * k + (120 + 25 * q) + 1) := hJ
  refine z7z rfl (a7j fun B X0 w0 => ?_)
  refine txR 2 rfl rfl (dv 2 ?_)
  refine txM [0, 1, 2, 3, 4] [_, _, _, _, _] (w3w bs hbs j (c + 195 * k + (120 + 25 * q) + 1) hj 6 odd (by omega)) rfl rfl rfl rfl fun r hr => ?_
  refine z7z rfl (dv 2 ?_)
  refine x8x (b := 1) rfl rfl (by omega) (dv 1 ?_)
  exact ⟨(r, q + 1), ⟨⟨hr.mono (by show _ ≤ c + 195 * k + (120 + 25 * (q + 1)); omega), by show q + 1 ≤ 3; omega⟩, (by show 3 - (q + 1) < 3 - q; omega)⟩, [0, _, _, _], x7x, x7x, x5x, x5x, rfl⟩
 refine dv 1 ?_
 refine r0r (ι := Sm) (fun T γ3 => []) (fun T γ3 => [(1, ((γ3 1), .row 65 13 ((T.w.nodes).map (u1u true)))), (2, ((γ3 2), .row 79 11 ((T.w.radio).map (u9u true)))), (3, ((γ3 3), .row 263 5 ((T.list).map a3i))), (0, ((γ 0), .box 171 [.ptr 4 (γ 4) 0, pI T.w.time, a4w true T.w.apps, .ref 1 (γ3 1), .ref 2 (γ3 2), pI T.w.hub.round, w0w true T.w.hub.ones, w0w true T.w.hub.twos, w0w true T.w.hub.outs, r9r true T.w.sink, .ref 3 (γ3 3)])), (4, ((γ 4), .box 243 [v5v true bs, pI ((T.p : Nat) : Int)]))]) (fun T => smOk T (c + 195 * k + (30 * i + 30))) (r7r [0, 1, 2, 6, 7] rfl) HE.nil ?_ fun T γ3 hi => ?_
 ·refine dv 4 ?_
  refine x6x (ι := Sm × Nat) (fun p γ4 => [(8, pI (p.2 : Int))]) (fun p γ4 => [(1, ((γ4 1), .row 65 13 ((p.1.w.nodes).map (u1u true)))), (2, ((γ4 2), .row 79 11 ((p.1.w.radio).map (u9u true)))), (3, ((γ4 3), .row 263 5 ((p.1.list).map a3i))), (0, ((γ 0), .box 171 [.ptr 4 (γ 4) 0, pI p.1.w.time, a4w true p.1.w.apps, .ref 1 (γ4 1), .ref 2 (γ4 2), pI p.1.w.hub.round, w0w true p.1.w.hub.ones, w0w true p.1.w.hub.twos, w0w true p.1.w.hub.outs, r9r true p.1.w.sink, .ref 3 (γ4 3)])), (4, ((γ 4), .box 243 [v5v true bs, pI ((p.1.p : Nat) : Int)]))]) (fun p => smOk p.1 (c + 195 * k + (30 * i + p.2)) ∧ p.2 ≤ 30) (fun p => 30 - p.2) (r7r [0, 1, 2, 6, 7] rfl) HE.nil (S2, 0) ⟨j1, Nat.zero_le _⟩ [0, _, _, _] x7x x5x rfl fun p γ4 hi => ?_
  obtain ⟨S3, q⟩ := p
  obtain ⟨k1, k2⟩ := hi
  dsimp only at k1 k2 ⊢
  refine dv 1 fun K K' => ?_
  refine s6s fun B X0 w0 => ?_
  refine txR 3 rfl rfl (dv 3 ?_)
  refine f5q 21 rfl ?_ ?_<;>intro h<;>try simp at h
  rotate_left
  ·refine txR 7 rfl rfl (dv 7 ?_)
   refine z7z rfl (dv 2 ?_)
   exact ⟨S3, (k1.mono (by omega)), [0, _, _, _], x7x, x7x, x5x, x5x, rfl⟩
  refine txR 5 rfl rfl (dv 2 ?_)
  refine x0x rfl rfl rfl (a1g ..) (dv 1 ?_)
  refine rlB a1j a2c ?_
  refine e3j [0, 1, 2, 3, 4] [_, _, _, _, _] (z0z bs hbs S3 (c + 195 * k + (30 * i + q)) k1 1 (a0e i) i 0 false (by omega)) rfl rfl rfl rfl rfl rfl rfl (by decide) rfl rfl f1z (fun _ => (by (simp only [pI, a2d, a2e, b9u, gl, nx, a7d, Nat.beq]; rfl))) (fun _ => (by (simp only [pI, a2d, a2e, b9u, gl, nx, a7d, Nat.beq]; rfl))) fun J hJ => ?_
  obtain ⟨j, jb⟩ := J
  have hj : smOk j (c + 195 * k + (30 * i + q) + 1) := hJ
  refine txR 1 rfl rfl (dv 1 ?_)
  refine z7z rfl (dc 0 (aS ?_ ?_))<;>intro h<;>try simp at h
  ·refine dv 1 ?_
   exact ⟨j, (hj.mono (by omega)), [0, _, _, _], x7x, x7x, x5x, x5x, rfl⟩
  refine dv 6 ?_
  refine x8x (b := 1) rfl rfl (by omega) (dv 1 ?_)
  exact ⟨(j, q + 1), ⟨⟨hj.mono (by show _ ≤ c + 195 * k + (30 * i + (q + 1)); omega), by show q + 1 ≤ 30; omega⟩, (by show 30 - (q + 1) < 30 - q; omega)⟩, [0, _, _, _], x7x, x7x, x5x, x5x, rfl⟩
 ·try dsimp only [b3d, b3e]
  refine dv 2 ?_
  refine x8x (b := 1) rfl rfl (by omega) (dv 1 ?_)
  exact ⟨(T, i + 1), ⟨⟨hi.mono (by show _ ≤ c + 195 * k + 30 * (i + 1); omega), by show i + 1 ≤ 4; omega⟩, (by show 4 - (i + 1) < 4 - i; omega)⟩, [0, _, _, _], x7x, x7x, x5x, x5x, rfl⟩
end
section
theorem b9l (bs : List Nat) (hbs : ∀ b ∈ bs, b < 256) (S : Sm) (c : Nat) (hS : smOk S c)  (hc : c + 960 ≤ 1000000) : MethE Tryz.prog 289 5 [.ptr 0 0 0] [(0, (0, .box 171 [.ptr 4 0 0, pI S.w.time, a4w true S.w.apps, .ref 1 0, .ref 2 0, pI S.w.hub.round, w0w true S.w.hub.ones, w0w true S.w.hub.twos, w0w true S.w.hub.outs, r9r true S.w.sink, .ref 3 0])), (1, (0, .row 65 13 ((S.w.nodes).map (u1u true)))), (2, (0, .row 79 11 ((S.w.radio).map (u9u true)))), (3, (0, .row 263 5 ((S.list).map a3i))), (4, (0, .box 243 [v5v true bs, .pv (.int .i64 ((S.p : Nat) : Int))]))] (ι := Sm) (fun S' => smOk S' (c + 960)) (fun S' => [0, 4]) (fun S' => .tup []) (fun S' => [(0, (0, .box 171 [.ptr 4 0 0, pI S'.w.time, a4w true S'.w.apps, .ref 1 0, .ref 2 0, pI S'.w.hub.round, w0w true S'.w.hub.ones, w0w true S'.w.hub.twos, w0w true S'.w.hub.outs, r9r true S'.w.sink, .ref 3 0])), (1, (0, .row 65 13 ((S'.w.nodes).map (u1u true)))), (2, (0, .row 79 11 ((S'.w.radio).map (u9u true)))), (3, (0, .row 263 5 ((S'.list).map a3i))), (4, (0, .box 243 [v5v true bs, .pv (.int .i64 ((S'.p : Nat) : Int))]))]) := by
 refine mE (ι := Sm) Tryz.f289 (fun S' => []) 5 0 fun γ => ?_
 refine s6s fun B X0 w0 => ?_
 refine txR 7 rfl rfl (dv 5 ?_)
 refine rlM [4] [_] (x1x true bs (S.p) (3) (by have := hS.2.2; omega) hbs) rfl rfl rfl ?_
 obtain ⟨N, eN, hN⟩ : ∃ N, pk bs S.p 3 = N ∧ N ≤ 3 := ⟨_, rfl, b1i _ _ _⟩
 rw [eN]
 refine x8x (a := 1) rfl rfl (by omega) ?_
 refine txM [0, 1, 2, 3, 4] [_, _, _, _, _] (a1u bs hbs (pSm S (S.p + 1)) (c + 1) (a3b hS (by omega) (by have := hS.2.2; omega)) (1 + N) 0 (by omega)) rfl rfl rfl rfl fun a ha => ?_
 have ha2 : smOk a (c + 781) := ha.mono (by omega)
 refine z7z rfl (s6s fun B X0 w0 => ?_)
 refine txR 2 rfl rfl (dv 1 ?_)
 refine rlB a1j a2c ?_
 refine txM [0, 1, 2, 3, 4] [_, _, _, _, _] (z0z bs hbs a (c + 781) ha2 3 0 0 0 false (by omega)) rfl rfl rfl rfl fun J hJ => ?_
 obtain ⟨j, jb⟩ := J
 have hj : smOk j (c + 781 + 1) := hJ
 refine z7z rfl (s6s fun B X0 w0 => ?_)
 refine txR 6 rfl rfl (dv 5 ?_)
 refine rlM [4] [_] (x1x true bs (j.p) (12) (by have := hj.2.2; omega) hbs) rfl rfl rfl ?_
 refine txM [0, 1, 2, 3, 4] [_, _, _, _, _] (w3w bs hbs (pSm j (j.p + 1)) (c + 783) (a3b hj (by omega) (by have := hj.2.2; omega)) (pk bs j.p 12) 0 (by have := b1i bs j.p 12; omega)) rfl rfl rfl rfl fun b hb => ?_
 have hb2 : smOk b (c + 831) := hb.mono (by have := b1i bs j.p 12; omega)
 refine z7z rfl (dv 5 ?_)
 refine rlM [4] [_] (x1x true bs (b.p) (3) (by have := hb2.2.2; omega) hbs) rfl rfl rfl ?_
 refine dv 1 ?_
 obtain ⟨Pr, ePr, hPr⟩ : ∃ Pr, pk bs b.p 3 = Pr ∧ Pr ≤ 3 := ⟨_, rfl, b1i _ _ _⟩
 rw [ePr]
 refine s6s fun B X0 w0 => ?_
 refine txR 3 rfl rfl (dv 2 ?_)
 refine rlB a1j a2c ?_
 refine txM [0, 1, 2, 3, 4] [_, _, _, _, _] (z0z bs hbs (pSm b (b.p + 1)) (c + 832) (a3b hb2 (by omega) (by have := hb2.2.2; omega)) 6 Pr 0 0 false (by omega)) rfl rfl rfl rfl fun J hJ => ?_
 obtain ⟨j, jb⟩ := J
 have hj : smOk j (c + 832 + 1) := hJ
 refine z7z rfl ?_
 refine r0r (ι := Sm) (fun T γ1 => []) (fun T γ1 => [(1, ((γ1 1), .row 65 13 ((T.w.nodes).map (u1u true)))), (2, ((γ1 2), .row 79 11 ((T.w.radio).map (u9u true)))), (3, ((γ1 3), .row 263 5 ((T.list).map a3i))), (0, ((γ 0), .box 171 [.ptr 4 (γ 4) 0, pI T.w.time, a4w true T.w.apps, .ref 1 (γ1 1), .ref 2 (γ1 2), pI T.w.hub.round, w0w true T.w.hub.ones, w0w true T.w.hub.twos, w0w true T.w.hub.outs, r9r true T.w.sink, .ref 3 (γ1 3)])), (4, ((γ 4), .box 243 [v5v true bs, pI ((T.p : Nat) : Int)]))]) (fun T => smOk T (c + 839)) (y0y 0 rfl Cov.nil) HE.nil ?_ fun T γ1 hi => ?_
 ·refine dv 5 ?_
  refine rlM [4] [_] (x1x true bs (j.p) (4) (by have := hj.2.2; omega) hbs) rfl rfl rfl ?_
  refine dc 1 (aS ?_ ?_)<;>intro h<;>try simp at h
  ·refine dv 1 ?_
   exact ⟨(pSm j (j.p + 1)), (a3b hj (by omega) (by have := hj.2.2; omega)), [0, _, _, _], x7x, x7x, x5x, x5x, rfl⟩
  refine s6s fun B X0 w0 => ?_
  refine txR 3 rfl rfl (dv 2 ?_)
  refine rlB a1j a2c ?_
  refine txM [0, 1, 2, 3, 4] [_, _, _, _, _] (z0z bs hbs (pSm j (j.p + 1)) (c + 834) (a3b hj (by omega) (by have := hj.2.2; omega)) 7 Pr 0 0 false (by omega)) rfl rfl rfl rfl fun J hJ => ?_
  obtain ⟨j, jb⟩ := J
  have hj : smOk j (c + 834 + 1) := hJ
  refine z7z rfl (s6s fun B X0 w0 => ?_)
  refine txR 3 rfl rfl (dv 2 ?_)
  refine rlB a1j a2c ?_
  refine txM [0, 1, 2, 3, 4] [_, _, _, _, _] (z0z bs hbs j (c + 834 + 1) hj 2 Pr 0 0 false (by omega)) rfl rfl rfl rfl fun J hJ => ?_
  obtain ⟨j, jb⟩ := J
  have hj : smOk j (c + 834 + 1 + 1) := hJ
  refine z7z rfl (dv 5 ?_)
  refine rlM [4] [_] (x1x true bs (j.p) (2) (by have := hj.2.2; omega) hbs) rfl rfl rfl ?_
  refine dc 1 (aS ?_ ?_)<;>intro h<;>try simp at h
  ·refine dv 1 ?_
   exact ⟨(pSm j (j.p + 1)), (a3b hj (by omega) (by have := hj.2.2; omega)), [0, _, _, _], x7x, x7x, x5x, x5x, rfl⟩
  refine s6s fun B X0 w0 => ?_
  refine txR 9 rfl rfl (dv 6 ?_)
  refine a4i (n := j.w.radio.length) rfl q4q rfl rfl (List.length_map _) ?_
  have hr40 := hj.1.2.2.2.1
  refine q9q (.int .i64 ((j.w.radio.length : Int) - 1)) rfl rfl rfl (a6i rfl (by omega) (by omega) (by omega)) ?_
  refine rlB a1j a2c ?_
  refine txM [0, 1, 2, 3, 4] [_, _, _, _, _] (z0z bs hbs (pSm j (j.p + 1)) (c + 837) (a3b hj (by omega) (by have := hj.2.2; omega)) 4 0 0 ((j.w.radio.length : Int) - 1) false (by omega)) rfl rfl rfl rfl fun J hJ => ?_
  obtain ⟨j, jb⟩ := J
  have hj : smOk j (c + 837 + 1) := hJ
  refine z7z rfl (a7j fun B X0 w0 => ?_)
  refine txR 9 rfl rfl (dv 6 ?_)
  refine a4i (n := j.w.radio.length) rfl q4q rfl rfl (List.length_map _) ?_
  have hr40 := hj.1.2.2.2.1
  refine q9q (.int .i64 ((j.w.radio.length : Int) - 1)) rfl rfl rfl (a6i rfl (by omega) (by omega) (by omega)) ?_
  refine rlB a1j a2c ?_
  refine txM [0, 1, 2, 3, 4] [_, _, _, _, _] (z0z bs hbs j (c + 837 + 1) hj 4 0 0 ((j.w.radio.length : Int) - 1) false (by omega)) rfl rfl rfl rfl fun J hJ => ?_
  obtain ⟨j, jb⟩ := J
  have hj : smOk j (c + 837 + 1 + 1) := hJ
  refine z7z rfl ?_
  exact ⟨j, (hj.mono (by omega)), [0, _, _, _], x7x, x7x, x5x, x5x, rfl⟩
 ·try dsimp only [b3d, b3e]
  refine a7j fun B X0 w0 => ?_
  refine txR 1 rfl rfl (dv 1 ?_)
  refine txM [0, 1, 2, 3, 4] [_, _, _, _, _] (w3w bs hbs T (c + 839) hi 30 6 (by omega)) rfl rfl rfl rfl fun r hr => ?_
  refine z7z rfl ?_
  exact ⟨.inl rfl, r, hr.mono (by omega), [γ 0, _, _, _, γ 4], rfl, rfl, x5x⟩
end
section
theorem a8h (bs : List Nat) (hbs : ∀ b ∈ bs, b < 256) (S : Sm) (c : Nat) (hS : smOk S c) (odd : Nat) (hc : c + 281 ≤ 1000000) : MethE Tryz.prog 215 5 [.ptr 0 0 0, .pv (.int .i64 (odd : Int))] [(0, (0, .box 171 [.ptr 4 0 0, pI S.w.time, a4w true S.w.apps, .ref 1 0, .ref 2 0, pI S.w.hub.round, w0w true S.w.hub.ones, w0w true S.w.hub.twos, w0w true S.w.hub.outs, r9r true S.w.sink, .ref 3 0])), (1, (0, .row 65 13 ((S.w.nodes).map (u1u true)))), (2, (0, .row 79 11 ((S.w.radio).map (u9u true)))), (3, (0, .row 263 5 ((S.list).map a3i))), (4, (0, .box 243 [v5v true bs, .pv (.int .i64 ((S.p : Nat) : Int))]))] (ι := Sm) (fun S' => smOk S' (c + 281)) (fun S' => [0, 4]) (fun S' => .tup []) (fun S' => [(0, (0, .box 171 [.ptr 4 0 0, pI S'.w.time, a4w true S'.w.apps, .ref 1 0, .ref 2 0, pI S'.w.hub.round, w0w true S'.w.hub.ones, w0w true S'.w.hub.twos, w0w true S'.w.hub.outs, r9r true S'.w.sink, .ref 3 0])), (1, (0, .row 65 13 ((S'.w.nodes).map (u1u true)))), (2, (0, .row 79 11 ((S'.w.radio).map (u9u true)))), (3, (0, .row 263 5 ((S'.list).map a3i))), (4, (0, .box 243 [v5v true bs, .pv (.int .i64 ((S'.p : Nat) : Int))]))]) := by
 refine mE (ι := Sm) Tryz.f215 (fun S' => []) 5 0 fun γ => ?_
 refine dv 4 fun K K' => ?_
 refine x6x (ι := Sm × Nat) (fun p γ1 => [(4, pI (p.2 : Int))]) (fun p γ1 => [(1, ((γ1 1), .row 65 13 ((p.1.w.nodes).map (u1u true)))), (2, ((γ1 2), .row 79 11 ((p.1.w.radio).map (u9u true)))), (3, ((γ1 3), .row 263 5 ((p.1.list).map a3i))), (0, ((γ 0), .box 171 [.ptr 4 (γ 4) 0, pI p.1.w.time, a4w true p.1.w.apps, .ref 1 (γ1 1), .ref 2 (γ1 2), pI p.1.w.hub.round, w0w true p.1.w.hub.ones, w0w true p.1.w.hub.twos, w0w true p.1.w.hub.outs, r9r true p.1.w.sink, .ref 3 (γ1 3)])), (4, ((γ 4), .box 243 [v5v true bs, pI ((p.1.p : Nat) : Int)]))]) (fun p => smOk p.1 (c + 7 * p.2) ∧ p.2 ≤ 4) (fun p => 4 - p.2) (r7r [0, 1] rfl) HE.nil (S, 0) ⟨hS, Nat.zero_le _⟩ [0, _, _, _] x7x x5x rfl fun p γ1 hi => ?_
 obtain ⟨S1, k⟩ := p
 obtain ⟨h1, h2⟩ := hi
 dsimp only at h1 h2 ⊢
 have hp := h1.2.2
 refine dc 4 (fun K K' => aI ?_ ?_)<;>intro h<;>try simp at h
 ·refine dv 8 fun K K' => ?_
  refine rlM [4] [_] (x1x true bs (S1.p) (6) (by have := hp; omega) hbs) rfl rfl rfl ?_
  refine dv 1 ?_
  obtain ⟨N, eN, hN⟩ : ∃ N, pk bs S1.p 6 = N ∧ N ≤ 6 := ⟨_, rfl, b1i _ _ _⟩
  rw [eN]
  refine dv 1 ?_
  refine x6x (ι := Sm × Nat) (fun p γ2 => [(5, pI (p.2 : Int))]) (fun p γ2 => [(1, ((γ2 1), .row 65 13 ((p.1.w.nodes).map (u1u true)))), (2, ((γ2 2), .row 79 11 ((p.1.w.radio).map (u9u true)))), (3, ((γ2 3), .row 263 5 ((p.1.list).map a3i))), (0, ((γ 0), .box 171 [.ptr 4 (γ 4) 0, pI p.1.w.time, a4w true p.1.w.apps, .ref 1 (γ2 1), .ref 2 (γ2 2), pI p.1.w.hub.round, w0w true p.1.w.hub.ones, w0w true p.1.w.hub.twos, w0w true p.1.w.hub.outs, r9r true p.1.w.sink, .ref 3 (γ2 3)])), (4, ((γ 4), .box 243 [v5v true bs, pI ((p.1.p : Nat) : Int)]))]) (fun p => smOk p.1 (c + 7 * k + 1 + (N - p.2)) ∧ p.2 ≤ N) (fun p => p.2) (r7r [0, 1, 4] rfl) HE.nil (pSm S1 (S1.p + 1), N) ⟨a3b h1 (by show _ ≤ c + 7 * k + 1 + (N - N); omega) (by show _ ≤ c + 7 * k + 1 + (N - N); omega), Nat.le_refl _⟩ [0, _, _, _] x7x x5x rfl fun p γ2 hi => ?_
  obtain ⟨S2, i⟩ := p
  obtain ⟨j1, j2⟩ := hi
  dsimp only at j1 j2 ⊢
  refine dc 4 (fun K K' => aS ?_ ?_)<;>intro h<;>try simp at h
  ·refine dv 3 ?_
   refine x8x (b := 1) rfl rfl (by omega) (dv 1 ?_)
   exact ⟨(S2, k + 1), ⟨⟨j1.mono (by show _ ≤ c + 7 * (k + 1); omega), by show k + 1 ≤ 4; omega⟩, (by show 4 - (k + 1) < 4 - k; omega)⟩, [0, _, _, _], x7x, x7x, x5x, x5x, rfl⟩
  obtain ⟨i', rfl⟩ : ∃ i', i = i' + 1 := ⟨i - 1, by omega⟩
  refine dv 3 fun K K' => ?_
  refine a7j fun B X0 w0 => ?_
  refine txR 5 rfl rfl (dv 2 ?_)
  refine x0x rfl rfl rfl (a1g ..) (dv 1 ?_)
  refine rlB a1j a2c ?_
  refine txM [0, 1, 2, 3, 4] [_, _, _, _, _] (z0z bs hbs S2 (c + 7 * k + 1 + (N - (i' + 1))) (j1.mono (by omega)) 1 (a0e k) k 0 false (by omega)) rfl rfl rfl rfl fun J hJ => ?_
  obtain ⟨j, jb⟩ := J
  have hj : smOk j (c + 7 * k + 1 + (N - (i' + 1)) + 1) := hJ
  refine z7z rfl (dv 2 ?_)
  refine r6r (b := 1) rfl rfl (by omega) (by omega) (dv 1 ?_)
  exact ⟨(j, i'), ⟨⟨hj.mono (by show _ ≤ c + 7 * k + 1 + (N - i'); omega), by show i' ≤ N; omega⟩, (by show i' < i' + 1; omega)⟩, [0, _, _, _], x7x, x7x, x5x, x5x, rfl⟩
 refine dv 5 fun K K' => ?_
 refine x6x (ι := Sm × Nat) (fun p γ3 => [(6, pI (p.2 : Int))]) (fun p γ3 => [(1, ((γ3 1), .row 65 13 ((p.1.w.nodes).map (u1u true)))), (2, ((γ3 2), .row 79 11 ((p.1.w.radio).map (u9u true)))), (3, ((γ3 3), .row 263 5 ((p.1.list).map a3i))), (0, ((γ 0), .box 171 [.ptr 4 (γ 4) 0, pI p.1.w.time, a4w true p.1.w.apps, .ref 1 (γ3 1), .ref 2 (γ3 2), pI p.1.w.hub.round, w0w true p.1.w.hub.ones, w0w true p.1.w.hub.twos, w0w true p.1.w.hub.outs, r9r true p.1.w.sink, .ref 3 (γ3 3)])), (4, ((γ 4), .box 243 [v5v true bs, pI ((p.1.p : Nat) : Int)]))]) (fun p => smOk p.1 (c + 28 + p.2) ∧ p.2 ≤ 3) (fun p => 3 - p.2) (r7r [0, 1] rfl) HE.nil (S1, 0) ⟨h1.mono (by omega), Nat.zero_le _⟩ [0, _, _, _] x7x x5x rfl fun p γ3 hi => ?_
 obtain ⟨S3, q⟩ := p
 obtain ⟨k1, k2⟩ := hi
 dsimp only at k1 k2 ⊢
 refine dc 4 (fun K K' => aI ?_ ?_)<;>intro h<;>try simp at h
 ·refine dv 3 fun K K' => ?_
  refine a7j fun B X0 w0 => ?_
  refine txR 3 rfl rfl (dv 2 ?_)
  refine rlB a1j a2c ?_
  refine txM [0, 1, 2, 3, 4] [_, _, _, _, _] (z0z bs hbs S3 (c + 28 + q) k1 2 q 0 0 false (by omega)) rfl rfl rfl rfl fun J hJ => ?_
  obtain ⟨j, jb⟩ := J
  have hj : smOk j (c + 28 + q + 1) := hJ
  refine z7z rfl (dv 2 ?_)
  refine x8x (b := 1) rfl rfl (by omega) (dv 1 ?_)
  exact ⟨(j, q + 1), ⟨⟨hj.mono (by show _ ≤ c + 28 + (q + 1); omega), by show q + 1 ≤ 3; omega⟩, (by show 3 - (q + 1) < 3 - q; omega)⟩, [0, _, _, _], x7x, x7x, x5x, x5x, rfl⟩
 refine dv 1 ?_
 refine s6s fun B X0 w0 => ?_
 refine txR 1 rfl rfl (dv 1 ?_)
 refine txM [0, 1, 2, 3, 4] [_, _, _, _, _] (w3w bs hbs S3 (c + 28 + 3) (k1.mono (by omega)) 30 0 (by omega)) rfl rfl rfl rfl fun b hb => ?_
 refine z7z rfl (s6s fun B X0 w0 => ?_)
 refine txR 2 rfl rfl (dv 1 ?_)
 refine rlB a1j a2c ?_
 refine txM [0, 1, 2, 3, 4] [_, _, _, _, _] (z0z bs hbs b (c + 28 + 3 + 4 * 30) hb 3 0 0 0 false (by omega)) rfl rfl rfl rfl fun J hJ => ?_
 obtain ⟨j, jb⟩ := J
 have hj : smOk j (c + 28 + 3 + 4 * 30 + 1) := hJ
 refine z7z rfl (a7j fun B X0 w0 => ?_)
 refine txR 8 rfl rfl (dv 5 ?_)
 refine rlM [4] [_] (x1x true bs (j.p) (30) (by have := hj.2.2; omega) hbs) rfl rfl rfl ?_
 obtain ⟨N, eN, hN⟩ : ∃ N, pk bs j.p 30 = N ∧ N ≤ 30 := ⟨_, rfl, b1i _ _ _⟩
 rw [eN]
 refine x8x (a := 2) rfl rfl (by omega) (dv 1 ?_)
 refine txM [0, 1, 2, 3, 4] [_, _, _, _, _] (w3w bs hbs (pSm j (j.p + 1)) (c + 28 + 3 + 4 * 30 + 1 + 1) (a3b hj (by omega) (by have := hj.2.2; omega)) (2 + N) odd (by omega)) rfl rfl rfl rfl fun r hr => ?_
 refine z7z rfl ?_
 exact ⟨.inl rfl, r, hr.mono (by omega), [γ 0, _, _, _, γ 4], rfl, rfl, x5x⟩
end
section
theorem b8f (bs : List Nat) (hbs : ∀ b ∈ bs, b < 256) (S : Sm) (c : Nat) (hS : smOk S c)  (hc : c + 1030 ≤ 1000000) : MethE Tryz.prog 288 5 [.ptr 0 0 0] [(0, (0, .box 171 [.ptr 4 0 0, pI S.w.time, a4w true S.w.apps, .ref 1 0, .ref 2 0, pI S.w.hub.round, w0w true S.w.hub.ones, w0w true S.w.hub.twos, w0w true S.w.hub.outs, r9r true S.w.sink, .ref 3 0])), (1, (0, .row 65 13 ((S.w.nodes).map (u1u true)))), (2, (0, .row 79 11 ((S.w.radio).map (u9u true)))), (3, (0, .row 263 5 ((S.list).map a3i))), (4, (0, .box 243 [v5v true bs, .pv (.int .i64 ((S.p : Nat) : Int))]))] (ι := Sm) (fun S' => smOk S' (c + 1030)) (fun S' => [0, 4]) (fun S' => .tup []) (fun S' => [(0, (0, .box 171 [.ptr 4 0 0, pI S'.w.time, a4w true S'.w.apps, .ref 1 0, .ref 2 0, pI S'.w.hub.round, w0w true S'.w.hub.ones, w0w true S'.w.hub.twos, w0w true S'.w.hub.outs, r9r true S'.w.sink, .ref 3 0])), (1, (0, .row 65 13 ((S'.w.nodes).map (u1u true)))), (2, (0, .row 79 11 ((S'.w.radio).map (u9u true)))), (3, (0, .row 263 5 ((S'.list).map a3i))), (4, (0, .box 243 [v5v true bs, .pv (.int .i64 ((S'.p : Nat) : Int))]))]) := by
 refine mE (ι := Sm) Tryz.f288 (fun S' => []) 5 0 fun γ => ?_
 refine s6s fun B X0 w0 => ?_
 refine txR 7 rfl rfl (dv 5 ?_)
 refine rlM [4] [_] (x1x true bs (S.p) (2) (by have := hS.2.2; omega) hbs) rfl rfl rfl ?_
 obtain ⟨N, eN, hN⟩ : ∃ N, pk bs S.p 2 = N ∧ N ≤ 2 := ⟨_, rfl, b1i _ _ _⟩
 rw [eN]
 refine x8x (a := 1) rfl rfl (by omega) ?_
 refine txM [0, 1, 2, 3, 4] [_, _, _, _, _] (a1u bs hbs (pSm S (S.p + 1)) (c + 1) (a3b hS (by omega) (by have := hS.2.2; omega)) (1 + N) 0 (by omega)) rfl rfl rfl rfl fun a ha => ?_
 have ha2 : smOk a (c + 586) := ha.mono (by omega)
 refine z7z rfl (s6s fun B X0 w0 => ?_)
 refine txR 1 rfl rfl (dv 1 ?_)
 refine txM [0, 1, 2, 3, 4] [_, _, _, _, _] (a8h bs hbs a (c + 586) ha2 0 (by omega)) rfl rfl rfl rfl fun b hb => ?_
 refine z7z rfl (s6s fun B X0 w0 => ?_)
 refine txR 2 rfl rfl (dv 1 ?_)
 refine rlB a1j a2c ?_
 refine txM [0, 1, 2, 3, 4] [_, _, _, _, _] (z0z bs hbs b (c + 586 + 281) hb 3 0 0 0 false (by omega)) rfl rfl rfl rfl fun J hJ => ?_
 obtain ⟨j, jb⟩ := J
 have hj : smOk j (c + 586 + 281 + 1) := hJ
 refine z7z rfl (dv 6 ?_)
 refine a4i (n := j.w.radio.length) rfl q4q rfl rfl (List.length_map _) ?_
 refine dc 5 (fun K K' => aI ?_ ?_)<;>intro h<;>try simp at h
 ·refine dv 1 ?_
  exact ⟨j, hj.mono (by omega), [γ 0, _, _, _, γ 4], rfl, rfl, x5x⟩
 have hr40 := hj.1.2.2.2.1
 refine dv 3 ?_
 refine r6r (b := 2) rfl rfl (by omega) (by omega) (dv 4 ?_)
 refine rlM [4] [_] (x1x true bs (j.p) (2) (by have := hj.2.2; omega) hbs) rfl rfl rfl ?_
 obtain ⟨X, eX, hX⟩ : ∃ X, pk bs j.p 2 = X ∧ X < 2 := ⟨_, rfl, a3s _ _ _ (by omega)⟩
 rw [eX]
 refine x8x rfl rfl (by have := hj.1.2.2.2.1; omega) ?_
 refine dv 1 ?_
 obtain ⟨z, ez, hz⟩ : ∃ z, j.w.radio.length - 2 + X = z ∧ z < j.w.radio.length := ⟨_, rfl, by omega⟩
 rw [ez]
 obtain ⟨x, hx⟩ := gE j.w.radio z
 refine dv 7 ?_
 refine z1z (j := z) rfl rfl q4q rfl v4v rfl rfl hz ?_
 refine dv 3 ?_
 refine s6s fun B X0 w0 => ?_
 refine txR 3 rfl rfl (dv 2 ?_)
 refine rlB a1j a2c ?_
 refine txM [0, 1, 2, 3, 4] [_, _, _, _, _] (z0z bs hbs (pSm j (j.p + 1)) (c + 869) (a3b hj (by omega) (by have := hj.2.2; omega)) 4 0 0 z true (by omega)) rfl rfl rfl rfl fun J hJ => ?_
 obtain ⟨j, jb⟩ := J
 have hj : smOk j (c + 869 + 1) := hJ
 refine z7z rfl ?_
 refine r0r (ι := Sm) (fun T γ1 => []) (fun T γ1 => [(1, ((γ1 1), .row 65 13 ((T.w.nodes).map (u1u true)))), (2, ((γ1 2), .row 79 11 ((T.w.radio).map (u9u true)))), (3, ((γ1 3), .row 263 5 ((T.list).map a3i))), (0, ((γ 0), .box 171 [.ptr 4 (γ 4) 0, pI T.w.time, a4w true T.w.apps, .ref 1 (γ1 1), .ref 2 (γ1 2), pI T.w.hub.round, w0w true T.w.hub.ones, w0w true T.w.hub.twos, w0w true T.w.hub.outs, r9r true T.w.sink, .ref 3 (γ1 3)])), (4, ((γ 4), .box 243 [v5v true bs, pI ((T.p : Nat) : Int)]))]) (fun T => smOk T (c + 892)) (r7r [0, 4] rfl) HE.nil ?_ fun T γ1 hi => ?_
 ·refine dv 3 ?_
  refine x6x (ι := Sm × Nat) (fun p γ2 => [(5, pI (p.2 : Int))]) (fun p γ2 => [(1, ((γ2 1), .row 65 13 ((p.1.w.nodes).map (u1u true)))), (2, ((γ2 2), .row 79 11 ((p.1.w.radio).map (u9u true)))), (3, ((γ2 3), .row 263 5 ((p.1.list).map a3i))), (0, ((γ 0), .box 171 [.ptr 4 (γ 4) 0, pI p.1.w.time, a4w true p.1.w.apps, .ref 1 (γ2 1), .ref 2 (γ2 2), pI p.1.w.hub.round, w0w true p.1.w.hub.ones, w0w true p.1.w.hub.twos, w0w true p.1.w.hub.outs, r9r true p.1.w.sink, .ref 3 (γ2 3)])), (4, ((γ 4), .box 243 [v5v true bs, pI ((p.1.p : Nat) : Int)]))]) (fun p => smOk p.1 (c + 870 + 2 * p.2) ∧ p.2 ≤ 10) (fun p => 10 - p.2) (r7r [0, 3, 4] rfl) HE.nil (j, 0) ⟨hj.mono (by omega), Nat.zero_le _⟩ [0, _, _, _] x7x x5x rfl fun p γ2 hi => ?_
  obtain ⟨S1, i⟩ := p
  obtain ⟨h1, h2⟩ := hi
  dsimp only at h1 h2 ⊢
  refine dv 7 fun K K' => ?_
  refine rlM [4] [_] (x1x true bs (S1.p) (4) (by have := h1.2.2; omega) hbs) rfl rfl rfl ?_
  obtain ⟨N6, eN6, hN6⟩ : ∃ N6, pk bs S1.p 4 = N6 ∧ N6 ≤ 4 := ⟨_, rfl, b1i _ _ _⟩
  rw [eN6]
  refine x8x (a := 6) rfl rfl (by omega) (dc 2 (aS ?_ ?_))<;>intro h<;>try simp at h
  ·refine dv 11 ?_
   exact ⟨(pSm S1 (S1.p + 1)), (a3b h1 (by omega) (by have := h1.2.2; omega)), [0, _, _, _], x7x, x7x, x5x, x5x, rfl⟩
  refine dv 5 ?_
  refine a4i (n := S1.w.radio.length) rfl q4q rfl rfl (List.length_map _) ?_
  refine dv 1 ?_
  refine x8x (b := 1) rfl rfl (by omega) (dc 2 (aS ?_ ?_))<;>intro h<;>try simp at h
  ·refine dv 1 ?_
   exact ⟨(pSm S1 (S1.p + 1)), (a3b h1 (by omega) (by have := h1.2.2; omega)), [0, _, _, _], x7x, x7x, x5x, x5x, rfl⟩
  refine dv 3 fun K K' => ?_
  refine a7j fun B X0 w0 => ?_
  refine txR 4 rfl rfl (dv 2 ?_)
  refine x8x (b := 1) rfl rfl (by omega) (rlB a1j a2c ?_)
  refine txM [0, 1, 2, 3, 4] [_, _, _, _, _] (z0z bs hbs (pSm S1 (S1.p + 1)) (c + 870 + 2 * i + 1) (a3b h1 (by omega) (by have := h1.2.2; omega)) 4 0 0 ((z + 1 : Nat) : Int) false (by omega)) rfl rfl rfl rfl fun J hJ => ?_
  obtain ⟨j, jb⟩ := J
  have hj : smOk j (c + 870 + 2 * i + 1 + 1) := hJ
  refine z7z rfl (dv 2 ?_)
  refine x8x (b := 1) rfl rfl (by omega) (dv 1 ?_)
  exact ⟨(j, i + 1), ⟨⟨hj.mono (by show _ ≤ c + 870 + 2 * (i + 1); omega), by show i + 1 ≤ 10; omega⟩, (by show 10 - (i + 1) < 10 - i; omega)⟩, [0, _, _, _], x7x, x7x, x5x, x5x, rfl⟩
 ·try dsimp only [b3d, b3e]
  refine s6s fun B X0 w0 => ?_
  refine txR 3 rfl rfl (dv 2 ?_)
  refine rlB a1j a2c ?_
  refine txM [0, 1, 2, 3, 4] [_, _, _, _, _] (z0z bs hbs T (c + 892) hi 6 x.to 0 0 false (by omega)) rfl rfl rfl rfl fun J hJ => ?_
  obtain ⟨j, jb⟩ := J
  have hj : smOk j (c + 892 + 1) := hJ
  refine z7z rfl (s6s fun B X0 w0 => ?_)
  refine txR 3 rfl rfl (dv 2 ?_)
  refine rlB a1j a2c ?_
  refine txM [0, 1, 2, 3, 4] [_, _, _, _, _] (z0z bs hbs j (c + 892 + 1) hj 7 x.to 0 0 false (by omega)) rfl rfl rfl rfl fun J hJ => ?_
  obtain ⟨j, jb⟩ := J
  have hj : smOk j (c + 892 + 1 + 1) := hJ
  refine z7z rfl (s6s fun B X0 w0 => ?_)
  refine txR 1 rfl rfl (dv 1 ?_)
  refine txM [0, 1, 2, 3, 4] [_, _, _, _, _] (a5l bs hbs j (c + 892 + 1 + 1) hj 4 (by omega) (by omega)) rfl rfl rfl rfl fun u hu => ?_
  refine z7z rfl (s6s fun B X0 w0 => ?_)
  refine txR 1 rfl rfl (dv 1 ?_)
  refine txM [0, 1, 2, 3, 4] [_, _, _, _, _] (a5l bs hbs u (c + 892 + 1 + 1 + (2 + 4)) hu 4 (by omega) (by omega)) rfl rfl rfl rfl fun v hv => ?_
  refine z7z rfl (a7j fun B X0 w0 => ?_)
  refine txR 1 rfl rfl (dv 1 ?_)
  refine txM [0, 1, 2, 3, 4] [_, _, _, _, _] (w3w bs hbs v (c + 892 + 1 + 1 + (2 + 4) + (2 + 4)) hv 30 0 (by omega)) rfl rfl rfl rfl fun r hr => ?_
  refine z7z rfl ?_
  exact ⟨.inl rfl, r, hr.mono (by omega), [γ 0, _, _, _, γ 4], rfl, rfl, x5x⟩
end
section
theorem b8g (bs : List Nat) (hbs : ∀ b ∈ bs, b < 256) (S : Sm) (c : Nat) (hS : smOk S c) (odd : Nat) (hc : c + 1040 ≤ 1000000) : MethE Tryz.prog 238 5 [.ptr 0 0 0, .pv (.int .i64 (odd : Int))] [(0, (0, .box 171 [.ptr 4 0 0, pI S.w.time, a4w true S.w.apps, .ref 1 0, .ref 2 0, pI S.w.hub.round, w0w true S.w.hub.ones, w0w true S.w.hub.twos, w0w true S.w.hub.outs, r9r true S.w.sink, .ref 3 0])), (1, (0, .row 65 13 ((S.w.nodes).map (u1u true)))), (2, (0, .row 79 11 ((S.w.radio).map (u9u true)))), (3, (0, .row 263 5 ((S.list).map a3i))), (4, (0, .box 243 [v5v true bs, .pv (.int .i64 ((S.p : Nat) : Int))]))] (ι := Sm) (fun S' => smOk S' (c + 1040)) (fun S' => [0, 4]) (fun S' => .tup []) (fun S' => [(0, (0, .box 171 [.ptr 4 0 0, pI S'.w.time, a4w true S'.w.apps, .ref 1 0, .ref 2 0, pI S'.w.hub.round, w0w true S'.w.hub.ones, w0w true S'.w.hub.twos, w0w true S'.w.hub.outs, r9r true S'.w.sink, .ref 3 0])), (1, (0, .row 65 13 ((S'.w.nodes).map (u1u true)))), (2, (0, .row 79 11 ((S'.w.radio).map (u9u true)))), (3, (0, .row 263 5 ((S'.list).map a3i))), (4, (0, .box 243 [v5v true bs, .pv (.int .i64 ((S'.p : Nat) : Int))]))]) := by
 refine mE (ι := Sm) Tryz.f238 (fun S' => []) 5 0 fun γ => ?_
 refine dv 5 ?_
 refine rlM [4] [_] (x1x true bs (S.p) (3) (by have := hS.2.2; omega) hbs) rfl rfl rfl ?_
 refine dv 1 ?_
 obtain ⟨Pr, ePr, hPr⟩ : ∃ Pr, pk bs S.p 3 = Pr ∧ Pr ≤ 3 := ⟨_, rfl, b1i _ _ _⟩
 rw [ePr]
 refine dv 5 ?_
 refine rlM [4] [_] (x1x true bs (S.p + 1) (20) (by have := hS.2.2; omega) hbs) rfl rfl rfl ?_
 obtain ⟨X, eX, hX⟩ : ∃ X, pk bs (S.p + 1) 20 = X ∧ X ≤ 20 := ⟨_, rfl, b1i _ _ _⟩
 rw [eX]
 have hp2 : S.p + 1 + 1 ≤ c + 2 := by have := hS.2.2; omega
 have hS2 : smOk (pSm S (S.p + 1 + 1)) (c + 2) := a3b hS (by omega) (by have := hS.2.2; omega)
 refine dv 1 ?_
 refine r0r (ι := Bool) (fun b γ1 => [(27, .pv (.bool (b)))]) (fun b γ1 => []) (fun b => True) (r7r [0, 1, 4, 14] rfl) (a1m [0, 1, 2, 3, 4] rfl) ?_ fun b γ1 hi => ?_
 ·refine dc 3 (aI ?_ ?_)<;>intro h<;>try simp at h
  ·refine dv 1 ?_
   exact ⟨_, trivial, [], x7x, x7x, x5x, x5x, rfl⟩
  refine dc 3 (aI ?_ ?_)<;>intro h<;>try simp at h
  ·refine dv 1 ?_
   exact ⟨_, trivial, [], x7x, x7x, x5x, x5x, rfl⟩
  refine dc 3 (aI ?_ ?_)<;>intro h<;>try simp at h
  ·refine dv 1 ?_
   exact ⟨_, trivial, [], x7x, x7x, x5x, x5x, rfl⟩
  refine dc 3 (aI ?_ ?_)<;>intro h<;>try simp at h
  ·refine dv 1 ?_
   exact ⟨_, trivial, [], x7x, x7x, x5x, x5x, rfl⟩
  refine dv 3 ?_
  exact ⟨_, trivial, [], x7x, x7x, x5x, x5x, rfl⟩
 ·try dsimp only [b3d, b3e]
  refine dc 0 (aI ?_ ?_)<;>intro h<;>try simp at h
  ·refine a7j fun B X0 w0 => ?_
   refine txR 1 rfl rfl (dv 1 ?_)
   refine txM [0, 1, 2, 3, 4] [_, _, _, _, _] (a5l bs hbs (pSm S (S.p + 1 + 1)) (c + 2) hS2 8 (by omega) (by omega)) rfl rfl rfl rfl fun r hr => ?_
   refine z7z rfl ?_
   exact ⟨.inl rfl, r, hr.mono (by omega), [γ 0, _, _, _, γ 4], rfl, rfl, x5x⟩
  refine r0r (ι := Bool) (fun b γ2 => [(35, .pv (.bool (b)))]) (fun b γ2 => []) (fun b => True) (r7r [0, 1, 4, 14] rfl) (a1m [0, 1, 2, 3, 4] rfl) ?_ fun b γ2 hi => ?_
  ·refine dc 3 (aI ?_ ?_)<;>intro h<;>try simp at h
   ·refine dv 1 ?_
    exact ⟨_, trivial, [], x7x, x7x, x5x, x5x, rfl⟩
   refine dc 3 (aI ?_ ?_)<;>intro h<;>try simp at h
   ·refine dv 1 ?_
    exact ⟨_, trivial, [], x7x, x7x, x5x, x5x, rfl⟩
   refine dv 3 ?_
   exact ⟨_, trivial, [], x7x, x7x, x5x, x5x, rfl⟩
  ·try dsimp only [b3d, b3e]
   refine dc 0 (aI ?_ ?_)<;>intro h<;>try simp at h
   ·refine s6s fun B X0 w0 => ?_
    refine txR 3 rfl rfl (dv 2 ?_)
    refine rlB a1j a2c ?_
    refine txM [0, 1, 2, 3, 4] [_, _, _, _, _] (z0z bs hbs (pSm S (S.p + 1 + 1)) (c + 2) hS2 2 Pr 0 0 false (by omega)) rfl rfl rfl rfl fun J hJ => ?_
    obtain ⟨j, jb⟩ := J
    have hj : smOk j (c + 2 + 1) := hJ
    refine z7z rfl (a7j fun B X0 w0 => ?_)
    refine txR 7 rfl rfl (dv 5 ?_)
    refine rlM [4] [_] (x1x true bs (j.p) (6) (by have := hj.2.2; omega) hbs) rfl rfl rfl ?_
    obtain ⟨N, eN, hN⟩ : ∃ N, pk bs j.p 6 = N ∧ N ≤ 6 := ⟨_, rfl, b1i _ _ _⟩
    rw [eN]
    refine dv 1 ?_
    refine txM [0, 1, 2, 3, 4] [_, _, _, _, _] (w3w bs hbs (pSm j (j.p + 1)) (c + 4) (a3b hj (by omega) (by have := hj.2.2; omega)) N odd (by omega)) rfl rfl rfl rfl fun r hr => ?_
    refine z7z rfl ?_
    exact ⟨.inl rfl, r, hr.mono (by omega), [γ 0, _, _, _, γ 4], rfl, rfl, x5x⟩
   refine r0r (ι := Bool) (fun b γ3 => [(51, .pv (.bool (b)))]) (fun b γ3 => []) (fun b => True) (r7r [0, 1, 4, 14] rfl) (a1m [0, 1, 2, 3, 4] rfl) ?_ fun b γ3 hi => ?_
   ·refine dc 3 (aI ?_ ?_)<;>intro h<;>try simp at h
    ·refine dv 1 ?_
     exact ⟨_, trivial, [], x7x, x7x, x5x, x5x, rfl⟩
    refine dv 3 ?_
    exact ⟨_, trivial, [], x7x, x7x, x5x, x5x, rfl⟩
   ·try dsimp only [b3d, b3e]
    refine dc 0 (aI ?_ ?_)<;>intro h<;>try simp at h
    ·refine a7j fun B X0 w0 => ?_
     refine txR 8 rfl rfl (dv 5 ?_)
     refine rlM [4] [_] (x1x true bs (S.p + 1 + 1) (20) (by have := hp2; omega) hbs) rfl rfl rfl ?_
     obtain ⟨N, eN, hN⟩ : ∃ N, pk bs (S.p + 1 + 1) 20 = N ∧ N ≤ 20 := ⟨_, rfl, b1i _ _ _⟩
     rw [eN]
     refine x8x (a := 1) rfl rfl (by omega) (dv 1 ?_)
     refine txM [0, 1, 2, 3, 4] [_, _, _, _, _] (w3w bs hbs (pSm S (S.p + 1 + 1 + 1)) (c + 3) (a3b hS (by omega) (by omega)) (1 + N) odd (by omega)) rfl rfl rfl rfl fun r hr => ?_
     refine z7z rfl ?_
     exact ⟨.inl rfl, r, hr.mono (by omega), [γ 0, _, _, _, γ 4], rfl, rfl, x5x⟩
    refine r0r (ι := Bool) (fun b γ4 => [(63, .pv (.bool (b)))]) (fun b γ4 => []) (fun b => True) (r7r [0, 1, 4, 14] rfl) (a1m [0, 1, 2, 3, 4] rfl) ?_ fun b γ4 hi => ?_
    ·refine dc 3 (aI ?_ ?_)<;>intro h<;>try simp at h
     ·refine dv 1 ?_
      exact ⟨_, trivial, [], x7x, x7x, x5x, x5x, rfl⟩
     refine dv 3 ?_
     exact ⟨_, trivial, [], x7x, x7x, x5x, x5x, rfl⟩
    ·try dsimp only [b3d, b3e]
     refine dc 0 (aI ?_ ?_)<;>intro h<;>try simp at h
     ·refine s6s fun B X0 w0 => ?_
      refine txR 2 rfl rfl (dv 1 ?_)
      refine rlB a1j a2c ?_
      refine txM [0, 1, 2, 3, 4] [_, _, _, _, _] (z0z bs hbs (pSm S (S.p + 1 + 1)) (c + 2) hS2 3 0 0 0 false (by omega)) rfl rfl rfl rfl fun J hJ => ?_
      obtain ⟨j, jb⟩ := J
      have hj : smOk j (c + 2 + 1) := hJ
      refine z7z rfl (a7j fun B X0 w0 => ?_)
      refine txR 7 rfl rfl (dv 5 ?_)
      refine rlM [4] [_] (x1x true bs (j.p) (20) (by have := hj.2.2; omega) hbs) rfl rfl rfl ?_
      obtain ⟨N, eN, hN⟩ : ∃ N, pk bs j.p 20 = N ∧ N ≤ 20 := ⟨_, rfl, b1i _ _ _⟩
      rw [eN]
      refine dv 1 ?_
      refine txM [0, 1, 2, 3, 4] [_, _, _, _, _] (w3w bs hbs (pSm j (j.p + 1)) (c + 4) (a3b hj (by omega) (by have := hj.2.2; omega)) N odd (by omega)) rfl rfl rfl rfl fun r hr => ?_
      refine z7z rfl ?_
      exact ⟨.inl rfl, r, hr.mono (by omega), [γ 0, _, _, _, γ 4], rfl, rfl, x5x⟩
     refine dc 3 (aI ?_ ?_)<;>intro h<;>try simp at h
     ·refine a7j fun B X0 w0 => ?_
      refine txR 8 rfl rfl (dv 5 ?_)
      refine rlM [4] [_] (x1x true bs (S.p + 1 + 1) (2) (by have := hp2; omega) hbs) rfl rfl rfl ?_
      obtain ⟨N, eN, hN⟩ : ∃ N, pk bs (S.p + 1 + 1) 2 = N ∧ N ≤ 2 := ⟨_, rfl, b1i _ _ _⟩
      rw [eN]
      refine x8x (a := 1) rfl rfl (by omega) (dv 1 ?_)
      refine txM [0, 1, 2, 3, 4] [_, _, _, _, _] (a1u bs hbs (pSm S (S.p + 1 + 1 + 1)) (c + 3) (a3b hS (by omega) (by omega)) (1 + N) odd (by omega)) rfl rfl rfl rfl fun r hr => ?_
      refine z7z rfl ?_
      exact ⟨.inl rfl, r, hr.mono (by omega), [γ 0, _, _, _, γ 4], rfl, rfl, x5x⟩
     refine r0r (ι := Bool) (fun b γ5 => [(88, .pv (.bool (b)))]) (fun b γ5 => []) (fun b => True) (r7r [0, 1, 4, 14] rfl) (a1m [0, 1, 2, 3, 4] rfl) ?_ fun b γ5 hi => ?_
     ·refine dc 3 (aI ?_ ?_)<;>intro h<;>try simp at h
      ·refine dv 1 ?_
       exact ⟨_, trivial, [], x7x, x7x, x5x, x5x, rfl⟩
      refine dv 3 ?_
      exact ⟨_, trivial, [], x7x, x7x, x5x, x5x, rfl⟩
     ·try dsimp only [b3d, b3e]
      refine dc 0 (aI ?_ ?_)<;>intro h<;>try simp at h
      ·refine a7j fun B X0 w0 => ?_
       refine txR 2 rfl rfl (dv 2 ?_)
       refine txM [0, 1, 2, 3, 4] [_, _, _, _, _] (a8h bs hbs (pSm S (S.p + 1 + 1)) (c + 2) hS2 odd (by omega)) rfl rfl rfl rfl fun r hr => ?_
       refine z7z rfl ?_
       exact ⟨.inl rfl, r, hr.mono (by omega), [γ 0, _, _, _, γ 4], rfl, rfl, x5x⟩
      refine dc 3 (aI ?_ ?_)<;>intro h<;>try simp at h
      ·refine a7j fun B X0 w0 => ?_
       refine txR 3 rfl rfl (dv 2 ?_)
       refine rlB a1j a2c ?_
       refine txM [0, 1, 2, 3, 4] [_, _, _, _, _] (z0z bs hbs (pSm S (S.p + 1 + 1)) (c + 2) hS2 6 Pr 0 0 false (by omega)) rfl rfl rfl rfl fun J hJ => ?_
       obtain ⟨j, jb⟩ := J
       have hj : smOk j (c + 2 + 1) := hJ
       refine z7z rfl ?_
       exact ⟨.inl rfl, j, hj.mono (by omega), [γ 0, _, _, _, γ 4], rfl, rfl, x5x⟩
      refine dc 3 (aI ?_ ?_)<;>intro h<;>try simp at h
      ·refine a7j fun B X0 w0 => ?_
       refine txR 3 rfl rfl (dv 2 ?_)
       refine rlB a1j a2c ?_
       refine txM [0, 1, 2, 3, 4] [_, _, _, _, _] (z0z bs hbs (pSm S (S.p + 1 + 1)) (c + 2) hS2 7 Pr 0 0 false (by omega)) rfl rfl rfl rfl fun J hJ => ?_
       obtain ⟨j, jb⟩ := J
       have hj : smOk j (c + 2 + 1) := hJ
       refine z7z rfl ?_
       exact ⟨.inl rfl, j, hj.mono (by omega), [γ 0, _, _, _, γ 4], rfl, rfl, x5x⟩
      refine dc 3 (aI ?_ ?_)<;>intro h<;>try simp at h
      ·refine a7j fun B X0 w0 => ?_
       refine txR 2 rfl rfl (dv 1 ?_)
       refine rlB a1j a2c ?_
       refine txM [0, 1, 2, 3, 4] [_, _, _, _, _] (z0z bs hbs (pSm S (S.p + 1 + 1)) (c + 2) hS2 8 0 0 0 false (by omega)) rfl rfl rfl rfl fun J hJ => ?_
       obtain ⟨j, jb⟩ := J
       have hj : smOk j (c + 2 + 1) := hJ
       refine z7z rfl ?_
       exact ⟨.inl rfl, j, hj.mono (by omega), [γ 0, _, _, _, γ 4], rfl, rfl, x5x⟩
      refine dc 3 (aI ?_ ?_)<;>intro h<;>try simp at h
      ·refine dv 5 ?_
       refine rlM [4] [_] (x1x true bs (S.p + 1 + 1) (2) (by have := hp2; omega) hbs) rfl rfl rfl ?_
       refine dc 1 (aI ?_ ?_)<;>intro h<;>try simp at h
       ·refine a7j fun B X0 w0 => ?_
        refine txR 1 rfl rfl (dv 1 ?_)
        refine txM [0, 1, 2, 3, 4] [_, _, _, _, _] (b8f bs hbs (pSm S (S.p + 1 + 1 + 1)) (c + 3) (a3b hS (by omega) (by omega))  (by omega)) rfl rfl rfl rfl fun r hr => ?_
        refine z7z rfl ?_
        exact ⟨.inl rfl, r, hr.mono (by omega), [γ 0, _, _, _, γ 4], rfl, rfl, x5x⟩
       refine a7j fun B X0 w0 => ?_
       refine txR 1 rfl rfl (dv 1 ?_)
       refine txM [0, 1, 2, 3, 4] [_, _, _, _, _] (b9l bs hbs (pSm S (S.p + 1 + 1 + 1)) (c + 3) (a3b hS (by omega) (by omega))  (by omega)) rfl rfl rfl rfl fun r hr => ?_
       refine z7z rfl ?_
       exact ⟨.inl rfl, r, hr.mono (by omega), [γ 0, _, _, _, γ 4], rfl, rfl, x5x⟩
      refine s6s fun B X0 w0 => ?_
      refine txR 1 rfl rfl (dv 1 ?_)
      refine txM [0, 1, 2, 3, 4] [_, _, _, _, _] (a1u bs hbs (pSm S (S.p + 1 + 1)) (c + 2) hS2 3 0 (by omega)) rfl rfl rfl rfl fun a ha => ?_
      refine z7z rfl (s6s fun B X0 w0 => ?_)
      refine txR 2 rfl rfl (dv 1 ?_)
      refine rlB a1j a2c ?_
      refine txM [0, 1, 2, 3, 4] [_, _, _, _, _] (z0z bs hbs a (c + 2 + 195 * 3) ha 3 0 0 0 false (by omega)) rfl rfl rfl rfl fun J hJ => ?_
      obtain ⟨j, jb⟩ := J
      have hj : smOk j (c + 2 + 195 * 3 + 1) := hJ
      refine z7z rfl (s6s fun B X0 w0 => ?_)
      refine txR 1 rfl rfl (dv 1 ?_)
      refine txM [0, 1, 2, 3, 4] [_, _, _, _, _] (w3w bs hbs j (c + 2 + 195 * 3 + 1) hj 30 0 (by omega)) rfl rfl rfl rfl fun b hb => ?_
      refine z7z rfl (s6s fun B X0 w0 => ?_)
      refine txR 1 rfl rfl (dv 1 ?_)
      refine txM [0, 1, 2, 3, 4] [_, _, _, _, _] (a1u bs hbs b (c + 2 + 195 * 3 + 1 + 4 * 30) hb 1 0 (by omega)) rfl rfl rfl rfl fun d hd => ?_
      refine z7z rfl (a7j fun B X0 w0 => ?_)
      refine txR 2 rfl rfl (dv 1 ?_)
      refine rlB a1j a2c ?_
      refine txM [0, 1, 2, 3, 4] [_, _, _, _, _] (z0z bs hbs d (c + 2 + 195 * 3 + 1 + 4 * 30 + 195 * 1) hd 8 0 0 0 false (by omega)) rfl rfl rfl rfl fun J hJ => ?_
      obtain ⟨j, jb⟩ := J
      have hj : smOk j (c + 2 + 195 * 3 + 1 + 4 * 30 + 195 * 1 + 1) := hJ
      refine z7z rfl ?_
      exact ⟨.inl rfl, j, hj.mono (by omega), [γ 0, _, _, _, γ 4], rfl, rfl, x5x⟩
end
section
theorem d1n (bs : List Nat) (hbs : ∀ b ∈ bs, b < 256) (p0 : Nat) (hp : p0 + 5 ≤ 1000000) : MethE Tryz.prog 287 1 [.ptr 0 0 0] [(0, (0, .box 243 [v5v true bs, .pv (.int .i64 ((p0 : Nat) : Int))]))] (ι := Op_ × Nat) (fun S' => b1c S'.1 ∧ S'.2 ≤ p0 + 5) (fun S' => [0]) (fun S' => .agg (b2x S'.1)) (fun S' => [(0, (0, .box 243 [v5v true bs, .pv (.int .i64 ((S'.2 : Nat) : Int))]))]) := by
 refine mE (ι := Op_ × Nat) Tryz.f287 (fun S' => [.agg (b2x S'.1)]) 1 1 fun γ => ?_
 refine dv 1 ?_
 refine x3x (id := 1) a1b b7a rfl (dv 3 fun K K' => ?_)
 refine rlM [0] [_] (x1x true bs (p0) (10) (by have := hp; omega) hbs) rfl rfl rfl ?_
 refine dc 4 (aI ?_ ?_)<;>intro h<;>try simp at h
 ·refine dv 2 ?_
  refine rlM [0] [_] (x1x true bs (p0 + 1) (2) (by have := hp; omega) hbs) rfl rfl rfl ?_
  refine dv 1 ?_
  refine rlM [0] [_] (x1x true bs (p0 + 1 + 1) (20) (by have := hp; omega) hbs) rfl rfl rfl ?_
  refine rlB a1b b7a ?_
  refine dv 2 ?_
  exact ⟨(⟨1, (pk bs (p0 + 1) 2 : Int), (pk bs (p0 + 1 + 1) 20 : Int), 0, 0⟩, p0 + 1 + 1 + 1), ⟨(by have h0 := a3s bs (p0 + 1) 2 (by omega); have h1 := a3s bs (p0 + 1 + 1) 20 (by omega); unfold b1c a3c b4s; dsimp only; omega), (by show p0 + 1 + 1 + 1 ≤ p0 + 5; omega)⟩, [γ 0], rfl, rfl, x5x⟩
 refine dc 3 (aI ?_ ?_)<;>intro h<;>try simp at h
 ·refine dv 2 ?_
  refine rlM [0] [_] (x1x true bs (p0 + 1) (2) (by have := hp; omega) hbs) rfl rfl rfl ?_
  refine dv 1 ?_
  refine rlM [0] [_] (x1x true bs (p0 + 1 + 1) (2) (by have := hp; omega) hbs) rfl rfl rfl ?_
  refine rlB a1b b7a ?_
  refine dv 2 ?_
  exact ⟨(⟨2, (pk bs (p0 + 1) 2 : Int), (pk bs (p0 + 1 + 1) 2 : Int), 0, 0⟩, p0 + 1 + 1 + 1), ⟨(by have h0 := a3s bs (p0 + 1) 2 (by omega); have h1 := a3s bs (p0 + 1 + 1) 2 (by omega); unfold b1c a3c b4s; dsimp only; omega), (by show p0 + 1 + 1 + 1 ≤ p0 + 5; omega)⟩, [γ 0], rfl, rfl, x5x⟩
 refine dc 3 (aI ?_ ?_)<;>intro h<;>try simp at h
 ·refine dv 2 ?_
  refine rlM [0] [_] (x1x true bs (p0 + 1) (2) (by have := hp; omega) hbs) rfl rfl rfl ?_
  refine dv 1 ?_
  refine rlM [0] [_] (x1x true bs (p0 + 1 + 1) (9) (by have := hp; omega) hbs) rfl rfl rfl ?_
  have q9 := a3s bs (p0 + 1 + 1) 9 (by omega)
  refine x8x (a := 1) rfl rfl (by omega) (rlB a1b b7a ?_)
  refine dv 2 ?_
  exact ⟨(⟨3, (pk bs (p0 + 1) 2 : Int), ((1 + pk bs (p0 + 1 + 1) 9 : Nat) : Int), 0, 0⟩, p0 + 1 + 1 + 1), ⟨(by have h0 := a3s bs (p0 + 1) 2 (by omega); have h1 := a3s bs (p0 + 1 + 1) 9 (by omega); unfold b1c a3c b4s; dsimp only; omega), (by show p0 + 1 + 1 + 1 ≤ p0 + 5; omega)⟩, [γ 0], rfl, rfl, x5x⟩
 refine dc 3 (aI ?_ ?_)<;>intro h<;>try simp at h
 ·refine dv 2 ?_
  refine rlM [0] [_] (x1x true bs (p0 + 1) (2) (by have := hp; omega) hbs) rfl rfl rfl ?_
  refine rlB a1b b7a ?_
  refine dv 2 ?_
  exact ⟨(⟨4, (pk bs (p0 + 1) 2 : Int), 0, 0, 0⟩, p0 + 1 + 1), ⟨(by have h0 := a3s bs (p0 + 1) 2 (by omega); unfold b1c a3c b4s; dsimp only; omega), (by show p0 + 1 + 1 ≤ p0 + 5; omega)⟩, [γ 0], rfl, rfl, x5x⟩
 refine dc 3 (aI ?_ ?_)<;>intro h<;>try simp at h
 ·refine dv 2 ?_
  refine rlM [0] [_] (x1x true bs (p0 + 1) (2) (by have := hp; omega) hbs) rfl rfl rfl ?_
  refine dv 1 ?_
  refine rlM [0] [_] (x1x true bs (p0 + 1 + 1) (60) (by have := hp; omega) hbs) rfl rfl rfl ?_
  refine dv 1 ?_
  refine rlM [0] [_] (x1x true bs (p0 + 1 + 1 + 1) (2) (by have := hp; omega) hbs) rfl rfl rfl ?_
  have q9 := a3s bs (p0 + 1 + 1 + 1) 2 (by omega)
  refine x8x (a := 1) rfl rfl (by omega) (rlB a1b b7a ?_)
  refine dv 2 ?_
  exact ⟨(⟨5, (pk bs (p0 + 1) 2 : Int), (pk bs (p0 + 1 + 1) 60 : Int), ((1 + pk bs (p0 + 1 + 1 + 1) 2 : Nat) : Int), 0⟩, p0 + 1 + 1 + 1 + 1), ⟨(by have h0 := a3s bs (p0 + 1) 2 (by omega); have h1 := a3s bs (p0 + 1 + 1) 60 (by omega); have h2 := a3s bs (p0 + 1 + 1 + 1) 2 (by omega); unfold b1c a3c b4s; dsimp only; omega), (by show p0 + 1 + 1 + 1 + 1 ≤ p0 + 5; omega)⟩, [γ 0], rfl, rfl, x5x⟩
 refine r0r (ι := Bool) (fun b γ1 => [(42, .pv (.bool (b)))]) (fun b γ1 => []) (fun b => True) (r7r [0, 2] rfl) (a1m [0, 1] rfl) ?_ fun b γ1 hi => ?_
 ·refine dc 3 (aI ?_ ?_)<;>intro h<;>try simp at h
  ·refine dv 1 ?_
   exact ⟨_, trivial, [], x7x, x7x, x5x, x5x, rfl⟩
  refine dc 3 (aI ?_ ?_)<;>intro h<;>try simp at h
  ·refine dv 1 ?_
   exact ⟨_, trivial, [], x7x, x7x, x5x, x5x, rfl⟩
  refine dv 3 ?_
  exact ⟨_, trivial, [], x7x, x7x, x5x, x5x, rfl⟩
 ·try dsimp only [b3d, b3e]
  refine dc 0 (aS ?_ ?_)<;>intro h<;>try simp at h
  ·refine dv 3 ?_
   refine rlM [0] [_] (x1x true bs (p0 + 1) (2) (by have := hp; omega) hbs) rfl rfl rfl ?_
   refine rlB a1b b7a ?_
   refine dv 2 ?_
   exact ⟨(⟨7, (pk bs (p0 + 1) 2 : Int), 0, 0, 0⟩, p0 + 1 + 1), ⟨(by have h0 := a3s bs (p0 + 1) 2 (by omega); unfold b1c a3c b4s; dsimp only; omega), (by show p0 + 1 + 1 ≤ p0 + 5; omega)⟩, [γ 0], rfl, rfl, x5x⟩
  refine dv 2 ?_
  refine rlM [0] [_] (x1x true bs (p0 + 1) (4) (by have := hp; omega) hbs) rfl rfl rfl ?_
  refine dv 1 ?_
  refine rlM [0] [_] (x1x true bs (p0 + 1 + 1) (3) (by have := hp; omega) hbs) rfl rfl rfl ?_
  refine dv 1 ?_
  refine rlM [0] [_] (x1x true bs (p0 + 1 + 1 + 1) (7) (by have := hp; omega) hbs) rfl rfl rfl ?_
  have q9 := a3s bs (p0 + 1 + 1 + 1) 7 (by omega)
  refine x8x (a := 1) rfl rfl (by omega) (dv 1 ?_)
  refine rlM [0] [_] (x1x true bs (p0 + 1 + 1 + 1 + 1) (2) (by have := hp; omega) hbs) rfl rfl rfl ?_
  refine rlB a1b b7a ?_
  refine dv 2 ?_
  exact ⟨(⟨6, (pk bs (p0 + 1) 4 : Int), (pk bs (p0 + 1 + 1) 3 : Int), ((1 + pk bs (p0 + 1 + 1 + 1) 7 : Nat) : Int), (pk bs (p0 + 1 + 1 + 1 + 1) 2 : Int)⟩, p0 + 1 + 1 + 1 + 1 + 1), ⟨(by have h0 := a3s bs (p0 + 1) 4 (by omega); have h1 := a3s bs (p0 + 1 + 1) 3 (by omega); have h2 := a3s bs (p0 + 1 + 1 + 1) 7 (by omega); have h3 := a3s bs (p0 + 1 + 1 + 1 + 1) 2 (by omega); unfold b1c a3c b4s; dsimp only; omega), (by show p0 + 1 + 1 + 1 + 1 + 1 ≤ p0 + 5; omega)⟩, [γ 0], rfl, rfl, x5x⟩
end
section
theorem c4x (bs : List Nat) (hbs : ∀ b ∈ bs, b < 256) (p0 : Nat) (hp : p0 + 500 ≤ 1000000) : MethE Tryz.prog 237 1 [.ptr 0 0 0] [(0, (0, .box 243 [v5v true bs, .pv (.int .i64 ((p0 : Nat) : Int))]))] (ι := List Ap × Nat) (fun S' => a6n S'.1 ∧ S'.2 ≤ p0 + 500) (fun S' => [0]) (fun S' => a4w true S'.1) (fun S' => [(0, (0, .box 243 [v5v true bs, .pv (.int .i64 ((S'.2 : Nat) : Int))]))]) := by
 refine mE (ι := List Ap × Nat) Tryz.f237 (fun S' => [a4w true S'.1]) 1 16 fun γ => ?_
 refine dv 3 ?_
 refine y1y (id := 1) c6k rfl a5c rfl (dv 5 fun K K' => ?_)
 refine x6x (ι := List Ap × Nat) (fun p γ1 => [(3, .ref 1 (γ1 1)), (4, pI (p.1.length : Int))]) (fun p γ1 => [(1, ((γ1 1), .row 121 1 ((p.1).map (b7x true)))), (15, ((γ1 15), .dead)), (16, ((γ1 16), .dead)), (0, ((γ 0), .box 243 [v5v true bs, pI ((p.2 : Nat) : Int)])), (2, ((γ1 2), .dead)), (3, ((γ1 3), .dead)), (4, ((γ1 4), .dead)), (5, ((γ1 5), .dead)), (6, ((γ1 6), .dead)), (7, ((γ1 7), .dead)), (8, ((γ1 8), .dead)), (9, ((γ1 9), .dead)), (10, ((γ1 10), .dead)), (11, ((γ1 11), .dead)), (12, ((γ1 12), .dead)), (13, ((γ1 13), .dead)), (14, ((γ1 14), .dead))]) (fun p => p.1.length ≤ 4 ∧ (∀ a ∈ p.1, e2f a) ∧ p.2 ≤ p0 + 120 * p.1.length) (fun p => 4 - p.1.length) (y0y 0 rfl Cov.nil) HE.nil ([], p0) ⟨Nat.zero_le _, fun a h => (by cases h), Nat.le_refl _⟩ [0, _, _, _, _, _, _, _, _, _, _, _, _, _, _, _, _] x7x (HE.row rfl (by rfl) (HE.kill rfl (HE.kill rfl (HE.box rfl rfl (HE.kill rfl (HE.kill rfl (HE.kill rfl (HE.kill rfl (HE.kill rfl (HE.kill rfl (HE.kill rfl (HE.kill rfl (HE.kill rfl (HE.kill rfl (HE.kill rfl (HE.kill rfl (HE.kill rfl HE.nil))))))))))))))))) rfl fun p γ1 hi => ?_
 obtain ⟨l, q⟩ := p
 obtain ⟨h1, h2, h3⟩ := hi
 dsimp only at h1 h2 h3 ⊢
 refine dc 4 (fun K K' => aS ?_ ?_)<;>intro o<;>try simp at o
 ·have h4 : l.length = 4 := by omega
  have hT : a6n l := ⟨h4, h2⟩
  refine dv 1 ?_
  refine s7s (f := b7x true) 3 rfl rfl (fun _ => rfl) ?_
  refine dv 4 ?_
  exact ⟨(l, q), ⟨hT, by show q ≤ p0 + 500; omega⟩, [γ 0], rfl, rfl, x5x⟩
 have h1l : l.length < 4 := by omega
 refine dv 4 fun K K' => ?_
 refine rlB a5c b4l ?_
 refine x3x (id := 2) a5c b4l rfl (dv 5 fun K K' => ?_)
 refine w1w 2 0 15 232 2 rfl rfl rfl rfl rfl ?_
 refine x6x (ι := List Ru × Nat) (fun p γ2 => [(6, pI (p.1.length : Int))]) (fun p γ2 => [(15, ((γ2 15), .row 232 2 ((p.1).map (c7y true)))), (16, ((γ2 16), .dead)), (0, ((γ 0), .box 243 [v5v true bs, pI ((p.2 : Nat) : Int)])), (2, ((γ1 2 + 1), .box 121 [.ref 15 (γ2 15)])), (3, ((γ2 3), .dead)), (4, ((γ2 4), .dead)), (5, ((γ2 5), .dead)), (6, ((γ2 6), .dead)), (7, ((γ2 7), .dead)), (8, ((γ2 8), .dead)), (9, ((γ2 9), .dead)), (10, ((γ2 10), .dead)), (11, ((γ2 11), .dead)), (12, ((γ2 12), .dead))]) (fun p => p.1.length ≤ 3 ∧ f4p p.1 ∧ p.2 ≤ q + 40 * p.1.length) (fun p => 3 - p.1.length) (r7r [0, 3, 4, 5] rfl) (a1m [1, 13, 14] rfl) ([], q) ⟨Nat.zero_le _, fun i r h => (by simp at h), Nat.le_refl _⟩ [0, 0, 0, _, _, _, _, _, _, _, _, _, _, 0, 0, _, _] x7x (HE.row rfl (by rfl) (HE.kill rfl (HE.box rfl rfl (HE.box rfl rfl (HE.kill rfl (HE.kill rfl (HE.kill rfl (HE.kill rfl (HE.kill rfl (HE.kill rfl (HE.kill rfl (HE.kill rfl (HE.kill rfl (HE.kill rfl HE.nil)))))))))))))) rfl fun p γ2 hi => ?_
 obtain ⟨rs, q1⟩ := p
 obtain ⟨k1, k2, k3⟩ := hi
 dsimp only at k1 k2 k3 ⊢
 refine dc 4 (fun K K' => aS ?_ ?_)<;>intro o<;>try simp at o
 ·refine dv 1 ?_
  refine u6u (b := e2g true rs) 2 0 rfl rfl rfl (.ref rfl (Le.ow_map _ (fun _ => rfl) (fun _ => rfl)) .nil) rfl rfl rfl rfl ?_
  refine dv 3 ?_
  refine y6y (id := 13) c6k rfl a5c rfl rfl rfl rfl rfl rfl ?_
  refine y7y (zs := ((l ++ [(⟨rs⟩ : Ap)]).map (b7x true))) rfl rfl c6k rfl a5c rfl rfl rfl rfl (by rfl) (z8z (b7x true) l ⟨rs⟩) (by (simp only [s2s, r5r, s1s, s3s, a0l, a2z, T121]; omega)) ?_
  refine dv 3 ?_
  refine x8x (b := 1) rfl rfl (by omega) (dv 1 ?_)
  exact ⟨(l ++ [⟨rs⟩], q1), ⟨(f4h h2 (f4e k1 k2) h1l h3 k3 k1), (by show 4 - (l ++ [_]).length < 4 - l.length; rw [List.length_append]; show 4 - (l.length + 1) < _; omega)⟩, [0, _, _, _, _, _, _, _, _, _, _, _, _, _, _, _, _], (y0y 3 rfl (Cov.cons' (t := 4) rfl ((by rw [List.length_append]; rfl)) Cov.nil)), x7x, (HE.row rfl (by rfl) (HE.kill rfl (HE.kill rfl (HE.box rfl rfl (HE.kill rfl (HE.kill rfl (HE.kill rfl (HE.kill rfl (HE.kill rfl (HE.kill rfl (HE.kill rfl (HE.kill rfl (HE.kill rfl (HE.kill rfl (HE.kill rfl (HE.kill rfl (HE.kill rfl HE.nil))))))))))))))))), x5x, rfl⟩
 have k1l : rs.length < 3 := by omega
 refine dv 5 fun K K' => ?_
 refine rlB b9q d4g ?_
 refine x3x (id := 3) b9q d4g rfl (dv 4 fun K K' => ?_)
 refine rlM [0] [_] (x1x true bs (q1) (5) (by have := k3; omega) hbs) rfl rfl rfl ?_
 obtain ⟨N, eN, hN⟩ : ∃ N, pk bs q1 5 = N ∧ N ≤ 5 := ⟨_, rfl, b1i _ _ _⟩
 rw [eN]
 refine x8x (a := 2) rfl rfl (by omega) (dv 2 ?_)
 refine w1w 3 1 16 297 5 rfl rfl rfl rfl rfl ?_
 refine x6x (ι := List Op_ × Nat × Nat) (fun p γ3 => [(8, pI (p.2.2 : Int))]) (fun p γ3 => [(16, ((γ3 16), .row 297 5 ((p.1).map b2x))), (0, ((γ 0), .box 243 [v5v true bs, pI ((p.2.1 : Nat) : Int)])), (3, ((γ2 3 + 1), .box 232 [pI (rs.length : Int), .ref 16 (γ3 16)])), (4, ((γ3 4), .dead)), (5, ((γ3 5), .dead)), (6, ((γ3 6), .dead)), (7, ((γ3 7), .dead)), (8, ((γ3 8), .dead)), (9, ((γ3 9), .dead)), (10, ((γ3 10), .dead))]) (fun p => c8u ⟨(rs.length : Int), p.1⟩ ∧ p.2.1 + 5 * p.2.2 ≤ q1 + 1 + 5 * (2 + N)) (fun p => p.2.2) (r7r [0, 3, 4, 5, 6, 7] rfl) (a1m [1, 2, 11, 12, 13, 14, 15] rfl) ([], q1 + 1, 2 + N) ⟨ru0, by show q1 + 1 + 5 * (2 + N) ≤ _; omega⟩ [0, 0, 0, 0, _, _, _, _, _, _, _, 0, 0, 0, 0, 0, _] x7x (HE.row rfl (by rfl) (HE.box rfl rfl (HE.box rfl rfl (HE.kill rfl (HE.kill rfl (HE.kill rfl (HE.kill rfl (HE.kill rfl (HE.kill rfl (HE.kill rfl HE.nil)))))))))) rfl fun p γ3 hi => ?_
 obtain ⟨ops, q2, n⟩ := p
 obtain ⟨l1, l2⟩ := hi
 dsimp only at l1 l2 ⊢
 refine dc 4 (fun K K' => aS ?_ ?_)<;>intro o<;>try simp at o
 ·refine dv 1 ?_
  refine u6u (b := e7z true ops) 3 1 rfl rfl rfl (.ref rfl (Le.ow_map _ (fun _ => rfl) (fun _ => rfl)) .nil) rfl rfl rfl rfl ?_
  refine dv 4 ?_
  refine y6y (id := 11) d4b rfl b9q rfl rfl rfl rfl rfl rfl ?_
  refine y7y (zs := ((rs ++ [(⟨(rs.length : Int), ops⟩ : Ru)]).map (c7y true))) rfl rfl d4b rfl b9q rfl rfl rfl rfl (by rfl) (z8z (c7y true) rs (⟨(rs.length : Int), ops⟩ : Ru)) (by (simp only [s2s, r5r, s1s, s3s, a0l, a2z, T232]; omega)) ?_
  refine dv 4 ?_
  refine x8x (b := 1) rfl rfl (by omega) (dv 1 ?_)
  exact ⟨(rs ++ [(⟨(rs.length : Int), ops⟩ : Ru)], q2), ⟨(f4g k2 l1 k1l k3 (by omega)), (by show 3 - (rs ++ [_]).length < 3 - rs.length; rw [List.length_append]; show 3 - (rs.length + 1) < _; omega)⟩, [0, 0, 0, _, _, _, _, _, _, _, _, _, _, 0, 0, _, _], (Cov.cons' (t := 6) rfl ((by rw [List.length_append]; rfl)) Cov.nil), x7x, (HE.row rfl (by rfl) (HE.kill rfl (HE.box rfl rfl (HE.box rfl rfl (HE.kill rfl (HE.kill rfl (HE.kill rfl (HE.kill rfl (HE.kill rfl (HE.kill rfl (HE.kill rfl (HE.kill rfl (HE.kill rfl (HE.kill rfl HE.nil)))))))))))))), x5x, rfl⟩
 obtain ⟨n', rfl⟩ : ∃ n', n = n' + 1 := ⟨n - 1, by omega⟩
 refine dv 1 ?_
 refine r0r (ι := List Op_ × Nat) (fun os γ4 => []) (fun os γ4 => [(16, ((γ4 16), .row 297 5 ((os.1).map b2x))), (0, ((γ 0), .box 243 [v5v true bs, pI ((os.2 : Nat) : Int)])), (3, ((γ2 3 + 1), .box 232 [pI (rs.length : Int), .ref 16 (γ4 16)])), (4, ((γ4 4), .dead)), (5, ((γ4 5), .dead)), (6, ((γ4 6), .dead)), (7, ((γ4 7), .dead)), (8, ((γ4 8), .dead)), (9, ((γ4 9), .dead)), (10, ((γ4 10), .dead))]) (fun os => c8u ⟨(rs.length : Int), os.1⟩ ∧ os.2 ≤ q2 + 5) (r7r [0, 3, 4, 5, 6, 7, 8] rfl) (a1m [1, 2, 11, 12, 13, 14, 15] rfl) ?_ fun os γ4 hi => ?_
 ·refine dv 1 ?_
  refine s6s fun B X0 w0 => ?_
  refine txR 1 rfl rfl (dv 1 ?_)
  refine txM [0] [_] (d1n bs hbs q2 (by omega)) rfl rfl rfl rfl fun j hj => ?_
  obtain ⟨hj1, hj2⟩ := hj
  have hol : ops.length ≤ 8 := l1.2.1
  refine txR 2 rfl rfl (x3x (id := 4) a1b b7a rfl (dv 1 ?_))
  refine z7z rfl (dv 2 ?_)
  refine y1y (id := 5) b6z rfl a1b rfl (dv 2 ?_)
  refine y7y (zs := (ops.map b2x)) rfl rfl b6z rfl a1b rfl rfl rfl rfl (z9z (fun _ => rfl) _) rfl (by (simp only [s2s, r5r, s1s, s3s, a0l, a2z, T297]; omega)) ?_
  refine dv 1 ?_
  refine y6y (id := 7) b6z rfl a1b rfl rfl rfl rfl rfl rfl ?_
  refine y7y (zs := ((ops ++ [j.1]).map b2x)) rfl rfl b6z rfl a1b rfl rfl rfl rfl (by rfl) (z8z b2x ops j.1) (by (simp only [s2s, r5r, s1s, s3s, a0l, a2z, T297]; omega)) ?_
  refine rlB b9q d4g ?_
  refine b5s rfl rfl rfl (.agg rfl (.cl rfl (.ref rfl (Le.ow_map _ nf (fun _ => rfl)) .nil)) .nil) (b3i false (⟨(rs.length : Int), ops ++ [j.1]⟩ : Ru) (by show (ops ++ [j.1]).length ≤ _; rw [List.length_append]; show ops.length + 1 ≤ _; have : ops.length ≤ 8 := hol; omega)) (.pv _) ?_
  refine dc 0 (aS ?_ ?_)<;>intro hc12<;>try simp at hc12
  ·refine dv 1 ?_
   exact ⟨(ops, j.2), ⟨l1, hj2⟩, [0, 0, 0, 0, _, _, _, _, _, _, _, 0, 0, 0, 0, 0, _], x7x, x7x, x5x, x5x, rfl⟩
  have hru : c8u (⟨(rs.length : Int), ops ++ [j.1]⟩ : Ru) := a0o.1 (by simpa using hc12)
  refine dv 4 ?_
  refine y6y (id := 9) b6z rfl a1b rfl rfl rfl rfl rfl rfl ?_
  refine y7y (zs := ((ops ++ [j.1]).map b2x)) rfl rfl b6z rfl a1b rfl rfl rfl rfl (by rfl) (z8z b2x ops j.1) (by (simp only [s2s, r5r, s1s, s3s, a0l, a2z, T297]; omega)) ?_
  refine dv 2 ?_
  exact ⟨(ops ++ [j.1], j.2), ⟨hru, hj2⟩, [0, 0, 0, 0, _, _, _, _, _, _, _, 0, 0, 0, 0, 0, _], x7x, x7x, x5x, x5x, rfl⟩
 ·try dsimp only [b3d, b3e]
  refine dv 2 ?_
  refine r6r (b := 1) rfl rfl (by omega) (by omega) (dv 1 ?_)
  exact ⟨(os.1, os.2, n'), ⟨⟨hi.1, by have := hi.2; show os.2 + 5 * n' ≤ _; omega⟩, (by show n' < n' + 1; omega)⟩, [0, 0, 0, 0, _, _, _, _, _, _, _, 0, 0, 0, 0, 0, _], x7x, x7x, x5x, x5x, rfl⟩
end
section
theorem c4y (c : Bool) (l : List Ap) (hA : a6n l) : a0g Tryz.prog 88 [a4w c l] (a4w true l) := by
 refine pX Tryz.f88 [a4w true l] 9 ?_
 have hl4 := hA.1
 refine dv 3 ?_
 refine y1y (id := 0) c6k rfl a5c rfl (dv 5 fun K K' => ?_)
 refine x6x (ι := Nat) (fun i γ1 => [(3, .ref 0 (γ1 0)), (4, pI (i : Int))]) (fun i γ1 => [(0, ((γ1 0), .row 121 1 ((l.take i).map (b7x true)))), (8, ((γ1 8), .dead)), (1, ((γ1 1), .dead)), (2, ((γ1 2), .dead)), (3, ((γ1 3), .dead)), (4, ((γ1 4), .dead)), (5, ((γ1 5), .dead)), (6, ((γ1 6), .dead)), (7, ((γ1 7), .dead))]) (fun i => i ≤ l.length) (fun i => l.length - i) (y0y 0 rfl Cov.nil) HE.nil 0 (by omega) [_, _, _, _, _, _, _, _, _] x7x (HE.row rfl (by rw [List.take_zero]; rfl) (HE.kill rfl (HE.kill rfl (HE.kill rfl (HE.kill rfl (HE.kill rfl (HE.kill rfl (HE.kill rfl (HE.kill rfl HE.nil))))))))) rfl fun i γ1 hi => ?_
 refine dc 6 (fun K K' => aS ?_ ?_)<;>intro h<;>try simp at h
 ·obtain rfl : i = l.length := by omega
  refine dv 5 ?_
  refine a4j rfl rfl (fun _ => rfl) ?_
  rw [List.take_length]
 obtain ⟨a, ha⟩ := gE l i
 have hap := hA.2 a (List.mem_of_getElem? ha)
 have har := hap.1
 refine dv 4 fun K K' => ?_
 refine rlB a5c b4l ?_
 refine x3x (id := 1) a5c b4l rfl (dv 5 fun K K' => ?_)
 refine w1w 1 0 8 232 2 rfl rfl rfl rfl rfl ?_
 refine x6x (ι := Nat) (fun k γ2 => [(6, pI (k : Int))]) (fun k γ2 => [(8, ((γ2 8), .row 232 2 ((a.rules.take k).map (c7y true)))), (1, ((γ1 1 + 1), .box 121 [.ref 8 (γ2 8)])), (2, ((γ2 2), .dead)), (3, ((γ2 3), .dead)), (4, ((γ2 4), .dead)), (5, ((γ2 5), .dead))]) (fun k => k ≤ a.rules.length) (fun k => a.rules.length - k) (r7r [0, 3, 4, 5] rfl) (a1m [0, 6, 7] rfl) 0 (by omega) [0, 0, _, _, _, _, 0, 0, _] x7x (HE.row rfl (by rw [List.take_zero]; rfl) (HE.box rfl rfl (HE.kill rfl (HE.kill rfl (HE.kill rfl (HE.kill rfl HE.nil)))))) rfl fun k γ2 hi => ?_
 refine dc 10 (fun K K' => aS ?_ ?_)<;>intro h<;>try simp at h
 ·obtain rfl : k = a.rules.length := by omega
  rw [List.take_length]
  refine dv 1 ?_
  refine u6u (b := e2g true a.rules) 1 0 rfl rfl rfl (.ref rfl (Le.ow_map _ (fun _ => rfl) (fun _ => rfl)) .nil) rfl rfl rfl rfl ?_
  refine dv 3 ?_
  refine y6y (id := 6) c6k rfl a5c rfl rfl rfl rfl rfl rfl ?_
  refine y7y (zs := (l.take i ++ [a]).map (b7x true)) rfl rfl c6k rfl a5c rfl rfl rfl rfl (by rfl) (z8z _ _ _) (by (simp only [s2s, r5r, s1s, s3s, a0l, T121]; omega)) ?_
  refine dv 3 ?_
  refine v0v rfl rfl rfl (dv 1 ?_)
  exact ⟨i + 1, ⟨by omega, by omega⟩, [_, _, _, _, _, _, _, _, _], (y0y 3 rfl (Cov.cons' (t := 4) rfl (by rw [y4y (by omega) (by omega)]; rfl) Cov.nil)), x7x, (HE.row rfl (by rw [z5z ha]) (HE.kill rfl (HE.kill rfl (HE.kill rfl (HE.kill rfl (HE.kill rfl (HE.kill rfl (HE.kill rfl (HE.kill rfl HE.nil))))))))), x5x, rfl⟩
 obtain ⟨r, hr⟩ := gE a.rules k
 have hro := (hap.2 k r hr).2.1.2.1
 refine dv 15 fun K K' => ?_
 refine y1y (id := 2) b6z rfl a1b rfl (dv 9 ?_)
 refine a1h v9v (zs := r.ops.map b2x) rfl rfl b6z rfl a1b rfl rfl rfl (z9z (fun _ => rfl) _) rfl (by (simp only [s2s, r5r, s1s, s3s, a0l, T297]; omega)) (Le.ow_map _ (fun _ => rfl) (fun _ => rfl)) ?_
 refine rlB b9q d4g ?_
 refine y6y (id := 4) d4b rfl b9q rfl rfl rfl rfl rfl rfl ?_
 refine y7y (zs := (a.rules.take k ++ [r]).map (c7y true)) rfl rfl d4b rfl b9q rfl rfl rfl rfl (by rfl) (z8z _ _ _) (by (simp only [s2s, r5r, s1s, s3s, a0l, T232]; omega)) ?_
 refine dv 4 ?_
 refine v0v rfl rfl rfl (dv 1 ?_)
 exact ⟨k + 1, ⟨by omega, by omega⟩, [0, 0, _, _, _, _, 0, 0, _], (Cov.cons' (t := 6) rfl (by rw [y4y (by omega) (by omega)]; rfl) Cov.nil), x7x, (HE.row rfl (by rw [z5z hr]) (HE.box rfl rfl (HE.kill rfl (HE.kill rfl (HE.kill rfl (HE.kill rfl HE.nil)))))), x5x, rfl⟩
end
section
theorem b8h (l : List Ap) (fA : a6n l) : Meth Tryz.prog 16 1 [] [a4w true l] [(0, (0, .dead))] (.agg [pI 0, a4w true l, .ref 0 0, .pv (.slice none 0 0), pI 0, .pv (.slice none 0 0), .pv (.slice none 0 0), .pv (.slice none 0 0), .pv (.slice none 0 0)]) [(0, (0, .row 65 13 ((a9i 3).map (u1u true))))] := by
 refine mX Tryz.f16 [.agg [pI 0, a4w true l, .ref 0 0, .pv (.slice none 0 0), pI 0, .pv (.slice none 0 0), .pv (.slice none 0 0), .pv (.slice none 0 0), .pv (.slice none 0 0)]] 1 4 fun γ => ?_
 have hb : ∀ a ∈ l, ∀ r ∈ a.rules, r.ops.length ≤ 1048576 := fun a ha r hr => by obtain ⟨i, hi⟩ := List.getElem?_of_mem hr; have := ((fA.2 a ha).2 i r hi).2.1.2.1; omega
 refine dv 1 ?_
 refine x3x (id := 1) b5o b8r rfl (dv 3 fun K K' => ?_)
 refine x0x rfl rfl rfl (a8y true l hb) (dc 1 (aI ?_ ?_))<;>intro hc2<;>try simp at hc2
 ·exact absurd fA (a0w (by simpa using hc2))
 refine dv 3 ?_
 refine x0x rfl rfl rfl (c4y true l fA) (rlB b5o b8r ?_)
 refine x3x (id := 2) b5o b8r rfl (dv 5 fun K K' => ?_)
 refine w1w 2 2 0 65 13 rfl rfl rfl rfl rfl ?_
 refine x6x (ι := Nat) (fun i γ1 => [(4, pI (i : Int))]) (fun i γ1 => [(0, ((γ1 0), .row 65 13 ((a9i i).map (u1u true)))), (2, ((0 + 1), .box 31 [pI 0, a4w true l, .ref 0 (γ1 0), .pv (.slice none 0 0), pI 0, .pv (.slice none 0 0), .pv (.slice none 0 0), .pv (.slice none 0 0), .pv (.slice none 0 0)])), (3, ((γ1 3), .dead)), (4, ((γ1 4), .dead))]) (fun i => i ≤ 3) (fun i => 3 - i) (r7r [2, 3] rfl) (p6p 1 rfl HE.nil) 0 (by omega) [_, 0, 0, _, _] x7x (HE.row rfl (by rfl) (HE.box rfl rfl (HE.kill rfl (HE.kill rfl HE.nil)))) rfl fun i γ1 hi => ?_
 refine dc 4 (fun K K' => aS ?_ ?_)<;>intro h<;>try simp at h
 ·obtain rfl : i = 3 := by omega
  refine dv 5 ?_
  exact ⟨[_], rfl, rfl, x5x⟩
 refine dv 7 fun K K' => ?_
 refine x0x rfl rfl rfl (c0d (i : Int)) ?_
 refine y6y (id := 3) a6t rfl u3u rfl rfl rfl rfl rfl rfl ?_
 refine y7y (zs := (a9i i ++ [a1q (i : Int)]).map (u1u true)) rfl rfl a6t rfl u3u rfl rfl rfl rfl (by rfl) (z8z _ _ _) (by (simp only [s2s, r5r, s1s, s3s, a0l, a9i, a2z, T65]; omega)) ?_
 refine dv 4 ?_
 refine v0v rfl rfl rfl (dv 1 ?_)
 exact ⟨i + 1, ⟨by omega, by omega⟩, [_, 0, 0, _, _], (Cov.cons' (t := 4) rfl (by rw [y4y (by omega) (by omega)]; rfl) Cov.nil), x7x, (HE.row rfl (by rw [d0u]) (HE.box rfl rfl (HE.kill rfl (HE.kill rfl HE.nil)))), x5x, rfl⟩
end
section
theorem c4z (bs : List Nat) (hbs : ∀ b ∈ bs, b < 256) (p0 most : Nat) (hp : p0 + 502 + 1040 * most ≤ 1000000) : MethE Tryz.prog 133 5 [.ptr 4 0 0, .pv (.int .i64 (most : Int))] [(0, (0, .dead)), (1, (0, .dead)), (2, (0, .dead)), (3, (0, .dead)), (4, (0, .box 243 [v5v true bs, .pv (.int .i64 ((p0 : Nat) : Int))]))] (ι := Sm) (fun S' => smOk S' (p0 + 502 + 1040 * most)) (fun S' => [4]) (fun S' => .ptr 0 0 0) (fun S' => [(0, (0, .box 171 [.ptr 4 0 0, pI S'.w.time, a4w true S'.w.apps, .ref 1 0, .ref 2 0, pI S'.w.hub.round, w0w true S'.w.hub.ones, w0w true S'.w.hub.twos, w0w true S'.w.hub.outs, r9r true S'.w.sink, .ref 3 0])), (1, (0, .row 65 13 ((S'.w.nodes).map (u1u true)))), (2, (0, .row 79 11 ((S'.w.radio).map (u9u true)))), (3, (0, .row 263 5 ((S'.list).map a3i))), (4, (0, .box 243 [v5v true bs, .pv (.int .i64 ((S'.p : Nat) : Int))]))]) := by
 refine mE (ι := Sm) Tryz.f133 (fun S' => [.ptr 0 0 0]) 5 1 fun γ => ?_
 refine dv 2 ?_
 refine s6s fun B X0 w0 => ?_
 refine txR 2 rfl rfl (dv 2 ?_)
 refine txM [4] [_] (c4x bs hbs p0 (by omega)) rfl rfl rfl rfl fun A hA => ?_
 obtain ⟨hA1, hA2⟩ := hA
 refine txR 4 rfl rfl ?_
 refine rlM [1] [_] (b8h A.1 hA1) rfl rfl rfl ?_
 refine rlB f2l f2o ?_
 refine x9x (id := 0) rfl rfl rfl (dv 1 ?_)
 refine z7z rfl (w1w 0 4 2 79 11 rfl rfl rfl rfl rfl (w1w 0 10 3 263 5 rfl rfl rfl rfl rfl ?_))
 refine e7l 0 rfl (.same (.same (.same (.same (.same (.same (.le (b := w0w true ([] : List Wo)) rfl .nil rfl (.le (b := w0w true ([] : List Wo)) rfl .nil rfl (.le (b := w0w true ([] : List Wo)) rfl .nil rfl (.le (b := r9r true ([] : List Ou)) rfl .nil rfl (LeCs.refl _))))))))))) ?_
 refine dv 1 ?_
 refine r2r (id := 5) s4s rfl r1r rfl rfl rfl rfl (.val rfl rfl (.val rfl rfl (.val rfl rfl (.val rfl rfl (.val rfl rfl .nil))))) rfl (s8s rfl) (s8s rfl) (s8s rfl) rfl rfl ?_
 refine dv 1 ?_
 refine rlM [4] [_] (x1x true bs (A.2) (5) (by have := hA2; omega) hbs) rfl rfl rfl ?_
 obtain ⟨z, ez, hz⟩ : ∃ z, pk bs A.2 5 = z ∧ z < 5 := ⟨_, rfl, a3s _ _ _ (by omega)⟩
 rw [ez]
 obtain ⟨odd, hodd⟩ : ∃ x, [0, 0, 3, 6, 12][z]? = some x := ⟨_, List.getElem?_eq_getElem hz⟩
 refine z1z (f := fun x : Nat => [pI (x : Int)]) (l := [0, 0, 3, 6, 12]) (j := z) rfl rfl s4s rfl r1r rfl rfl hz ?_
 refine a5e (f := fun x : Nat => [pI (x : Int)]) (l := [0, 0, 3, 6, 12]) rfl r1r rfl hodd rfl ?_
 refine dv 5 fun K K' => ?_
 refine rlM [4] [_] (x1x true bs (A.2 + 1) (most) (by have := hA2; omega) hbs) rfl rfl rfl ?_
 refine dv 1 ?_
 obtain ⟨N, eN, hN⟩ : ∃ N, pk bs (A.2 + 1) most = N ∧ N ≤ most := ⟨_, rfl, b1i _ _ _⟩
 rw [eN]
 refine dv 1 ?_
 refine x6x (ι := Sm × Nat) (fun p γ1 => [(7, pI (p.2 : Int))]) (fun p γ1 => [(1, ((γ1 1), .row 65 13 ((p.1.w.nodes).map (u1u true)))), (2, ((γ1 2), .row 79 11 ((p.1.w.radio).map (u9u true)))), (3, ((γ1 3), .row 263 5 ((p.1.list).map a3i))), (0, ((γ 0 + 1), .box 171 [.ptr 4 (γ 4) 0, pI p.1.w.time, a4w true p.1.w.apps, .ref 1 (γ1 1), .ref 2 (γ1 2), pI p.1.w.hub.round, w0w true p.1.w.hub.ones, w0w true p.1.w.hub.twos, w0w true p.1.w.hub.outs, r9r true p.1.w.sink, .ref 3 (γ1 3)])), (4, ((γ 4), .box 243 [v5v true bs, pI ((p.1.p : Nat) : Int)]))]) (fun p => smOk p.1 (p0 + 502 + 1040 * (N - p.2)) ∧ p.2 ≤ N) (fun p => p.2) (r7r [5, 6] rfl) (p6p 5 rfl HE.nil) ((⟨⟨0, A.1, a9i 3, [], hb0, []⟩, [], A.2 + 1 + 1⟩ : Sm), N) ⟨e6t hA1 (by show A.2 + 1 + 1 ≤ p0 + 502 + 1040 * (N - N); omega), Nat.le_refl _⟩ [0, _, _, _] x7x x5x rfl fun p γ1 hi => ?_
 obtain ⟨S1, i⟩ := p
 obtain ⟨h1, h2⟩ := hi
 dsimp only at h1 h2 ⊢
 refine dc 4 (fun K K' => aS ?_ ?_)<;>intro h<;>try simp at h
 ·refine dv 5 ?_
  exact ⟨S1, h1.mono (by omega), [_, _, _, _, γ 4], rfl, rfl, x5x⟩
 obtain ⟨i', rfl⟩ : ∃ i', i = i' + 1 := ⟨i - 1, by omega⟩
 refine dv 3 fun K K' => ?_
 refine a7j fun B X0 w0 => ?_
 refine txR 2 rfl rfl (dv 2 ?_)
 refine txM [0, 1, 2, 3, 4] [_, _, _, _, _] (b8g bs hbs S1 (p0 + 502 + 1040 * (N - (i' + 1))) h1 odd (by omega)) rfl rfl rfl rfl fun j hj => ?_
 refine z7z rfl (dv 2 ?_)
 refine r6r (b := 1) rfl rfl (by omega) (by omega) (dv 1 ?_)
 exact ⟨(j, i'), ⟨⟨hj.mono (by show _ ≤ p0 + 502 + 1040 * (N - i'); omega), by show i' ≤ N; omega⟩, (by show i' < i' + 1; omega)⟩, [0, _, _, _], x7x, x7x, x5x, x5x, rfl⟩
end
section
theorem c5a (bs : List Nat) (hbs : ∀ b ∈ bs, b < 256) (p0 : Nat) (hp : p0 + 502 + 1040 * 14 ≤ 1000000) : MethE Tryz.prog 225 1 [.ptr 0 0 0] [(0, (0, .box 243 [v5v true bs, .pv (.int .i64 ((p0 : Nat) : Int))]))] (ι := Sm × Nd) (fun S' => smOk S'.1 (p0 + 503 + 1040 * 14) ∧ S'.2 ∈ S'.1.w.nodes) (fun S' => [0]) (fun S' => .tup [.agg (d7k true S'.1.w), .agg (u1u true S'.2)]) (fun S' => [(0, (0, .box 243 [v5v true bs, .pv (.int .i64 ((S'.1.p : Nat) : Int))]))]) := by
 refine mE (ι := Sm × Nd) Tryz.f225 (fun S' => [.agg (d7k true S'.1.w), .agg (u1u true S'.2)]) 1 7 fun γ => ?_
 refine dv 1 ?_
 refine x3x (id := 1) b5o b8r rfl (x3x (id := 2) u3u p5p rfl (s6s fun B X0 w0 => ?_))
 refine txR 1 rfl rfl (dv 1 ?_)
 refine txM [4, 5, 6, 7, 0] [_, _, _, _, _] (c4z bs hbs p0 14 hp) rfl rfl rfl rfl fun S hS => ?_
 refine txR 5 rfl rfl (dv 3 ?_)
 refine x3x (id := 3) b5o b8r rfl (dv 1 ?_)
 refine z7z rfl (dv 5 ?_)
 refine rlM [0] [_] (x1x true bs (S.p) (3) (by have := hS.2.2; omega) hbs) rfl rfl rfl ?_
 obtain ⟨z, ez, hz⟩ : ∃ z, pk bs S.p 3 = z ∧ z < 3 := ⟨_, rfl, a3s _ _ _ (by omega)⟩
 rw [ez]
 obtain ⟨n, hnd, hnI⟩ := b3m hS.1 (i := z) (by omega)
 refine z1z (j := z) rfl rfl a6t rfl u3u rfl rfl (z3z hnd) ?_
 refine a0d rfl u3u rfl (by assumption) rfl rfl ?_
 refine dv 2 ?_
 refine u6u (b := f1v true S.w.nodes) 1 2 rfl rfl rfl (.ref rfl (Le.ow_map _ (fun _ => rfl) (fun _ => rfl)) .nil) rfl rfl rfl rfl ?_
 refine u6u (b := w0w true S.w.radio) 1 3 rfl rfl rfl (.ref rfl (Le.ow_map _ (fun _ => rfl) (fun _ => rfl)) .nil) rfl rfl rfl rfl ?_
 refine dv 1 ?_
 exact ⟨(pSm S (S.p + 1), n), ⟨a3b hS (by omega) (by have := hS.2.2; omega), List.mem_of_getElem? hnd⟩, [γ 0], rfl, rfl, x5x⟩
end
section
theorem a8i (bs : List Nat) (hbs : ∀ b ∈ bs, b < 256) (p0 : Nat) (hp : p0 + 10 ≤ 100000000) : MethE Tryz.prog 216 1 [.ptr 0 0 0] [(0, (0, .box 243 [v5v true bs, .pv (.int .i64 ((p0 : Nat) : Int))]))] (ι := Ev × Nat) (fun S' => S'.2 ≤ p0 + 10) (fun S' => [0]) (fun S' => .agg (z2z S'.1)) (fun S' => [(0, (0, .box 243 [v5v true bs, .pv (.int .i64 ((S'.2 : Nat) : Int))]))]) := by
 refine mE (ι := Ev × Nat) Tryz.f216 (fun S' => [.agg (z2z S'.1)]) 1 5 fun γ => ?_
 refine dv 1 ?_
 refine x3x (id := 1) z4z a6v rfl (dv 2 ?_)
 refine rlM [0] [_] (x1x true bs (p0) (41) (by have := hp; omega) hbs) rfl rfl rfl ?_
 refine dv 1 ?_
 refine rlM [0] [_] (x1x true bs (p0 + 1) (4) (by have := hp; omega) hbs) rfl rfl rfl ?_
 refine dv 1 ?_
 refine rlM [0] [_] (x1x true bs (p0 + 1 + 1) (5) (by have := hp; omega) hbs) rfl rfl rfl ?_
 have h5 := a3s bs (p0 + 1 + 1) 5 (by omega)
 refine q9q (.int .i64 ((pk bs (p0 + 1 + 1) 5 : Int) - 1)) rfl rfl rfl (a6i rfl (by omega) (by omega) (by omega)) ?_
 refine dv 1 ?_
 refine rlM [0] [_] (x1x true bs (p0 + 1 + 1 + 1) (13) (by have := hp; omega) hbs) rfl rfl rfl ?_
 refine dv 1 ?_
 refine rlM [0] [_] (x1x true bs (p0 + 1 + 1 + 1 + 1) (3) (by have := hp; omega) hbs) rfl rfl rfl ?_
 refine dv 1 ?_
 refine rlM [0] [_] (x1x true bs (p0 + 1 + 1 + 1 + 1 + 1) (3) (by have := hp; omega) hbs) rfl rfl rfl ?_
 refine dv 1 ?_
 refine rlM [0] [_] (x1x true bs (p0 + 1 + 1 + 1 + 1 + 1 + 1) (40) (by have := hp; omega) hbs) rfl rfl rfl ?_
 refine rlB z4z a6v ?_
 refine x3x (id := 2) z4z a6v rfl (dv 1 ?_)
 refine r0r (ι := Ev × Nat) (fun s γ1 => []) (fun s γ1 => [(0, ((γ 0), .box 243 [v5v true bs, pI ((s.2 : Nat) : Int)])), (2, ((0 + 1), .box 56 (z2z s.1))), (3, ((γ1 3), .dead)), (4, ((γ1 4), .dead)), (5, ((γ1 5), .dead))]) (fun s => s.2 ≤ p0 + 10) (r7r [2, 3] rfl) (p6p 1 rfl HE.nil) ?_ fun s γ1 hi => ?_
 ·refine dv 2 ?_
  refine rlM [0] [_] (x1x true bs (p0 + 1 + 1 + 1 + 1 + 1 + 1 + 1) (20) (by have := hp; omega) hbs) rfl rfl rfl ?_
  refine dc 4 (aI ?_ ?_)<;>intro h<;>try simp at h
  ·refine dv 1 ?_
   refine r2r (id := 3) s4s rfl r1r rfl rfl rfl rfl (.val rfl rfl (.val rfl rfl (.val rfl rfl .nil))) rfl (s8s rfl) (s8s rfl) (s8s rfl) rfl rfl ?_
   refine dv 1 ?_
   refine rlM [0] [_] (x1x true bs (p0 + 1 + 1 + 1 + 1 + 1 + 1 + 1 + 1) (3) (by have := hp; omega) hbs) rfl rfl rfl ?_
   obtain ⟨z, ez, hz⟩ : ∃ z, pk bs (p0 + 1 + 1 + 1 + 1 + 1 + 1 + 1 + 1) 3 = z ∧ z < 3 := ⟨_, rfl, a3s _ _ _ (by omega)⟩
   rw [ez]
   obtain ⟨v, hv⟩ : ∃ x, ([-1, 40, 41] : List Int)[z]? = some x := ⟨_, List.getElem?_eq_getElem hz⟩
   refine z1z (f := fun x : Int => [pI x]) (l := [-1, 40, 41]) (j := z) rfl rfl s4s rfl r1r rfl rfl hz ?_
   refine a5e (f := fun x : Int => [pI x]) (l := [-1, 40, 41]) rfl r1r rfl hv rfl ?_
   refine dv 2 ?_
   exact ⟨({ (⟨(pk bs (p0) 41 : Int), (pk bs (p0 + 1) 4 : Int), (pk bs (p0 + 1 + 1) 5 : Int) - 1, (pk bs (p0 + 1 + 1 + 1) 13 : Int), (pk bs (p0 + 1 + 1 + 1 + 1) 3 : Int), (pk bs (p0 + 1 + 1 + 1 + 1 + 1) 3 : Int), (pk bs (p0 + 1 + 1 + 1 + 1 + 1 + 1) 40 : Int)⟩ : Ev) with time := v }, p0 + 1 + 1 + 1 + 1 + 1 + 1 + 1 + 1 + 1), (by show p0 + 1 + 1 + 1 + 1 + 1 + 1 + 1 + 1 + 1 ≤ _; omega), [0, 0, 0, _, _, _], x7x, x7x, x5x, x5x, rfl⟩
  refine dc 3 (aI ?_ ?_)<;>intro h<;>try simp at h
  ·refine dv 1 ?_
   refine r2r (id := 4) s4s rfl r1r rfl rfl rfl rfl (.val rfl rfl (.val rfl rfl .nil)) rfl (s8s rfl) (s8s rfl) (s8s rfl) rfl rfl ?_
   refine dv 1 ?_
   refine rlM [0] [_] (x1x true bs (p0 + 1 + 1 + 1 + 1 + 1 + 1 + 1 + 1) (2) (by have := hp; omega) hbs) rfl rfl rfl ?_
   obtain ⟨z, ez, hz⟩ : ∃ z, pk bs (p0 + 1 + 1 + 1 + 1 + 1 + 1 + 1 + 1) 2 = z ∧ z < 2 := ⟨_, rfl, a3s _ _ _ (by omega)⟩
   rw [ez]
   obtain ⟨v, hv⟩ : ∃ x, ([-1, 4] : List Int)[z]? = some x := ⟨_, List.getElem?_eq_getElem hz⟩
   refine z1z (f := fun x : Int => [pI x]) (l := [-1, 4]) (j := z) rfl rfl s4s rfl r1r rfl rfl hz ?_
   refine a5e (f := fun x : Int => [pI x]) (l := [-1, 4]) rfl r1r rfl hv rfl ?_
   refine dv 2 ?_
   exact ⟨({ (⟨(pk bs (p0) 41 : Int), (pk bs (p0 + 1) 4 : Int), (pk bs (p0 + 1 + 1) 5 : Int) - 1, (pk bs (p0 + 1 + 1 + 1) 13 : Int), (pk bs (p0 + 1 + 1 + 1 + 1) 3 : Int), (pk bs (p0 + 1 + 1 + 1 + 1 + 1) 3 : Int), (pk bs (p0 + 1 + 1 + 1 + 1 + 1 + 1) 40 : Int)⟩ : Ev) with to := v }, p0 + 1 + 1 + 1 + 1 + 1 + 1 + 1 + 1 + 1), (by show p0 + 1 + 1 + 1 + 1 + 1 + 1 + 1 + 1 + 1 ≤ _; omega), [0, 0, 0, _, _, _], x7x, x7x, x5x, x5x, rfl⟩
  refine dc 3 (aS ?_ ?_)<;>intro h<;>try simp at h
  ·refine dv 1 ?_
   exact ⟨((⟨(pk bs (p0) 41 : Int), (pk bs (p0 + 1) 4 : Int), (pk bs (p0 + 1 + 1) 5 : Int) - 1, (pk bs (p0 + 1 + 1 + 1) 13 : Int), (pk bs (p0 + 1 + 1 + 1 + 1) 3 : Int), (pk bs (p0 + 1 + 1 + 1 + 1 + 1) 3 : Int), (pk bs (p0 + 1 + 1 + 1 + 1 + 1 + 1) 40 : Int)⟩ : Ev), p0 + 1 + 1 + 1 + 1 + 1 + 1 + 1 + 1), (by show p0 + 1 + 1 + 1 + 1 + 1 + 1 + 1 + 1 ≤ _; omega), [0, 0, 0, _, _, _], x7x, x7x, x5x, x5x, rfl⟩
  refine dv 1 ?_
  refine r2r (id := 5) s4s rfl r1r rfl rfl rfl rfl (.val rfl rfl (.val rfl rfl (.val rfl rfl .nil))) rfl (s8s rfl) (s8s rfl) (s8s rfl) rfl rfl ?_
  refine dv 1 ?_
  refine rlM [0] [_] (x1x true bs (p0 + 1 + 1 + 1 + 1 + 1 + 1 + 1 + 1) (3) (by have := hp; omega) hbs) rfl rfl rfl ?_
  obtain ⟨z, ez, hz⟩ : ∃ z, pk bs (p0 + 1 + 1 + 1 + 1 + 1 + 1 + 1 + 1) 3 = z ∧ z < 3 := ⟨_, rfl, a3s _ _ _ (by omega)⟩
  rw [ez]
  obtain ⟨v, hv⟩ : ∃ x, ([-1, 999, 1000] : List Int)[z]? = some x := ⟨_, List.getElem?_eq_getElem hz⟩
  refine z1z (f := fun x : Int => [pI x]) (l := [-1, 999, 1000]) (j := z) rfl rfl s4s rfl r1r rfl rfl hz ?_
  refine a5e (f := fun x : Int => [pI x]) (l := [-1, 999, 1000]) rfl r1r rfl hv rfl ?_
  refine dv 2 ?_
  exact ⟨({ (⟨(pk bs (p0) 41 : Int), (pk bs (p0 + 1) 4 : Int), (pk bs (p0 + 1 + 1) 5 : Int) - 1, (pk bs (p0 + 1 + 1 + 1) 13 : Int), (pk bs (p0 + 1 + 1 + 1 + 1) 3 : Int), (pk bs (p0 + 1 + 1 + 1 + 1 + 1) 3 : Int), (pk bs (p0 + 1 + 1 + 1 + 1 + 1 + 1) 40 : Int)⟩ : Ev) with arg := v }, p0 + 1 + 1 + 1 + 1 + 1 + 1 + 1 + 1 + 1), (by show p0 + 1 + 1 + 1 + 1 + 1 + 1 + 1 + 1 + 1 ≤ _; omega), [0, 0, 0, _, _, _], x7x, x7x, x5x, x5x, rfl⟩
 ·try dsimp only [b3d, b3e]
  refine dv 4 ?_
  exact ⟨s, hi, [γ 0], rfl, rfl, x5x⟩
theorem c8p (bs : List Nat) (hbs : ∀ b ∈ bs, b < 256) (p0 : Nat) (hp : p0 + 10 ≤ 100000000) : MethE Tryz.prog 226 1 [.ptr 0 0 0] [(0, (0, .box 243 [v5v true bs, .pv (.int .i64 ((p0 : Nat) : Int))]))] (ι := Ou × Nat) (fun S' => S'.2 ≤ p0 + 5) (fun S' => [0]) (fun S' => .agg (p9p S'.1)) (fun S' => [(0, (0, .box 243 [v5v true bs, .pv (.int .i64 ((S'.2 : Nat) : Int))]))]) := by
 refine mE (ι := Ou × Nat) Tryz.f226 (fun S' => [.agg (p9p S'.1)]) 1 1 fun γ => ?_
 refine dv 1 ?_
 refine x3x (id := 1) w4w c5m rfl (dv 2 ?_)
 refine rlM [0] [_] (x1x true bs (p0) (6) (by have := hp; omega) hbs) rfl rfl rfl ?_
 refine dv 1 ?_
 refine rlM [0] [_] (x1x true bs (p0 + 1) (4) (by have := hp; omega) hbs) rfl rfl rfl ?_
 refine dv 1 ?_
 refine rlM [0] [_] (x1x true bs (p0 + 1 + 1) (3) (by have := hp; omega) hbs) rfl rfl rfl ?_
 refine dv 1 ?_
 refine rlM [0] [_] (x1x true bs (p0 + 1 + 1 + 1) (2) (by have := hp; omega) hbs) rfl rfl rfl ?_
 refine dv 1 ?_
 refine rlM [0] [_] (x1x true bs (p0 + 1 + 1 + 1 + 1) (4) (by have := hp; omega) hbs) rfl rfl rfl ?_
 refine rlB w4w c5m ?_
 refine dv 2 ?_
 exact ⟨((⟨(pk bs (p0) 6 : Int), (pk bs (p0 + 1) 4 : Int), (pk bs (p0 + 1 + 1) 3 : Int), (pk bs (p0 + 1 + 1 + 1) 2 : Int), (pk bs (p0 + 1 + 1 + 1 + 1) 4 : Int)⟩ : Ou), p0 + 1 + 1 + 1 + 1 + 1), (by show p0 + 1 + 1 + 1 + 1 + 1 ≤ _; omega), [γ 0], rfl, rfl, x5x⟩
theorem c0h (bs : List Nat) (hbs : ∀ b ∈ bs, b < 256) (p0 m : Nat) (hm : m ≤ 1000) (hp : p0 + 1 + 13 * m ≤ 100000000) : MethE Tryz.prog 227 1 [.ptr 0 0 0, .pv (.int .i64 (m : Int))] [(0, (0, .box 243 [v5v true bs, .pv (.int .i64 ((p0 : Nat) : Int))]))] (ι := List Ev × Nat) (fun S' => S'.1.length ≤ m ∧ S'.2 ≤ p0 + 1 + 13 * m) (fun S' => [0]) (fun S' => a0t true S'.1) (fun S' => [(0, (0, .box 243 [v5v true bs, .pv (.int .i64 ((S'.2 : Nat) : Int))]))]) := by
 refine mE (ι := List Ev × Nat) Tryz.f227 (fun S' => [a0t true S'.1]) 1 4 fun γ => ?_
 refine dv 3 ?_
 refine y1y (id := 1) v8v rfl z4z rfl (dv 5 fun K K' => ?_)
 refine rlM [0] [_] (x1x true bs (p0) (m) (by have := hp; omega) hbs) rfl rfl rfl ?_
 refine dv 1 ?_
 obtain ⟨N, eN, hN⟩ : ∃ N, pk bs p0 m = N ∧ N ≤ m := ⟨_, rfl, b1i _ _ _⟩
 rw [eN]
 refine dv 1 ?_
 refine x6x (ι := List Ev × Nat × Nat) (fun p γ1 => [(5, .ref 1 (γ1 1)), (6, pI (p.2.2 : Int))]) (fun p γ1 => [(1, ((γ1 1), .row 56 7 ((p.1).map z2z))), (0, ((γ 0), .box 243 [v5v true bs, pI ((p.2.1 : Nat) : Int)])), (2, ((γ1 2), .dead)), (3, ((γ1 3), .dead)), (4, ((γ1 4), .dead))]) (fun p => p.1.length + p.2.2 ≤ N ∧ p.2.1 + 13 * p.2.2 ≤ p0 + 1 + 13 * N) (fun p => p.2.2) (y0y 0 rfl Cov.nil) HE.nil ([], p0 + 1, N) ⟨Nat.le_of_eq (Nat.zero_add _), Nat.le_refl _⟩ [0, _, _, _, _] x7x (HE.row rfl (by rfl) (HE.box rfl rfl (HE.kill rfl (HE.kill rfl (HE.kill rfl HE.nil))))) rfl fun p γ1 hi => ?_
 obtain ⟨l, q, n⟩ := p
 obtain ⟨h1, h2⟩ := hi
 dsimp only at h1 h2 ⊢
 refine dc 4 (fun K K' => aS ?_ ?_)<;>intro h<;>try simp at h
 ·refine dv 1 ?_
  refine s7s (f := z2z) 5 rfl rfl (fun _ => rfl) ?_
  refine dv 4 ?_
  exact ⟨(l, q), ⟨by show l.length ≤ m; omega, by show q ≤ p0 + 1 + 13 * m; omega⟩, [γ 0], rfl, rfl, x5x⟩
 obtain ⟨n', rfl⟩ : ∃ n', n = n' + 1 := ⟨n - 1, by omega⟩
 refine dv 3 fun K K' => ?_
 refine s6s fun B X0 w0 => ?_
 refine txR 1 rfl rfl (dv 1 ?_)
 refine txM [0] [_] (a8i bs hbs q (by omega)) rfl rfl rfl rfl fun e he => ?_
 refine txR 2 rfl rfl (x3x (id := 2) z4z a6v rfl (dv 1 ?_))
 refine z7z rfl ?_
 refine r0r (ι := Ev × Nat) (fun s γ2 => []) (fun s γ2 => [(0, ((γ 0), .box 243 [v5v true bs, pI ((s.2 : Nat) : Int)])), (2, ((γ1 2 + 1), .box 56 (z2z s.1)))]) (fun s => s.2 ≤ q + 13) (r7r [0, 5, 6, 7] rfl) (a1m [1, 3, 4] rfl) ?_ fun s γ2 hi => ?_
 ·refine dv 2 ?_
  refine a4i (n := l.length) rfl v8v rfl rfl (List.length_map _) ?_
  refine dc 2 (aS ?_ ?_)<;>intro h<;>try simp at h
  ·refine dv 5 ?_
   exact ⟨(e.1, e.2), (by show e.2 ≤ _; omega), [], x7x, x7x, x5x, x5x, rfl⟩
  refine dv 1 ?_
  refine rlM [0] [_] (x1x true bs (e.2) (4) (by have := he; omega) hbs) rfl rfl rfl ?_
  refine dc 2 (aS ?_ ?_)<;>intro h<;>try simp at h
  ·refine dv 1 ?_
   exact ⟨(e.1, e.2 + 1), (by show e.2 + 1 ≤ _; omega), [], x7x, x7x, x5x, x5x, rfl⟩
  refine dv 4 ?_
  refine a4i (n := l.length) rfl v8v rfl rfl (List.length_map _) ?_
  refine rlM [0] [_] (x1x true bs (e.2 + 1) (l.length) (by have := he; omega) hbs) rfl rfl rfl ?_
  obtain ⟨z, ez, hz⟩ : ∃ z, pk bs (e.2 + 1) l.length = z ∧ z < l.length := ⟨_, rfl, a3s _ _ _ (by omega)⟩
  rw [ez]
  obtain ⟨v, hv⟩ : ∃ v, l[z]? = some v := ⟨_, List.getElem?_eq_getElem hz⟩
  refine z1z (j := z) rfl rfl v8v rfl z4z rfl rfl hz ?_
  refine a0d rfl z4z rfl (by assumption) rfl rfl ?_
  refine dv 3 ?_
  refine rlM [0] [_] (x1x true bs (e.2 + 1 + 1) (3) (by have := he; omega) hbs) rfl rfl rfl ?_
  refine dv 2 ?_
  exact ⟨({ v with n := (pk bs (e.2 + 1 + 1) 3 : Int) }, e.2 + 1 + 1 + 1), (by show e.2 + 1 + 1 + 1 ≤ _; omega), [], x7x, x7x, x5x, x5x, rfl⟩
 ·try dsimp only [b3d, b3e]
  refine dv 3 ?_
  refine y6y (id := 3) v8v rfl z4z rfl rfl rfl rfl rfl rfl ?_
  refine y7y (zs := (l ++ [s.1]).map z2z) rfl rfl v8v rfl z4z rfl rfl rfl rfl (by rfl) (z8z z2z l s.1) (by (simp only [s2s, r5r, s1s, s3s, a0l, a2z, T56]; omega)) ?_
  refine dv 3 ?_
  refine r6r (b := 1) rfl rfl (by omega) (by omega) (dv 1 ?_)
  exact ⟨(l ++ [s.1], s.2, n'), ⟨⟨by show (l ++ [s.1]).length + n' ≤ N; rw [List.length_append]; show l.length + 1 + n' ≤ N; omega, by show s.2 + 13 * n' ≤ _; omega⟩, (by show n' < n' + 1; omega)⟩, [0, _, _, _, _], x7x, x7x, (HE.row rfl (by rfl) (HE.box rfl rfl (HE.kill rfl (HE.kill rfl (HE.kill rfl HE.nil))))), x5x, rfl⟩
end
section
theorem b9m (c : Bool) (n : Nd) (hl : n.lanes.length ≤ 1000000) (hk : n.kept.length ≤ 1000000) (ho : n.outs.length ≤ 1000000) (hd : ∀ l ∈ n.lanes, lb l) : Meth Tryz.prog 155 5 [] [.agg (u1u c n)] [(0, (0, .dead)), (1, (0, .dead)), (2, (0, .dead)), (3, (0, .dead)), (4, (0, .dead))] (.agg [pI n.id, .pv (.bool n.up), pI n.inc, pI n.g, .ref 0 0, .ref 3 0, .ref 4 0, pI n.led, pI 0, .ref 1 0, .ref 2 0, pI 0, pI 41]) [(0, (0, .row 44 5 ((n.lanes.map q1q).map (q2q true)))), (1, (0, .row 190 3 ([vi0, vi0, vi0].map (a3g true)))), (2, (0, .row 3 1 ([0, 0, 0].map a3u))), (3, (0, .row 56 7 ((n.kept).map z2z))), (4, (0, .row 141 5 ((n.outs).map p9p)))] := by
 refine mX Tryz.f155 [.agg [pI n.id, .pv (.bool n.up), pI n.inc, pI n.g, .ref 0 0, .ref 3 0, .ref 4 0, pI n.led, pI 0, .ref 1 0, .ref 2 0, pI 0, pI 41]] 5 11 fun γ => ?_
 refine dv 1 ?_
 refine x9x (id := 5) rfl rfl rfl (x3x (id := 6) u3u p5p rfl (dv 9 ?_))
 refine y1y (id := 3) v8v rfl z4z rfl (dv 2 ?_)
 refine p0p (zs := (n.kept).map z2z) rfl rfl v8v rfl z4z rfl rfl rfl (z9z (fun _ => rfl) _) rfl (by (simp only [s2s, r5r, s1s, s3s, a0l, a2z, b3c, T56]; omega)) ?_
 refine y1y (id := 4) a0h rfl w4w rfl (dv 2 ?_)
 refine p0p (zs := (n.outs).map p9p) rfl rfl a0h rfl w4w rfl rfl rfl (z9z (fun _ => rfl) _) rfl (by (simp only [s2s, r5r, s1s, s3s, a0l, a2z, b3c, T141]; omega)) ?_
 refine dv 2 ?_
 refine rlB u3u p5p ?_
 refine x3x (id := 9) u3u p5p rfl (dv 5 fun K K' => ?_)
 refine w1w 9 4 0 44 5 rfl rfl rfl rfl rfl ?_
 refine x6x (ι := Nat) (fun i γ1 => [(4, pI (i : Int))]) (fun i γ1 => [(0, ((γ1 0), .row 44 5 (((n.lanes.take i).map q1q).map (q2q true)))), (9, ((0 + 1), .box 65 [pI n.id, .pv (.bool n.up), pI n.inc, pI n.g, .ref 0 (γ1 0), .ref 3 (γ 3 + 1 + 1), .ref 4 (γ 4 + 1 + 1), pI n.led, pI 0, .pv (.slice none 0 0), .pv (.slice none 0 0), pI 0, pI 41])), (10, ((γ1 10), .dead)), (11, ((γ1 11), .dead))]) (fun i => i ≤ n.lanes.length) (fun i => n.lanes.length - i) (r7r [1, 2, 3] rfl) (a1m [1, 2, 3, 4, 5, 6, 7, 8, 12, 13, 14, 15] rfl) 0 (by omega) [_, 0, 0, 0, 0, 0, 0, 0, 0, 0, _, _] x7x (HE.row rfl (by rw [List.take_zero]; rfl) (HE.box rfl rfl (HE.kill rfl (HE.kill rfl HE.nil)))) rfl fun i γ1 hi => ?_
 refine dc 7 (fun K K' => aI ?_ ?_)<;>intro o<;>try simp at o
 ·obtain ⟨a, ha⟩ := gE n.lanes i
  have had := hd a (List.mem_of_getElem? ha)
  refine dv 11 fun K K' => ?_
  refine x0x rfl rfl rfl (a2t c a 0 0 had.1 (by omega) (by omega) had.2) ?_
  refine y6y (id := 10) a7t rfl a0c rfl rfl rfl rfl rfl rfl ?_
  refine y7y (zs := ((n.lanes.take i).map q1q ++ [q1q a]).map (q2q true)) rfl rfl a7t rfl a0c rfl rfl rfl rfl (by rfl) (z8z _ _ _) (by (simp only [s2s, r5r, s1s, s3s, a0l, a2z, b3c, T44]; omega)) ?_
  refine dv 4 ?_
  refine v0v rfl rfl rfl (dv 1 ?_)
  exact ⟨i + 1, ⟨by omega, by omega⟩, [_, 0, 0, 0, 0, 0, 0, 0, 0, 0, _, _], (Cov.cons' (t := 4) rfl (by rw [y4y (by omega) (by omega)]; rfl) Cov.nil), x7x, (HE.row rfl (by simp only [z5z ha, List.map_append, List.map_cons, List.map_nil]) (HE.box rfl rfl (HE.kill rfl (HE.kill rfl HE.nil)))), x5x, rfl⟩
 obtain rfl : i = n.lanes.length := by omega
 refine dv 5 fun K K' => ?_
 refine w1w 9 9 1 190 3 rfl rfl rfl rfl rfl (w1w 9 10 2 3 1 rfl rfl rfl rfl rfl ?_)
 refine x6x (ι := Nat) (fun i γ2 => [(5, pI (i : Int))]) (fun i γ2 => [(1, ((γ2 1), .row 190 3 ((List.range i).map fun _ => b1q))), (2, ((γ2 2), .row 3 1 ((List.range i).map fun _ => a3u 0))), (9, ((0 + 1), .box 65 [pI n.id, .pv (.bool n.up), pI n.inc, pI n.g, .ref 0 (γ1 0), .ref 3 (γ 3 + 1 + 1), .ref 4 (γ 4 + 1 + 1), pI n.led, pI 0, .ref 1 (γ2 1), .ref 2 (γ2 2), pI 0, pI 41])), (12, ((γ2 12), .dead)), (13, ((γ2 13), .dead)), (14, ((γ2 14), .dead)), (15, ((γ2 15), .dead))]) (fun i => i ≤ 3) (fun i => 3 - i) (r7r [2, 3] rfl) (a1m [0, 3, 4, 5, 6, 7, 8, 10, 11] rfl) 0 (by omega) [0, _, _, 0, 0, 0, 0, 0, 0, 0, 0, 0, _, _, _, _] x7x x5x rfl fun i γ2 hi => ?_
 refine dc 4 (fun K K' => aS ?_ ?_)<;>intro o<;>try simp at o
 ·obtain rfl : i = 3 := by omega
  rw [List.take_length]
  refine dv 4 ?_
  refine c9u (f := fun _ => b1q) (f' := fun _ => a3g true vi0) (l := List.range 3) 1 rfl (fun _ => .same (.same (.le rfl .nil rfl .nil))) ?_
  refine dv 1 ?_
  exact ⟨[_, _, _, _, _], rfl, rfl, x5x⟩
 refine dv 6 fun K K' => ?_
 refine rlB r8r a6e ?_
 refine y6y (id := 12) a9w rfl r8r rfl rfl rfl rfl rfl rfl ?_
 refine y7y (zs := (List.range i).map (fun _ => b1q) ++ [b1q]) rfl rfl a9w rfl r8r rfl rfl rfl rfl (by rfl) rfl (by (simp only [s2s, r5r, s1s, s3s, a0l, a2z, b3c, T190]; omega)) ?_
 refine dv 5 ?_
 refine a6g (id := 14) s4s rfl r1r rfl rfl rfl rfl rfl ?_
 refine y7y (zs := (List.range i).map (fun _ => a3u 0) ++ [a3u 0]) rfl rfl s4s rfl r1r rfl rfl rfl rfl (by rfl) rfl (by (simp only [s2s, r5r, s1s, s3s, a0l, a2z, b3c, T3]; omega)) ?_
 refine dv 4 ?_
 refine v0v rfl rfl rfl (dv 1 ?_)
 exact ⟨i + 1, ⟨by omega, by omega⟩, [0, _, _, 0, 0, 0, 0, 0, 0, 0, 0, 0, _, _, _, _], (Cov.cons' (t := 5) rfl (by rw [y4y (by omega) (by omega)]; rfl) Cov.nil), x7x, (HE.row rfl (by rw [List.range_succ, List.map_append]; rfl) (HE.row rfl (by rw [List.range_succ, List.map_append]; rfl) (HE.box rfl rfl (HE.kill rfl (HE.kill rfl (HE.kill rfl (HE.kill rfl HE.nil))))))), x5x, rfl⟩
theorem c0i (c : Bool) (n : Nd) (h : nb n) : Meth Tryz.prog 161 5 [] [.agg (u1u c n)] [(0, (0, .dead)), (1, (0, .dead)), (2, (0, .dead)), (3, (0, .dead)), (4, (0, .dead))] (.agg [pI n.id, .pv (.bool n.up), pI n.inc, pI n.g, .ref 0 0, .ref 3 0, .ref 4 0, pI n.led, pI n.version, .ref 1 0, .ref 2 0, pI n.round, pI n.low]) [(0, (0, .row 44 5 ((n.lanes).map a4o))), (1, (0, .row 190 3 ((n.views).map (a3g true)))), (2, (0, .row 3 1 (n.known.map a3u))), (3, (0, .row 56 7 ((n.kept).map z2z))), (4, (0, .row 141 5 ((n.outs).map p9p)))] := by
 refine mX Tryz.f161 [.agg [pI n.id, .pv (.bool n.up), pI n.inc, pI n.g, .ref 0 0, .ref 3 0, .ref 4 0, pI n.led, pI n.version, .ref 1 0, .ref 2 0, pI n.round, pI n.low]] 5 11 fun γ => ?_
 obtain ⟨b1, b2, b3, b4, b5, b6, b7⟩ := h
 refine dv 1 ?_
 refine x9x (id := 5) rfl rfl rfl (x3x (id := 6) u3u p5p rfl (dv 2 ?_))
 refine rlM [0, 13, 14, 3, 4] [_, _, _, _, _] (b9m c n b1 b2 b3 b4) rfl rfl rfl ?_
 refine x3x (id := 7) u3u p5p rfl (dv 5 fun K K' => ?_)
 refine x6x (ι := Nat) (fun i γ1 => [(4, pI (i : Int))]) (fun i γ1 => [(15, ((γ1 15), .dead)), (0, ((γ 0 + 1), .row 44 5 ((n.lanes.take i).map a4o ++ ((n.lanes.drop i).map q1q).map (q2q true))))]) (fun i => i ≤ n.lanes.length) (fun i => n.lanes.length - i) (r7r [1, 2, 3] rfl) (a1m [1, 2, 3, 4, 5, 6, 7, 8, 9, 10, 11, 12, 13, 14] rfl) 0 (by omega) [0, 0, 0, 0, 0, 0, 0, 0, 0, 0, 0, 0, 0, 0, 0, _] x7x (HE.kill rfl (HE.row rfl (by rw [List.take_zero, List.drop_zero]; rfl) HE.nil)) rfl fun i γ1 hi => ?_
 refine dc 7 (fun K K' => aI ?_ ?_)<;>intro o<;>try simp at o
 ·obtain ⟨p, hp⟩ := gE n.lanes i
  have hpl := b4 p (List.mem_of_getElem? hp)
  have hAl : ((n.lanes.take i).map a4o).length = i := by rw [List.length_map, List.length_take]; omega
  rw [p1p hp, List.map_cons, List.map_cons]
  refine dv 19 fun K K' => ?_
  refine rlM [15] [_] (b1s c p 0 p.done.length hpl.1 (by omega) hpl.1 hpl.2) rfl rfl rfl ?_
  refine b2l rfl rfl a7t rfl a0c rfl rfl hAl (a9x hAl rfl rfl a0c rfl rfl rfl rfl (.val rfl rfl (.val rfl rfl (.val rfl rfl (.val rfl rfl (.ref rfl (p7p fun _ => rfl) .nil rfl rfl))))) rfl ?_)
  refine dv 2 ?_
  refine v0v rfl rfl rfl (dv 1 ?_)
  exact ⟨i + 1, ⟨by omega, by omega⟩, [0, 0, 0, 0, 0, 0, 0, 0, 0, 0, 0, 0, 0, 0, 0, _], (Cov.cons' (t := 4) rfl (by rw [y4y (by omega) (by omega)]; rfl) Cov.nil), x7x, (HE.kill rfl (HE.row rfl (by rw [b5y]; simp only [z5z hp, List.map_append, List.append_assoc]; rfl) HE.nil)), x5x, rfl⟩
 obtain rfl : i = n.lanes.length := by omega
 rw [List.take_length, List.drop_length, List.map_nil, List.map_nil, List.append_nil]
 refine dv 17 ?_
 refine y1y (id := 1) a9w rfl r8r rfl (dv 6 fun K K' => ?_)
 refine x6x (ι := Nat) (fun j γ2 => [(5, pI (j : Int))]) (fun j γ2 => [(1, ((γ2 1), .row 190 3 ((n.views.take j).map (a3g true)))), (7, ((0 + 1), .box 65 [pI n.id, .pv (.bool n.up), pI n.inc, pI n.g, .ref 0 (γ 0 + 1), .ref 3 (γ 3 + 1), .ref 4 (γ 4 + 1), pI n.led, pI n.version, .ref 1 (γ2 1), .ref 14 (0 + 1), pI n.round, pI n.low])), (8, ((γ2 8), .dead)), (9, ((γ2 9), .dead)), (10, ((γ2 10), .dead)), (11, ((γ2 11), .dead))]) (fun j => j ≤ n.views.length) (fun j => n.views.length - j) (r7r [1, 2, 3] rfl) (a1m [0, 2, 3, 4, 5, 6, 12, 13, 14, 15] rfl) 0 (by omega) [0, _, 0, 0, 0, 0, 0, 0, _, _, _, _] x7x (HE.row rfl (by rw [List.take_zero]; rfl) (HE.box rfl rfl (HE.kill rfl (HE.kill rfl (HE.kill rfl (HE.kill rfl HE.nil)))))) rfl fun j γ2 hi => ?_
 refine dc 7 (fun K K' => aS ?_ ?_)<;>intro o<;>try simp at o
 ·obtain rfl : j = n.views.length := by omega
  rw [List.take_length]
  refine dv 2 ?_
  refine y1y (id := 2) s4s rfl r1r rfl (dv 2 ?_)
  refine p0p (zs := n.known.map a3u) rfl rfl s4s rfl r1r rfl rfl rfl (z9z (fun _ => rfl) _) rfl (by (simp only [s2s, r5r, s1s, s3s, a0l, a2z, b3c, T3]; omega)) ?_
  refine dv 6 ?_
  exact ⟨[_, _, _, _, _], rfl, rfl, x5x⟩
 obtain ⟨v, hv⟩ := gE n.views j
 have hve := b6 v (List.mem_of_getElem? hv)
 refine dv 18 fun K K' => ?_
 refine y1y (id := 8) v8v rfl z4z rfl (dv 6 ?_)
 refine a1h v9v (zs := (v.events).map z2z) rfl rfl v8v rfl z4z rfl rfl rfl (z9z (fun _ => rfl) _) rfl (by (simp only [s2s, r5r, s1s, s3s, a0l, a2z, b3c, T56]; omega)) (Le.ow_map _ (fun _ => rfl) (fun _ => rfl)) ?_
 refine rlB r8r a6e ?_
 refine y6y (id := 10) a9w rfl r8r rfl rfl rfl rfl rfl rfl ?_
 refine y7y (zs := (n.views.take j ++ [v]).map (a3g true)) rfl rfl a9w rfl r8r rfl rfl rfl rfl (by rfl) (z8z _ _ _) (by (simp only [s2s, r5r, s1s, s3s, a0l, a2z, b3c, T190]; omega)) ?_
 refine dv 4 ?_
 refine v0v rfl rfl rfl (dv 1 ?_)
 exact ⟨j + 1, ⟨by omega, by omega⟩, [0, _, 0, 0, 0, 0, 0, 0, _, _, _, _], (Cov.cons' (t := 5) rfl (by rw [y4y (by omega) (by omega)]; rfl) Cov.nil), x7x, (HE.row rfl (by rw [z5z hv]) (HE.box rfl rfl (HE.kill rfl (HE.kill rfl (HE.kill rfl (HE.kill rfl HE.nil)))))), x5x, rfl⟩
end
section
theorem b9n (bs : List Nat) (hbs : ∀ b ∈ bs, b < 256) (p0 : Nat) (hp : p0 + 502 + 1040 * 14 ≤ 1000000) : MethE Tryz.prog 122 1 [.ptr 0 0 0] [(0, (0, .box 243 [v5v true bs, .pv (.int .i64 ((p0 : Nat) : Int))]))] (ι := Tw × Nd × Nat) (fun S' => b9i S'.1 ∧ c3z S'.2.1 ∧ S'.2.2 ≤ p0 + 15200) (fun S' => [0]) (fun S' => .tup [.agg (d7k true S'.1), .agg (u1u true S'.2.1)]) (fun S' => [(0, (0, .box 243 [v5v true bs, .pv (.int .i64 ((S'.2.2 : Nat) : Int))]))]) := by
 refine mE (ι := Tw × Nd × Nat) Tryz.f122 (fun S' => [.agg (d7k true S'.1), .agg (u1u true S'.2.1)]) 1 20 fun γ => ?_
 refine dv 1 ?_
 refine x3x (id := 1) b5o b8r rfl (x3x (id := 2) u3u p5p rfl (s6s fun B X0 w0 => ?_))
 refine txR 1 rfl rfl (dv 1 ?_)
 refine txM [0] [_] (c5a bs hbs p0 hp) rfl rfl rfl rfl fun j hj => ?_
 obtain ⟨hj1, hj2⟩ := hj
 have hq : j.1.p ≤ p0 + 503 + 1040 * 14 := hj1.2.2
 have hI := hj1.1.2.2.1 j.2 hj2
 have fS := hI.1.1
 have fb := b7r fS
 have fB := w2w fS
 obtain ⟨g1, g2, g3, g4, g5, g6⟩ := fB
 refine txR 7 rfl rfl (dv 3 ?_)
 refine x3x (id := 3) b5o b8r rfl (x3x (id := 4) u3u p5p rfl (dv 2 ?_))
 refine z7z rfl (dv 2 ?_)
 refine rlM [15, 16, 17, 18, 19] [_, _, _, _, _] (c0i true j.2 fb) rfl rfl rfl ?_
 refine dv 1 ?_
 refine r0r (ι := Nd × Nat × List (List AV)) (fun s γ1 => []) (fun s γ1 => [(15, ((γ1 15), .row 44 5 (s.2.2))), (16, ((γ1 16), .row 190 3 ((s.1.views).map (a3g true)))), (17, ((γ1 17), .row 3 1 ((s.1.known).map a3u))), (18, ((γ1 18), .row 56 7 ((s.1.kept).map z2z))), (19, ((γ1 19), .row 141 5 ((s.1.outs).map p9p))), (20, ((γ1 20), .dead)), (0, ((γ 0), .box 243 [v5v true bs, pI ((s.2.1 : Nat) : Int)])), (4, ((0 + 1), .box 65 [pI s.1.id, .pv (.bool s.1.up), pI s.1.inc, pI s.1.g, .ref 15 (γ1 15), .ref 18 (γ1 18), .ref 19 (γ1 19), pI s.1.led, pI s.1.version, .ref 16 (γ1 16), .ref 17 (γ1 17), pI s.1.round, pI s.1.low])), (5, ((γ1 5), .dead)), (6, ((γ1 6), .dead)), (7, ((γ1 7), .dead)), (8, ((γ1 8), .dead)), (9, ((γ1 9), .dead)), (10, ((γ1 10), .dead)), (11, ((γ1 11), .dead)), (12, ((γ1 12), .dead)), (13, ((γ1 13), .dead)), (14, ((γ1 14), .dead))]) (fun s => c3z s.1 ∧ s.2.1 ≤ p0 + 15200 ∧ Le true (.row .ow 44 5 s.2.2) (b8l true s.1.lanes)) (r7r [2, 3, 4, 5] rfl) (a1m [1, 2, 3] rfl) ?_ fun s γ1 hi => ?_
 ·refine dv 2 ?_
  refine rlM [0] [_] (x1x true bs (j.1.p) (24) (by have := hq; omega) hbs) rfl rfl rfl ?_
  refine dc 4 (aI ?_ ?_)<;>intro u<;>try simp at u
  ·refine dv 2 ?_
   refine rlM [0] [_] (x1x true bs (j.1.p + 1) (5) (by have := hq; omega) hbs) rfl rfl rfl ?_
   have h5 := a3s bs (j.1.p + 1) 5 (by omega)
   refine q9q (.int .i64 ((pk bs (j.1.p + 1) 5 : Int) - 1)) rfl rfl rfl (a6i rfl (by omega) (by omega) (by omega)) ?_
   refine dv 2 ?_
   exact ⟨({ j.2 with id := (pk bs (j.1.p + 1) 5 : Int) - 1 }, j.1.p + 1 + 1, j.2.lanes.map a4o), (by exact ⟨hI.2, by show j.1.p + 1 + 1 ≤ p0 + 15200; omega, (a5x _)⟩), [0, 0, 0, 0, 0, _, _, _, _, _, _, _, _, _, _, _, _, _, _, _, _], x7x, x7x, x5x, x5x, rfl⟩
  refine dc 3 (aI ?_ ?_)<;>intro u<;>try simp at u
  ·refine dv 1 ?_
   refine x0x rfl rfl rfl (u0u ..) (x0x rfl rfl rfl (u0u ..) (q9q (.int .i64 10000) rfl rfl rfl rfl ?_))
   refine r2r (id := 5) s4s rfl r1r rfl rfl rfl rfl (.val rfl rfl (.val rfl rfl (.val rfl rfl .nil))) rfl (s8s rfl) (s8s rfl) (s8s rfl) rfl rfl ?_
   refine dv 1 ?_
   refine rlM [0] [_] (x1x true bs (j.1.p + 1) (3) (by have := hq; omega) hbs) rfl rfl rfl ?_
   obtain ⟨z, ez, hz⟩ : ∃ z, pk bs (j.1.p + 1) 3 = z ∧ z < 3 := ⟨_, rfl, a3s _ _ _ (by omega)⟩
   rw [ez]
   obtain ⟨v, hv⟩ : ∃ x, ([0, 9999, 10000] : List Int)[z]? = some x := ⟨_, List.getElem?_eq_getElem hz⟩
   refine z1z (f := fun x : Int => [pI x]) (l := [0, 9999, 10000]) (j := z) rfl rfl s4s rfl r1r rfl rfl hz ?_
   refine a5e (f := fun x : Int => [pI x]) (l := [0, 9999, 10000]) rfl r1r rfl hv rfl ?_
   refine dv 2 ?_
   exact ⟨({ j.2 with inc := v }, j.1.p + 1 + 1, j.2.lanes.map a4o), (by exact ⟨hI.2, by show j.1.p + 1 + 1 ≤ p0 + 15200; omega, (a5x _)⟩), [0, 0, 0, 0, 0, _, _, _, _, _, _, _, _, _, _, _, _, _, _, _, _], x7x, x7x, x5x, x5x, rfl⟩
  refine dc 3 (aI ?_ ?_)<;>intro u<;>try simp at u
  ·refine dv 1 ?_
   refine r2r (id := 6) s4s rfl r1r rfl rfl rfl rfl (.val rfl rfl (.val rfl rfl (.val rfl rfl (.val rfl rfl .nil)))) rfl (s8s rfl) (s8s rfl) (s8s rfl) rfl rfl ?_
   refine dv 1 ?_
   refine rlM [0] [_] (x1x true bs (j.1.p + 1) (4) (by have := hq; omega) hbs) rfl rfl rfl ?_
   obtain ⟨z, ez, hz⟩ : ∃ z, pk bs (j.1.p + 1) 4 = z ∧ z < 4 := ⟨_, rfl, a3s _ _ _ (by omega)⟩
   rw [ez]
   obtain ⟨v, hv⟩ : ∃ x, ([-1, 41, 42, 3] : List Int)[z]? = some x := ⟨_, List.getElem?_eq_getElem hz⟩
   refine z1z (f := fun x : Int => [pI x]) (l := [-1, 41, 42, 3]) (j := z) rfl rfl s4s rfl r1r rfl rfl hz ?_
   refine a5e (f := fun x : Int => [pI x]) (l := [-1, 41, 42, 3]) rfl r1r rfl hv rfl ?_
   refine dv 2 ?_
   exact ⟨({ j.2 with g := v }, j.1.p + 1 + 1, j.2.lanes.map a4o), (by exact ⟨hI.2, by show j.1.p + 1 + 1 ≤ p0 + 15200; omega, (a5x _)⟩), [0, 0, 0, 0, 0, _, _, _, _, _, _, _, _, _, _, _, _, _, _, _, _], x7x, x7x, x5x, x5x, rfl⟩
  refine dc 3 (aI ?_ ?_)<;>intro u<;>try simp at u
  ·refine d5j 3 (b4t v9v 0 3 rfl rfl ?_)
   refine dv 3 ?_
   refine b6f c1k (by rfl) [0] [_] (a8i bs hbs (j.1.p + 1) (by omega)) rfl rfl rfl rfl (by decide) rfl rfl f1z (fun _ => (by (simp only [pI, a2d, a2e, b9u, gl, nx, a7d, Nat.beq]; rfl))) (fun _ => (by (simp only [pI, a2d, a2e, b9u, gl, nx, a7d, Nat.beq]; rfl))) (⟨0, 0, 0, 0, 0, 0, 0⟩, j.1.p + 1) (by show j.1.p + 1 ≤ _; omega) fun e he => ?_
   refine b4u v9v 4 4 rfl rfl ?_
   refine y6y (id := 7) v8v rfl z4z rfl rfl rfl rfl rfl rfl ?_
   refine y7y (zs := (j.2.kept ++ [e.1]).map z2z) rfl rfl v8v rfl z4z rfl rfl rfl rfl (by rfl) (z8z z2z j.2.kept e.1) (by (simp only [s2s, r5r, s1s, s3s, a0l, a2z, T56]; omega)) ?_
   refine dv 2 ?_
   refine c2x (by kernel_rfl) ?_
   exact ⟨({ j.2 with kept := j.2.kept ++ [e.1] }, e.2, j.2.lanes.map a4o), (by exact ⟨hI.2, by show e.2 ≤ p0 + 15200; omega, (a5x _)⟩), [0, 0, 0, 0, 0, _, _, _, _, _, _, _, _, _, _, _, _, _, _, _, _], x7x, x7x, x5x, x5x, rfl⟩
  refine dc 3 (aI ?_ ?_)<;>intro u<;>try simp at u
  ·refine d5j 3 (b4t v9v 0 3 rfl rfl ?_)
   refine dv 3 ?_
   refine b6f c1k (by rfl) [0] [_] (c8p bs hbs (j.1.p + 1) (by omega)) rfl rfl rfl rfl (by decide) rfl rfl f1z (fun _ => (by (simp only [pI, a2d, a2e, b9u, gl, nx, a7d, Nat.beq]; rfl))) (fun _ => (by (simp only [pI, a2d, a2e, b9u, gl, nx, a7d, Nat.beq]; rfl))) (⟨0, 0, 0, 0, 0⟩, j.1.p + 1) (by show j.1.p + 1 ≤ _; omega) fun o ho => ?_
   refine b4u v9v 4 4 rfl rfl ?_
   refine y6y (id := 9) a0h rfl w4w rfl rfl rfl rfl rfl rfl ?_
   refine y7y (zs := (j.2.outs ++ [o.1]).map p9p) rfl rfl a0h rfl w4w rfl rfl rfl rfl (by rfl) (z8z p9p j.2.outs o.1) (by (simp only [s2s, r5r, s1s, s3s, a0l, a2z, T141]; omega)) ?_
   refine dv 2 ?_
   refine c2x (by kernel_rfl) ?_
   exact ⟨({ j.2 with outs := j.2.outs ++ [o.1] }, o.2, j.2.lanes.map a4o), (by exact ⟨hI.2, by show o.2 ≤ p0 + 15200; omega, (a5x _)⟩), [0, 0, 0, 0, 0, _, _, _, _, _, _, _, _, _, _, _, _, _, _, _, _], x7x, x7x, x5x, x5x, rfl⟩
  refine dc 3 (aI ?_ ?_)<;>intro u<;>try simp at u
  ·refine dv 1 ?_
   refine x0x rfl rfl rfl (u0u ..) (x0x rfl rfl rfl (u0u ..) (q9q (.int .i64 10000) rfl rfl rfl rfl ?_))
   refine r2r (id := 11) s4s rfl r1r rfl rfl rfl rfl (.val rfl rfl (.val rfl rfl (.val rfl rfl .nil))) rfl (s8s rfl) (s8s rfl) (s8s rfl) rfl rfl ?_
   refine dv 1 ?_
   refine rlM [0] [_] (x1x true bs (j.1.p + 1) (3) (by have := hq; omega) hbs) rfl rfl rfl ?_
   obtain ⟨z, ez, hz⟩ : ∃ z, pk bs (j.1.p + 1) 3 = z ∧ z < 3 := ⟨_, rfl, a3s _ _ _ (by omega)⟩
   rw [ez]
   obtain ⟨v, hv⟩ : ∃ x, ([-1, 9999, 10000] : List Int)[z]? = some x := ⟨_, List.getElem?_eq_getElem hz⟩
   refine z1z (f := fun x : Int => [pI x]) (l := [-1, 9999, 10000]) (j := z) rfl rfl s4s rfl r1r rfl rfl hz ?_
   refine a5e (f := fun x : Int => [pI x]) (l := [-1, 9999, 10000]) rfl r1r rfl hv rfl ?_
   refine dv 2 ?_
   exact ⟨({ j.2 with version := v }, j.1.p + 1 + 1, j.2.lanes.map a4o), (by exact ⟨hI.2, by show j.1.p + 1 + 1 ≤ p0 + 15200; omega, (a5x _)⟩), [0, 0, 0, 0, 0, _, _, _, _, _, _, _, _, _, _, _, _, _, _, _, _], x7x, x7x, x5x, x5x, rfl⟩
  refine dc 3 (aI ?_ ?_)<;>intro u<;>try simp at u
  ·refine d5j 5 (b4t v9v 0 5 rfl rfl ?_)
   refine dv 3 ?_
   refine rlM [0] [_] (x1x true bs (j.1.p + 1) (3) (by have := hq; omega) hbs) rfl rfl rfl ?_
   refine dv 1 ?_
   refine b6f c1k (by rfl) [0] [_] (c0h bs hbs (j.1.p + 1 + 1) 3 (by omega) (by omega)) rfl rfl rfl rfl (by decide) rfl rfl f1z (fun _ => (by (simp only [pI, a2d, a2e, b9u, gl, nx, a7d, Nat.beq]; rfl))) (fun _ => (by (simp only [pI, a2d, a2e, b9u, gl, nx, a7d, Nat.beq]; rfl))) ([], j.1.p + 1 + 1) ⟨Nat.zero_le _, by show j.1.p + 1 + 1 ≤ _; omega⟩ fun l hl => ?_
   refine b4u v9v 6 3 rfl rfl ?_
   have h3v : j.2.views.length = 3 := fS.2.2.2.2.2.1
   obtain ⟨z, ez, hz⟩ : ∃ z, pk bs (j.1.p + 1) 3 = z ∧ z < 3 := ⟨_, rfl, a3s _ _ _ (by omega)⟩
   rw [ez]
   obtain ⟨v, hv⟩ := gE j.2.views z
   refine z1z (j := z) rfl rfl a9w rfl r8r rfl rfl (z3z hv) ?_
   refine dv 1 ?_
   refine b3u { v with events := l.1 } rfl rfl v8v rfl rfl rfl hv rfl (by decide) (.val rfl rfl .nil) rfl rfl ?_
   refine c2x (by kernel_rfl) ?_
   exact ⟨({ j.2 with views := j.2.views.set z { v with events := l.1 } }, l.2, j.2.lanes.map a4o), (by exact ⟨hI.2, by show l.2 ≤ p0 + 15200; omega, (a5x _)⟩), [0, 0, 0, 0, 0, _, _, _, _, _, _, _, _, _, _, _, _, _, _, _, _], x7x, x7x, x5x, x5x, rfl⟩
  refine dc 3 (aI ?_ ?_)<;>intro u<;>try simp at u
  ·obtain ⟨l0, rest, hl⟩ : ∃ l0 rest, j.2.lanes = l0 :: rest := by have h := e3l fS; match hm : j.2.lanes with | [] => (rw [hm] at h; cases h) | a :: r => exact ⟨a, r, rfl⟩
   have hld := (fb.2.2.2.1 l0 (by rw [hl]; exact List.mem_cons_self ..)).1
   rw [hl]
   refine d9s (A := []) (B := rest.map a4o) (cs := a4o l0) (j := 0) 15 4 20 rfl rfl rfl rfl rfl rfl ?_
   refine d5j 8 (b4t v9v 0 8 rfl rfl ?_)
   refine dv 4 ?_
   refine b2l (A := []) (j := 0) rfl rfl a7t rfl a0c rfl rfl rfl ?_
   refine dv 1 ?_
   refine e4q (A := []) rfl rfl a8l rfl rfl ?_
   refine dv 1 ?_
   refine b6f c1k (by rfl) [0] [_] (a8i bs hbs (j.1.p + 1) (by omega)) rfl rfl rfl rfl (by decide) rfl rfl f1z (fun _ => (by (simp only [pI, a2d, a2e, b9u, gl, nx, a7d, Nat.beq]; rfl))) (fun _ => (by (simp only [pI, a2d, a2e, b9u, gl, nx, a7d, Nat.beq]; rfl))) (⟨0, 0, 0, 0, 0, 0, 0⟩, j.1.p + 1) (by show j.1.p + 1 ≤ _; omega) fun e he => ?_
   refine b4u v9v 9 6 rfl rfl ?_
   refine rlB a4h b9y ?_
   refine y6y (id := 12) a8l rfl a4h rfl rfl rfl rfl rfl rfl ?_
   refine y7y (zs := l0.done.map (a1l true) ++ [d7r e.1]) rfl rfl a8l rfl a4h rfl rfl rfl rfl rfl rfl (by (simp only [s2s, r5r, s1s, s3s, a0l, a2z, T58]; omega)) ?_
   refine b2l (A := []) (j := 0) rfl rfl a7t rfl a0c rfl rfl rfl ?_
   refine dv 1 ?_
   refine a6k rfl rfl a8l rfl rfl rfl (Nat.succ_pos _) (s8s rfl) (.ref rfl (e6n _ _) .nil rfl rfl) rfl ?_
   refine c2x (by kernel_rfl) ?_
   exact ⟨({ j.2 with lanes := ⟨l0.proc, l0.base, l0.done ++ [d7s e.1]⟩ :: rest }, e.2, e3k l0 e.1 :: rest.map a4o), (by exact ⟨e3m hI.2 hl e.1, by show e.2 ≤ p0 + 15200; omega, e6m _ _ _⟩), [0, 0, 0, 0, 0, _, _, _, _, _, _, _, _, _, _, _, _, _, _, _, _], x7x, x7x, x5x, x5x, rfl⟩
  refine dc 3 (aI ?_ ?_)<;>intro u<;>try simp at u
  ·refine dv 1 ?_
   refine x0x rfl rfl rfl (u0u ..) (x0x rfl rfl rfl (u0u ..) (q9q (.int .i64 10000) rfl rfl rfl rfl ?_))
   refine r2r (id := 14) s4s rfl r1r rfl rfl rfl rfl (.val rfl rfl (.val rfl rfl (.val rfl rfl .nil))) rfl (s8s rfl) (s8s rfl) (s8s rfl) rfl rfl ?_
   refine dv 1 ?_
   refine rlM [0] [_] (x1x true bs (j.1.p + 1) (3) (by have := hq; omega) hbs) rfl rfl rfl ?_
   obtain ⟨z, ez, hz⟩ : ∃ z, pk bs (j.1.p + 1) 3 = z ∧ z < 3 := ⟨_, rfl, a3s _ _ _ (by omega)⟩
   rw [ez]
   obtain ⟨v, hv⟩ : ∃ x, ([-1, 9999, 10000] : List Int)[z]? = some x := ⟨_, List.getElem?_eq_getElem hz⟩
   refine z1z (f := fun x : Int => [pI x]) (l := [-1, 9999, 10000]) (j := z) rfl rfl s4s rfl r1r rfl rfl hz ?_
   refine a5e (f := fun x : Int => [pI x]) (l := [-1, 9999, 10000]) rfl r1r rfl hv rfl ?_
   refine dv 2 ?_
   exact ⟨({ j.2 with round := v }, j.1.p + 1 + 1, j.2.lanes.map a4o), (by exact ⟨hI.2, by show j.1.p + 1 + 1 ≤ p0 + 15200; omega, (a5x _)⟩), [0, 0, 0, 0, 0, _, _, _, _, _, _, _, _, _, _, _, _, _, _, _, _], x7x, x7x, x5x, x5x, rfl⟩
  refine dc 3 (aS ?_ ?_)<;>intro u<;>try simp at u
  ·refine dv 1 ?_
   exact ⟨(j.2, j.1.p + 1, j.2.lanes.map a4o), (by exact ⟨hI.2, by show j.1.p + 1 ≤ p0 + 15200; omega, (a5x _)⟩), [0, 0, 0, 0, 0, _, _, _, _, _, _, _, _, _, _, _, _, _, _, _, _], x7x, x7x, x5x, x5x, rfl⟩
  refine dv 6 ?_
  exact ⟨({ j.2 with up := !j.2.up }, j.1.p + 1, j.2.lanes.map a4o), (by exact ⟨hI.2, by show j.1.p + 1 ≤ p0 + 15200; omega, (a5x _)⟩), [0, 0, 0, 0, 0, _, _, _, _, _, _, _, _, _, _, _, _, _, _, _, _], x7x, x7x, x5x, x5x, rfl⟩
 ·try dsimp only [b3d, b3e]
  refine u6u (b := b8l true s.1.lanes) 4 4 rfl rfl rfl (.ref rfl hi.2.2 .nil) rfl rfl rfl rfl ?_
  refine u6u (b := b9w true s.1.views) 4 9 rfl rfl rfl (.ref rfl (Le.ow_map _ (fun _ => rfl) (fun _ => rfl)) .nil) rfl rfl rfl rfl ?_
  refine u6u (b := a3f true s.1.known) 4 10 rfl rfl rfl (.ref rfl (Le.ow_map _ (fun _ => rfl) (fun _ => rfl)) .nil) rfl rfl rfl rfl ?_
  refine u6u (b := a0t true s.1.kept) 4 5 rfl rfl rfl (.ref rfl (Le.ow_map _ (fun _ => rfl) (fun _ => rfl)) .nil) rfl rfl rfl rfl ?_
  refine u6u (b := r9r true s.1.outs) 4 6 rfl rfl rfl (.ref rfl (Le.ow_map _ (fun _ => rfl) (fun _ => rfl)) .nil) rfl rfl rfl rfl ?_
  refine dv 6 ?_
  exact ⟨(j.1.w, s.1, s.2.1), ⟨hj1.1, hi.1, hi.2.1⟩, [γ 0], rfl, rfl, x5x⟩
end
section
theorem b3o (bs : List Nat) (hbs : ∀ b ∈ bs, b < 256)  : MethE Tryz.prog 60 0 [v5v true bs] [] (ι := Nd × Int) (fun S' => c3z S'.1) (fun S' => []) (fun S' => .tup [.agg (u1u true S'.1), .pv (.int .i64 S'.2)]) (fun S' => []) := by
 refine mE (ι := Nd × Int) Tryz.f60 (fun S' => [.agg (u1u true S'.1), .pv (.int .i64 S'.2)]) 0 4 fun γ => ?_
 refine dv 1 ?_
 refine x3x (id := 0) u3u p5p rfl (dv 3 ?_)
 refine rlM [3] [_] (c8n true bs) rfl rfl rfl ?_
 refine dv 1 ?_
 refine s6s fun B X0 w0 => ?_
 refine txR 1 rfl rfl (dv 1 ?_)
 refine txM [3] [_] (b9n (bs.take 2000) (fun b hb => hbs b (List.mem_of_mem_take hb)) (0) (by omega)) rfl rfl rfl rfl fun j hj => ?_
 refine txR 7 rfl rfl (dv 3 ?_)
 refine x3x (id := 1) b5o b8r rfl (x3x (id := 2) u3u p5p rfl (dv 2 ?_))
 refine z7z rfl (dv 5 ?_)
 refine rlM [3] [_] (x1x true (bs.take 2000) (j.2.2) (4) (by have := hj.2.2; omega) (fun b hb => hbs b (List.mem_of_mem_take hb))) rfl rfl rfl ?_
 refine q9q (.int .i64 (IntKind.i64.wrap (j.2.1.round + (pk (bs.take 2000) j.2.2 4 : Int)))) rfl rfl rfl rfl ?_
 refine q9q (.int .i64 (IntKind.i64.wrap ((IntKind.i64.wrap (j.2.1.round + (pk (bs.take 2000) j.2.2 4 : Int))) - 1))) rfl rfl rfl rfl ?_
 refine dv 3 ?_
 exact ⟨(j.2.1, (IntKind.i64.wrap ((IntKind.i64.wrap (j.2.1.round + (pk (bs.take 2000) j.2.2 4 : Int))) - 1))), hj.2.1, [], rfl, rfl, x5x⟩
end
section
def a9m (l : List Ev) : List (Value × AV) := (p3p l).map fun k => (c3x (evN k), pI (l.count k : Nat))
def a3v (l : List Ev) (e : Ev) : Nat := (a6w (p3p l) e).getD (p3p l).length
def b6l (l : List Ev) (e : Ev) : List (Value × AV) := if e ∈ l then a9m l else a9m l ++ [(c3x (evN e), pI (l.count e : Nat))]
theorem a1v (l : List Ev) : (a9m l).map (·.1) = (p3p l).map fun k => c3x (evN k) := by
 rw [a9m, List.map_map]; rfl
variable {l : List Ev} {e : Ev}
theorem d6a {j : Nat} (h : a6w (p3p l) e = some j) : (a9m l)[j]? = some (c3x (evN e), pI (l.count e : Nat)) := by
 rw [a9m, List.getElem?_map, b5t h]; rfl
theorem c8q (h : a6w (p3p l) e = none) : e ∉ l ∧ l.count e = 0 := by
 have := b2k.1 h
 rw [a1p] at this
 exact ⟨this, List.count_eq_zero.2 this⟩
variable {tt : TT} {et : TypeId} {S : TS}
theorem b9o (hs : tt et = some S) (hz : b8u S = pI 0) (l : List Ev) (e : Ev) : (∃ j kv, a6w (p3p l) e = some j ∧ (a9m l)[j]? = some (kv, pI (l.count e : Nat))) ∨ (a6w (p3p l) e = none ∧ ∃ S, tt et = some S ∧ pI (l.count e : Nat) = b8u S) := by
 cases h : a6w (p3p l) e with
 | some j => exact .inl ⟨j, _, rfl, d6a h⟩
 | none => exact .inr ⟨rfl, S, hs, by rw [hz, (c8q h).2]; rfl⟩
theorem a4l (hs : tt et = some S) (hz : b8u S = pI 0) (l : List Ev) (e : Ev) :
  (a6w (p3p l) e = some (a3v l e) ∧ (a9m l)[a3v l e]? = some (c3x (evN e), pI (l.count e : Nat)) ∧ b6l l e = a9m l) ∨
   (a6w (p3p l) e = none ∧ a3v l e = (a9m l).length ∧ b6l l e = a9m l ++ [(c3x (evN e), pI (l.count e : Nat))] ∧ ∃ S, tt et = some S ∧ pI (l.count e : Nat) = b8u S) := by
 cases h : a6w (p3p l) e with
 | some j =>
  have hm : e ∈ l := by
   rw [← a1p]; exact List.mem_of_getElem? (b5t h)
  have hp : a3v l e = j := by rw [a3v, h]; rfl
  exact .inl ⟨by rw [hp], by rw [hp]; exact d6a h, if_pos hm⟩
 | none =>
  have hn := c8q h
  exact .inr ⟨rfl, by rw [a3v, h, a9m, List.length_map]; rfl, if_neg hn.1, S, hs, by rw [hz, hn.2]; rfl⟩
theorem a1w (l : List Ev) (e : Ev) : (b6l l e)[a3v l e]? = some (c3x (evN e), pI (l.count e : Nat)) := by
 rcases a4l (tt := fun _ => some ⟨.oth, 1, 8, [.int .i64 0]⟩) (et := 0) rfl rfl l e with ⟨h1, h2, h3⟩ | ⟨h1, h2, h3, _⟩
 ·rw [h3]; exact h2
 ·rw [h3, h2, List.getElem?_append_right (Nat.le_refl _), Nat.sub_self]; rfl
def e6u (l : List Ev) (e : Ev) : List Ev := if e ∈ l then p3p l else p3p l ++ [e]
theorem b4e (l : List Ev) (e : Ev) : (b6l l e).map (·.1) = (e6u l e).map fun k => c3x (evN k) := by
 unfold b6l e6u
 split
 ·exact a1v l
 ·rw [List.map_append, List.map_append, a1v]; rfl
theorem d1o {κ : Type} [DecidableEq κ] {k : κ} : ∀ {ks : List κ}, a6w ks k = none → a6w (ks ++ [k]) k = some ks.length
 | [], _ => by simp [a6w]
 | a :: r, h => by
  simp only [a6w] at h
  split at h
  ·cases h
  ·rename_i hne
   simp only [List.cons_append, a6w, if_neg hne, List.length_cons]
   rw [d1o (by simpa using h)]; rfl
theorem b4f (l : List Ev) (e : Ev) : (∃ j kv, a6w (e6u l e) e = some j ∧ (b6l l e)[j]? = some (kv, pI (l.count e : Nat))) ∨ (a6w (e6u l e) e = none ∧ ∃ S, tt et = some S ∧ pI (l.count e : Nat) = b8u S) := by
 refine .inl ⟨a3v l e, _, ?_, a1w l e⟩
 unfold e6u
 cases h : a6w (p3p l) e with
 | some j =>
  have hm : e ∈ l := by rw [← a1p]; exact List.mem_of_getElem? (b5t h)
  rw [if_pos hm, a3v, h]; rfl
 | none => rw [if_neg (c8q h).1, d1o h, a3v, h]; rfl
theorem a2p (l : List Ev) (e : Ev) : (b6l l e).set (a3v l e) (c3x (evN e), pI ((l.count e + 1 : Nat) : Int)) = a9m (l ++ [e]) := by
 have hc : ∀ k, k ≠ e → (l ++ [e]).count k = l.count k := fun k hk => by
  rw [List.count_append, List.count_singleton]
  simp [Ne.symm hk]
 have hce : (l ++ [e]).count e = l.count e + 1 := by
  rw [List.count_append, List.count_singleton]; simp
 by_cases hm : e ∈ l
 ·have ho : p3p (l ++ [e]) = p3p l := by rw [b0u, if_pos ((a1p e l).2 hm)]
  obtain ⟨j, hj⟩ := c9l ((a1p e l).2 hm)
  have hp : a3v l e = j := by rw [a3v, hj]; rfl
  have hg := b5t hj
  rw [b6l, if_pos hm, hp, a9m, a9m, ho]
  apply List.ext_getElem?
  intro i
  rw [List.getElem?_set, List.getElem?_map, List.length_map]
  by_cases hi : j = i
  ·subst hi
   rw [if_pos rfl, if_pos (List.getElem?_eq_some_iff.1 hg).1, List.getElem?_map, hg]
   simp only [Option.map_some, hce]
  ·rw [if_neg hi, List.getElem?_map]
   cases hk : (p3p l)[i]? with
   | none => rfl
   | some k =>
    have hne : k ≠ e := fun h => by
     subst h
     exact hi ((List.getElem?_inj (List.getElem?_eq_some_iff.1 hg).1 (b9v l)).1 (hg.trans hk.symm))
    simp only [Option.map_some, hc k hne]
 ·have h0 : a6w (p3p l) e = none := b2k.2 (by rw [a1p]; exact hm)
  have ho : p3p (l ++ [e]) = p3p l ++ [e] := by rw [b0u, if_neg (by rw [a1p]; exact hm)]
  have hp : a3v l e = (a9m l).length := by rw [a3v, h0, a9m, List.length_map]; rfl
  rw [b6l, if_neg hm, hp, List.set_append_right _ _ (Nat.le_refl _), Nat.sub_self, List.set_cons_zero, a9m, a9m, ho, List.map_append]
  congr 1
  ·refine List.map_congr_left fun k hk => ?_
   rw [hc k (fun h => hm ((a1p e l).1 (h ▸ hk)))]
  ·simp only [List.map_cons, List.map_nil, hce]
theorem d3m : (l ++ [e]).count e = 1 → b4j a2i (p3p (l ++ [e])) = b9z a2i (b4j a2i (p3p l)) e := fun h => by
 have : e ∉ l := by
  rw [List.count_append, List.count_singleton] at h
  exact List.count_eq_zero.1 (by simpa using h)
 rw [b0u, if_neg (by rw [a1p]; exact this), d6x]
theorem d3n : ¬ (l ++ [e]).count e = 1 → p3p (l ++ [e]) = p3p l := fun h => by
 have : e ∈ l := by
  rw [List.count_append, List.count_singleton] at h
  refine Classical.byContradiction fun hn => h ?_
  rw [List.count_eq_zero.2 hn]; simp
 rw [b0u, if_pos (by rw [a1p]; exact this)]
end
section
theorem a6p (l : List Ev) (x : Ev) (hl : l.length ≤ 1000000000) : Meth Tryz.prog 275 2 [0] [.ptr 0 0 0, .agg (z2z x)] [(0, (0, .box 303 [.ref 1 0, .fn (.func 127) [] []])), (1, (0, .row 153 7 ((l).map z2z)))] (.tup []) [(0, (0, .box 303 [.ref 1 0, .fn (.func 127) [] []])), (1, (0, .row 153 7 ((b9z a2i l x).map z2z)))] := by
 refine mX Tryz.f275 [] 2 3 fun γ => ?_
 refine dv 1 ?_
 refine x9x (id := 2) rfl rfl rfl (dv 7 ?_)
 refine y6y (id := 3) a2b rfl q5q rfl rfl rfl rfl rfl rfl (y7y rfl rfl a2b rfl q5q rfl rfl rfl rfl (by rfl) (z8z _ _ _) (by (simp only [s2s, r5r, s1s, s3s, T153]; omega)) ?_)
 refine dv 9 ?_
 refine r6r (b := 1) rfl rfl (by (simp; done)) (by (simp; omega)) ?_
 refine dv 2 ?_
 refine x6x (ι := Nat × List Ev) (fun i γ1 => [(4, pI (i.1 : Int))]) (fun i γ1 => [(1, ((γ1 1), .row 153 7 ((i.2).map z2z))), (0, ((γ 0), .box 303 [.ref 1 (γ1 1), .fn (.func 127) [] []]))]) (fun i => a8w a2i i.2 i.1 = b9z a2i l x ∧ i.1 < i.2.length ∧ i.2.length = l.length + 1) (fun i => i.1) (y0y 0 rfl Cov.nil) (a1m [2, 3, 4] rfl) (l.length, l ++ [x]) ⟨rfl, by simp, by simp⟩ [0, _] (Cov.cons' (t := 4) rfl (by simp) Cov.nil) x5x rfl fun i γ1 hi => ?_
 obtain ⟨k, m⟩ := i
 obtain ⟨h1, h2, h3⟩ := hi
 dsimp only at h1 h2 h3 ⊢
 refine dc 4 (fun K K' => aS ?_ ?_)<;>intro h<;>try simp at h
 ·have hk : k = 0 := by omega
  subst hk
  have hfin := siftUp_zero.symm.trans h1
  refine dv 1 ?_
  exact ⟨[γ 0, _], rfl, rfl, HE.box rfl rfl (HE.row rfl (by rw [← hfin]) HE.nil)⟩
 obtain ⟨a, ha⟩ := gE m k
 obtain ⟨b, hb⟩ := gE m ((k - 1) / 2)
 have hp : (k - 1) / 2 < k := by omega
 refine dv 4 ?_
 refine r6r (b := 1) rfl rfl (by omega) (by omega) (d2h (b := 2) rfl rfl (by omega) (by omega) (dv 12 fun K K' => ?_))
 refine z1z (j := k) rfl rfl a2b rfl q5q rfl rfl (by omega) ?_
 refine dv 6 ?_
 refine z1z (j := (k - 1) / 2) rfl rfl a2b rfl q5q rfl rfl (by omega) ?_
 refine dv 1 ?_
 refine x0x rfl rfl rfl (a5z _ _) (dc 1 (aI ?_ ?_))<;>intro hc4<;>try simp at hc4
 ·have hfin := (c1w ha hb hc4).symm.trans h1
  refine dv 1 ?_
  exact ⟨[γ 0, _], rfl, rfl, HE.box rfl rfl (HE.row rfl (by rw [← hfin]) HE.nil)⟩
 have hg := hc4
 refine dv 17 ?_
 refine z1z (j := (k - 1) / 2) rfl rfl a2b rfl q5q rfl rfl (by omega) ?_
 refine dv 6 ?_
 refine z1z (j := k) rfl rfl a2b rfl q5q rfl rfl (by omega) ?_
 refine dv 1 ?_
 refine z1z (j := k) rfl rfl a2b rfl q5q rfl rfl (by omega) ?_
 refine v6v (el' := b) rfl rfl q5q rfl rfl rfl ha rfl (a5v _) rfl rfl ?_
 refine z1z (j := (k - 1) / 2) rfl rfl a2b rfl q5q rfl rfl (by rw [List.length_set]; omega) ?_
 refine v6v (el' := a) rfl rfl q5q rfl rfl rfl (by rw [List.getElem?_set_ne (by omega)]; exact hb) rfl (a5v _) rfl rfl ?_
 refine dv 3 ?_
 exact ⟨((k - 1) / 2, sw m k ((k - 1) / 2)), ⟨⟨by rw [← h1, c1v (by omega) ha hb hg], by rw [b4o]; dsimp only; omega, by rw [b4o]; exact h3⟩, (by dsimp only; omega)⟩, [0, _], x7x, x7x, (HE.row rfl (by rw [e9l ha hb]) (HE.box rfl rfl HE.nil)), x5x, rfl⟩
theorem a7c (m : Ev) (r : List Ev) (hl : r.length ≤ 1000000000) : Meth Tryz.prog 305 2 [0] [.ptr 0 0 0] [(0, (0, .box 303 [.ref 1 0, .fn (.func 127) [] []])), (1, (0, .row 153 7 ((m :: r).map z2z)))] (.agg (z2z m)) [(0, (0, .box 303 [.ref 1 0, .fn (.func 127) [] []])), (1, (0, .row 153 7 ((b5w a2i (m :: r)).map z2z)))] := by
 refine a0q v9v (fn := Tryz.f305) (by kernel_rfl) (by kernel_rfl) rfl (O0 := [.agg (z2z m)]) 2 2 (s8s rfl) (by rfl) (by repeat (first | exact BndH.nil | refine BndH.box rfl ?_ | refine BndH.row (p7p fun _ => rfl) ?_)) (by repeat (first | exact BndH.nil | refine BndH.box rfl ?_ | refine BndH.row (p7p fun _ => rfl) ?_)) (by rfl) fun γ => ?_
 show Ex Tryz.prog _ _ [(0, .ptr 0 (γ 0) 0)] [(0, ((γ 0), .box 303 [.ref 1 (γ 1), .fn (.func 127) [] []])), (1, ((γ 1), .row 153 7 ((m :: r).map z2z))), (3, (0, .dead)), (2, (0, .dead))] _
 obtain ⟨T0, hT⟩ : ∃ T0, T0 = ((m :: r).set 0 ((m :: r).getLast (by simp))).take r.length := ⟨_, rfl⟩
 have hres : b5w a2i (m :: r) = a2g a2i T0 0 := by rw [hT]; rfl
 have hTl : T0.length = r.length := by rw [hT]; simp
 have hlast : (m :: r)[(m :: r).length - 1]? = some ((m :: r).getLast (by simp)) := by rw [← List.getLast?_eq_getElem?, List.getLast?_eq_some_getLast]
 refine exR (x3x (id := 2) q5q c5n rfl (exR (v7v rfl (b9s rfl rfl (v3v rfl d8u rfl rfl a2b rfl rfl (y8y rfl a2b rfl rfl ?_))))))
 refine z1z (j := 0) rfl rfl a2b rfl q5q rfl rfl (by simp) ?_
 refine a0d rfl q5q rfl (show (m :: r)[0]? = some m from rfl) rfl rfl ?_
 refine x3x (id := 3) q5q c5n rfl (dv 7 ?_)
 refine r6r (b := 1) rfl rfl (by (simp; done)) (by (simp; omega)) ?_
 refine dv 11 ?_
 refine z1z (j := (m :: r).length - 1) rfl rfl a2b rfl q5q rfl rfl (by simp) ?_
 refine dv 1 ?_
 refine z1z (j := 0) rfl rfl a2b rfl q5q rfl rfl (by simp) ?_
 refine v6v (el' := ((m :: r).getLast (by simp))) rfl rfl q5q rfl rfl rfl (show (m :: r)[0]? = some m from rfl) rfl (a5v _) rfl rfl ?_
 refine dv 7 ?_
 refine e4n v9v (u := (m :: r).length - 1) (ys := T0.map z2z) rfl a2b rfl q5q rfl rfl rfl (by (simp; done)) (by rw [hT, List.map_take]; rfl) ?_
 refine dv 6 ?_
 refine x6x (ι := Nat × List Ev) (fun i γ1 => [(5, pI (i.1 : Int))]) (fun i γ1 => [(1, ((γ1 1), .row 153 7 ((i.2).map z2z))), (0, ((γ 0), .box 303 [.ref 1 (γ1 1), .fn (.func 127) [] []]))]) (fun i => a2g a2i i.2 i.1 = b5w a2i (m :: r) ∧ i.2.length = r.length ∧ i.1 ≤ r.length) (fun i => i.2.length - i.1) (r7r [0, 2, 3, 4] rfl) (a1m [2, 3] rfl) (0, T0) ⟨hres.symm, hTl, by omega⟩ [0, _] x7x x5x rfl fun i γ1 hi => ?_
 obtain ⟨k, t⟩ := i
 obtain ⟨h1, h2, h3⟩ := hi
 dsimp only at h1 h2 h3 ⊢
 refine dv 3 ?_
 refine b8t (a := 2) rfl rfl (by omega) (x8x (b := 1) rfl rfl (by omega) (dc 6 (fun K K' => aI ?_ ?_)))<;>intro h<;>try simp at h
 ·have hfin := (a7g (lt := a2i) (l := t) (k := k) (by omega)).symm.trans h1
  refine dv 4 ?_
  exact ⟨[γ 0, _], rfl, rfl, HE.box rfl rfl (HE.row rfl (by rw [← hfin]) HE.nil)⟩
 have hlt : 2 * k + 1 < t.length := by omega
 refine dv 1 ?_
 refine r0r (ι := Unit) (fun _i γ2 => [(6, pI (a4u a2i t k : Int))]) (fun _i γ2 => []) (fun _i => True) (r7r [0, 2, 3, 4, 5] rfl) (a1m [0, 1, 2, 3] rfl) ?_ fun _i γ2 hi => ?_
 ·refine dv 2 ?_
  refine x8x (b := 1) rfl rfl (by omega) (dc 3 (aS ?_ ?_))<;>intro h<;>try simp at h
  ·have hlt2 : ¬ 2 * k + 2 < t.length := by omega
   refine dv 22 ?_
   exact ⟨(), trivial, [], (Cov.cons' (t := 6) rfl (by rw [e9o (by omega)]) Cov.nil), x7x, x5x, x5x, rfl⟩
  have hlt2 : 2 * k + 1 + 1 < t.length := by omega
  obtain ⟨c1, hc1⟩ := gE t (2 * k + 1 + 1)
  obtain ⟨d1, hd1⟩ := gE t (2 * k + 1)
  refine dv 9 ?_
  refine x8x (b := 1) rfl rfl (by omega) (dv 0 ?_)
  refine z1z (j := 2 * k + 1 + 1) rfl rfl a2b rfl q5q rfl rfl (by omega) ?_
  refine dv 6 ?_
  refine z1z (j := 2 * k + 1) rfl rfl a2b rfl q5q rfl rfl (by omega) ?_
  refine dv 1 ?_
  refine x0x rfl rfl rfl (a5z _ _) (dc 1 (aS ?_ ?_))<;>intro hc4<;>try simp at hc4
  ·try have hl1 := hc4
   refine dv 1 ?_
   exact ⟨(), trivial, [], (Cov.cons' (t := 6) rfl (by rw [e9n hc1 hd1 hl1]) Cov.nil), x7x, x5x, x5x, rfl⟩
  have hl1 := hc4
  refine dv 2 ?_
  refine x8x (b := 1) rfl rfl (by omega) (dv 1 ?_)
  exact ⟨(), trivial, [], (Cov.cons' (t := 6) rfl (by rw [e9m hc1 hd1 hl1]) Cov.nil), x7x, x5x, x5x, rfl⟩
 ·try dsimp only [b3d, b3e]
  have hch := b3w (lt := a2i) t k
  obtain ⟨a, ha⟩ := gE t (a4u a2i t k)
  obtain ⟨b, hb⟩ := gE t k
  refine dv 11 fun K K' => ?_
  refine z1z (j := a4u a2i t k) rfl rfl a2b rfl q5q rfl rfl (by omega) ?_
  refine dv 6 ?_
  refine z1z (j := k) rfl rfl a2b rfl q5q rfl rfl (by omega) ?_
  refine dv 1 ?_
  refine x0x rfl rfl rfl (a5z _ _) (dc 1 (aI ?_ ?_))<;>intro hc7<;>try simp at hc7
  ·have hfin := (b7k ha hb hc7).symm.trans h1
   refine dv 4 ?_
   exact ⟨[γ 0, _], rfl, rfl, HE.box rfl rfl (HE.row rfl (by rw [← hfin]) HE.nil)⟩
  have hg := hc7
  refine dv 17 ?_
  refine z1z (j := a4u a2i t k) rfl rfl a2b rfl q5q rfl rfl (by omega) ?_
  refine dv 6 ?_
  refine z1z (j := k) rfl rfl a2b rfl q5q rfl rfl (by omega) ?_
  refine dv 1 ?_
  refine z1z (j := k) rfl rfl a2b rfl q5q rfl rfl (by omega) ?_
  refine v6v (el' := a) rfl rfl q5q rfl rfl rfl hb rfl (a5v _) rfl rfl ?_
  refine z1z (j := a4u a2i t k) rfl rfl a2b rfl q5q rfl rfl (by rw [List.length_set]; omega) ?_
  refine v6v (el' := b) rfl rfl q5q rfl rfl rfl (by rw [List.getElem?_set_ne (by omega)]; exact ha) rfl (a5v _) rfl rfl ?_
  refine dv 3 ?_
  exact ⟨(a4u a2i t k, sw t (a4u a2i t k) k), ⟨⟨by rw [← h1, b7j (by omega) ha hb hg], by rw [b4o]; exact h2, by dsimp only; omega⟩, (by dsimp only; rw [b4o]; omega)⟩, [0, _], x7x, x7x, (HE.row rfl (by rw [e9l ha hb, List.set_comm _ _ (by omega)]) (HE.box rfl rfl HE.nil)), x5x, rfl⟩
theorem a5s (l : List Ev) (hl : l.length ≤ 1000000000) : Meth Tryz.prog 276 2 [0] [.ptr 0 0 0] [(0, (0, .box 303 [.ref 1 0, .fn (.func 127) [] []])), (1, (0, .row 153 7 ((l).map z2z)))] (.row (.rd true) 153 7 ((a7v a2i l.length l).map z2z)) [(0, (0, .box 303 [.ref 1 0, .fn (.func 127) [] []])), (1, (0, .row 153 7 ((([] : List Ev)).map z2z)))] := by
 refine mX Tryz.f276 [.row (.rd true) 153 7 ((a7v a2i l.length l).map z2z)] 2 3 fun γ => ?_
 refine dv 8 ?_
 refine d4k v9v (id := 2) a2b rfl q5q rfl rfl (by (simp only [s2s, r5r, s1s, s3s, T153]; omega)) (by (unfold maxLen; omega)) rfl ?_
 refine dv 3 fun K K' => ?_
 refine x6x (ι := List Ev × List Ev) (fun i γ1 => [(3, .ref 2 (γ1 2))]) (fun i γ1 => [(1, ((γ1 1), .row 153 7 ((i.1).map z2z))), (2, ((γ1 2), .row 153 7 ((i.2).map z2z))), (0, ((γ 0), .box 303 [.ref 1 (γ1 1), .fn (.func 127) [] []])), (3, ((γ1 3), .dead)), (4, ((γ1 4), .dead))]) (fun i => i.2 ++ a7v a2i i.1.length i.1 = a7v a2i l.length l ∧ i.1.length + i.2.length = l.length) (fun i => i.1.length) (y0y 0 rfl Cov.nil) HE.nil (l, []) ⟨rfl, rfl⟩ [0, _, _, _, _] x7x x5x rfl fun i γ1 hi => ?_
 obtain ⟨ls, o⟩ := i
 obtain ⟨h1, h2⟩ := hi
 dsimp only at h1 h2 ⊢
 refine dc 8 (fun K K' => aS ?_ ?_)<;>intro hc3<;>try simp at hc3
 ·obtain rfl : ls = [] := hc3
  have ho : o = a7v a2i l.length l := by rw [← h1]; simp [a7v]
  subst ho
  refine dv 1 ?_
  refine s7s 3 rfl rfl (fun _ => rfl) ?_
  refine dv 4 ?_
  exact ⟨[γ 0, _], rfl, rfl, x5x⟩
 obtain ⟨m, r, rfl⟩ : ∃ m r, ls = m :: r := by cases ls with | nil => simp at hc3 | cons m r => exact ⟨m, r, rfl⟩
 simp only [s1s] at h2
 refine dv 5 ?_
 refine rlM [0, 1] [_, _] (a7c m r (by omega)) rfl rfl rfl ?_
 refine y6y (id := 3) a2b rfl q5q rfl rfl rfl rfl rfl rfl (y7y rfl rfl a2b rfl q5q rfl rfl rfl rfl (by rfl) (z8z _ _ _) (by (simp only [s2s, r5r, s1s, s3s, T153]; omega)) ?_)
 refine dv 1 ?_
 exact ⟨(b5w a2i (m :: r), o ++ [m]), ⟨⟨by rw [← h1, b7l, List.append_assoc]; rfl, by rw [b7l, List.length_append]; simp only [s1s, s3s] at h2 ⊢; omega⟩, (by dsimp only; rw [b7l]; simp)⟩, [0, _, _, _, _], x7x, x7x, (HE.row rfl rfl (HE.row rfl (by simp) (HE.box rfl rfl (HE.kill rfl (HE.kill rfl HE.nil))))), x5x, rfl⟩
end
section
theorem c0j (c : Bool) (l : List Ev) (hl : l.length ≤ 1000000000) : Meth Tryz.prog 210 1 [] [a0t c l] [(0, (0, .dead))] (.ref 0 0) [(0, (0, .row 56 7 ((v1v l).map z2z)))] := by
 refine mX Tryz.f210 [.ref 0 0] 1 8 fun γ => ?_
 refine dv 3 ?_
 refine rlB d8u e7h ?_
 refine x3x (id := 1) d8u e7h rfl (dv 2 ?_)
 refine c5p (id := 2) rfl (dv 7 fun K K' => ?_)
 refine w1w 1 0 7 153 7 rfl rfl rfl rfl rfl ?_
 refine x6x (ι := Nat) (fun i γ1 => [(15, pI (i : Int))]) (fun i γ1 => [(7, ((γ1 7), .row 153 7 ((b4j a2i (p3p (l.take i))).map z2z))), (1, ((0 + 1), .box 303 [.ref 7 (γ1 7), .fn (.func 127) [] []])), (2, ((0 + 1), .map (a9m (l.take i)))), (3, ((γ1 3), .dead)), (4, ((γ1 4), .dead))]) (fun i => i ≤ l.length) (fun i => l.length - i) (r7r [3, 4, 13, 14] rfl) (a1m [0, 5, 6, 8] rfl) 0 (by omega) [0, 0, 0, _, _, 0, 0, _] x7x (HE.row rfl (by rw [List.take_zero]; try rfl) (HE.box rfl rfl (HE.map rfl (by rw [List.take_zero]; try rfl) (HE.kill rfl (HE.kill rfl HE.nil))))) rfl fun i γ1 hi => ?_
 refine dc 3 (fun K K' => aS ?_ ?_)<;>intro o<;>try simp at o
 ·obtain rfl : i = l.length := by omega
  obtain ⟨H, hH⟩ : ∃ H, H = b4j a2i (p3p (l.take l.length)) := ⟨_, rfl⟩
  rw [← hH]
  have hhl : H.length ≤ 1000000000 := by rw [hH, b7m]; exact Nat.le_trans (b8y _) (by rw [List.length_take]; omega)
  refine dv 5 ?_
  refine d4k v9v (id := 0) v8v rfl z4z rfl rfl (by (simp only [s2s, r5r, s1s, s3s, T56]; omega)) (by (unfold maxLen; omega)) rfl ?_
  refine dv 3 fun K K' => ?_
  refine rlM [1, 7] [_, _] (a5s _ hhl) rfl rfl rfl ?_
  refine dv 3 ?_
  obtain ⟨D, hD⟩ : ∃ D, D = a7v a2i H.length H := ⟨_, rfl⟩
  rw [← hD]
  have hDl : D.length ≤ 1000000000 := Nat.le_trans (by rw [hD]; exact c1y _ _) hhl
  refine x6x (ι := Nat) (fun i γ3 => [(8, .ref 0 (γ3 0)), (40, pI (i : Int))]) (fun i γ3 => [(0, ((γ3 0), .row 56 7 ((D.take i).map z2z))), (5, ((γ3 5), .dead)), (6, ((γ3 6), .dead)), (7, ((γ3 7), .dead))]) (fun i => i ≤ D.length) (fun i => D.length - i) (r7r [38, 39] rfl) (a1m [1, 2, 3, 4, 8] rfl) 0 (by omega) [_, 0, 0, 0, 0, _, _, _] x7x (HE.row rfl (by rw [List.take_zero]; try rfl) (HE.kill rfl (HE.kill rfl (HE.kill rfl HE.nil)))) rfl fun i γ3 hi => ?_
  refine dc 3 (fun K K' => aS ?_ ?_)<;>intro o<;>try simp at o
  ·refine dv 5 ?_
   exact ⟨[_], rfl, rfl, HE.row rfl (by rw [List.take_of_length_le (by omega), hD, hH, List.take_length, b7m, c2a]) HE.nil⟩
  obtain ⟨k1, hk1⟩ := gE D i
  have hDi : (D.take i).length ≤ 1000000000 := by rw [List.length_take]; omega
  refine dv 6 fun K K' => ?_
  refine x3x (id := 5) q5q c5n rfl (dv 4 ?_)
  refine x0x rfl rfl rfl (b3h ..) (y6y (id := 6) v8v rfl z4z rfl rfl rfl rfl rfl rfl (y7y rfl rfl v8v rfl z4z rfl rfl rfl rfl (by rfl) (z8z _ _ _) (by (simp only [s2s, r5r, s1s, s3s, T56]; omega)) ?_))
  refine dv 2 ?_
  refine x8x (b := 1) rfl rfl (by omega) (dv 1 ?_)
  exact ⟨i + 1, ⟨by omega, by omega⟩, [_, 0, 0, 0, 0, _, _, _], x7x, x7x, (HE.row rfl (by rw [z5z hk1]) (HE.kill rfl (HE.kill rfl (HE.kill rfl HE.nil)))), x5x, rfl⟩
 obtain ⟨e, he⟩ := gE l i
 have hcnt : (l.take i).count e ≤ 1000000000 := Nat.le_trans List.count_le_length (by rw [List.length_take]; omega)
 refine dv 6 fun K K' => ?_
 refine x3x (id := 3) z4z a6v rfl (dv 3 ?_)
 refine x0x rfl rfl rfl (b3g ..) (x3x (id := 4) q5q c5n rfl (dv 1 ?_))
 refine r0r (ι := Unit) (fun _i γ2 => []) (fun _i γ2 => [(2, ((0 + 1), .map (a9m (l.take i ++ [e]))))]) (fun _i => True) (r7r [3, 4, 7, 13, 14, 15] rfl) (a1m [0, 1, 3, 4, 5, 6, 7, 8] rfl) ?_ fun _i γ2 hi => ?_
 ·refine c4i c1k rfl fun B X0 w0 => ?_
  refine z6z v9v (l := [0, 1]) (by kernel_rfl) (by decide) ?_
  refine .cons rfl rfl rfl ?_ ?_
  ·refine dv 1 ?_
   refine z6z v9v (l := [1]) (by kernel_rfl) (by decide) ?_
   refine .cons rfl rfl rfl ?_ ?_
   ·refine dv 1 ?_
    refine z6z v9v (l := [2, 4]) (by kernel_rfl) (by decide) ?_
    refine .cons rfl rfl rfl ?_ ?_
    ·refine a6j v9v (ks := p3p (l.take i)) (k := e) Tryz.underlying304 evF rfl rfl (fun _ _ _ h => a5p h) rfl (a1v (l.take i)) (b9o r1r rfl (l.take i) e) ?_
     refine dv 0 ?_
     refine z6z v9v (l := [3, 4]) (by kernel_rfl) (by decide) ?_
     refine .cons rfl rfl rfl ?_ ?_
     ·refine x8x (b := 1) rfl rfl (by omega) (dv 0 ?_)
      refine z6z v9v (l := [4]) (by kernel_rfl) (by decide) ?_
      refine .cons rfl rfl rfl ?_ ?_
      ·refine a5o v9v (es' := b6l (l.take i) e) (j := a3v (l.take i) e) (out := pI ((l.take i).count e : Nat)) (ks := p3p (l.take i)) (k := e) Tryz.underlying304 evF rfl rfl (fun _ _ _ h => a5p h) rfl (a1v _) (a4l r1r rfl _ _) ?_
       refine dv 0 ?_
       refine z6z v9v (l := [5]) (by kernel_rfl) (by decide) ?_
       refine .cons rfl rfl rfl ?_ ?_
       ·refine dv 1 ?_
        refine z6z v9v (l := [6]) (by kernel_rfl) (by decide) ?_
        refine .cons rfl rfl rfl ?_ ?_
        ·refine r3r (j := a3v (l.take i) e) rfl rfl rfl rfl (a1w _ _) (a2p _ _) ?_
         refine dv 0 ?_
         refine a2m (by kernel_rfl) ?_
         exact ⟨(), trivial, [], x7x, x7x, (HE.map rfl rfl HE.nil), x5x, rfl⟩
        exact .nil
       exact .nil
      exact .nil
     refine .cons rfl rfl rfl ?_ ?_
     ·refine a5o v9v (es' := b6l (l.take i) e) (j := a3v (l.take i) e) (out := pI ((l.take i).count e : Nat)) (ks := p3p (l.take i)) (k := e) Tryz.underlying304 evF rfl rfl (fun _ _ _ h => a5p h) rfl (a1v _) (a4l r1r rfl _ _) ?_
      refine dv 0 ?_
      refine z6z v9v (l := [3, 5]) (by kernel_rfl) (by decide) ?_
      refine .cons rfl rfl rfl ?_ ?_
      ·refine x8x (b := 1) rfl rfl (by omega) (dv 0 ?_)
       refine z6z v9v (l := [5]) (by kernel_rfl) (by decide) ?_
       refine .cons rfl rfl rfl ?_ ?_
       ·refine dv 1 ?_
        refine z6z v9v (l := [6]) (by kernel_rfl) (by decide) ?_
        refine .cons rfl rfl rfl ?_ ?_
        ·refine r3r (j := a3v (l.take i) e) rfl rfl rfl rfl (a1w _ _) (a2p _ _) ?_
         refine dv 0 ?_
         refine a2m (by kernel_rfl) ?_
         exact ⟨(), trivial, [], x7x, x7x, (HE.map rfl rfl HE.nil), x5x, rfl⟩
        exact .nil
       exact .nil
      refine .cons rfl rfl rfl ?_ ?_
      ·refine dv 1 ?_
       refine z6z v9v (l := [3]) (by kernel_rfl) (by decide) ?_
       refine .cons rfl rfl rfl ?_ ?_
       ·refine x8x (b := 1) rfl rfl (by omega) (dv 0 ?_)
        refine z6z v9v (l := [6]) (by kernel_rfl) (by decide) ?_
        refine .cons rfl rfl rfl ?_ ?_
        ·refine r3r (j := a3v (l.take i) e) rfl rfl rfl rfl (a1w _ _) (a2p _ _) ?_
         refine dv 0 ?_
         refine a2m (by kernel_rfl) ?_
         exact ⟨(), trivial, [], x7x, x7x, (HE.map rfl rfl HE.nil), x5x, rfl⟩
        exact .nil
       exact .nil
      exact .nil
     exact .nil
    refine .cons rfl rfl rfl ?_ ?_
    ·refine a5o v9v (es' := b6l (l.take i) e) (j := a3v (l.take i) e) (out := pI ((l.take i).count e : Nat)) (ks := p3p (l.take i)) (k := e) Tryz.underlying304 evF rfl rfl (fun _ _ _ h => a5p h) rfl (a1v _) (a4l r1r rfl _ _) ?_
     refine dv 0 ?_
     refine z6z v9v (l := [2, 5]) (by kernel_rfl) (by decide) ?_
     refine .cons rfl rfl rfl ?_ ?_
     ·refine a6j v9v (ks := e6u (l.take i) e) (k := e) Tryz.underlying304 evF rfl rfl (fun _ _ _ h => a5p h) rfl (b4e (l.take i) e) (b4f (l.take i) e) ?_
      refine dv 0 ?_
      refine z6z v9v (l := [3, 5]) (by kernel_rfl) (by decide) ?_
      refine .cons rfl rfl rfl ?_ ?_
      ·refine x8x (b := 1) rfl rfl (by omega) (dv 0 ?_)
       refine z6z v9v (l := [5]) (by kernel_rfl) (by decide) ?_
       refine .cons rfl rfl rfl ?_ ?_
       ·refine dv 1 ?_
        refine z6z v9v (l := [6]) (by kernel_rfl) (by decide) ?_
        refine .cons rfl rfl rfl ?_ ?_
        ·refine r3r (j := a3v (l.take i) e) rfl rfl rfl rfl (a1w _ _) (a2p _ _) ?_
         refine dv 0 ?_
         refine a2m (by kernel_rfl) ?_
         exact ⟨(), trivial, [], x7x, x7x, (HE.map rfl rfl HE.nil), x5x, rfl⟩
        exact .nil
       exact .nil
      refine .cons rfl rfl rfl ?_ ?_
      ·refine dv 1 ?_
       refine z6z v9v (l := [3]) (by kernel_rfl) (by decide) ?_
       refine .cons rfl rfl rfl ?_ ?_
       ·refine x8x (b := 1) rfl rfl (by omega) (dv 0 ?_)
        refine z6z v9v (l := [6]) (by kernel_rfl) (by decide) ?_
        refine .cons rfl rfl rfl ?_ ?_
        ·refine r3r (j := a3v (l.take i) e) rfl rfl rfl rfl (a1w _ _) (a2p _ _) ?_
         refine dv 0 ?_
         refine a2m (by kernel_rfl) ?_
         exact ⟨(), trivial, [], x7x, x7x, (HE.map rfl rfl HE.nil), x5x, rfl⟩
        exact .nil
       exact .nil
      exact .nil
     refine .cons rfl rfl rfl ?_ ?_
     ·refine dv 1 ?_
      refine z6z v9v (l := [2]) (by kernel_rfl) (by decide) ?_
      refine .cons rfl rfl rfl ?_ ?_
      ·refine a6j v9v (ks := e6u (l.take i) e) (k := e) Tryz.underlying304 evF rfl rfl (fun _ _ _ h => a5p h) rfl (b4e (l.take i) e) (b4f (l.take i) e) ?_
       refine dv 0 ?_
       refine z6z v9v (l := [3]) (by kernel_rfl) (by decide) ?_
       refine .cons rfl rfl rfl ?_ ?_
       ·refine x8x (b := 1) rfl rfl (by omega) (dv 0 ?_)
        refine z6z v9v (l := [6]) (by kernel_rfl) (by decide) ?_
        refine .cons rfl rfl rfl ?_ ?_
        ·refine r3r (j := a3v (l.take i) e) rfl rfl rfl rfl (a1w _ _) (a2p _ _) ?_
         refine dv 0 ?_
         refine a2m (by kernel_rfl) ?_
         exact ⟨(), trivial, [], x7x, x7x, (HE.map rfl rfl HE.nil), x5x, rfl⟩
        exact .nil
       exact .nil
      exact .nil
     exact .nil
    exact .nil
   exact .nil
  refine .cons rfl rfl rfl ?_ ?_
  ·refine dv 1 ?_
   refine z6z v9v (l := [0]) (by kernel_rfl) (by decide) ?_
   refine .cons rfl rfl rfl ?_ ?_
   ·refine dv 1 ?_
    refine z6z v9v (l := [2, 4]) (by kernel_rfl) (by decide) ?_
    refine .cons rfl rfl rfl ?_ ?_
    ·refine a6j v9v (ks := p3p (l.take i)) (k := e) Tryz.underlying304 evF rfl rfl (fun _ _ _ h => a5p h) rfl (a1v (l.take i)) (b9o r1r rfl (l.take i) e) ?_
     refine dv 0 ?_
     refine z6z v9v (l := [3, 4]) (by kernel_rfl) (by decide) ?_
     refine .cons rfl rfl rfl ?_ ?_
     ·refine x8x (b := 1) rfl rfl (by omega) (dv 0 ?_)
      refine z6z v9v (l := [4]) (by kernel_rfl) (by decide) ?_
      refine .cons rfl rfl rfl ?_ ?_
      ·refine a5o v9v (es' := b6l (l.take i) e) (j := a3v (l.take i) e) (out := pI ((l.take i).count e : Nat)) (ks := p3p (l.take i)) (k := e) Tryz.underlying304 evF rfl rfl (fun _ _ _ h => a5p h) rfl (a1v _) (a4l r1r rfl _ _) ?_
       refine dv 0 ?_
       refine z6z v9v (l := [5]) (by kernel_rfl) (by decide) ?_
       refine .cons rfl rfl rfl ?_ ?_
       ·refine dv 1 ?_
        refine z6z v9v (l := [6]) (by kernel_rfl) (by decide) ?_
        refine .cons rfl rfl rfl ?_ ?_
        ·refine r3r (j := a3v (l.take i) e) rfl rfl rfl rfl (a1w _ _) (a2p _ _) ?_
         refine dv 0 ?_
         refine a2m (by kernel_rfl) ?_
         exact ⟨(), trivial, [], x7x, x7x, (HE.map rfl rfl HE.nil), x5x, rfl⟩
        exact .nil
       exact .nil
      exact .nil
     refine .cons rfl rfl rfl ?_ ?_
     ·refine a5o v9v (es' := b6l (l.take i) e) (j := a3v (l.take i) e) (out := pI ((l.take i).count e : Nat)) (ks := p3p (l.take i)) (k := e) Tryz.underlying304 evF rfl rfl (fun _ _ _ h => a5p h) rfl (a1v _) (a4l r1r rfl _ _) ?_
      refine dv 0 ?_
      refine z6z v9v (l := [3, 5]) (by kernel_rfl) (by decide) ?_
      refine .cons rfl rfl rfl ?_ ?_
      ·refine x8x (b := 1) rfl rfl (by omega) (dv 0 ?_)
       refine z6z v9v (l := [5]) (by kernel_rfl) (by decide) ?_
       refine .cons rfl rfl rfl ?_ ?_
       ·refine dv 1 ?_
        refine z6z v9v (l := [6]) (by kernel_rfl) (by decide) ?_
        refine .cons rfl rfl rfl ?_ ?_
        ·refine r3r (j := a3v (l.take i) e) rfl rfl rfl rfl (a1w _ _) (a2p _ _) ?_
         refine dv 0 ?_
         refine a2m (by kernel_rfl) ?_
         exact ⟨(), trivial, [], x7x, x7x, (HE.map rfl rfl HE.nil), x5x, rfl⟩
        exact .nil
       exact .nil
      refine .cons rfl rfl rfl ?_ ?_
      ·refine dv 1 ?_
       refine z6z v9v (l := [3]) (by kernel_rfl) (by decide) ?_
       refine .cons rfl rfl rfl ?_ ?_
       ·refine x8x (b := 1) rfl rfl (by omega) (dv 0 ?_)
        refine z6z v9v (l := [6]) (by kernel_rfl) (by decide) ?_
        refine .cons rfl rfl rfl ?_ ?_
        ·refine r3r (j := a3v (l.take i) e) rfl rfl rfl rfl (a1w _ _) (a2p _ _) ?_
         refine dv 0 ?_
         refine a2m (by kernel_rfl) ?_
         exact ⟨(), trivial, [], x7x, x7x, (HE.map rfl rfl HE.nil), x5x, rfl⟩
        exact .nil
       exact .nil
      exact .nil
     exact .nil
    refine .cons rfl rfl rfl ?_ ?_
    ·refine a5o v9v (es' := b6l (l.take i) e) (j := a3v (l.take i) e) (out := pI ((l.take i).count e : Nat)) (ks := p3p (l.take i)) (k := e) Tryz.underlying304 evF rfl rfl (fun _ _ _ h => a5p h) rfl (a1v _) (a4l r1r rfl _ _) ?_
     refine dv 0 ?_
     refine z6z v9v (l := [2, 5]) (by kernel_rfl) (by decide) ?_
     refine .cons rfl rfl rfl ?_ ?_
     ·refine a6j v9v (ks := e6u (l.take i) e) (k := e) Tryz.underlying304 evF rfl rfl (fun _ _ _ h => a5p h) rfl (b4e (l.take i) e) (b4f (l.take i) e) ?_
      refine dv 0 ?_
      refine z6z v9v (l := [3, 5]) (by kernel_rfl) (by decide) ?_
      refine .cons rfl rfl rfl ?_ ?_
      ·refine x8x (b := 1) rfl rfl (by omega) (dv 0 ?_)
       refine z6z v9v (l := [5]) (by kernel_rfl) (by decide) ?_
       refine .cons rfl rfl rfl ?_ ?_
       ·refine dv 1 ?_
        refine z6z v9v (l := [6]) (by kernel_rfl) (by decide) ?_
        refine .cons rfl rfl rfl ?_ ?_
        ·refine r3r (j := a3v (l.take i) e) rfl rfl rfl rfl (a1w _ _) (a2p _ _) ?_
         refine dv 0 ?_
         refine a2m (by kernel_rfl) ?_
         exact ⟨(), trivial, [], x7x, x7x, (HE.map rfl rfl HE.nil), x5x, rfl⟩
        exact .nil
       exact .nil
      refine .cons rfl rfl rfl ?_ ?_
      ·refine dv 1 ?_
       refine z6z v9v (l := [3]) (by kernel_rfl) (by decide) ?_
       refine .cons rfl rfl rfl ?_ ?_
       ·refine x8x (b := 1) rfl rfl (by omega) (dv 0 ?_)
        refine z6z v9v (l := [6]) (by kernel_rfl) (by decide) ?_
        refine .cons rfl rfl rfl ?_ ?_
        ·refine r3r (j := a3v (l.take i) e) rfl rfl rfl rfl (a1w _ _) (a2p _ _) ?_
         refine dv 0 ?_
         refine a2m (by kernel_rfl) ?_
         exact ⟨(), trivial, [], x7x, x7x, (HE.map rfl rfl HE.nil), x5x, rfl⟩
        exact .nil
       exact .nil
      exact .nil
     refine .cons rfl rfl rfl ?_ ?_
     ·refine dv 1 ?_
      refine z6z v9v (l := [2]) (by kernel_rfl) (by decide) ?_
      refine .cons rfl rfl rfl ?_ ?_
      ·refine a6j v9v (ks := e6u (l.take i) e) (k := e) Tryz.underlying304 evF rfl rfl (fun _ _ _ h => a5p h) rfl (b4e (l.take i) e) (b4f (l.take i) e) ?_
       refine dv 0 ?_
       refine z6z v9v (l := [3]) (by kernel_rfl) (by decide) ?_
       refine .cons rfl rfl rfl ?_ ?_
       ·refine x8x (b := 1) rfl rfl (by omega) (dv 0 ?_)
        refine z6z v9v (l := [6]) (by kernel_rfl) (by decide) ?_
        refine .cons rfl rfl rfl ?_ ?_
        ·refine r3r (j := a3v (l.take i) e) rfl rfl rfl rfl (a1w _ _) (a2p _ _) ?_
         refine dv 0 ?_
         refine a2m (by kernel_rfl) ?_
         exact ⟨(), trivial, [], x7x, x7x, (HE.map rfl rfl HE.nil), x5x, rfl⟩
        exact .nil
       exact .nil
      exact .nil
     exact .nil
    exact .nil
   exact .nil
  exact .nil
 ·try dsimp only [b3d, b3e]
  refine dv 3 ?_
  refine a6j v9v (ks := p3p (l.take i ++ [e])) (k := e) Tryz.underlying304 evF rfl rfl (fun _ _ _ h => a5p h) rfl (a1v (l.take i ++ [e])) (b9o r1r rfl (l.take i ++ [e]) e) ?_
  refine dc 1 (aS ?_ ?_)<;>intro hc5<;>try simp at hc5
  ·have hq : ¬ (l.take i ++ [e]).count e = 1 := by (have := hc5; simp at this ⊢; omega)
   refine dv 2 ?_
   refine x8x (b := 1) rfl rfl (by omega) (dv 1 ?_)
   exact ⟨i + 1, ⟨by omega, by omega⟩, [0, 0, 0, _, _, 0, 0, _], x7x, x7x, (HE.row rfl (by rw [z5z he, d3n hq]) (HE.box rfl rfl (HE.map rfl (by rw [z5z he]) (HE.kill rfl (HE.kill rfl HE.nil))))), x5x, rfl⟩
  have hq : (l.take i ++ [e]).count e = 1 := by (have := hc5; simp at this ⊢; omega)
  have hpl : (b4j a2i (p3p (l.take i))).length ≤ 1000000000 := by rw [b7m]; exact Nat.le_trans (b8y _) (by rw [List.length_take]; omega)
  refine dv 2 ?_
  refine rlM [1, 7] [_, _] (a6p _ e hpl) rfl rfl rfl ?_
  refine dv 1 ?_
  refine x8x (b := 1) rfl rfl (by omega) (dv 1 ?_)
  exact ⟨i + 1, ⟨by omega, by omega⟩, [0, 0, 0, _, _, 0, 0, _], x7x, x7x, (HE.row rfl (by rw [z5z he, d3m hq]) (HE.box rfl rfl (HE.map rfl (by rw [z5z he]) (HE.kill rfl (HE.kill rfl HE.nil))))), x5x, rfl⟩
end
section
theorem a2w (c : Bool) (a : Ev) (l : List Ev) (hl : (a :: l).length ≤ 10000000) : Meth Tryz.prog 245 1 [] [a0t c (a :: l)] [(0, (0, .dead))] (.ref 0 0) [(0, (0, .row 56 7 ((a :: l).map z2z)))] := by
 refine mX Tryz.f245 [.ref 0 0] 1 1 fun γ => ?_
 refine dv 5 fun K K' => ?_
 refine a9c rfl rfl (by (intro p q h; cases h)) (.inl rfl) (d2k Tryz.underlying47 _ _ (by simp)) ?_
 refine a1o rfl (fun hc2 => ?_) (fun hc2 => ?_)
 ·simp [a2j] at hc2
 try simp at hc2
 refine dv 2 ?_
 refine y1y (id := 0) v8v rfl z4z rfl (dv 1 ?_)
 refine p0p (zs := (a :: l).map z2z) rfl rfl v8v rfl z4z rfl rfl rfl (z9z (fun _ => rfl) _) rfl (by (simp only [s2s, r5r, s1s, s3s, a0l, T56] at *; omega)) ?_
 refine dv 2 ?_
 exact ⟨[_], rfl, rfl, x5x⟩
theorem a3d (c : Bool) : Meth Tryz.prog 245 1 [] [a0t c []] [(0, (0, .dead))] (.ref 0 0) [(0, (0, .row 56 7 (([] : List Ev).map z2z)))] := by
 refine mX Tryz.f245 [.ref 0 0] 1 1 fun γ => ?_
 refine c6w 0 rfl fun A0 cap hcap => ?_
 refine dv 5 fun K K' => ?_
 refine a9c rfl rfl (by (intro p q h h2; cases h; cases h2; rfl)) (.inl rfl) (c1s Tryz.underlying47 _ _ _ _ _) ?_
 refine dc 0 (aI ?_ ?_)<;>intro j<;>try simp at j
 ·refine dv 2 ?_
  refine a6h 2 0 56 7 rfl rfl (dv 1 ?_)
  exact ⟨[_], rfl, rfl, x5x⟩
 refine dv 1 ?_
 refine d9t 0 56 7 rfl hcap (dv 1 ?_)
 refine y1y (id := 0) v8v rfl z4z rfl (dv 1 ?_)
 refine p0p (zs := ([] : List Ev).map z2z) rfl rfl v8v rfl z4z rfl rfl rfl (by rfl) rfl (by (simp only [s2s, r5r, s1s, s3s, a0l, T56] at *; omega)) ?_
 refine dv 2 ?_
 exact ⟨[_], rfl, rfl, x5x⟩
theorem w8w (c : Bool) (l : List Ev) (hl : l.length ≤ 10000000) : Meth Tryz.prog 245 1 [] [a0t c l] [(0, (0, .dead))] (.ref 0 0) [(0, (0, .row 56 7 (l.map z2z)))] := by
 cases l with
 | nil => exact a3d c
 | cons a l => exact a2w c a l hl
theorem a3w (c : Bool) (a : Ou) (l : List Ou) (hl : (a :: l).length ≤ 10000000) : Meth Tryz.prog 152 1 [] [r9r c (a :: l)] [(0, (0, .dead))] (.ref 0 0) [(0, (0, .row 141 5 ((a :: l).map p9p)))] := by
 refine mX Tryz.f152 [.ref 0 0] 1 1 fun γ => ?_
 refine dv 5 fun K K' => ?_
 refine a9c rfl rfl (by (intro p q h; cases h)) (.inl rfl) (d2k Tryz.underlying29 _ _ (by simp)) ?_
 refine a1o rfl (fun hc2 => ?_) (fun hc2 => ?_)
 ·simp [a2j] at hc2
 try simp at hc2
 refine dv 2 ?_
 refine y1y (id := 0) a0h rfl w4w rfl (dv 1 ?_)
 refine p0p (zs := (a :: l).map p9p) rfl rfl a0h rfl w4w rfl rfl rfl (z9z (fun _ => rfl) _) rfl (by (simp only [s2s, r5r, s1s, s3s, a0l, T141] at *; omega)) ?_
 refine dv 2 ?_
 exact ⟨[_], rfl, rfl, x5x⟩
theorem a4e (c : Bool) : Meth Tryz.prog 152 1 [] [r9r c []] [(0, (0, .dead))] (.ref 0 0) [(0, (0, .row 141 5 (([] : List Ou).map p9p)))] := by
 refine mX Tryz.f152 [.ref 0 0] 1 1 fun γ => ?_
 refine c6w 0 rfl fun A0 cap hcap => ?_
 refine dv 5 fun K K' => ?_
 refine a9c rfl rfl (by (intro p q h h2; cases h; cases h2; rfl)) (.inl rfl) (c1s Tryz.underlying29 _ _ _ _ _) ?_
 refine dc 0 (aI ?_ ?_)<;>intro j<;>try simp at j
 ·refine dv 2 ?_
  refine a6h 2 0 141 5 rfl rfl (dv 1 ?_)
  exact ⟨[_], rfl, rfl, x5x⟩
 refine dv 1 ?_
 refine d9t 0 141 5 rfl hcap (dv 1 ?_)
 refine y1y (id := 0) a0h rfl w4w rfl (dv 1 ?_)
 refine p0p (zs := ([] : List Ou).map p9p) rfl rfl a0h rfl w4w rfl rfl rfl (by rfl) rfl (by (simp only [s2s, r5r, s1s, s3s, a0l, T56] at *; omega)) ?_
 refine dv 2 ?_
 exact ⟨[_], rfl, rfl, x5x⟩
theorem a1k (c : Bool) (l : List Ou) (hl : l.length ≤ 10000000) : Meth Tryz.prog 152 1 [] [r9r c l] [(0, (0, .dead))] (.ref 0 0) [(0, (0, .row 141 5 (l.map p9p)))] := by
 cases l with
 | nil => exact a4e c
 | cons a l => exact a3w c a l hl
theorem a8j (c : Bool) (a : Int) (l : List Int) (hl : (a :: l).length ≤ 10000000) : Meth Tryz.prog 248 1 [] [a3f c (a :: l)] [(0, (0, .dead))] (.ref 0 0) [(0, (0, .row 3 1 ((a :: l).map a3u)))] := by
 refine mX Tryz.f248 [.ref 0 0] 1 1 fun γ => ?_
 refine dv 5 fun K K' => ?_
 refine a9c rfl rfl (by (intro p q h; cases h)) (.inl rfl) (d2k Tryz.underlying63 _ _ (by simp)) ?_
 refine a1o rfl (fun hc2 => ?_) (fun hc2 => ?_)
 ·simp [a2j] at hc2
 try simp at hc2
 refine dv 2 ?_
 refine y1y (id := 0) s4s rfl r1r rfl (dv 1 ?_)
 refine p0p (zs := (a :: l).map a3u) rfl rfl s4s rfl r1r rfl rfl rfl (z9z (fun _ => rfl) _) rfl (by (simp only [s2s, r5r, s1s, s3s, a0l, T3] at *; omega)) ?_
 refine dv 2 ?_
 exact ⟨[_], rfl, rfl, x5x⟩
theorem a8q (c : Bool) : Meth Tryz.prog 248 1 [] [a3f c []] [(0, (0, .dead))] (.ref 0 0) [(0, (0, .row 3 1 (([] : List Int).map a3u)))] := by
 refine mX Tryz.f248 [.ref 0 0] 1 1 fun γ => ?_
 refine c6w 0 rfl fun A0 cap hcap => ?_
 refine dv 5 fun K K' => ?_
 refine a9c rfl rfl (by (intro p q h h2; cases h; cases h2; rfl)) (.inl rfl) (c1s Tryz.underlying63 _ _ _ _ _) ?_
 refine dc 0 (aI ?_ ?_)<;>intro j<;>try simp at j
 ·refine dv 2 ?_
  refine a6h 2 0 3 1 rfl rfl (dv 1 ?_)
  exact ⟨[_], rfl, rfl, x5x⟩
 refine dv 1 ?_
 refine d9t 0 3 1 rfl hcap (dv 1 ?_)
 refine y1y (id := 0) s4s rfl r1r rfl (dv 1 ?_)
 refine p0p (zs := ([] : List Int).map a3u) rfl rfl s4s rfl r1r rfl rfl rfl (by rfl) rfl (by (simp only [s2s, r5r, s1s, s3s, a0l, T56] at *; omega)) ?_
 refine dv 2 ?_
 exact ⟨[_], rfl, rfl, x5x⟩
theorem b2d (c : Bool) (l : List Int) (hl : l.length ≤ 10000000) : Meth Tryz.prog 248 1 [] [a3f c l] [(0, (0, .dead))] (.ref 0 0) [(0, (0, .row 3 1 (l.map a3u)))] := by
 cases l with
 | nil => exact a8q c
 | cons a l => exact a8j c a l hl
end
section
theorem c8r (c : Bool) (n : Nd) (hl : n.lanes.length ≤ 1048576) : Meth Tryz.prog 158 1 [] [.agg (u1u c n)] [(0, (0, .dead))] (.agg [pI n.id, pI n.inc, pI n.g, pI n.led, .ref 0 0, a0t c n.kept, r9r c n.outs]) [(0, (0, .row 41 3 ((n.lanes).map fun l => a0s l.base)))] := by
 refine mX Tryz.f158 [.agg [pI n.id, pI n.inc, pI n.g, pI n.led, .ref 0 0, a0t c n.kept, r9r c n.outs]] 1 6 fun γ => ?_
 refine dv 1 ?_
 refine x9x (id := 1) rfl rfl rfl (x3x (id := 2) d4e d8v rfl (dv 13 ?_))
 refine rlB d4e d8v ?_
 refine x3x (id := 3) d4e d8v rfl (dv 8 fun K K' => ?_)
 refine w1w 3 4 0 41 3 rfl rfl rfl rfl rfl ?_
 refine x6x (ι := Nat) (fun i γ1 => [(22, pI (i : Int))]) (fun i γ1 => [(0, ((γ1 0), .row 41 3 ((n.lanes.take i).map fun l => a0s l.base))), (3, ((0 + 1), .box 160 [pI n.id, pI n.inc, pI n.g, pI n.led, .ref 0 (γ1 0), a0t c n.kept, r9r c n.outs])), (4, ((γ1 4), .dead)), (5, ((γ1 5), .dead)), (6, ((γ1 6), .dead))]) (fun i => i ≤ n.lanes.length) (fun i => n.lanes.length - i) (r7r [2, 3, 20, 21] rfl) (a1m [1, 2] rfl) 0 (by omega) [_, 0, 0, 0, _, _, _] x7x (HE.row rfl (by rw [List.take_zero]; rfl) (HE.box rfl rfl (HE.kill rfl (HE.kill rfl (HE.kill rfl HE.nil))))) rfl fun i γ1 hi => ?_
 refine dc 3 (fun K K' => aS ?_ ?_)<;>intro o<;>try simp at o
 ·obtain rfl : i = n.lanes.length := by omega
  refine dv 5 ?_
  exact ⟨[_], rfl, rfl, HE.row rfl (by rw [List.take_length]) HE.nil⟩
 obtain ⟨p, hp⟩ := gE n.lanes i
 refine dv 6 fun K K' => ?_
 refine x3x (id := 4) a0c a6u rfl (dv 5 ?_)
 refine y8y (out := .agg (a0s p.base)) rfl a4s rfl rfl ?_
 refine y6y (id := 5) d4c rfl a4s rfl rfl rfl rfl rfl rfl ?_
 refine y7y (zs := (n.lanes.take i ++ [p]).map fun l => a0s l.base) rfl rfl d4c rfl a4s rfl rfl rfl rfl (by rfl) (z8z _ _ _) (by (simp only [s2s, r5r, s1s, s3s, a0l, a2z, T41]; omega)) ?_
 refine dv 3 ?_
 refine v0v rfl rfl rfl (dv 1 ?_)
 exact ⟨i + 1, ⟨by omega, by omega⟩, [_, 0, 0, 0, _, _, _], (Cov.cons' (t := 22) rfl (by rw [y4y (by omega) (by omega)]; rfl) Cov.nil), x7x, (HE.row rfl (by rw [z5z hp]) (HE.box rfl rfl (HE.kill rfl (HE.kill rfl (HE.kill rfl HE.nil))))), x5x, rfl⟩
theorem c5b (c : Bool) (n : Nd) (hl : n.lanes.length ≤ 1048576) : Meth Tryz.prog 157 5 [0] [.agg [pI n.id, pI n.inc, pI n.g, pI n.led, .ref 0 0, a0t c n.kept, r9r c n.outs]] [(0, (0, .row 41 3 ((n.lanes).map fun l => a0s l.base))), (1, (0, .dead)), (2, (0, .dead)), (3, (0, .dead)), (4, (0, .dead))] (.ptr 4 0 0) [(4, (0, .box 164 [pI n.id, pI n.inc, pI n.g, pI n.led, .ref 0 0, a0t c n.kept, r9r c n.outs, .pv (.bool false), .ref 1 0, pI 0, .mp 2 0, .ref 3 0, pI 0, pI 41])), (1, (0, .row 42 1 ((n.lanes).map fun _ => [b1p c []]))), (2, (0, .map [])), (3, (0, .row 3 1 ([0, 0, 0].map a3u)))] := by
 refine mX Tryz.f157 [.ptr 4 0 0] 5 1 fun γ => ?_
 refine dv 1 ?_
 refine x9x (id := 5) rfl rfl rfl (dv 6 ?_)
 refine c1o (id := 1) c1i rfl a8l f5b rfl rfl rfl rfl (by (simp only [s2s, r5r, s1s, s3s, a0l, a2z, T42]; omega)) rfl ?_
 refine c5p (id := 2) rfl ?_
 refine c1o (n := 3) (id := 3) s4s rfl r1r f6x rfl rfl rfl rfl (by (simp only [s2s, r5r, s1s, s3s, a0l, a2z, T3]; omega)) rfl ?_
 refine rlB f2k f2n ?_
 refine x9x (id := 4) rfl rfl rfl (dv 1 ?_)
 refine b2m 1 (xs' := n.lanes.map fun _ => [.pv (.slice none 0 0)]) rfl (by simp [List.map_const', T42]) ?_
 refine c9u (f := fun _ => [.pv (.slice none 0 0)]) (f' := fun _ => [b1p c []]) (l := n.lanes) 1 rfl (fun _ => .le rfl .nil rfl .nil) ?_
 refine dv 1 ?_
 exact ⟨[γ 0, _, _, _, _], rfl, rfl, HE.box rfl rfl (HE.row rfl rfl (HE.map rfl rfl (HE.row rfl rfl (HE.same rfl HE.nil))))⟩
theorem b1l (c : Bool) (n : Nd) (hl : n.lanes.length ≤ 1048576) (hv : n.views.length ≤ 1048576) (hk3 : n.known.length = 3) : Meth Tryz.prog 125 5 [] [.agg (u1u c n)] [(0, (0, .dead)), (1, (0, .dead)), (2, (0, .dead)), (3, (0, .dead)), (4, (0, .dead))] (.ptr 4 0 0) [(0, (0, .row 41 3 ((n.lanes).map fun l => a0s l.base))), (1, (0, .row 42 1 ((n.lanes).map fun l => [b1p c l.done]))), (2, (0, .map (c4a c n.views))), (3, (0, .row 3 1 (n.known.map a3u))), (4, (0, .box 164 [pI n.id, pI n.inc, pI n.g, pI n.led, .ref 0 0, a0t c n.kept, r9r c n.outs, .pv (.bool n.up), .ref 1 0, pI n.version, .mp 2 0, .ref 3 0, pI n.round, pI n.low]))] := by
 refine a0q v9v (fn := Tryz.f125) (by kernel_rfl) (by kernel_rfl) rfl (O0 := [.ptr 4 0 0]) 5 3 (s8s rfl) (by rfl) (by repeat (first | exact BndH.nil | refine BndH.dead ?_ )) (by repeat (first | exact BndH.nil | refine BndH.box rfl ?_ | refine BndH.row (p7p fun _ => rfl) ?_ | refine BndH.map (a8f _ _) ?_ )) (by rfl) fun γ => ?_
 show Ex Tryz.prog _ _ [(0, .agg (u1u c n))] [(0, ((γ 0), .dead)), (1, ((γ 1), .dead)), (2, ((γ 2), .dead)), (3, ((γ 3), .dead)), (4, ((γ 4), .dead)), (7, (0, .dead)), (6, (0, .dead)), (5, (0, .dead))] _
 refine dv 1 ?_
 refine x9x (id := 5) rfl rfl rfl (dv 3 ?_)
 refine rlM [0] [_] (c8r c n hl) rfl rfl rfl ?_
 refine rlM [0, 1, 2, 3, 4] [_, _, _, _, _] (c5b c n hl) rfl rfl rfl ?_
 refine dv 8 fun K K' => ?_
 refine x6x (ι := Nat) (fun i γ1 => [(14, pI (i : Int))]) (fun i γ1 => [(1, ((γ 1 + 1), .row 42 1 ((n.lanes.take i).map (fun l => [b1p c l.done]) ++ (n.lanes.drop i).map fun _ => [b1p c []]))), (6, ((γ1 6), .dead))]) (fun i => i ≤ n.lanes.length) (fun i => n.lanes.length - i) (r7r [1, 3, 12, 13] rfl) (a1m [0, 2, 3, 4, 5, 7] rfl) 0 (by omega) [0, 0, 0, 0, 0, 0, _] x7x (HE.row rfl (by rw [List.take_zero, List.drop_zero]; rfl) (HE.kill rfl HE.nil)) rfl fun i γ1 hi => ?_
 refine dc 3 (fun K K' => aI ?_ ?_)<;>intro o<;>try simp at o
 ·obtain ⟨p, hp⟩ := gE n.lanes i
  have hAl : ((n.lanes.take i).map fun l => [b1p c l.done]).length = i := by rw [List.length_map, List.length_take]; omega
  rw [p1p hp, List.map_cons]
  refine dv 7 fun K K' => ?_
  refine x3x (id := 6) a0c a6u rfl (dv 10 ?_)
  refine b2l rfl rfl c1i rfl a8l rfl rfl hAl (d9r hAl rfl rfl a8l rfl rfl rfl rfl rfl rfl rfl rfl (dv 1 ?_))
  refine v0v rfl rfl rfl (dv 1 ?_)
  exact ⟨i + 1, ⟨by omega, by omega⟩, [0, 0, 0, 0, 0, 0, _], (Cov.cons' (t := 14) rfl (by rw [y4y (by omega) (by omega)]; rfl) Cov.nil), x7x, (HE.row rfl (by rw [z5z hp, List.map_append, List.append_assoc]; rfl) (HE.kill rfl HE.nil)), x5x, rfl⟩
 obtain rfl : i = n.lanes.length := by omega
 refine dv 8 fun K K' => ?_
 refine x6x (ι := Nat) (fun j γ2 => [(31, pI (j : Int))]) (fun j γ2 => [(2, ((γ 2 + 1), .map (c4a c (n.views.take j)))), (7, ((γ2 7), .dead))]) (fun j => j ≤ n.views.length) (fun j => n.views.length - j) (r7r [1, 3, 29, 30] rfl) (a1m [0, 1, 3, 4, 5, 6] rfl) 0 (by omega) [0, 0, 0, 0, 0, 0, 0, _] x7x (HE.map rfl (by rw [List.take_zero]; rfl) (HE.kill rfl HE.nil)) rfl fun j γ2 hi => ?_
 refine dc 3 (fun K K' => aI ?_ ?_)<;>intro o<;>try simp at o
 ·obtain ⟨q, hq⟩ := gE n.views j
  have hjl : (n.views.take j).length = j := by rw [List.length_take]; omega
  refine dv 7 fun K K' => ?_
  refine x3x (id := 7) r8r a6e rfl (dv 9 ?_)
  refine c9n (κ := Int) (enc := fun n => .int .i64 n) (ks := c4s j) (k := (j : Int)) (es' := c4a c (n.views.take j ++ [q])) Tryz.underlying162 (c9k Tryz.underlying3) rfl rfl rfl (fun _ _ _ h => f2w h) rfl (by rw [d1k, hjl]) (.inr ⟨e6p j, by rw [e3n, hjl]; try rfl⟩) ?_
  refine dv 1 ?_
  refine v0v rfl rfl rfl (dv 1 ?_)
  exact ⟨j + 1, ⟨by omega, by omega⟩, [0, 0, 0, 0, 0, 0, 0, _], (Cov.cons' (t := 31) rfl (by rw [y4y (by omega) (by omega)]; rfl) Cov.nil), x7x, (HE.map rfl (by rw [z5z hq]) (HE.kill rfl HE.nil)), x5x, rfl⟩
 obtain rfl : j = n.views.length := by omega
 refine dv 8 ?_
 refine e4r v9v (l := n.known) s4s rfl r1r rfl rfl rfl rfl (by rw [hk3]; rfl) ?_
 refine dv 29 ?_
 exact ⟨[_, _, _, _, _], rfl, rfl, HE.row rfl rfl (HE.row rfl (by rw [List.take_length, List.drop_length, List.map_nil, List.append_nil]) (HE.map rfl (by rw [List.take_length]) (HE.row rfl rfl (HE.box rfl rfl HE.nil))))⟩
end
section
theorem c0k (c : Bool) (n : Nd) (hs : (a0x n).length ≤ 5000000) (hlen : n.lanes.length ≤ 1048576) : Meth Tryz.prog 229 6 [0, 1, 2, 3, 4] [.ptr 4 0 0] [(0, (0, .row 41 3 ((n.lanes).map fun l => a0s l.base))), (1, (0, .row 42 1 ((n.lanes).map fun l => [b1p c l.done]))), (2, (0, .map (c4a c n.views))), (3, (0, .row 3 1 (n.known.map a3u))), (4, (0, .box 164 [pI n.id, pI n.inc, pI n.g, pI n.led, .ref 0 0, a0t c n.kept, r9r c n.outs, .pv (.bool n.up), .ref 1 0, pI n.version, .mp 2 0, .ref 3 0, pI n.round, pI n.low])), (5, (0, .dead))] (.ref 5 0) [(5, (0, .row 56 7 ((a0x n).map z2z)))] := by
 refine a0q v9v (fn := Tryz.f229) (by kernel_rfl) (by kernel_rfl) rfl (O0 := [.ref 5 0]) 6 2 (s8s rfl) (by rfl) (by repeat (first | exact BndH.nil | refine BndH.dead ?_ | refine BndH.box rfl ?_ | refine BndH.row (p7p fun _ => rfl) ?_ | refine BndH.map (a8f _ _) ?_ )) (by repeat (first | exact BndH.nil | refine BndH.row (p7p fun _ => rfl) ?_ )) (by rfl) fun γ => ?_
 show Ex Tryz.prog _ _ [(0, .ptr 4 (γ 4) 0)] [(0, ((γ 0), .row 41 3 ((n.lanes).map fun l => a0s l.base))), (1, ((γ 1), .row 42 1 ((n.lanes).map fun l => [b1p c l.done]))), (2, ((γ 2), .map (c4a c n.views))), (3, ((γ 3), .row 3 1 (n.known.map a3u))), (4, ((γ 4), .box 164 [pI n.id, pI n.inc, pI n.g, pI n.led, .ref 0 (γ 0), a0t c n.kept, r9r c n.outs, .pv (.bool n.up), .ref 1 (γ 1), pI n.version, .mp 2 (γ 2), .ref 3 (γ 3), pI n.round, pI n.low])), (5, ((γ 5), .dead)), (7, (0, .dead)), (6, (0, .dead))] _
 have hkl : n.kept.length ≤ 5000000 := by simp only [a0x, r5r] at hs; omega
 refine dv 8 ?_
 refine rlM [5] [_] (w8w c n.kept (by omega)) rfl rfl rfl ?_
 refine dv 10 fun K K' => ?_
 refine x6x (ι := Nat) (fun i γ1 => [(3, .ref 5 (γ1 5)), (19, pI (i : Int))]) (fun i γ1 => [(5, ((γ1 5), .row 56 7 ((n.kept ++ (n.lanes.take i).flatMap b0d).map z2z))), (6, ((γ1 6), .dead)), (7, ((γ1 7), .dead))]) (fun i => i ≤ n.lanes.length) (fun i => n.lanes.length - i) (r7r [17, 18] rfl) (a1m [0, 1, 2, 3, 4] rfl) 0 (by omega) [0, 0, 0, 0, 0, _, _, _] x7x (HE.row rfl (by simp) (HE.kill rfl (HE.kill rfl HE.nil))) rfl fun i γ1 hi => ?_
 refine dc 3 (fun K K' => aS ?_ ?_)<;>intro o<;>try simp at o
 ·obtain rfl : i = n.lanes.length := by omega
  refine dv 5 ?_
  exact ⟨[γ 0, γ 1, γ 2, γ 3, γ 4, _], rfl, rfl, HE.row rfl (by rw [List.take_length]; rfl) (a1m [0, 1, 2, 3, 4] rfl)⟩
 obtain ⟨p, hp⟩ := gE n.lanes i
 refine dv 4 fun K K' => ?_
 refine z1z (j := i) rfl rfl c1i rfl a8l rfl rfl (z3z hp) ?_
 refine dv 7 ?_
 refine u2u 23 rfl fun hlen2 => ?_
 refine x6x (ι := Nat) (fun j γ2 => [(3, .ref 5 (γ2 5)), (25, pI (j : Int))]) (fun j γ2 => [(5, ((γ2 5), .row 56 7 ((n.kept ++ (n.lanes.take i).flatMap b0d ++ (p.done.take j).flatMap Pa.sends).map z2z))), (6, ((γ2 6), .dead)), (7, ((γ2 7), .dead))]) (fun j => j ≤ p.done.length) (fun j => p.done.length - j) (r7r [17, 18, 19, 23, 24] rfl) (a1m [0, 1, 2, 3, 4] rfl) 0 (by omega) [0, 0, 0, 0, 0, _, _, _] x7x (HE.row rfl (by simp) (HE.kill rfl (HE.kill rfl HE.nil))) rfl fun j γ2 hi => ?_
 refine dc 3 (fun K K' => aS ?_ ?_)<;>intro o<;>try simp at o
 ·obtain rfl : j = p.done.length := by omega
  refine dv 2 ?_
  refine v0v rfl rfl rfl (dv 1 ?_)
  exact ⟨i + 1, ⟨by omega, by omega⟩, [0, 0, 0, 0, 0, _, _, _], (y0y 3 rfl (Cov.cons' (t := 19) rfl (by rw [y4y (by omega) (by omega)]; rfl) Cov.nil)), x7x, (HE.row rfl (by simp only [a5g hp, List.append_assoc, b0d, List.take_length]) (HE.kill rfl (HE.kill rfl HE.nil))), x5x, rfl⟩
 obtain ⟨q, hq⟩ := gE p.done j
 have hsp := d0c hp hq
 refine dv 6 fun K K' => ?_
 refine x3x (id := 6) a4h b9y rfl (dv 5 ?_)
 refine p0p (zs := (n.kept ++ (n.lanes.take i).flatMap b0d ++ (p.done.take j).flatMap Pa.sends ++ q.sends).map z2z) rfl rfl v8v rfl z4z rfl rfl rfl (z9z (fun _ => rfl) _) (a9d _ _ _) (by have hb56 : T56.bytes = 56 := rfl; rw [List.length_map, hb56]; omega) ?_
 refine dv 2 ?_
 refine v0v rfl rfl rfl (dv 1 ?_)
 exact ⟨j + 1, ⟨by omega, by omega⟩, [0, 0, 0, 0, 0, _, _, _], (y0y 3 rfl (Cov.cons' (t := 25) rfl (by rw [y4y (by omega) (by omega)]; rfl) Cov.nil)), (y0y 17 rfl (y0y 18 rfl (y0y 19 rfl (y0y 23 rfl (y0y 24 rfl Cov.nil))))), (HE.row rfl (by simp only [a5g hq, List.append_assoc]) (HE.kill rfl (HE.kill rfl HE.nil))), (p6p 0 rfl (p6p 1 rfl (p6p 2 rfl (p6p 3 rfl (p6p 4 rfl HE.nil))))), rfl⟩
theorem b8i (c : Bool) (n : Nd) (proc : Int) (e : Ev) : Meth Tryz.prog 231 7 [0, 1, 2, 3, 4, 5, 6] [.agg (z2z e), .ptr 5 0 0, .ptr 6 0 0] [(0, (0, .row 41 3 ((n.lanes).map fun l => a0s l.base))), (1, (0, .row 42 1 ((n.lanes).map fun l => [b1p c l.done]))), (2, (0, .map (c4a c n.views))), (3, (0, .row 3 1 (n.known.map a3u))), (4, (0, .box 164 [pI n.id, pI n.inc, pI n.g, pI n.led, .ref 0 0, a0t c n.kept, r9r c n.outs, .pv (.bool n.up), .ref 1 0, pI n.version, .mp 2 0, .ref 3 0, pI n.round, pI n.low])), (5, (0, .box 3 [pI proc])), (6, (0, .box 148 [.ptr 4 0 0]))] (.pv (.bool (a7y proc n.g e))) [] := by
 refine a0q v9v (fn := Tryz.f231) (by kernel_rfl) (by kernel_rfl) rfl (O0 := [.pv (.bool (a7y proc n.g e))]) 7 1 (s8s rfl) (by rfl) (by repeat (first | exact BndH.nil | refine BndH.box rfl ?_ | refine BndH.row (p7p fun _ => rfl) ?_ | refine BndH.map (a8f _ _) ?_ )) (by repeat (exact BndH.nil )) (by rfl) fun γ => ?_
 show Ex Tryz.prog _ _ [(0, .agg (z2z e)), (1, .ptr 5 (γ 5) 0), (2, .ptr 6 (γ 6) 0)] [(0, ((γ 0), .row 41 3 ((n.lanes).map fun l => a0s l.base))), (1, ((γ 1), .row 42 1 ((n.lanes).map fun l => [b1p c l.done]))), (2, ((γ 2), .map (c4a c n.views))), (3, ((γ 3), .row 3 1 (n.known.map a3u))), (4, ((γ 4), .box 164 [pI n.id, pI n.inc, pI n.g, pI n.led, .ref 0 (γ 0), a0t c n.kept, r9r c n.outs, .pv (.bool n.up), .ref 1 (γ 1), pI n.version, .mp 2 (γ 2), .ref 3 (γ 3), pI n.round, pI n.low])), (5, ((γ 5), .box 3 [pI proc])), (6, ((γ 6), .box 148 [.ptr 4 (γ 4) 0])), (7, (0, .dead))] _
 refine dv 1 ?_
 refine x9x (id := 7) rfl rfl rfl (dc 7 (aS ?_ ?_))<;>intro o<;>try simp at o
 ·refine dv 10 ?_
  exact ⟨[γ 0, γ 1, γ 2, γ 3, γ 4, γ 5, γ 6], rfl, congrArg (fun b : Bool => some [AV.pv (.bool b)]) ((decide_eq_false (by omega)).symm), x5x⟩
 refine dv 11 ?_
 exact ⟨[γ 0, γ 1, γ 2, γ 3, γ 4, γ 5, γ 6], rfl, congrArg (fun b : Bool => some [AV.pv (.bool b)]) (by exact decide_eq_decide.2 (by omega)), (p6p 0 rfl (p6p 1 rfl (p6p 2 rfl (p6p 3 rfl (p6p 4 rfl (p6p 5 rfl (p6p 6 rfl HE.nil)))))))⟩
theorem a8k (c : Bool) (n : Nd) (proc : Int) (l : List Ev) (hl : l.length ≤ 10000000) : Meth Tryz.prog 230 7 [0, 1, 2, 3, 4, 5, 6] [a0t true l, .fn (.func 231) [] [.ptr 5 0 0, .ptr 6 0 0]] [(0, (0, .row 41 3 ((n.lanes).map fun l => a0s l.base))), (1, (0, .row 42 1 ((n.lanes).map fun l => [b1p c l.done]))), (2, (0, .map (c4a c n.views))), (3, (0, .row 3 1 (n.known.map a3u))), (4, (0, .box 164 [pI n.id, pI n.inc, pI n.g, pI n.led, .ref 0 0, a0t c n.kept, r9r c n.outs, .pv (.bool n.up), .ref 1 0, pI n.version, .mp 2 0, .ref 3 0, pI n.round, pI n.low])), (5, (0, .box 3 [pI proc])), (6, (0, .box 148 [.ptr 4 0 0]))] (a0t true (l.filter (a7y proc n.g))) [] := by
 refine a0q v9v (fn := Tryz.f230) (by kernel_rfl) (by kernel_rfl) rfl (O0 := [a0t true (l.filter (a7y proc n.g))]) 7 4 (s8s rfl) (by rfl) (by repeat (first | exact BndH.nil | refine BndH.box rfl ?_ | refine BndH.row (p7p fun _ => rfl) ?_ | refine BndH.map (a8f _ _) ?_ )) (by repeat (exact BndH.nil )) (by rfl) fun γ => ?_
 show Ex Tryz.prog _ _ [(0, a0t true l), (1, .fn (.func 231) [] [.ptr 5 (γ 5) 0, .ptr 6 (γ 6) 0])] [(0, ((γ 0), .row 41 3 ((n.lanes).map fun l => a0s l.base))), (1, ((γ 1), .row 42 1 ((n.lanes).map fun l => [b1p c l.done]))), (2, ((γ 2), .map (c4a c n.views))), (3, ((γ 3), .row 3 1 (n.known.map a3u))), (4, ((γ 4), .box 164 [pI n.id, pI n.inc, pI n.g, pI n.led, .ref 0 (γ 0), a0t c n.kept, r9r c n.outs, .pv (.bool n.up), .ref 1 (γ 1), pI n.version, .mp 2 (γ 2), .ref 3 (γ 3), pI n.round, pI n.low])), (5, ((γ 5), .box 3 [pI proc])), (6, ((γ 6), .box 148 [.ptr 4 (γ 4) 0])), (10, (0, .dead)), (9, (0, .dead)), (8, (0, .dead)), (7, (0, .dead))] _
 refine dv 10 fun K K' => ?_
 refine a6h 5 10 56 7 rfl rfl ?_
 refine x6x (ι := Nat) (fun i γ1 => [(5, .ref 10 (γ1 10)), (10, pI (i : Int))]) (fun i γ1 => [(10, ((γ1 10), .row 56 7 (((l.take i).filter (a7y proc n.g)).map z2z))), (7, ((γ1 7), .dead)), (8, ((γ1 8), .dead)), (9, ((γ1 9), .dead))]) (fun i => i ≤ l.length) (fun i => l.length - i) (r7r [1, 8, 9] rfl) (a1m [0, 1, 2, 3, 4, 5, 6] rfl) 0 (by omega) [0, 0, 0, 0, 0, 0, 0, _, _, _, _] x7x (HE.row rfl (by rw [List.take_zero]; rfl) (HE.kill rfl (HE.kill rfl (HE.kill rfl HE.nil)))) rfl fun i γ1 hi => ?_
 refine dc 3 (fun K K' => aS ?_ ?_)<;>intro o<;>try simp at o
 ·obtain rfl : i = l.length := by omega
  rw [List.take_length]
  refine dv 1 ?_
  refine s7s 5 rfl rfl (fun _ => rfl) ?_
  refine dv 4 ?_
  exact ⟨[γ 0, γ 1, γ 2, γ 3, γ 4, γ 5, γ 6], rfl, rfl, x5x⟩
 obtain ⟨p, hp⟩ := gE l i
 have hfl : ((l.take i).filter (a7y proc n.g)).length ≤ 10000000 := Nat.le_trans (List.length_filter_le _ _) (by rw [List.length_take]; omega)
 refine dv 6 fun K K' => ?_
 refine x3x (id := 7) z4z a6v rfl (dv 4 ?_)
 refine rlM [0, 1, 2, 3, 4, 5, 6] [_, _, _, _, _, _, _] (b8i c n proc p) rfl rfl rfl ?_
 refine dc 0 (aS ?_ ?_)<;>intro hc5<;>try simp at hc5
 ·have hw : ¬ a7y proc n.g p = true := by rw [hc5]; decide
  refine dv 2 ?_
  refine v0v rfl rfl rfl (dv 1 ?_)
  exact ⟨i + 1, ⟨by omega, by omega⟩, [0, 0, 0, 0, 0, 0, 0, _, _, _, _], (y0y 5 rfl (Cov.cons' (t := 10) rfl (by rw [y4y (by omega) (by omega)]; rfl) Cov.nil)), x7x, (HE.row rfl (by rw [a0j hp]; rw [if_neg hw, List.append_nil]) (HE.kill rfl (HE.kill rfl (HE.kill rfl HE.nil)))), x5x, rfl⟩
 have hw : a7y proc n.g p = true := hc5
 refine dv 3 ?_
 refine y6y (id := 8) v8v rfl z4z rfl rfl rfl rfl rfl rfl ?_
 refine y7y (zs := ((l.take i).filter (a7y proc n.g) ++ [p]).map z2z) rfl rfl v8v rfl z4z rfl rfl rfl rfl (by rfl) (z8z _ _ _) (by (simp only [s2s, r5r, s1s, s3s, a0l, a2z, T56]; omega)) ?_
 refine dv 2 ?_
 refine v0v rfl rfl rfl (dv 1 ?_)
 exact ⟨i + 1, ⟨by omega, by omega⟩, [0, 0, 0, 0, 0, 0, 0, _, _, _, _], (y0y 5 rfl (Cov.cons' (t := 10) rfl (by rw [y4y (by omega) (by omega)]; rfl) Cov.nil)), (y0y 1 rfl (y0y 8 rfl (y0y 9 rfl Cov.nil))), (HE.row rfl (by rw [a0j hp]; rw [if_pos hw]) (HE.kill rfl (HE.kill rfl (HE.kill rfl HE.nil)))), (p6p 0 rfl (p6p 1 rfl (p6p 2 rfl (p6p 3 rfl (p6p 4 rfl (p6p 5 rfl (p6p 6 rfl HE.nil))))))), rfl⟩
theorem b1w (c : Bool) (n : Nd) (proc : Int) (hs : (a0x n).length + (s9s n 3).length ≤ 5000000) (hlen : n.lanes.length ≤ 1048576) (hv3 : n.views.length = 3) : Meth Tryz.prog 126 6 [0, 1, 2, 3, 4] [.ptr 4 0 0, .pv (.int .i64 proc)] [(0, (0, .row 41 3 ((n.lanes).map fun l => a0s l.base))), (1, (0, .row 42 1 ((n.lanes).map fun l => [b1p c l.done]))), (2, (0, .map (c4a c n.views))), (3, (0, .row 3 1 (n.known.map a3u))), (4, (0, .box 164 [pI n.id, pI n.inc, pI n.g, pI n.led, .ref 0 0, a0t c n.kept, r9r c n.outs, .pv (.bool n.up), .ref 1 0, pI n.version, .mp 2 0, .ref 3 0, pI n.round, pI n.low])), (5, (0, .dead))] (.ref 5 0) [(5, (0, .row 56 7 ((a0i n proc).map z2z)))] := by
 refine a0q v9v (fn := Tryz.f126) (by kernel_rfl) (by kernel_rfl) rfl (O0 := [.ref 5 0]) 6 4 (s8s rfl) (by rfl) (by repeat (first | exact BndH.nil | refine BndH.dead ?_ | refine BndH.box rfl ?_ | refine BndH.row (p7p fun _ => rfl) ?_ | refine BndH.map (a8f _ _) ?_ )) (by repeat (first | exact BndH.nil | refine BndH.row (p7p fun _ => rfl) ?_ )) (by rfl) fun γ => ?_
 show Ex Tryz.prog _ _ [(0, .ptr 4 (γ 4) 0), (1, .pv (.int .i64 proc))] [(0, ((γ 0), .row 41 3 ((n.lanes).map fun l => a0s l.base))), (1, ((γ 1), .row 42 1 ((n.lanes).map fun l => [b1p c l.done]))), (2, ((γ 2), .map (c4a c n.views))), (3, ((γ 3), .row 3 1 (n.known.map a3u))), (4, ((γ 4), .box 164 [pI n.id, pI n.inc, pI n.g, pI n.led, .ref 0 (γ 0), a0t c n.kept, r9r c n.outs, .pv (.bool n.up), .ref 1 (γ 1), pI n.version, .mp 2 (γ 2), .ref 3 (γ 3), pI n.round, pI n.low])), (5, ((γ 5), .dead)), (9, (0, .dead)), (8, (0, .dead)), (7, (0, .dead)), (6, (0, .dead))] _
 refine dv 1 ?_
 refine d8x (id := 6) rfl rfl rfl rfl (d8x (id := 7) rfl rfl rfl rfl (dv 3 ?_))
 refine rlM [0, 1, 2, 3, 4, 9] [_, _, _, _, _, _] (c0k c n (by omega) hlen) rfl rfl rfl ?_
 refine dv 5 fun K K' => ?_
 refine x6x (ι := Nat) (fun i γ1 => [(5, .ref 9 (γ1 9)), (9, pI (i : Int))]) (fun i γ1 => [(9, ((γ1 9), .row 56 7 ((a0x n ++ s9s n i).map z2z))), (8, ((γ1 8), .dead))]) (fun i => i ≤ 3) (fun i => 3 - i) (r7r [2, 3] rfl) (a1m [0, 1, 2, 3, 4, 5, 6, 7] rfl) 0 (by omega) [0, 0, 0, 0, 0, 0, 0, 0, _, _] x7x (HE.row rfl (by simp [s9s]) (HE.kill rfl HE.nil)) rfl fun i γ1 hi => ?_
 refine dc 3 (fun K K' => aS ?_ ?_)<;>intro o<;>try simp at o
 ·obtain rfl : i = 3 := by omega
  refine dv 1 ?_
  refine s7s 5 rfl rfl (fun _ => rfl) ?_
  refine dv 2 ?_
  refine d2l rfl rfl ?_
  refine rlM [0, 1, 2, 3, 4, 7, 6] [_, _, _, _, _, _, _] (a8k c n proc _ (by rw [List.length_append]; omega)) rfl rfl rfl ?_
  refine rlM [5] [_] (c0j true _ (Nat.le_trans (List.length_filter_le _ _) (by rw [List.length_append]; omega))) rfl rfl rfl ?_
  refine dv 2 ?_
  exact ⟨[γ 0, γ 1, γ 2, γ 3, γ 4, _], rfl, rfl, x5x⟩
 obtain ⟨v, hv⟩ := gE n.views i
 have hg : n.views.getD i vi0 = v := by rw [List.getD_eq_getElem?_getD, hv]; rfl
 have hol := d0e n (i := i + 1) (by omega)
 rw [a2h] at hol
 refine dc 14 (fun K K' => aS ?_ ?_)<;>intro hc5<;>try simp at hc5
 ·have hve : b2q n i = [] := by rw [b2q, if_pos hc5]
  refine dv 2 ?_
  refine v0v rfl rfl rfl (dv 1 ?_)
  exact ⟨i + 1, ⟨by omega, by omega⟩, [0, 0, 0, 0, 0, 0, 0, 0, _, _], (y0y 5 rfl (Cov.cons' (t := 9) rfl (by rw [y4y (by omega) (by omega)]; rfl) Cov.nil)), x7x, (HE.row rfl (by rw [a2h, hve]; simp) (HE.kill rfl HE.nil)), x5x, rfl⟩
 have hve : b2q n i = v.events := by rw [b2q, if_neg hc5, hg]
 rw [hve] at hol
 simp only [r5r] at hol
 refine dv 7 ?_
 refine a6j (κ := Int) (enc := fun n => .int .i64 n) (ks := c4s n.views.length) (k := (i : Int)) (out := .agg (a3g c v)) v9v Tryz.underlying162 (c9k Tryz.underlying3) rfl rfl (fun _ _ _ h => f2w h) rfl (d1k _ _) (e3o hv) ?_
 refine dv 1 ?_
 refine p0p (zs := (a0x n ++ s9s n i ++ v.events).map z2z) rfl rfl v8v rfl z4z rfl rfl rfl (z9z (fun _ => rfl) _) (a9d _ _ _) (by have hb56 : T56.bytes = 56 := rfl; rw [List.length_map, hb56]; simp only [r5r]; omega) ?_
 refine dv 2 ?_
 refine v0v rfl rfl rfl (dv 1 ?_)
 exact ⟨i + 1, ⟨by omega, by omega⟩, [0, 0, 0, 0, 0, 0, 0, 0, _, _], (y0y 5 rfl (Cov.cons' (t := 9) rfl (by rw [y4y (by omega) (by omega)]; rfl) Cov.nil)), x7x, (HE.row rfl (by rw [a2h, hve]; simp) (HE.kill rfl HE.nil)), x5x, rfl⟩
end
section
theorem c0l (c : Bool) (p : Pa) (ps : List Pa) : Meth Tryz.prog 236 1 [0] [.ptr 0 0 0, .agg (a1l c p)] [(0, (0, .chn 256 259 ((ps).map (a1l c))))] (.tup []) [(0, (0, .chn 256 259 ((ps ++ [p]).map (a1l c))))] := by
 refine a0q v9v (fn := Tryz.f236) (by kernel_rfl) (by kernel_rfl) rfl (O0 := []) 1 2 (s8s rfl) (by rfl) (by repeat (first | exact BndH.nil | refine BndH.chn ?_)) (by repeat (first | exact BndH.nil | refine BndH.chn ?_)) (by rfl) fun γ => ?_
 show Ex Tryz.prog _ _ [(0, .ptr 0 (γ 0) 0), (1, .agg (a1l c p))] [(0, ((γ 0), .chn 256 259 ((ps).map (a1l c)))), (2, (0, .dead)), (1, (0, .dead))] _
 refine e9d ?_
 refine e7k 0 rfl fun b0 bs hbl hbn => ?_
 have hbl2 : bs.length = ps.length := by rw [hbl, List.length_map]
 refine b4i v9v (by rfl) ?_
 refine x9x (id := 1) rfl rfl rfl ?_
 refine b4i v9v (by rfl) ?_
 refine b9r rfl a4h rfl rfl rfl ?_
 refine c6o d4f rfl f2q rfl (by simp only [pI, a4h, T58, a5n, f4k, b5f, a0b, AV.okc, AV.one, Value.oneCell', List.map_cons, List.map_nil, List.getElem?_cons_zero, List.getElem?_cons_succ, List.take_succ_cons, List.take_zero, List.drop_succ_cons, List.drop_zero, List.cons_append, List.nil_append, List.length_cons, List.length_nil, if_true, and_self, Nat.reduceAdd, Nat.reduceLeDiff]; rfl) ?_
 refine x9x (id := 2) rfl rfl rfl ?_
 refine w9w rfl ?_
 refine a5b fun K1 hK1 => ?_
 refine e0f 4 0 2 rfl rfl (by intro h; cases h) rfl rfl rfl fun bn hbn2 => ?_
 refine b4i v9v (by rfl) ?_
 refine v7v rfl ?_
 refine b9s rfl rfl ?_
 refine v3v rfl c1j rfl rfl a5n rfl rfl ?_
 refine c7a v9v (out := .pv (b4g bs.getLast?)) rfl a5n rfl rfl ?_
 refine a9c rfl rfl (by intro a c h h2; cases h; cases h2; rfl) (.inl rfl) (d9v (by kernel_rfl) _ _ _) ?_
 refine a1o rfl (fun hc2 => ?_) (fun hc2 => ?_)
 ·try simp at hc2
  obtain rfl : bs = [] := by cases bs with | nil => rfl | cons b r => (simp [List.getLast?_cons, a2j] at hc2)
  obtain rfl : ps = [] := List.eq_nil_of_length_eq_zero (by simpa using hbl2.symm)
  refine a2k v9v (by rfl) ?_
  refine v7v rfl ?_
  refine v7v rfl ?_
  refine b9s rfl rfl ?_
  refine v3v rfl c1j rfl rfl a5n rfl rfl ?_
  refine c1t v9v rfl rfl a5n rfl rfl rfl rfl rfl ?_
  refine hK1 _ _ ?_
  clear hK1 K1
  refine a2k v9v (by rfl) ?_
  refine v7v rfl ?_
  refine v7v rfl ?_
  refine b9s rfl rfl ?_
  refine v3v rfl c1j rfl rfl a5n rfl rfl ?_
  refine c1t v9v rfl rfl a5n rfl rfl rfl rfl rfl ?_
  refine Conv.step (c6y 0 b0 256 259 ([bn]) ([a1l c p]) rfl rfl rfl) (Conv.done ?_)
  exact ⟨.inl rfl, [γ 0], rfl, rfl, HE.same rfl HE.nil⟩
 try simp at hc2
 obtain ⟨bs0, bl, rfl⟩ := e0c (l := bs) (by exact hc2)
 obtain ⟨ps0, pl, rfl⟩ := e0c (l := ps) (by rintro rfl; simp at hbl2)
 refine a2k v9v (by rfl) ?_
 refine v7v rfl ?_
 refine b9s rfl rfl ?_
 refine v3v rfl c1j rfl rfl a5n rfl rfl ?_
 refine c7a v9v (out := PQ bl 0) rfl a5n rfl (by rw [List.getLast?_concat]; rfl) ?_
 refine v7v rfl ?_
 refine d2m rfl ?_
 refine a7f v9v rfl d4f rfl rfl a5n rfl ?_
 refine e0g v9v (bty := 259) ((b0, 256, [.pv (b4g (bs0 ++ [bl]).head?), .pv (b4g (bs0 ++ [bl]).getLast?)]) :: d1q 259 (some bl) bs0 (ps0.map (a1l c))) [(bn, 259, a1l c p ++ [.pv (.pointer none)])] (cs := a1l c pl ++ [.pv (.pointer none)]) 0 rfl rfl a5n rfl rfl rfl (by rw [chB, List.map_append, List.map_cons, List.map_nil, c9t (by rw [List.length_map]; simpa using hbl2)]; simp [b4g]) (s8s rfl) rfl ?_
 refine hK1 _ _ ?_
 clear hK1 K1
 refine a2k v9v (by rfl) ?_
 refine v7v rfl ?_
 refine v7v rfl ?_
 refine b9s rfl rfl ?_
 refine v3v rfl c1j rfl rfl a5n rfl rfl ?_
 refine c1t v9v rfl rfl a5n rfl rfl rfl rfl rfl ?_
 refine Conv.step (c6y 0 b0 256 259 (bs0 ++ [bl] ++ [bn]) (((ps0 ++ [pl]) ++ [p]).map (a1l c)) rfl (by simp at hbl2 ⊢; exact hbl2) (by rw [List.map_append, List.map_cons (l := []), List.map_nil, e4t (by rw [List.length_map]; exact hbl2), List.map_append, List.map_cons, List.map_nil, c9t (by rw [List.length_map]; simpa using hbl2)]; cases bs0 <;> simp [b4g] <;> rfl)) (Conv.done ?_)
 exact ⟨.inl rfl, [γ 0], rfl, rfl, HE.same rfl HE.nil⟩
theorem b5e (c : Bool) (l : List Pa) : Meth Tryz.prog 131 1 [] [b1p c l] [(0, (0, .dead))] (.ptr 0 0 0) [(0, (0, .chn 256 259 ((l).map (a1l c))))] := by
 refine a0q v9v (fn := Tryz.f131) (by kernel_rfl) (by kernel_rfl) rfl (O0 := [.ptr 0 0 0]) 1 1 (s8s rfl) (by rfl) (by repeat (first | exact BndH.nil | refine BndH.dead ?_)) (by repeat (first | exact BndH.nil | refine BndH.chn ?_)) (by rfl) fun γ => ?_
 show Ex Tryz.prog _ _ [(0, b1p c l)] [(0, ((γ 0), .dead)), (1, (0, .dead))] _
 refine u2u 0 rfl fun hlen => ?_
 refine b4i v9v (by rfl) ?_
 refine w9w rfl ?_
 refine b4i v9v (by rfl) ?_
 refine c6o c1j rfl f2p rfl (by simp only [pI, b5f, a0b, AV.okc, AV.one, T3, T4, List.getElem?_cons_zero, List.getElem?_cons_succ, List.take_succ_cons, List.take_zero, List.drop_succ_cons, List.drop_zero, List.cons_append, List.nil_append, List.length_cons, List.length_nil, if_true, and_self, Nat.reduceAdd, Nat.reduceLeDiff]; rfl) ?_
 refine x9x (id := 0) rfl rfl rfl ?_
 refine w9w rfl ?_
 refine a5b fun K1 hK1 => ?_
 refine b4i v9v (by rfl) ?_
 refine v7v rfl ?_
 refine c6p rfl a8l rfl ?_
 refine v7v rfl ?_
 refine a8u ?_
 refine e0d 0 259 rfl ?_
 refine x6x (ι := Nat) (fun i γ1 => [(10, .pv (.int .i64 (i : Int)))]) (fun i γ1 => [(0, ((γ 0 + 1), .chn 256 259 ((l.take i).map (a1l c)))), (1, ((γ1 1), .dead))]) (fun i => i ≤ l.length) (fun i => l.length - i) (y0y 3 rfl (y0y 8 rfl (y0y 9 rfl Cov.nil))) HE.nil 0 (by omega) [0, _] (y0y 10 rfl Cov.nil) (HE.chn rfl (by rw [List.take_zero]; rfl) (HE.kill rfl HE.nil)) rfl fun i γ1 hi => ?_
 refine b4i v9v (by rfl) ?_
 refine b4m rfl rfl rfl ?_
 refine a5b fun K2 hK2 => ?_
 refine a1o rfl (fun hc3 => ?_) (fun hc3 => ?_)
 rotate_left
 ·try simp at hc3
  obtain rfl : i = l.length := by omega
  refine b2h ?_
  refine hK1 _ _ ?_
  clear hK2 K2 hK1 K1
  refine b4i v9v (by rfl) ?_
  refine v7v rfl ?_
  refine w9w rfl ?_
  refine b1m ?_
  rw [List.take_length]
  exact ⟨.inr rfl, [_], rfl, rfl, HE.same rfl HE.nil⟩
 try simp at hc3
 obtain ⟨p, hp⟩ : ∃ p, l[i]? = some p := e4u (by omega)
 refine b5n ?_
 refine hK2 _ _ ?_
 clear hK2 K2
 refine a5b fun K4 hK4 => ?_
 refine a8u ?_
 refine b4i v9v (by rfl) ?_
 refine b0t rfl rfl a8l rfl a4h rfl (by assumption) ?_
 refine b2i rfl a4h rfl rfl ?_
 refine x3x (id := 1) a4h b9y rfl ?_
 refine c1n rfl rfl a4h rfl rfl rfl rfl ?_
 refine a2k v9v (by rfl) ?_
 refine v7v rfl ?_
 refine b9r rfl a4h rfl rfl rfl ?_
 refine d9h [0] [_] (c0l c p (l.take i)) rfl rfl rfl (by decide) rfl rfl (by repeat (first | exact InH.nil | refine InH.cons rfl ?_)) (by (simp only [pI, a2d, a2e, b9u, gl, nx, a7d, Nat.beq]; rfl)) (by (simp only [pI, a2d, a2e, b9u, gl, nx, a7d, Nat.beq]; rfl)) ?_
 refine hK4 _ _ ?_
 clear hK4 K4
 refine a2k v9v (by rfl) ?_
 refine x8x (b := 1) rfl rfl (by omega) ?_
 refine v7v rfl ?_
 exact ⟨i + 1, ⟨by omega, by omega⟩, [0, _], (y0y 10 rfl Cov.nil), (y0y 3 rfl (y0y 8 rfl (y0y 9 rfl Cov.nil))), (HE.chn rfl (by rw [z5z hp]) (HE.kill rfl HE.nil)), HE.nil, rfl⟩
theorem a6q (c c' : Bool) (ps : List Pa) (s : List Ev) : Meth Tryz.prog 132 1 [0] [.ptr 0 0 0, a0t c' s] [(0, (0, .chn 256 259 ((ps).map (a1l c))))] (.pv (.int .i64 (same ps s : Int))) [] := by
 refine a0q v9v (fn := Tryz.f132) (by kernel_rfl) (by kernel_rfl) rfl (O0 := [.pv (.int .i64 (same ps s : Int))]) 1 0 (s8s rfl) (by rfl) (by repeat (first | exact BndH.nil | refine BndH.chn ?_)) (by repeat (exact BndH.nil)) (by rfl) fun γ => ?_
 show Ex Tryz.prog _ _ [(0, .ptr 0 (γ 0) 0), (1, a0t c' s)] [(0, ((γ 0), .chn 256 259 ((ps).map (a1l c))))] _
 refine u2u 1 rfl fun hlen => ?_
 refine e7k 0 rfl fun b0 bs hbl hbn => ?_
 have hbl2 : bs.length = ps.length := by rw [hbl, List.length_map]
 refine b4i v9v (by rfl) ?_
 refine w9w rfl ?_
 refine b4i v9v (by rfl) ?_
 refine w9w rfl ?_
 refine a5b fun K1 hK1 => ?_
 refine b4i v9v (by rfl) ?_
 refine v7v rfl ?_
 refine b9s rfl rfl ?_
 refine v3v rfl c1j rfl rfl a5n rfl rfl ?_
 refine c7a v9v (out := .pv (b4g bs.head?)) rfl a5n rfl rfl ?_
 refine w9w rfl ?_
 refine a8u ?_
 refine x6x (ι := Nat) (fun i γ1 => [(5, .pv (.int .i64 (i : Int))), (6, .pv (b4g bs[i]?))]) (fun i γ1 => []) (fun i => i ≤ ps.length ∧ i ≤ s.length ∧ same ps s = i + same (ps.drop i) (s.drop i)) (fun i => ps.length - i) (y0y 1 rfl Cov.nil) (p6p 0 rfl HE.nil) 0 ⟨by omega, by omega, by rw [List.drop_zero, List.drop_zero, Nat.zero_add]⟩ [] (y0y 5 rfl (Cov.cons' (t := 6) rfl ((by rw [List.head?_eq_getElem?])) Cov.nil)) HE.nil rfl fun i γ1 hi => ?_
 obtain ⟨h1, h2, h3⟩ := hi
 refine a5b fun K2 hK2 => ?_
 refine e7m v9v c1k (by rfl) ?_
 refine v7v rfl ?_
 refine a9c rfl rfl (by intro a c h h2; cases h; cases h2; rfl) (.inr rfl) (d9v (by kernel_rfl) _ _ _) ?_
 refine v7v rfl ?_
 refine d2f rfl rfl (fun hg3 => ?_) (fun hg3 => ?_)
 rotate_left
 ·try simp at hg3
  have g1 : ps.length ≤ i := by omega
  refine a8m rfl rfl ?_
  refine a8m rfl rfl ?_
  refine a8m rfl rfl ?_
  refine c6n rfl rfl ?_
  refine v7v rfl ?_
  refine a8m rfl rfl ?_
  refine a8m rfl rfl ?_
  refine a8m rfl rfl ?_
  refine a8m rfl rfl ?_
  refine a8m rfl rfl ?_
  refine a8m rfl rfl ?_
  refine a8m rfl rfl ?_
  refine a8m rfl rfl ?_
  refine a8m rfl rfl ?_
  refine a8m rfl rfl ?_
  refine c6n rfl rfl ?_
  refine ⟨by kernel_rfl, ?_⟩
  refine a1o rfl (fun hc8 => ?_) (fun hc8 => ?_)
  ·simp at hc8
  try simp at hc8
  try have heq : ¬ p.ev = e := by simpa [a2j] using hc8
  refine b2h ?_
  refine hK1 _ _ ?_
  clear hK2 K2 hK1 K1
  refine b4i v9v (by rfl) ?_
  refine v7v rfl ?_
  refine w9w rfl ?_
  refine c6z 0 b0 256 259 (bs) (ps.map (a1l c)) rfl hbl rfl ?_
  refine b1m ?_
  refine ⟨.inr rfl, [γ 0], rfl, ?_, HE.same rfl HE.nil⟩
  exact congrArg (fun v : Nat => some [AV.pv (.int .i64 (v : Int))]) (h3.trans (by rw [d0h g1]; rfl)).symm
 try simp at hg3
 obtain ⟨b, hb⟩ : ∃ b, bs[i]? = some b := e4u (by omega)
 rw [hb]
 have g1 : i < ps.length := by have := (List.getElem?_eq_some_iff.1 hb).1; omega
 obtain ⟨p, hp⟩ : ∃ p, ps[i]? = some p := e4u (by omega)
 refine v7v rfl ?_
 refine b4h rfl rfl ?_
 refine v7v rfl ?_
 refine b4h rfl rfl ?_
 refine c6p rfl v8v rfl ?_
 refine b4h rfl rfl ?_
 refine b4m rfl rfl rfl ?_
 refine c6m rfl rfl ?_
 refine v7v rfl ?_
 refine d2f rfl rfl (fun hg4 => ?_) (fun hg4 => ?_)
 rotate_left
 ·try simp at hg4
  have g2 : s.length ≤ i := by omega
  refine a8m rfl rfl ?_
  refine a8m rfl rfl ?_
  refine a8m rfl rfl ?_
  refine a8m rfl rfl ?_
  refine a8m rfl rfl ?_
  refine a8m rfl rfl ?_
  refine a8m rfl rfl ?_
  refine a8m rfl rfl ?_
  refine a8m rfl rfl ?_
  refine c6n rfl rfl ?_
  refine ⟨by kernel_rfl, ?_⟩
  refine a1o rfl (fun hc7 => ?_) (fun hc7 => ?_)
  ·simp at hc7
  try simp at hc7
  try have heq : ¬ p.ev = e := by simpa [a2j] using hc7
  refine b2h ?_
  refine hK1 _ _ ?_
  clear hK2 K2 hK1 K1
  refine b4i v9v (by rfl) ?_
  refine v7v rfl ?_
  refine w9w rfl ?_
  refine c6z 0 b0 256 259 (bs) (ps.map (a1l c)) rfl hbl rfl ?_
  refine b1m ?_
  refine ⟨.inr rfl, [γ 0], rfl, ?_, HE.same rfl HE.nil⟩
  exact congrArg (fun v : Nat => some [AV.pv (.int .i64 (v : Int))]) (h3.trans (by rw [d0i g2]; rfl)).symm
 try simp at hg4
 have g2 : i < s.length := by omega
 obtain ⟨e, he⟩ : ∃ e, s[i]? = some e := e4u (by omega)
 refine v7v rfl ?_
 refine b4h rfl rfl ?_
 refine d2m rfl ?_
 refine b4h rfl rfl ?_
 refine a7f v9v rfl d4f rfl rfl a4h rfl ?_
 refine b4h rfl rfl ?_
 refine a7f v9v rfl a4h rfl rfl z4z rfl ?_
 refine b4h rfl rfl ?_
 refine d4q v9v (out := .agg (z2z p.ev)) 0 rfl z4z rfl (e0b hbl hb (c7w hp)) rfl ?_
 refine b4h rfl rfl ?_
 refine v7v rfl ?_
 refine b4h rfl rfl ?_
 refine v7v rfl ?_
 refine b4h rfl rfl ?_
 refine b0t rfl rfl v8v rfl z4z rfl he ?_
 refine b4h rfl rfl ?_
 refine u4u (out := .agg (z2z e)) rfl z4z rfl ?_
 refine b4h rfl rfl ?_
 refine a9c rfl rfl (by intro a c h; cases h) (.inl rfl) (f0l _ _ _ _) ?_
 refine c6m rfl rfl ?_
 refine ⟨by kernel_rfl, ?_⟩
 refine a1o rfl (fun hc5 => ?_) (fun hc5 => ?_)
 rotate_left
 ·try simp at hc5
  try have heq : ¬ p.ev = e := by simpa [a2j] using hc5
  refine b2h ?_
  refine hK1 _ _ ?_
  clear hK2 K2 hK1 K1
  refine b4i v9v (by rfl) ?_
  refine v7v rfl ?_
  refine w9w rfl ?_
  refine c6z 0 b0 256 259 (bs) (ps.map (a1l c)) rfl hbl rfl ?_
  refine b1m ?_
  refine ⟨.inr rfl, [γ 0], rfl, ?_, HE.same rfl HE.nil⟩
  exact congrArg (fun v : Nat => some [AV.pv (.int .i64 (v : Int))]) (h3.trans (by rw [d0g hp he heq]; rfl)).symm
 try simp at hc5
 try have heq : p.ev = e := by simpa [a2j] using hc5
 refine b5n ?_
 refine hK2 _ _ ?_
 clear hK2 K2
 refine a5b fun K6 hK6 => ?_
 refine a8u ?_
 refine a2k v9v (by rfl) ?_
 refine v7v rfl ?_
 refine x8x (b := 1) rfl rfl (by omega) ?_
 refine w9w rfl ?_
 refine hK6 _ _ ?_
 clear hK6 K6
 refine a2k v9v (by rfl) ?_
 refine v7v rfl ?_
 refine d2m rfl ?_
 refine a7f v9v rfl d4f rfl rfl a5n rfl ?_
 refine d4q v9v (out := .pv (b4g bs[i + 1]?)) 0 rfl a5n rfl (e0b hbl hb (c7w hp)) rfl ?_
 refine w9w rfl ?_
 exact ⟨i + 1, ⟨⟨by omega, by omega, by rw [h3, d0f hp he heq]; omega⟩, by omega⟩, [], (y0y 5 rfl (y0y 6 rfl Cov.nil)), (y0y 1 rfl Cov.nil), HE.nil, (p6p 0 rfl HE.nil), rfl⟩
end
section
theorem b8j (c : Bool) (n : Nd) : a0g Tryz.prog 38 [.agg (u1u c n)] (.pv (.bool (kb (y3y n)))) := by
 refine pX Tryz.f38 [.pv (.bool (kb (y3y n)))] 8 ?_
 have hpl := a5f n.id 4
 refine dv 1 ?_
 refine x9x (id := 0) rfl rfl rfl (dv 4 fun K K' => ?_)
 refine x0x rfl rfl rfl (c4p ..) (dc 1 (aI ?_ ?_))<;>intro hc2<;>try simp at hc2
 ·try have hX : ¬ a1i n := a0w (by simpa using hc2)
  refine dv 3 ?_
  refine x2x rfl ?_ rfl
  exact congrArg (fun b : Bool => [AV.pv (.bool b)]) (a4v (fun h => hX h.1))
 have fS : a1i n := a0o.1 (by simpa using hc2)
 have fB := w2w fS
 have fL := fS.2.2.2.2.1
 have fV := fS.2.2.2.2.2.1
 refine dv 3 ?_
 refine rlM [1, 2, 3, 4, 5] [_, _, _, _, _] (b1l c n (by omega) (by omega) fS.2.2.2.2.2.2.1) rfl rfl rfl ?_
 refine dv 5 fun K K' => ?_
 refine x0x rfl rfl rfl (a5y ..) (dv 3 ?_)
 refine x6x (ι := Nat) (fun j γ1 => [(16, pI (j : Int))]) (fun j γ1 => [(6, ((γ1 6), .dead)), (7, ((γ1 7), .dead))]) (fun j => j ≤ (p8p n.id 4).length ∧ c8t n.lanes (fun j l => ∀ p, (p8p n.id 4)[j]? = some p → l.done.length ≤ same l.done (a0i n p) ∧ (a0i n p).length ≤ 100) j) (fun j => (p8p n.id 4).length - j) (r7r [3, 14, 15] rfl) (a1m [0, 1, 2, 3, 4, 5] rfl) 0 ⟨by omega, a1f⟩ [0, 0, 0, 0, 0, 0, _, _] x7x x5x rfl fun j γ1 hi => ?_
 obtain ⟨d1, d2⟩ := hi
 refine dc 3 (fun K K' => aS ?_ ?_)<;>intro o<;>try simp at o
 ·have fC := fun (i : Nat) p l (a : (p8p n.id 4)[i]? = some p) (b : n.lanes[i]? = some l) => a2x d2 (by omega) i l b p a
  refine dv 4 ?_
  refine x2x rfl ?_ rfl
  exact congrArg (fun b : Bool => [AV.pv (.bool b)]) (e3w ⟨fS, fC⟩)
 obtain ⟨l, hl⟩ := gE n.lanes j
 obtain ⟨p, hp⟩ := gE (p8p n.id 4) j
 obtain ⟨hdl, _⟩ := a2s (fS.2.2.2.2.2.2.2.1 j l hl).2
 refine dv 12 fun K K' => ?_
 refine rlM [1, 2, 3, 4, 5, 6] [_, _, _, _, _, _] (b1w c n p (b0f fS) (by omega) fS.2.2.2.2.2.1) rfl rfl rfl ?_
 refine dv 1 ?_
 refine s7s 6 rfl rfl (fun _ => rfl) ?_
 refine dc 5 (aS ?_ ?_)<;>intro o<;>try simp at o
 ·refine dv 23 ?_
  refine x2x rfl ?_ rfl
  exact congrArg (fun b : Bool => [AV.pv (.bool b)]) (a4v (fun h => by have := h.2 _ _ _ hp hl; omega))
 refine dv 5 ?_
 refine z1z (j := j) rfl rfl c1i rfl a8l rfl rfl (z3z hl) ?_
 refine dv 1 ?_
 refine rlM [7] [_] (b5e c l.done) rfl rfl rfl ?_
 refine dv 1 ?_
 refine rlM [7] [_] (a6q c true l.done (a0i n p)) rfl rfl rfl ?_
 refine dv 5 ?_
 refine z1z (j := j) rfl rfl c1i rfl a8l rfl rfl (z3z hl) ?_
 refine dc 4 (aS ?_ ?_)<;>intro o<;>try simp at o
 ·refine dv 2 ?_
  refine x8x (b := 1) rfl rfl (by omega) (dv 1 ?_)
  exact ⟨j + 1, ⟨⟨by omega, s0s d2 hl (fun p2 hp2 => by rw [hp] at hp2; cases hp2; omega)⟩, by omega⟩, [0, 0, 0, 0, 0, 0, _, _], x7x, x7x, x5x, x5x, rfl⟩
 refine dv 3 ?_
 refine x2x rfl ?_ rfl
 exact congrArg (fun b : Bool => [AV.pv (.bool b)]) (a4v (fun h => by have := h.2 _ _ _ hp hl; omega))
end
section
theorem c3s (c : Bool) (p : Pa) (hs : p.sends.length ≤ 1048576) (ho : p.outs.length ≤ 1048576) : Meth Tryz.prog 222 2 [] [.agg (a1l c p)] [(0, (0, .dead)), (1, (0, .dead))] (.agg [pI p.ev.time, pI p.ev.to, pI p.ev.from', pI p.ev.count, pI p.ev.n, pI p.ev.kind, pI p.ev.arg, pI p.after.x, pI p.after.y, pI p.after.count, .ref 0 0, .ref 1 0]) [(0, (0, .row 56 7 (p.sends.map z2z))), (1, (0, .row 141 5 (p.outs.map p9p)))] := by
 refine mX Tryz.f222 [.agg [pI p.ev.time, pI p.ev.to, pI p.ev.from', pI p.ev.count, pI p.ev.n, pI p.ev.kind, pI p.ev.arg, pI p.after.x, pI p.after.y, pI p.after.count, .ref 0 0, .ref 1 0]] 2 2 fun γ => ?_
 refine dv 1 ?_
 refine x9x (id := 2) rfl rfl rfl (x3x (id := 3) a4h b9y rfl (dv 3 ?_))
 refine rlM [0] [_] (w8w c p.sends (by omega)) rfl rfl rfl ?_
 refine dv 5 ?_
 refine rlM [1] [_] (a1k c p.outs (by omega)) rfl rfl rfl ?_
 refine dv 6 ?_
 exact ⟨[_, _], rfl, rfl, x5x⟩
theorem a9n (c : Bool) (l : List Pa) (hl : e9q l ≤ 1048576) : Meth Tryz.prog 221 1 [] [b1p c l, .fn (.func 222) [] []] [(0, (0, .dead))] (.ref 0 0) [(0, (0, .row 58 12 (l.map b7w)))] := by
 refine mX Tryz.f221 [.ref 0 0] 1 3 fun γ => ?_
 have hc : e9q l = l.length + szs cPa l := rfl
 refine u2u 0 rfl fun hlen => ?_
 refine dc 7 (fun K K' => aI ?_ ?_)<;>intro hc2<;>try simp at hc2
 ·obtain rfl : l = [] := List.eq_nil_of_length_eq_zero (by simpa using hc2)
  refine dv 2 ?_
  refine a6h 4 0 58 12 rfl rfl (dv 1 ?_)
  exact ⟨[_], rfl, rfl, x5x⟩
 refine dv 4 ?_
 refine c1o (id := 0) a8l rfl a4h b9y rfl rfl rfl rfl (by (simp only [s2s, r5r, s1s, s3s, a0l, a2z, T58]; omega)) rfl ?_
 refine dv 7 fun K K' => ?_
 refine x6x (ι := Nat) (fun i γ1 => [(16, pI (i : Int))]) (fun i γ1 => [(2, ((γ1 2), .dead)), (3, ((γ1 3), .dead)), (0, ((γ 0 + 1), .row 58 12 ((l.take i).map b7w ++ (l.drop i).map fun _ => [pI 0, pI 0, pI 0, pI 0, pI 0, pI 0, pI 0, pI 0, pI 0, pI 0, .pv (.slice none 0 0), .pv (.slice none 0 0)]))), (1, ((γ1 1), .dead))]) (fun i => i ≤ l.length) (fun i => l.length - i) (r7r [1, 5, 14, 15] rfl) HE.nil 0 (by omega) [0, _, _, _] x7x (HE.kill rfl (HE.kill rfl (HE.row rfl (by rw [List.take_zero, List.drop_zero, List.map_const']; rfl) (HE.kill rfl HE.nil)))) rfl fun i γ1 hi => ?_
 refine dc 3 (fun K K' => aS ?_ ?_)<;>intro h<;>try simp at h
 ·obtain rfl : i = l.length := by omega
  refine dv 5 ?_
  exact ⟨[_], rfl, rfl, HE.row rfl (by rw [List.take_length, List.drop_length, List.map_nil, List.append_nil]) HE.nil⟩
 obtain ⟨p, hp⟩ := gE l i
 have hAl : ((l.take i).map b7w).length = i := by rw [List.length_map, List.length_take]; omega
 rw [p1p hp, List.map_cons]
 have hat := e0q cPa hp
 have hcp : cPa p = p.sends.length + p.outs.length := rfl
 refine dv 7 fun K K' => ?_
 refine x3x (id := 1) a4h b9y rfl (dv 7 ?_)
 refine rlM [2, 3] [_, _] (c3s c p (by omega) (by omega)) rfl rfl rfl ?_
 refine b2l rfl rfl a8l rfl a4h rfl rfl hAl (a9x hAl rfl rfl a4h rfl rfl rfl rfl (f3h rfl rfl rfl) rfl ?_)
 refine dv 1 ?_
 refine v0v rfl rfl rfl (dv 1 ?_)
 exact ⟨i + 1, ⟨by omega, by omega⟩, [0, _, _, _], (Cov.cons' (t := 16) rfl (by rw [y4y (by omega) (by omega)]; rfl) Cov.nil), x7x, (HE.kill rfl (HE.kill rfl (HE.row rfl (by rw [z5z hp, List.map_append, List.append_assoc]; rfl) (HE.kill rfl HE.nil)))), x5x, rfl⟩
theorem c3t (c : Bool) (p : La) (hs : e9q p.done ≤ 1048576) : Meth Tryz.prog 115 1 [] [.agg (q2q c p)] [(0, (0, .dead))] (.agg [pI p.proc, pI p.base.x, pI p.base.y, pI p.base.count, .ref 0 0]) [(0, (0, .row 58 12 (p.done.map b7w)))] := by
 refine mX Tryz.f115 [.agg [pI p.proc, pI p.base.x, pI p.base.y, pI p.base.count, .ref 0 0]] 1 2 fun γ => ?_
 refine dv 1 ?_
 refine x9x (id := 1) rfl rfl rfl (x3x (id := 2) a0c a6u rfl (dv 3 ?_))
 refine rlM [0] [_] (a9n c p.done hs) rfl rfl rfl ?_
 refine dv 6 ?_
 exact ⟨[_], rfl, rfl, x5x⟩
theorem a9o (c : Bool) (l : List La) (hl : e9r l ≤ 1048576) : Meth Tryz.prog 244 1 [] [b8l c l, .fn (.func 115) [] []] [(0, (0, .dead))] (.ref 0 0) [(0, (0, .row 44 5 (l.map b4q)))] := by
 refine mX Tryz.f244 [.ref 0 0] 1 2 fun γ => ?_
 have hc : e9r l = l.length + szs cLa l := rfl
 refine u2u 0 rfl fun hlen => ?_
 refine dc 7 (fun K K' => aI ?_ ?_)<;>intro hc2<;>try simp at hc2
 ·obtain rfl : l = [] := List.eq_nil_of_length_eq_zero (by simpa using hc2)
  refine dv 2 ?_
  refine a6h 4 0 44 5 rfl rfl (dv 1 ?_)
  exact ⟨[_], rfl, rfl, x5x⟩
 refine dv 4 ?_
 refine c1o (id := 0) a7t rfl a0c a6u rfl rfl rfl rfl (by (simp only [s2s, r5r, s1s, s3s, a0l, a2z, T44]; omega)) rfl ?_
 refine dv 7 fun K K' => ?_
 refine x6x (ι := Nat) (fun i γ1 => [(16, pI (i : Int))]) (fun i γ1 => [(2, ((γ1 2), .dead)), (0, ((γ 0 + 1), .row 44 5 ((l.take i).map b4q ++ (l.drop i).map fun _ => [pI 0, pI 0, pI 0, pI 0, .pv (.slice none 0 0)]))), (1, ((γ1 1), .dead))]) (fun i => i ≤ l.length) (fun i => l.length - i) (r7r [1, 5, 14, 15] rfl) HE.nil 0 (by omega) [0, _, _] x7x (HE.kill rfl (HE.row rfl (by rw [List.take_zero, List.drop_zero, List.map_const']; rfl) (HE.kill rfl HE.nil))) rfl fun i γ1 hi => ?_
 refine dc 3 (fun K K' => aS ?_ ?_)<;>intro h<;>try simp at h
 ·obtain rfl : i = l.length := by omega
  refine dv 5 ?_
  exact ⟨[_], rfl, rfl, HE.row rfl (by rw [List.take_length, List.drop_length, List.map_nil, List.append_nil]) HE.nil⟩
 obtain ⟨p, hp⟩ := gE l i
 have hAl : ((l.take i).map b4q).length = i := by rw [List.length_map, List.length_take]; omega
 rw [p1p hp, List.map_cons]
 have hat := e0q cLa hp
 have hcp : cLa p = e9q p.done := rfl
 refine dv 7 fun K K' => ?_
 refine x3x (id := 1) a0c a6u rfl (dv 7 ?_)
 refine rlM [2] [_] (c3t c p (by omega)) rfl rfl rfl ?_
 refine b2l rfl rfl a7t rfl a0c rfl rfl hAl (a9x hAl rfl rfl a0c rfl rfl rfl rfl (f3i rfl) rfl ?_)
 refine dv 1 ?_
 refine v0v rfl rfl rfl (dv 1 ?_)
 exact ⟨i + 1, ⟨by omega, by omega⟩, [0, _, _], (Cov.cons' (t := 16) rfl (by rw [y4y (by omega) (by omega)]; rfl) Cov.nil), x7x, (HE.kill rfl (HE.row rfl (by rw [z5z hp, List.map_append, List.append_assoc]; rfl) (HE.kill rfl HE.nil))), x5x, rfl⟩
theorem c3u (c : Bool) (p : Vi) (hs : p.events.length ≤ 1048576) : Meth Tryz.prog 247 1 [] [.agg (a3g c p)] [(0, (0, .dead))] (.agg [pI p.inc, pI p.version, .ref 0 0]) [(0, (0, .row 56 7 (p.events.map z2z)))] := by
 refine mX Tryz.f247 [.agg [pI p.inc, pI p.version, .ref 0 0]] 1 2 fun γ => ?_
 refine dv 1 ?_
 refine x9x (id := 1) rfl rfl rfl (x3x (id := 2) r8r a6e rfl (dv 3 ?_))
 refine rlM [0] [_] (w8w c p.events (by omega)) rfl rfl rfl ?_
 refine dv 6 ?_
 exact ⟨[_], rfl, rfl, x5x⟩
theorem a9p (c : Bool) (l : List Vi) (hl : e9s l ≤ 1048576) : Meth Tryz.prog 246 1 [] [b9w c l, .fn (.func 247) [] []] [(0, (0, .dead))] (.ref 0 0) [(0, (0, .row 190 3 (l.map b4r)))] := by
 refine mX Tryz.f246 [.ref 0 0] 1 2 fun γ => ?_
 have hc : e9s l = l.length + szs cVi l := rfl
 refine u2u 0 rfl fun hlen => ?_
 refine dc 7 (fun K K' => aI ?_ ?_)<;>intro hc2<;>try simp at hc2
 ·obtain rfl : l = [] := List.eq_nil_of_length_eq_zero (by simpa using hc2)
  refine dv 2 ?_
  refine a6h 4 0 190 3 rfl rfl (dv 1 ?_)
  exact ⟨[_], rfl, rfl, x5x⟩
 refine dv 4 ?_
 refine c1o (id := 0) a9w rfl r8r a6e rfl rfl rfl rfl (by (simp only [s2s, r5r, s1s, s3s, a0l, a2z, T190]; omega)) rfl ?_
 refine dv 7 fun K K' => ?_
 refine x6x (ι := Nat) (fun i γ1 => [(16, pI (i : Int))]) (fun i γ1 => [(2, ((γ1 2), .dead)), (0, ((γ 0 + 1), .row 190 3 ((l.take i).map b4r ++ (l.drop i).map fun _ => [pI 0, pI 0, .pv (.slice none 0 0)]))), (1, ((γ1 1), .dead))]) (fun i => i ≤ l.length) (fun i => l.length - i) (r7r [1, 5, 14, 15] rfl) HE.nil 0 (by omega) [0, _, _] x7x (HE.kill rfl (HE.row rfl (by rw [List.take_zero, List.drop_zero, List.map_const']; rfl) (HE.kill rfl HE.nil))) rfl fun i γ1 hi => ?_
 refine dc 3 (fun K K' => aS ?_ ?_)<;>intro h<;>try simp at h
 ·obtain rfl : i = l.length := by omega
  refine dv 5 ?_
  exact ⟨[_], rfl, rfl, HE.row rfl (by rw [List.take_length, List.drop_length, List.map_nil, List.append_nil]) HE.nil⟩
 obtain ⟨p, hp⟩ := gE l i
 have hAl : ((l.take i).map b4r).length = i := by rw [List.length_map, List.length_take]; omega
 rw [p1p hp, List.map_cons]
 have hat := e0q cVi hp
 have hcp : cVi p = p.events.length := rfl
 refine dv 7 fun K K' => ?_
 refine x3x (id := 1) r8r a6e rfl (dv 7 ?_)
 refine rlM [2] [_] (c3u c p (by omega)) rfl rfl rfl ?_
 refine b2l rfl rfl a9w rfl r8r rfl rfl hAl (a9x hAl rfl rfl r8r rfl rfl rfl rfl (f3j rfl) rfl ?_)
 refine dv 1 ?_
 refine v0v rfl rfl rfl (dv 1 ?_)
 exact ⟨i + 1, ⟨by omega, by omega⟩, [0, _, _], (Cov.cons' (t := 16) rfl (by rw [y4y (by omega) (by omega)]; rfl) Cov.nil), x7x, (HE.kill rfl (HE.row rfl (by rw [z5z hp, List.map_append, List.append_assoc]; rfl) (HE.kill rfl HE.nil))), x5x, rfl⟩
theorem c3v (c : Bool) (n : Nd) (hl : cNd n ≤ 1048576) : Meth Tryz.prog 156 5 [] [.agg (u1u c n)] [(0, (0, .dead)), (1, (0, .dead)), (2, (0, .dead)), (3, (0, .dead)), (4, (0, .dead))] (.agg [pI n.id, .pv (.bool n.up), pI n.inc, pI n.g, .ref 0 0, .ref 1 0, .ref 2 0, pI n.led, pI n.version, .ref 3 0, .ref 4 0, pI n.round, pI n.low]) [(0, (0, .row 44 5 (n.lanes.map b4q))), (1, (0, .row 56 7 (n.kept.map z2z))), (2, (0, .row 141 5 (n.outs.map p9p))), (3, (0, .row 190 3 (n.views.map b4r))), (4, (0, .row 3 1 (n.known.map a3u)))] := by
 refine mX Tryz.f156 [.agg [pI n.id, .pv (.bool n.up), pI n.inc, pI n.g, .ref 0 0, .ref 1 0, .ref 2 0, pI n.led, pI n.version, .ref 3 0, .ref 4 0, pI n.round, pI n.low]] 5 2 fun γ => ?_
 have hc : cNd n = e9r n.lanes + n.kept.length + n.outs.length + e9s n.views + n.known.length := rfl
 refine dv 1 ?_
 refine x9x (id := 5) rfl rfl rfl (x3x (id := 6) u3u p5p rfl (dv 3 ?_))
 refine rlM [0] [_] (a9o c n.lanes (by omega)) rfl rfl rfl ?_
 refine dv 5 ?_
 refine rlM [1] [_] (w8w c n.kept (by omega)) rfl rfl rfl ?_
 refine dv 5 ?_
 refine rlM [2] [_] (a1k c n.outs (by omega)) rfl rfl rfl ?_
 refine dv 5 ?_
 refine rlM [3] [_] (a9p c n.views (by omega)) rfl rfl rfl ?_
 refine dv 5 ?_
 refine rlM [4] [_] (b2d c n.known (by omega)) rfl rfl rfl ?_
 refine dv 6 ?_
 exact ⟨[_, _, _, _, _], rfl, rfl, x5x⟩
end
section
theorem b8k (c : Bool) (n : Nd) (es : List (Value × AV)) (hes : ∀ p ∈ es, p.2.flatA = true) (i : Nat) (l : La) (hl : n.lanes[i]? = some l) (hp : (p8p n.id 4)[i]? = some l.proc) : Meth Tryz.prog 242 5 [0, 1, 2, 3, 4] [.ptr 4 0 0, .pv (.int .i64 (i : Int))] [(0, (0, .row 41 3 ((n.lanes).map fun l => a0s l.base))), (1, (0, .row 42 1 ((n.lanes).map fun l => [b1p c l.done]))), (2, (0, .map es)), (3, (0, .row 3 1 (n.known.map a3u))), (4, (0, .box 164 [pI n.id, pI n.inc, pI n.g, pI n.led, .ref 0 0, a0t c n.kept, r9r c n.outs, .pv (.bool n.up), .ref 1 0, pI n.version, .mp 2 0, .ref 3 0, pI n.round, pI n.low]))] (.agg (q2q c l)) [] := by
 refine a0q v9v (fn := Tryz.f242) (by kernel_rfl) (by kernel_rfl) rfl (O0 := [.agg (q2q c l)]) 5 1 (s8s rfl) (by rfl) (by repeat (first | exact BndH.nil | refine BndH.box rfl ?_ | refine BndH.row (p7p fun _ => rfl) ?_ | refine BndH.map hes ?_ )) (by repeat (exact BndH.nil )) (by rfl) fun γ => ?_
 show Ex Tryz.prog _ _ [(0, .ptr 4 (γ 4) 0), (1, .pv (.int .i64 (i : Int)))] [(0, ((γ 0), .row 41 3 ((n.lanes).map fun l => a0s l.base))), (1, ((γ 1), .row 42 1 ((n.lanes).map fun l => [b1p c l.done]))), (2, ((γ 2), .map es)), (3, ((γ 3), .row 3 1 (n.known.map a3u))), (4, ((γ 4), .box 164 [pI n.id, pI n.inc, pI n.g, pI n.led, .ref 0 (γ 0), a0t c n.kept, r9r c n.outs, .pv (.bool n.up), .ref 1 (γ 1), pI n.version, .mp 2 (γ 2), .ref 3 (γ 3), pI n.round, pI n.low])), (5, (0, .dead))] _
 refine dv 1 ?_
 refine x3x (id := 5) a0c a6u rfl (dv 6 ?_)
 refine x0x rfl rfl rfl (a5y ..) (dv 9 ?_)
 refine z1z (j := i) rfl rfl d4c rfl a4s rfl rfl (z3z hl) ?_
 refine dv 6 ?_
 refine z1z (j := i) rfl rfl c1i rfl a8l rfl rfl (z3z hl) ?_
 refine dv 1 ?_
 refine rlB a0c a6u ?_
 refine dv 2 ?_
 exact ⟨[γ 0, γ 1, γ 2, γ 3, γ 4], rfl, rfl, x5x⟩
end
section
theorem c3w (c c' : Bool) (l : La) (s : List Ev) : a0g Tryz.prog 150 [.agg (q2q c l), a0t c' s] (.tup [.agg (z2z (a2n l s).1), .pv (.bool (a2n l s).2)]) := by
 refine pX Tryz.f150 [.agg (z2z (a2n l s).1), .pv (.bool (a2n l s).2)] 3 ?_
 refine u2u 1 rfl fun hlen => ?_
 have hsm := c0p l.done s
 refine dv 1 ?_
 refine x9x (id := 0) rfl rfl rfl (x3x (id := 1) z4z a6v rfl (dv 4 ?_))
 refine rlM [2] [_] (b5e c l.done) rfl rfl rfl ?_
 refine dv 1 ?_
 refine rlM [2] [_] (a6q c c' l.done s) rfl rfl rfl ?_
 refine dc 9 (fun K K' => aS ?_ ?_)<;>intro h<;>try simp at h
 ·refine dv 6 ?_
  refine rlB z4z a6v ?_
  refine dv 3 ?_
  (rw [e0z (by omega)]; exact ⟨_, _, rfl, .agg rfl (.cl rfl (.cl rfl (.cl rfl (.cl rfl (.cl rfl (.cl rfl (.cl rfl .nil))))))) (.cl rfl .nil)⟩)
 refine dc 5 (aI ?_ ?_)<;>intro h<;>try simp at h
 ·refine dv 1 ?_
  refine rlB z4z a6v ?_
  refine dv 3 ?_
  (rw [e1a (by omega)]; exact ⟨_, _, rfl, .agg rfl (.cl rfl (.cl rfl (.cl rfl (.cl rfl (.cl rfl (.cl rfl (.cl rfl .nil))))))) (.cl rfl .nil)⟩)
 have hlt : same l.done s < s.length := by omega
 obtain ⟨e, he⟩ : ∃ e, s[same l.done s]? = some e := ⟨_, List.getElem?_eq_getElem hlt⟩
 refine dv 5 ?_
 refine u4u (out := .agg (z2z e)) rfl z4z rfl ?_
 refine dv 3 ?_
 (rw [e1b (by omega) he]; exact ⟨_, _, rfl, .agg rfl (.cl rfl (.cl rfl (.cl rfl (.cl rfl (.cl rfl (.cl rfl (.cl rfl .nil))))))) (.cl rfl .nil)⟩)
end
section
theorem b3p (c : Bool) (n : Nd) (fK : y3y n) : Meth Tryz.prog 142 5 [0, 1, 2, 3, 4] [.ptr 4 0 0] [(0, (0, .row 41 3 ((n.lanes).map fun l => a0s l.base))), (1, (0, .row 42 1 ((n.lanes).map fun l => [b1p c l.done]))), (2, (0, .map (c4a c n.views))), (3, (0, .row 3 1 (n.known.map a3u))), (4, (0, .box 164 [pI n.id, pI n.inc, pI n.g, pI n.led, .ref 0 0, a0t c n.kept, r9r c n.outs, .pv (.bool n.up), .ref 1 0, pI n.version, .mp 2 0, .ref 3 0, pI n.round, pI n.low]))] (.pv (.int .i64 (e7u n))) [] := by
 refine a0q v9v (fn := Tryz.f142) (by kernel_rfl) (by kernel_rfl) rfl (O0 := [.pv (.int .i64 (e7u n))]) 5 3 (s8s rfl) (by rfl) (by repeat (first | exact BndH.nil | refine BndH.box rfl ?_ | refine BndH.row (p7p fun _ => rfl) ?_ | refine BndH.map (a8f _ _) ?_ )) (by repeat (exact BndH.nil )) (by rfl) fun γ => ?_
 show Ex Tryz.prog _ _ [(0, .ptr 4 (γ 4) 0)] [(0, ((γ 0), .row 41 3 ((n.lanes).map fun l => a0s l.base))), (1, ((γ 1), .row 42 1 ((n.lanes).map fun l => [b1p c l.done]))), (2, ((γ 2), .map (c4a c n.views))), (3, ((γ 3), .row 3 1 (n.known.map a3u))), (4, ((γ 4), .box 164 [pI n.id, pI n.inc, pI n.g, pI n.led, .ref 0 (γ 0), a0t c n.kept, r9r c n.outs, .pv (.bool n.up), .ref 1 (γ 1), pI n.version, .mp 2 (γ 2), .ref 3 (γ 3), pI n.round, pI n.low])), (7, (0, .dead)), (6, (0, .dead)), (5, (0, .dead))] _
 have fS := fK.1
 have fB := w2w fS
 have fL := fS.2.2.2.2.1
 refine dv 11 fun K K' => ?_
 refine x0x rfl rfl rfl (a5y ..) (dv 3 ?_)
 refine x6x (ι := Nat) (fun i γ1 => [(3, pI (a8o n i)), (15, pI (i : Int))]) (fun i γ1 => [(6, ((γ1 6), .dead)), (5, ((γ1 5), .dead))]) (fun i => i ≤ n.lanes.length) (fun i => n.lanes.length - i) (r7r [0, 13, 14] rfl) (a1m [0, 1, 2, 3, 4, 7] rfl) 0 (by omega) [0, 0, 0, 0, 0, _, _] x7x x5x rfl fun i γ1 hi => ?_
 refine dc 3 (fun K K' => aS ?_ ?_)<;>intro j<;>try simp at j
 ·obtain rfl : i = n.lanes.length := by omega
  refine dv 5 ?_
  exact ⟨[γ 0, γ 1, γ 2, γ 3, γ 4], rfl, rfl, x5x⟩
 obtain ⟨l, hl⟩ := gE n.lanes i
 have hnc := b7s fK hl
 refine dv 5 fun K K' => ?_
 refine b0t rfl rfl s4s rfl r1r rfl hnc.1 ?_
 refine dv 6 ?_
 refine rlM [0, 1, 2, 3, 4] [_, _, _, _, _] (b8k c n _ (a8f _ _) i l hl hnc.1) rfl rfl rfl ?_
 refine dv 2 ?_
 refine rlM [0, 1, 2, 3, 4, 6] [_, _, _, _, _, _] (b1w c n l.proc (b0f fS) (by omega) fS.2.2.2.2.2.1) rfl rfl rfl ?_
 refine b5s rfl rfl rfl (f5h rfl rfl (.ref rfl (Le.ow_map _ nf (fun _ => rfl)) .nil)) (c3w c false l (a0i n l.proc)) (.tup (a2v (.agg (d7h (evN _))) (a2v (.pv _) e7x))) ?_
 refine dv 3 ?_
 refine x3x (id := 5) z4z a6v rfl (dc 5 (aS ?_ ?_))<;>intro hg5<;>try simp at hg5
 ·have hno : ¬ ((a2n l (a0i n l.proc)).2 = true ∧ (a2n l (a0i n l.proc)).1.time < a8o n i) := fun h => by have := h.1; simp_all
  refine dv 7 ?_
  refine x8x (b := 1) rfl rfl (by omega) (dv 1 ?_)
  exact ⟨i + 1, ⟨by omega, by omega⟩, [0, 0, 0, 0, 0, _, _], (Cov.cons' (t := 3) rfl (congrArg (fun v : Int => AV.pv (.int .i64 v)) (c2j hl hno).symm) (y0y 15 rfl Cov.nil)), x7x, x5x, x5x, rfl⟩
 have h2 : (a2n l (a0i n l.proc)).2 = true := hg5
 refine dc 5 (aS ?_ ?_)<;>intro j<;>try simp at j
 ·have hno : ¬ ((a2n l (a0i n l.proc)).2 = true ∧ (a2n l (a0i n l.proc)).1.time < a8o n i) := by (intro h; omega)
  refine dv 2 ?_
  refine x8x (b := 1) rfl rfl (by omega) (dv 1 ?_)
  exact ⟨i + 1, ⟨by omega, by omega⟩, [0, 0, 0, 0, 0, _, _], (Cov.cons' (t := 3) rfl (congrArg (fun v : Int => AV.pv (.int .i64 v)) (c2j hl hno).symm) (y0y 15 rfl Cov.nil)), x7x, x5x, x5x, rfl⟩
 have h3 : (a2n l (a0i n l.proc)).1.time < a8o n i := by omega
 refine dv 5 ?_
 refine x8x (b := 1) rfl rfl (by omega) (dv 1 ?_)
 exact ⟨i + 1, ⟨by omega, by omega⟩, [0, 0, 0, 0, 0, _, _], (Cov.cons' (t := 3) rfl (congrArg (fun v : Int => AV.pv (.int .i64 v)) (d2t hl ⟨h2, h3⟩).symm) (y0y 15 rfl Cov.nil)), x7x, x5x, x5x, rfl⟩
end
section
theorem c5d (c : Bool) (n : Nd) : a0g Tryz.prog 45 [.agg (u1u c n)] (.pv (.int .i64 (b0w n))) := by
 refine pX Tryz.f45 [.pv (.int .i64 (b0w n))] 6 ?_
 refine dv 1 ?_
 refine x9x (id := 0) rfl rfl rfl (dv 4 fun K K' => ?_)
 refine x0x rfl rfl rfl (b8j c n) (dc 1 (aI ?_ ?_))<;>intro hc2<;>try simp at hc2
 ·have fX : ¬ y3y n := a0w (by simpa using hc2)
  refine dv 3 ?_
  refine x2x rfl ?_ rfl
  exact congrArg (fun v : Int => [AV.pv (.int .i64 v)]) (d0n fX).symm
 have fK : y3y n := a0o.1 (by simpa using hc2)
 have fS := fK.1
 have fB := w2w fS
 have fV := fS.2.2.2.2.2.1
 refine dv 3 ?_
 refine rlM [1, 2, 3, 4, 5] [_, _, _, _, _] (b1l c n (by omega) (by omega) fS.2.2.2.2.2.2.1) rfl rfl rfl ?_
 refine rlM [1, 2, 3, 4, 5] [_, _, _, _, _] (b3p c n fK) rfl rfl rfl ?_
 refine dv 2 ?_
 refine x2x rfl ?_ rfl
 exact congrArg (fun v : Int => [AV.pv (.int .i64 v)]) (b2t fK).symm
end
section
theorem c8s (c c' : Bool) (a b : Wo) : a0g Tryz.prog 63 [.agg (u9u c a), .agg (u9u c' b)] (.pv (.bool (decide (a = b)))) := by
 refine pX Tryz.f63 [.pv (.bool (decide (a = b)))] 2 ?_
 refine dv 1 ?_
 refine x9x (id := 0) rfl rfl rfl (x9x (id := 1) rfl rfl rfl (dc 8 (aS ?_ ?_)))<;>intro j<;>try simp at j
 ·refine dv 70 ?_
  refine x2x rfl ?_ rfl
  repeat clear K' K
  exact kF (by intro h; subst h; simp_all)
 refine dc 7 (aS ?_ ?_)<;>intro j<;>try simp at j
 ·refine dv 63 ?_
  refine x2x rfl ?_ rfl
  repeat clear K' K
  exact kF (by intro h; subst h; simp_all)
 refine dc 7 (aS ?_ ?_)<;>intro j<;>try simp at j
 ·refine dv 56 ?_
  refine x2x rfl ?_ rfl
  repeat clear K' K
  exact kF (by intro h; subst h; simp_all)
 refine dc 7 (aS ?_ ?_)<;>intro j<;>try simp at j
 ·refine dv 49 ?_
  refine x2x rfl ?_ rfl
  repeat clear K' K
  exact kF (by intro h; subst h; simp_all)
 refine dc 7 (aS ?_ ?_)<;>intro j<;>try simp at j
 ·refine dv 42 ?_
  refine x2x rfl ?_ rfl
  repeat clear K' K
  exact kF (by intro h; subst h; simp_all)
 refine dc 7 (aS ?_ ?_)<;>intro j<;>try simp at j
 ·refine dv 35 ?_
  refine x2x rfl ?_ rfl
  repeat clear K' K
  exact kF (by intro h; subst h; simp_all)
 refine dc 7 (aS ?_ ?_)<;>intro j<;>try simp at j
 ·refine dv 28 ?_
  refine x2x rfl ?_ rfl
  repeat clear K' K
  exact kF (by intro h; subst h; simp_all)
 refine dv 4 ?_
 refine x0x rfl rfl rfl (b1j ..) (dc 2 (aS ?_ ?_))<;>intro j<;>try simp at j
 ·refine dv 21 ?_
  refine x2x rfl ?_ rfl
  repeat clear K' K
  exact kF (by intro h; subst h; simp_all)
 refine dv 4 ?_
 refine x0x rfl rfl rfl (b1j ..) (dc 2 (aS ?_ ?_))<;>intro j<;>try simp at j
 ·refine dv 14 ?_
  refine x2x rfl ?_ rfl
  repeat clear K' K
  exact kF (by intro h; subst h; simp_all)
 refine dv 4 ?_
 refine x0x rfl rfl rfl (a5k ..) (dc 2 (aS ?_ ?_))<;>intro j<;>try simp at j
 ·refine dv 7 ?_
  refine x2x rfl ?_ rfl
  repeat clear K' K
  exact kF (by intro h; subst h; simp_all)
 refine dv 4 ?_
 refine x0x rfl rfl rfl (b1k ..) (dv 3 ?_)
 refine x2x rfl ?_ rfl
 repeat clear K' K
 exact congrArg (fun b : Bool => [AV.pv (.bool b)]) (Bool.eq_iff_iff.2 ⟨fun h => decide_eq_true (by cases a; cases b; simp_all), fun h => by have := of_decide_eq_true h; subst this; simp⟩)
end
section
theorem b6m (i r g f t : Int) (l m : List Int) : Meth Tryz.prog 163 2 [0, 1] [.agg [pI i, pI r, pI g, .ref 0 0, .ref 1 0], .pv (.int .i64 f), .pv (.int .i64 t)] [(0, (0, .row 3 1 ((l).map a3u))), (1, (0, .row 3 1 ((m).map a3u)))] (.agg [pI 3, pI f, pI t, pI i, pI 0, pI r, pI g, .ref 0 0, .ref 1 0, .pv (.slice none 0 0), .pv (.slice none 0 0)]) [] := by
 refine mX Tryz.f163 [.agg [pI 3, pI f, pI t, pI i, pI 0, pI r, pI g, .ref 0 0, .ref 1 0, .pv (.slice none 0 0), .pv (.slice none 0 0)]] 2 2 fun γ => ?_
 refine dv 1 ?_
 refine x9x (id := 2) rfl rfl rfl (x3x (id := 3) v4v a4t rfl (dv 13 ?_))
 refine rlB v4v a4t ?_
 refine dv 2 ?_
 exact ⟨[γ 0, γ 1], rfl, rfl, x5x⟩
theorem a5t (c : Bool) (n : Nd) (r : Int) : Meth Tryz.prog 62 9 [] [.agg (u1u c n), .pv (.int .i64 r)] [(0, (0, .dead)), (1, (0, .dead)), (2, (0, .dead)), (3, (0, .dead)), (4, (0, .dead)), (5, (0, .dead)), (6, (0, .dead)), (7, (0, .dead)), (8, (0, .dead))] (.tup [.agg [pI (x4x n r).1.id, .pv (.bool (x4x n r).1.up), pI (x4x n r).1.inc, pI (x4x n r).1.g, .ref 0 0, .ref 1 0, .ref 2 0, pI (x4x n r).1.led, pI (x4x n r).1.version, .ref 3 0, .ref 4 0, pI (x4x n r).1.round, pI (x4x n r).1.low], .agg [pI (x4x n r).2.1.kind, pI (x4x n r).2.1.from', pI (x4x n r).2.1.to, pI (x4x n r).2.1.inc, pI (x4x n r).2.1.version, pI (x4x n r).2.1.round, pI (x4x n r).2.1.g, .ref 5 0, .ref 6 0, .ref 7 0, .ref 8 0], .pv (.bool ((x4x n r).2.2))]) [(0, (0, .row 44 5 ((x4x n r).1.lanes.map b4q))), (1, (0, .row 56 7 ((x4x n r).1.kept.map z2z))), (2, (0, .row 141 5 ((x4x n r).1.outs.map p9p))), (3, (0, .row 190 3 ((x4x n r).1.views.map b4r))), (4, (0, .row 3 1 ((x4x n r).1.known.map a3u))), (5, (0, .row 3 1 ((x4x n r).2.1.incs.map a3u))), (6, (0, .row 3 1 ((x4x n r).2.1.versions.map a3u))), (7, (0, .row 56 7 ((x4x n r).2.1.events.map z2z))), (8, (0, .row 141 5 ((x4x n r).2.1.outs.map p9p)))] := by
 refine mX Tryz.f62 [.agg [pI (x4x n r).1.id, .pv (.bool (x4x n r).1.up), pI (x4x n r).1.inc, pI (x4x n r).1.g, .ref 0 0, .ref 1 0, .ref 2 0, pI (x4x n r).1.led, pI (x4x n r).1.version, .ref 3 0, .ref 4 0, pI (x4x n r).1.round, pI (x4x n r).1.low], .agg [pI (x4x n r).2.1.kind, pI (x4x n r).2.1.from', pI (x4x n r).2.1.to, pI (x4x n r).2.1.inc, pI (x4x n r).2.1.version, pI (x4x n r).2.1.round, pI (x4x n r).2.1.g, .ref 5 0, .ref 6 0, .ref 7 0, .ref 8 0], .pv (.bool ((x4x n r).2.2))] 9 15 fun γ => ?_
 refine dv 1 ?_
 refine x9x (id := 9) rfl rfl rfl (x3x (id := 10) u3u p5p rfl (x3x (id := 11) v4v a4t rfl (dv 4 fun K K' => ?_)))
 refine x0x rfl rfl rfl (b8j ..) (dc 1 (aI ?_ ?_))<;>intro hc2<;>try simp at hc2
 ·have fX : ¬ y3y n := a0w (by simpa using hc2)
  refine dv 1 ?_
  refine rlB u3u p5p ?_
  refine rlB v4v a4t ?_
  refine dv 3 ?_
  (rw [c0q fX]; refine w1w 10 4 0 44 5 rfl rfl rfl rfl rfl ?_; refine w1w 10 5 1 56 7 rfl rfl rfl rfl rfl ?_; refine w1w 10 6 2 141 5 rfl rfl rfl rfl rfl ?_; refine w1w 10 9 3 190 3 rfl rfl rfl rfl rfl ?_; refine w1w 10 10 4 3 1 rfl rfl rfl rfl rfl ?_; refine w1w 11 7 5 3 1 rfl rfl rfl rfl rfl ?_; refine w1w 11 8 6 3 1 rfl rfl rfl rfl rfl ?_; refine w1w 11 9 7 56 7 rfl rfl rfl rfl rfl ?_; refine w1w 11 10 8 141 5 rfl rfl rfl rfl rfl ?_)
  refine dv 1 ?_
  exact ⟨[_, _, _, _, _, _, _, _, _], rfl, rfl, x5x⟩
 have fK : y3y n := a0o.1 (by simpa using hc2)
 have fS := fK.1
 have fB := w2w fS
 have fV := fS.2.2.2.2.2.1
 have fb := b7r fS
 refine dv 3 ?_
 refine rlM [0, 1, 2, 3, 4] [_, _, _, _, _] (c3v c n (by omega)) rfl rfl rfl ?_
 refine x3x (id := 12) u3u p5p rfl (dc 7 (fun K K' => aS ?_ ?_))<;>intro hg4<;>try simp at hg4
 ·have fU : ¬ (n.up = true ∧ n.round + 1 ≤ r ∧ r ≤ 9999) := fun h => by have := h.1; simp_all
  refine dv 9 ?_
  refine rlB v4v a4t ?_
  refine dv 3 ?_
  (rw [b0x fK fU]; refine w1w 11 7 5 3 1 rfl rfl rfl rfl rfl ?_; refine w1w 11 8 6 3 1 rfl rfl rfl rfl rfl ?_; refine w1w 11 9 7 56 7 rfl rfl rfl rfl rfl ?_; refine w1w 11 10 8 141 5 rfl rfl rfl rfl rfl ?_)
  refine dv 1 ?_
  exact ⟨[_, _, _, _, _, _, _, _, _], rfl, rfl, x5x⟩
 have fUp : n.up = true := hg4
 refine dv 3 ?_
 refine q9q (.int .i64 (n.round + 1)) rfl rfl rfl (a6i rfl rfl (by have := fS.1.2.2.2.2.2.1; omega) (by have := fS.1.2.2.2.2.2.1; omega)) ?_
 refine dv 0 ?_
 refine x0x rfl rfl rfl (u5u ..) (dc 2 (aI ?_ ?_))<;>intro j<;>try simp at j
 ·have fU : ¬ (n.up = true ∧ n.round + 1 ≤ r ∧ r ≤ 9999) := by (intro h; omega)
  refine dv 2 ?_
  refine rlB v4v a4t ?_
  refine dv 3 ?_
  (rw [b0x fK fU]; refine w1w 11 7 5 3 1 rfl rfl rfl rfl rfl ?_; refine w1w 11 8 6 3 1 rfl rfl rfl rfl rfl ?_; refine w1w 11 9 7 56 7 rfl rfl rfl rfl rfl ?_; refine w1w 11 10 8 141 5 rfl rfl rfl rfl rfl ?_)
  refine dv 1 ?_
  exact ⟨[_, _, _, _, _, _, _, _, _], rfl, rfl, x5x⟩
 have fU : n.up = true ∧ n.round + 1 ≤ r ∧ r ≤ 9999 := ⟨fUp, by omega⟩
 refine dv 13 ?_
 refine rlM [19, 20, 21, 22, 23] [_, _, _, _, _] (b1l c n (by omega) (by omega) fS.2.2.2.2.2.2.1) rfl rfl rfl ?_
 refine rlM [19, 20, 21, 22, 23] [_, _, _, _, _] (b3p c n fK) rfl rfl rfl ?_
 refine rlB e7b e7f ?_
 refine x3x (id := 13) e7b e7f rfl (dv 8 fun K K' => ?_)
 refine u2u 42 rfl fun hlen => ?_
 refine w1w 13 3 5 3 1 rfl rfl rfl rfl rfl (w1w 13 4 6 3 1 rfl rfl rfl rfl rfl ?_)
 refine x6x (ι := Nat) (fun i γ1 => [(44, pI (i : Int))]) (fun i γ1 => [(5, ((γ1 5), .row 3 1 (((n.views.take i).map Vi.inc).map a3u))), (6, ((γ1 6), .row 3 1 (((n.views.take i).map Vi.version).map a3u))), (13, ((0 + 1), .box 192 [pI n.inc, pI r, pI (e7u n), .ref 5 (γ1 5), .ref 6 (γ1 6)])), (14, ((γ1 14), .dead)), (15, ((γ1 15), .dead)), (16, ((γ1 16), .dead)), (17, ((γ1 17), .dead)), (18, ((γ1 18), .dead))]) (fun i => i ≤ n.views.length) (fun i => n.views.length - i) (r7r [2, 4, 5, 7, 8, 42, 43] rfl) (a1m [0, 1, 2, 3, 4, 7, 8, 9, 10, 11, 12, 19, 20, 21, 22, 23] rfl) 0 (by omega) [0, 0, 0, 0, 0, _, _, 0, 0, 0, 0, 0, 0, 0, _, _, _, _, _] x7x (HE.row rfl (by rw [List.take_zero]; rfl) (HE.row rfl (by rw [List.take_zero]; rfl) (HE.box rfl rfl (HE.kill rfl (HE.kill rfl (HE.kill rfl (HE.kill rfl (HE.kill rfl HE.nil)))))))) rfl fun i γ1 hi => ?_
 refine dc 3 (fun K K' => aS ?_ ?_)<;>intro j<;>try simp at j
 ·obtain rfl : i = n.views.length := by omega
  rw [List.take_length]
  refine dv 6 ?_
  refine rlM [5, 6] [_, _] (b6m n.inc r (e7u n) n.id 0 (n.views.map Vi.inc) (n.views.map Vi.version)) rfl rfl rfl ?_
  refine dv 3 ?_
  (rw [a7i fK fU]; refine w1w 11 9 7 56 7 rfl rfl rfl rfl rfl ?_; refine w1w 11 10 8 141 5 rfl rfl rfl rfl rfl ?_)
  refine dv 1 ?_
  exact ⟨[_, _, _, _, _, _, _, _, _], rfl, rfl, x5x⟩
 obtain ⟨v, hv⟩ := gE n.views i
 refine dv 6 fun K K' => ?_
 refine x3x (id := 14) r8r a6e rfl (dv 6 ?_)
 refine a6g (id := 15) s4s rfl r1r rfl rfl rfl rfl rfl ?_
 refine y7y (zs := ((n.views.take i).map Vi.inc ++ [v.inc]).map a3u) rfl rfl s4s rfl r1r rfl rfl rfl rfl (by rfl) (z8z _ _ _) (by (simp only [s2s, r5r, s1s, s3s, a0l, T3]; omega)) ?_
 refine dv 7 ?_
 refine a6g (id := 17) s4s rfl r1r rfl rfl rfl rfl rfl ?_
 refine y7y (zs := ((n.views.take i).map Vi.version ++ [v.version]).map a3u) rfl rfl s4s rfl r1r rfl rfl rfl rfl (by rfl) (z8z _ _ _) (by (simp only [s2s, r5r, s1s, s3s, a0l, T3]; omega)) ?_
 refine dv 3 ?_
 refine v0v rfl rfl rfl (dv 1 ?_)
 exact ⟨i + 1, ⟨by omega, by omega⟩, [0, 0, 0, 0, 0, _, _, 0, 0, 0, 0, 0, 0, 0, _, _, _, _, _], (Cov.cons' (t := 44) rfl (by rw [y4y (by omega) (by omega)]; rfl) Cov.nil), x7x, (HE.row rfl (by simp only [z5z hv, List.map_append, List.map_cons, List.map_nil]) (HE.row rfl (by simp only [z5z hv, List.map_append, List.map_cons, List.map_nil]) (HE.box rfl rfl (HE.kill rfl (HE.kill rfl (HE.kill rfl (HE.kill rfl (HE.kill rfl HE.nil)))))))), x5x, rfl⟩
end
section
variable {r : Int}
theorem d1p {m : Nd} (h : ¬ m.round + 1 ≤ r) : (x4x m r).2.2 = false := by
 by_cases k : y3y m
 ·rw [b0x k (fun q => h q.2.1)]
 ·rw [c0q k]
variable {n : Nd}
theorem c6a (h : y3y n) (k : (x4x n r).2.2 = true) : n.up = true ∧ n.round + 1 ≤ r ∧ r ≤ 9999 :=
 Classical.byContradiction fun q => by rw [b0x h q] at k; cases k
theorem d7t (h : y3y n) (k : (x4x n r).2.2 = false) : x4x n r = (n, wo0, false) :=
 b0x h fun q => by rw [a7i h q] at k; cases k
theorem d7u (h : y3y n) (k : (x4x n r).2.2 = true) : (x4x (x4x n r).1 r).2.2 = false ∧ (x4x (x4x n r).1 (r - 1)).2.2 = false ∧ b0a (x4x n r).1 n ∧ (x4x n r).1.lanes = n.lanes ∧ (x4x n r).1.views = n.views ∧ (x4x n r).2.1.g = b0w n ∧ (x4x n r).2.1.round = r ∧ (x4x n r).1.round = r := by
 have q := c6a h k
 have e : (x4x n r).1.round = r := by rw [a7i h q]
 refine ⟨d1p (by omega), d1p (by omega), ?_, ?_, ?_, ?_, ?_, e⟩
 ·rw [a7i h q]; exact ⟨rfl, rfl, rfl, rfl, rfl, rfl, rfl⟩
 ·rw [a7i h q]
 ·rw [a7i h q]
 ·rw [a7i h q, b2t h]; rfl
 ·rw [a7i h q]; rfl
end
section
theorem b6n (bs : List Nat) (hbs : ∀ b ∈ bs, b < 256)  : a0g Tryz.prog 10 [v5v true bs] (.pv (.bool (true))) := by
 refine pX Tryz.f10 [.pv (.bool (true))] 36 ?_
 refine dc 7 (fun K K' => aI ?_ ?_)<;>intro o<;>try simp at o
 ·refine dv 3 ?_
  refine x2x rfl ?_ rfl
  rfl
 refine dv 1 ?_
 refine s6s fun B X0 w0 => ?_
 refine txR 1 rfl rfl (dv 1 ?_)
 refine txM [] [] (b3o bs hbs) rfl rfl rfl rfl fun j hj => ?_
 obtain ⟨n, r⟩ := j
 dsimp only at hj ⊢
 refine txR 6 rfl rfl (dv 3 ?_)
 refine x3x (id := 0) u3u p5p rfl (dv 2 ?_)
 refine z7z rfl (dv 3 ?_)
 refine x0x rfl rfl rfl (a5r true n r) (dv 4 ?_)
 refine x3x (id := 1) u3u p5p rfl (x3x (id := 2) v4v a4t rfl (dv 6 ?_))
 refine rlM [9, 10, 11, 12, 13, 14, 15, 16, 17] [_, _, _, _, _, _, _, _, _] (a5t true n r) rfl rfl rfl ?_
 refine dv 4 ?_
 refine x3x (id := 3) u3u p5p rfl (x3x (id := 4) v4v a4t rfl (dv 4 fun K K' => ?_))
 refine u6u (b := b8l true (x4x n r).1.lanes) 3 4 rfl rfl rfl (.ref rfl (Le.ow_map2 _ (fun _ => rfl) e1r) .nil) rfl rfl rfl rfl ?_
 refine u6u (b := a0t true (x4x n r).1.kept) 3 5 rfl rfl rfl (.ref rfl (Le.ow_map _ (fun _ => rfl) (fun _ => rfl)) .nil) rfl rfl rfl rfl ?_
 refine u6u (b := r9r true (x4x n r).1.outs) 3 6 rfl rfl rfl (.ref rfl (Le.ow_map _ (fun _ => rfl) (fun _ => rfl)) .nil) rfl rfl rfl rfl ?_
 refine u6u (b := b9w true (x4x n r).1.views) 3 9 rfl rfl rfl (.ref rfl (Le.ow_map2 _ (fun _ => rfl) e1s) .nil) rfl rfl rfl rfl ?_
 refine u6u (b := a3f true (x4x n r).1.known) 3 10 rfl rfl rfl (.ref rfl (Le.ow_map _ (fun _ => rfl) (fun _ => rfl)) .nil) rfl rfl rfl rfl ?_
 refine u6u (b := a3f true (x4x n r).2.1.incs) 4 7 rfl rfl rfl (.ref rfl (Le.ow_map _ (fun _ => rfl) (fun _ => rfl)) .nil) rfl rfl rfl rfl ?_
 refine u6u (b := a3f true (x4x n r).2.1.versions) 4 8 rfl rfl rfl (.ref rfl (Le.ow_map _ (fun _ => rfl) (fun _ => rfl)) .nil) rfl rfl rfl rfl ?_
 refine u6u (b := a0t true (x4x n r).2.1.events) 4 9 rfl rfl rfl (.ref rfl (Le.ow_map _ (fun _ => rfl) (fun _ => rfl)) .nil) rfl rfl rfl rfl ?_
 refine u6u (b := r9r true (x4x n r).2.1.outs) 4 10 rfl rfl rfl (.ref rfl (Le.ow_map _ (fun _ => rfl) (fun _ => rfl)) .nil) rfl rfl rfl rfl ?_
 refine dv 3 ?_
 refine a9c rfl rfl (by intro p q h h'; cases h; cases h'; rfl) (.inr rfl) (d4j Tryz.underlying4 _ _ _ _) ?_
 refine dv 1 ?_
 refine d2f rfl rfl (fun hg4 => ?_) (fun hg4 => ?_)
 rotate_left
 ·(simp at hg4; done)
 try simp at hg4
 refine dv 2 ?_
 refine x0x rfl rfl rfl (b8e true true (x4x n r).1 (x4x n r).1) ?_
 refine dv 3 ?_
 refine d2f rfl rfl (fun hg5 => ?_) (fun hg5 => ?_)
 rotate_left
 ·(simp at hg5; done)
 try simp at hg5
 refine dv 2 ?_
 refine x0x rfl rfl rfl (c8s true true (x4x n r).2.1 (x4x n r).2.1) ?_
 refine dv 2 ?_
 refine a1o rfl (fun hc6 => ?_) (fun hc6 => ?_)
 ·(simp at hc6; done)
 try simp at hc6
 refine dv 4 fun K K' => ?_
 refine x0x rfl rfl rfl (w5w true n) (dc 1 (aI ?_ ?_))<;>intro hc8<;>try simp at hc8
 ·have fX : ¬ y3y n := a0w (by simpa using hc8)
  have fr := c0q (r := r) fX
  refine dv 4 ?_
  refine d2f rfl rfl (fun hg9 => ?_) (fun hg9 => ?_)
  rotate_left
  ·(simp [fr] at hg9; done)
  try simp at hg9
  refine dv 7 ?_
  refine x2x rfl ?_ rfl
  exact congrArg (fun b : Bool => [AV.pv (.bool b)]) (by rw [fr]; rfl)
 have fK : y3y n := a0o.1 (by simpa using hc8)
 refine dc 5 (fun K K' => aI ?_ ?_)<;>intro hc11<;>try simp at hc11
 ·have fr := d7t fK (by simpa using hc11)
  refine dv 3 ?_
  refine x0x rfl rfl rfl (b8e true true (x4x n r).1 n) ?_
  refine dv 2 ?_
  refine x2x rfl ?_ rfl
  exact congrArg (fun b : Bool => [AV.pv (.bool b)]) (by rw [fr]; simp)
 have hk : (x4x n r).2.2 = true := by simpa using hc11
 obtain ⟨q1, q2, q3, q4, q5, q6, q7, q8⟩ := d7u fK hk
 refine dv 4 ?_
 refine rlM [18, 19, 20, 21, 22, 23, 24, 25, 26] [_, _, _, _, _, _, _, _, _] (a5t true (x4x n r).1 r) rfl rfl rfl ?_
 refine dv 4 ?_
 refine x3x (id := 5) u3u p5p rfl (x3x (id := 6) v4v a4t rfl (dv 6 ?_))
 have hr1 := c6a fK hk
 have hr0 := fK.1.1.2.2.2.2.2.1
 refine q9q (.int .i64 (r - 1)) rfl rfl rfl (a6i rfl (by omega) (by omega) (by omega)) ?_
 refine rlM [27, 28, 29, 30, 31, 32, 33, 34, 35] [_, _, _, _, _, _, _, _, _] (a5t true (x4x n r).1 (r - 1)) rfl rfl rfl ?_
 refine dv 4 ?_
 refine x3x (id := 7) u3u p5p rfl (x3x (id := 8) v4v a4t rfl (dv 7 ?_))
 refine d2f rfl rfl (fun hg12 => ?_) (fun hg12 => ?_)
 rotate_left
 ·(simp [q1, q2, q3, q4, q5, q6, q7, q8] at hg12; done)
 try simp at hg12
 refine dv 4 ?_
 refine d2f rfl rfl (fun hg13 => ?_) (fun hg13 => ?_)
 rotate_left
 ·(simp [q1, q2, q3, q4, q5, q6, q7, q8] at hg13; done)
 try simp at hg13
 refine dv 2 ?_
 refine x0x rfl rfl rfl (b8d true true (x4x n r).1 n) ?_
 refine dv 2 ?_
 refine d2f rfl rfl (fun hg14 => ?_) (fun hg14 => ?_)
 rotate_left
 ·(simp [q1, q2, q3, q4, q5, q6, q7, q8] at hg14; done)
 try simp at hg14
 refine dv 2 ?_
 refine x0x rfl rfl rfl (b8c true true (x4x n r).1 n) ?_
 refine dv 2 ?_
 refine d2f rfl rfl (fun hg15 => ?_) (fun hg15 => ?_)
 rotate_left
 ·(simp [q1, q2, q3, q4, q5, q6, q7, q8] at hg15; done)
 try simp at hg15
 refine dv 4 ?_
 refine x0x rfl rfl rfl (b5d true true (x4x n r).1.views n.views) ?_
 refine dv 2 ?_
 refine d2f rfl rfl (fun hg16 => ?_) (fun hg16 => ?_)
 rotate_left
 ·(simp [q1, q2, q3, q4, q5, q6, q7, q8] at hg16; done)
 try simp at hg16
 refine dv 3 ?_
 refine x0x rfl rfl rfl (c5d true n) (dv 3 ?_)
 refine d2f rfl rfl (fun hg17 => ?_) (fun hg17 => ?_)
 rotate_left
 ·(simp [q1, q2, q3, q4, q5, q6, q7, q8] at hg17; done)
 try simp at hg17
 refine dv 6 ?_
 refine d2f rfl rfl (fun hg18 => ?_) (fun hg18 => ?_)
 rotate_left
 ·(simp [q1, q2, q3, q4, q5, q6, q7, q8] at hg18; done)
 try simp at hg18
 refine dv 7 ?_
 refine x2x rfl ?_ rfl
 exact congrArg (fun b : Bool => [AV.pv (.bool b)]) (by simp [q8])
end
section
def X0 (w : World) : Cx := ⟨fun b => b < w.heap.size, fun b => b < w.heap.size, fun _ _ => none, fun _ _ => none⟩
theorem e6v (w : World) : SRh (X0 w) ⟨w, fun _ => False, fun b => b < w.heap.size, fun b => b < w.heap.size⟩ (fun _ => none) w := by
 refine ⟨fun _ => [], ?_, ?_, ?_, ?_, ?_, ?_, ?_, ?_, ?_, rfl, rfl, rfl, Nat.le_refl _, fun _ _ _ => rfl⟩
 ·intro id g e h; cases h
 ·intro id ge b h; cases h
 ·intro id id' ge ge' b h; cases h
 ·intro b hb; exact ⟨hb, fun id ge h => by cases h⟩
 ·intro b hb; exact hb
 ·intro b hb; exact .inl hb
 ·intro b hb; exact .inl hb
 ·intro id ge b h; cases h
 ·intro id g h; exact ⟨rfl, rfl⟩
theorem d3o (hC : a0g P f avs (.pv u)) (w : World) (vs : List Value) (hl : vs.length = avs.length) (hr : ∀ (i : Nat) (a : AV) (v : Value), avs[i]? = some a → vs[i]? = some v → VR (X0 w) w a v) :
  Calls P f vs.toArray w fun e w' => e = .returned u ∧ Below w.heap.size w w' :=
 (hC.2 (X0 w) _ (fun _ => none) w vs (e6v w) hl hr (fun id ge h => by cases h)).mono fun e w' ⟨v, he, X', hX, hS, hk, hv⟩ => by
  rw [hv.pv_inv] at he
  obtain ⟨F, hS⟩ := hS
  exact ⟨he, hS.os, hS.tape, hS.output, hS.size, fun k hk => hS.keep k hk (fun h => h)⟩
def f1u (k : IntKind) (w : World) (a : Option Addr) (len cap : Nat) (zs : List Int) : Prop :=
 (a = none ∧ len = 0 ∧ cap = 0 ∧ zs = []) ∨
 ∃ x, a = some x ∧ len ≤ cap ∧ cap ≤ maxLen ∧ zs.length = cap ∧ (∀ i, i < zs.length → w.cell? (x.add i) = some (.int k (zs.getD i 0))) ∧ ∀ n ∈ zs, (Lit.int k n).wf = true
theorem e3s (h : f1u .u8 w a len cap zs) : ∃ bs : List Nat, (∀ b ∈ bs, b < 256) ∧ VR (X0 w) w (v5v true bs) (.slice a len cap) := by
 rcases h with ⟨rfl, rfl, rfl, rfl⟩ | ⟨x, rfl, hl, hm, hz, hc, hw⟩
 ·exact ⟨[], (fun b hb => by cases hb), .cl (.row none 0 (fun _ _ => undef) (Nat.le_refl _) (Nat.zero_le _) (fun j x hx => by simp at hx) (fun j i x y hx => by simp at hx) (fun h => by simp at h) (fun ad j i x y hA => by cases hA) (fun j i x y hx => by simp at hx))⟩
 ·have hb : ∀ n ∈ zs, 0 ≤ n ∧ n < 256 := fun n hn => by
   have := hw n hn
   simp only [Lit.wf, Bool.and_eq_true, decide_eq_true_eq, IntKind.min, IntKind.max] at this
   simp [IntKind.signed, IntKind.bits] at this
   omega
  refine ⟨(zs.take len).map Int.toNat, fun b hb' => ?_, ?_⟩
  ·obtain ⟨n, hn, rfl⟩ := List.mem_map.1 hb'
   have := hb n (List.mem_of_mem_take hn)
   omega
  ·have hlen : ((zs.take len).map Int.toNat).length = len := by rw [List.length_map, List.length_take]; omega
   have hg : ∀ (j : Nat) (y : List AV), (((zs.take len).map Int.toNat).map f4m)[j]? = some y → j < len ∧ ∃ n, zs[j]? = some n ∧ y = [.pv (.int .u8 n)] := fun j y hy => by
    rw [List.getElem?_map, List.getElem?_map, List.getElem?_take] at hy
    split at hy
    ·rename_i hj
     cases hn : zs[j]? with
     | none => rw [hn] at hy; cases hy
     | some n =>
      rw [hn] at hy
      refine ⟨hj, n, rfl, ?_⟩
      have h0 := hb n (List.mem_of_getElem? hn)
      simp only [Option.map_some, Option.some.injEq] at hy
      rw [← hy, f4m, Int.toNat_of_nonneg h0.1]
    ·cases hy
   have key := CR.row (ok1 := (X0 w).ok1) (ok2 := (X0 w).ok2) (w := w) (m := true) (ty := 5) (sz := 1) (xs := ((zs.take len).map Int.toNat).map f4m) (some x) cap (fun j _ => .int .u8 (zs.getD j 0))
    (by rw [List.length_map, hlen]; exact hl) hm (fun j y hy => by obtain ⟨_, n, _, rfl⟩ := hg j y hy; rfl)
    (fun j i y z hy hz' => by
     obtain ⟨_, n, _, rfl⟩ := hg j y hy
     cases i with
     | zero => simp at hz'; subst hz'; rfl
     | succ i => simp at hz')
    (fun hp => ⟨x, rfl, by
     rw [List.length_map, hlen] at hp
     have := hc 0 (by omega)
     have h2 := World.block_lt_of_cell? w _ this
     show x.block < w.heap.size
     simpa [Addr.add] using h2⟩)
    (fun ad j i y z hA hy hz' => by
     cases hA
     obtain ⟨hj, n, hn, rfl⟩ := hg j y hy
     cases i with
     | zero =>
      have := hc j (by omega)
      simpa using this
     | succ i => simp at hz')
    (fun j i y z hy hz' => by
     obtain ⟨hj, n, hn, rfl⟩ := hg j y hy
     cases i with
     | zero =>
      simp at hz'; subst hz'
      rw [List.getD_eq_getElem?_getD, hn]
      exact .pv _
     | succ i => simp at hz')
   rw [List.length_map, hlen] at key
   exact .cl key
end
end Go.Proofs.YtlgknoapdbpojaaGreat.Am
