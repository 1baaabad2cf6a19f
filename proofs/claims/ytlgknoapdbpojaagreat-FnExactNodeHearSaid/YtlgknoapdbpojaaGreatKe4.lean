/- Part 4 of the texts that the proof of LawFnExactNodeHear leans on, merged by program. -/
import Derived.Test.YtlgknoapdbpojaaGreatKe3
set_option linter.unusedVariables false
set_option linter.unusedSimpArgs false
set_option maxHeartbeats 4000000
set_option autoImplicit true
set_option relaxedAutoImplicit true
namespace Go.Proofs.YtlgknoapdbpojaaGreat.Am
open Go Go.RowKit
section
theorem a0n (c : Bool) (l : List Ev) (hl : l.length ≤ 1000000000) : Meth Tryz.prog 210 1 [] [w7w c l] [(0, (0, .dead))] (.ref 0 0) [(0, (0, .row 56 7 ((w0w l).map y3y)))] := by
 refine mX Tryz.f210 [.ref 0 0] 1 8 fun γ => ?_
 refine dv 3 ?_
 refine rlB d4r e1m ?_
 refine x3x (id := 1) d4r e1m rfl (dv 2 ?_)
 refine c3d (id := 2) rfl (dv 7 fun K K' => ?_)
 refine v0v 1 0 7 153 7 rfl rfl rfl rfl rfl ?_
 refine x4x (ι := Nat) (fun i γ1 => [(15, pI (i : Int))]) (fun i γ1 => [(7, ((γ1 7), .row 153 7 ((b0d a1i (w9w (l.take i))).map y3y))), (1, ((0 + 1), .box 303 [.ref 7 (γ1 7), .fn (.func 127) [] []])), (2, ((0 + 1), .map (a8m (l.take i)))), (3, ((γ1 3), .dead)), (4, ((γ1 4), .dead))]) (fun i => i ≤ l.length) (fun i => l.length - i) (a0f [3, 4, 13, 14] rfl) (a2k [0, 5, 6, 8] rfl) 0 (by omega) [0, 0, 0, _, _, 0, 0, _] y2y (HE.row rfl (by rw [List.take_zero]; try rfl) (HE.box rfl rfl (HE.map rfl (by rw [List.take_zero]; try rfl) (HE.kill rfl (HE.kill rfl HE.nil))))) rfl fun i γ1 hi => ?_
 refine dc 3 (fun K K' => aS ?_ ?_)<;>intro o<;>try simp at o
 ·obtain rfl : i = l.length := by omega
  obtain ⟨H, hH⟩ : ∃ H, H = b0d a1i (w9w (l.take l.length)) := ⟨_, rfl⟩
  rw [← hH]
  have hhl : H.length ≤ 1000000000 := by rw [hH, a7f]; exact Nat.le_trans (b6y _) (by rw [List.length_take]; omega)
  refine dv 5 ?_
  refine c4g z9z (id := 0) w2w rfl y9y rfl rfl (by (simp only [a3c, a1u, a2b, a2g, T56]; omega)) (by (unfold maxLen; omega)) rfl ?_
  refine dv 3 fun K K' => ?_
  refine rlM [1, 7] [_, _] (a5l _ hhl) rfl rfl rfl ?_
  refine dv 3 ?_
  obtain ⟨D, hD⟩ : ∃ D, D = a3r a1i H.length H := ⟨_, rfl⟩
  rw [← hD]
  have hDl : D.length ≤ 1000000000 := Nat.le_trans (by rw [hD]; exact c0e _ _) hhl
  refine x4x (ι := Nat) (fun i γ3 => [(8, .ref 0 (γ3 0)), (40, pI (i : Int))]) (fun i γ3 => [(0, ((γ3 0), .row 56 7 ((D.take i).map y3y))), (5, ((γ3 5), .dead)), (6, ((γ3 6), .dead)), (7, ((γ3 7), .dead))]) (fun i => i ≤ D.length) (fun i => D.length - i) (a0f [38, 39] rfl) (a2k [1, 2, 3, 4, 8] rfl) 0 (by omega) [_, 0, 0, 0, 0, _, _, _] y2y (HE.row rfl (by rw [List.take_zero]; try rfl) (HE.kill rfl (HE.kill rfl (HE.kill rfl HE.nil)))) rfl fun i γ3 hi => ?_
  refine dc 3 (fun K K' => aS ?_ ?_)<;>intro o<;>try simp at o
  ·refine dv 5 ?_
   exact ⟨[_], rfl, rfl, HE.row rfl (by rw [List.take_of_length_le (by omega), hD, hH, List.take_length, a7f, c0g]) HE.nil⟩
  obtain ⟨k1, hk1⟩ := gE D i
  have hDi : (D.take i).length ≤ 1000000000 := by rw [List.length_take]; omega
  refine dv 6 fun K K' => ?_
  refine x3x (id := 5) p6p c2y rfl (dv 4 ?_)
  refine x0x rfl rfl rfl (b2i ..) (v7v (id := 6) w2w rfl y9y rfl rfl rfl rfl rfl rfl (v5v rfl rfl w2w rfl y9y rfl rfl rfl rfl (by rfl) (p5p _ _ _) (by (simp only [a3c, a1u, a2b, a2g, T56]; omega)) ?_))
  refine dv 2 ?_
  refine x2x (b := 1) rfl rfl (by omega) (dv 1 ?_)
  exact ⟨i + 1, ⟨by omega, by omega⟩, [_, 0, 0, 0, 0, _, _, _], y2y, y2y, (HE.row rfl (by rw [z3z hk1]) (HE.kill rfl (HE.kill rfl (HE.kill rfl HE.nil)))), y1y, rfl⟩
 obtain ⟨e, he⟩ := gE l i
 have hcnt : (l.take i).count e ≤ 1000000000 := Nat.le_trans List.count_le_length (by rw [List.length_take]; omega)
 refine dv 6 fun K K' => ?_
 refine x3x (id := 3) y9y a6x rfl (dv 3 ?_)
 refine x0x rfl rfl rfl (b2h ..) (x3x (id := 4) p6p c2y rfl (dv 1 ?_))
 refine a7b (ι := Unit) (fun _i γ2 => []) (fun _i γ2 => [(2, ((0 + 1), .map (a8m (l.take i ++ [e]))))]) (fun _i => True) (a0f [3, 4, 7, 13, 14, 15] rfl) (a2k [0, 1, 3, 4, 5, 6, 7, 8] rfl) ?_ fun _i γ2 hi => ?_
 ·refine c1z e3b rfl fun B X0 w0 => ?_
  refine z5z z9z (l := [0, 1]) (by kernel_rfl) (by decide) ?_
  refine .cons rfl rfl rfl ?_ ?_
  ·refine dv 1 ?_
   refine z5z z9z (l := [1]) (by kernel_rfl) (by decide) ?_
   refine .cons rfl rfl rfl ?_ ?_
   ·refine dv 1 ?_
    refine z5z z9z (l := [2, 4]) (by kernel_rfl) (by decide) ?_
    refine .cons rfl rfl rfl ?_ ?_
    ·refine a2m z9z (ks := w9w (l.take i)) (k := e) Tryz.underlying304 evF rfl rfl (fun _ _ _ h => a5j h) rfl (a1c (l.take i)) (b7j w1w rfl (l.take i) e) ?_
     refine dv 0 ?_
     refine z5z z9z (l := [3, 4]) (by kernel_rfl) (by decide) ?_
     refine .cons rfl rfl rfl ?_ ?_
     ·refine x2x (b := 1) rfl rfl (by omega) (dv 0 ?_)
      refine z5z z9z (l := [4]) (by kernel_rfl) (by decide) ?_
      refine .cons rfl rfl rfl ?_ ?_
      ·refine a5i z9z (es' := b4r (l.take i) e) (j := a3n (l.take i) e) (out := pI ((l.take i).count e : Nat)) (ks := w9w (l.take i)) (k := e) Tryz.underlying304 evF rfl rfl (fun _ _ _ h => a5j h) rfl (a1c _) (a4b w1w rfl _ _) ?_
       refine dv 0 ?_
       refine z5z z9z (l := [5]) (by kernel_rfl) (by decide) ?_
       refine .cons rfl rfl rfl ?_ ?_
       ·refine dv 1 ?_
        refine z5z z9z (l := [6]) (by kernel_rfl) (by decide) ?_
        refine .cons rfl rfl rfl ?_ ?_
        ·refine p9p (j := a3n (l.take i) e) rfl rfl rfl rfl (a1d _ _) (a1v _ _) ?_
         refine dv 0 ?_
         refine a1r (by kernel_rfl) ?_
         exact ⟨(), trivial, [], y2y, y2y, (HE.map rfl rfl HE.nil), y1y, rfl⟩
        exact .nil
       exact .nil
      exact .nil
     refine .cons rfl rfl rfl ?_ ?_
     ·refine a5i z9z (es' := b4r (l.take i) e) (j := a3n (l.take i) e) (out := pI ((l.take i).count e : Nat)) (ks := w9w (l.take i)) (k := e) Tryz.underlying304 evF rfl rfl (fun _ _ _ h => a5j h) rfl (a1c _) (a4b w1w rfl _ _) ?_
      refine dv 0 ?_
      refine z5z z9z (l := [3, 5]) (by kernel_rfl) (by decide) ?_
      refine .cons rfl rfl rfl ?_ ?_
      ·refine x2x (b := 1) rfl rfl (by omega) (dv 0 ?_)
       refine z5z z9z (l := [5]) (by kernel_rfl) (by decide) ?_
       refine .cons rfl rfl rfl ?_ ?_
       ·refine dv 1 ?_
        refine z5z z9z (l := [6]) (by kernel_rfl) (by decide) ?_
        refine .cons rfl rfl rfl ?_ ?_
        ·refine p9p (j := a3n (l.take i) e) rfl rfl rfl rfl (a1d _ _) (a1v _ _) ?_
         refine dv 0 ?_
         refine a1r (by kernel_rfl) ?_
         exact ⟨(), trivial, [], y2y, y2y, (HE.map rfl rfl HE.nil), y1y, rfl⟩
        exact .nil
       exact .nil
      refine .cons rfl rfl rfl ?_ ?_
      ·refine dv 1 ?_
       refine z5z z9z (l := [3]) (by kernel_rfl) (by decide) ?_
       refine .cons rfl rfl rfl ?_ ?_
       ·refine x2x (b := 1) rfl rfl (by omega) (dv 0 ?_)
        refine z5z z9z (l := [6]) (by kernel_rfl) (by decide) ?_
        refine .cons rfl rfl rfl ?_ ?_
        ·refine p9p (j := a3n (l.take i) e) rfl rfl rfl rfl (a1d _ _) (a1v _ _) ?_
         refine dv 0 ?_
         refine a1r (by kernel_rfl) ?_
         exact ⟨(), trivial, [], y2y, y2y, (HE.map rfl rfl HE.nil), y1y, rfl⟩
        exact .nil
       exact .nil
      exact .nil
     exact .nil
    refine .cons rfl rfl rfl ?_ ?_
    ·refine a5i z9z (es' := b4r (l.take i) e) (j := a3n (l.take i) e) (out := pI ((l.take i).count e : Nat)) (ks := w9w (l.take i)) (k := e) Tryz.underlying304 evF rfl rfl (fun _ _ _ h => a5j h) rfl (a1c _) (a4b w1w rfl _ _) ?_
     refine dv 0 ?_
     refine z5z z9z (l := [2, 5]) (by kernel_rfl) (by decide) ?_
     refine .cons rfl rfl rfl ?_ ?_
     ·refine a2m z9z (ks := e0r (l.take i) e) (k := e) Tryz.underlying304 evF rfl rfl (fun _ _ _ h => a5j h) rfl (b2z (l.take i) e) (b3a (l.take i) e) ?_
      refine dv 0 ?_
      refine z5z z9z (l := [3, 5]) (by kernel_rfl) (by decide) ?_
      refine .cons rfl rfl rfl ?_ ?_
      ·refine x2x (b := 1) rfl rfl (by omega) (dv 0 ?_)
       refine z5z z9z (l := [5]) (by kernel_rfl) (by decide) ?_
       refine .cons rfl rfl rfl ?_ ?_
       ·refine dv 1 ?_
        refine z5z z9z (l := [6]) (by kernel_rfl) (by decide) ?_
        refine .cons rfl rfl rfl ?_ ?_
        ·refine p9p (j := a3n (l.take i) e) rfl rfl rfl rfl (a1d _ _) (a1v _ _) ?_
         refine dv 0 ?_
         refine a1r (by kernel_rfl) ?_
         exact ⟨(), trivial, [], y2y, y2y, (HE.map rfl rfl HE.nil), y1y, rfl⟩
        exact .nil
       exact .nil
      refine .cons rfl rfl rfl ?_ ?_
      ·refine dv 1 ?_
       refine z5z z9z (l := [3]) (by kernel_rfl) (by decide) ?_
       refine .cons rfl rfl rfl ?_ ?_
       ·refine x2x (b := 1) rfl rfl (by omega) (dv 0 ?_)
        refine z5z z9z (l := [6]) (by kernel_rfl) (by decide) ?_
        refine .cons rfl rfl rfl ?_ ?_
        ·refine p9p (j := a3n (l.take i) e) rfl rfl rfl rfl (a1d _ _) (a1v _ _) ?_
         refine dv 0 ?_
         refine a1r (by kernel_rfl) ?_
         exact ⟨(), trivial, [], y2y, y2y, (HE.map rfl rfl HE.nil), y1y, rfl⟩
        exact .nil
       exact .nil
      exact .nil
     refine .cons rfl rfl rfl ?_ ?_
     ·refine dv 1 ?_
      refine z5z z9z (l := [2]) (by kernel_rfl) (by decide) ?_
      refine .cons rfl rfl rfl ?_ ?_
      ·refine a2m z9z (ks := e0r (l.take i) e) (k := e) Tryz.underlying304 evF rfl rfl (fun _ _ _ h => a5j h) rfl (b2z (l.take i) e) (b3a (l.take i) e) ?_
       refine dv 0 ?_
       refine z5z z9z (l := [3]) (by kernel_rfl) (by decide) ?_
       refine .cons rfl rfl rfl ?_ ?_
       ·refine x2x (b := 1) rfl rfl (by omega) (dv 0 ?_)
        refine z5z z9z (l := [6]) (by kernel_rfl) (by decide) ?_
        refine .cons rfl rfl rfl ?_ ?_
        ·refine p9p (j := a3n (l.take i) e) rfl rfl rfl rfl (a1d _ _) (a1v _ _) ?_
         refine dv 0 ?_
         refine a1r (by kernel_rfl) ?_
         exact ⟨(), trivial, [], y2y, y2y, (HE.map rfl rfl HE.nil), y1y, rfl⟩
        exact .nil
       exact .nil
      exact .nil
     exact .nil
    exact .nil
   exact .nil
  refine .cons rfl rfl rfl ?_ ?_
  ·refine dv 1 ?_
   refine z5z z9z (l := [0]) (by kernel_rfl) (by decide) ?_
   refine .cons rfl rfl rfl ?_ ?_
   ·refine dv 1 ?_
    refine z5z z9z (l := [2, 4]) (by kernel_rfl) (by decide) ?_
    refine .cons rfl rfl rfl ?_ ?_
    ·refine a2m z9z (ks := w9w (l.take i)) (k := e) Tryz.underlying304 evF rfl rfl (fun _ _ _ h => a5j h) rfl (a1c (l.take i)) (b7j w1w rfl (l.take i) e) ?_
     refine dv 0 ?_
     refine z5z z9z (l := [3, 4]) (by kernel_rfl) (by decide) ?_
     refine .cons rfl rfl rfl ?_ ?_
     ·refine x2x (b := 1) rfl rfl (by omega) (dv 0 ?_)
      refine z5z z9z (l := [4]) (by kernel_rfl) (by decide) ?_
      refine .cons rfl rfl rfl ?_ ?_
      ·refine a5i z9z (es' := b4r (l.take i) e) (j := a3n (l.take i) e) (out := pI ((l.take i).count e : Nat)) (ks := w9w (l.take i)) (k := e) Tryz.underlying304 evF rfl rfl (fun _ _ _ h => a5j h) rfl (a1c _) (a4b w1w rfl _ _) ?_
       refine dv 0 ?_
       refine z5z z9z (l := [5]) (by kernel_rfl) (by decide) ?_
       refine .cons rfl rfl rfl ?_ ?_
       ·refine dv 1 ?_
        refine z5z z9z (l := [6]) (by kernel_rfl) (by decide) ?_
        refine .cons rfl rfl rfl ?_ ?_
        ·refine p9p (j := a3n (l.take i) e) rfl rfl rfl rfl (a1d _ _) (a1v _ _) ?_
         refine dv 0 ?_
         refine a1r (by kernel_rfl) ?_
         exact ⟨(), trivial, [], y2y, y2y, (HE.map rfl rfl HE.nil), y1y, rfl⟩
        exact .nil
       exact .nil
      exact .nil
     refine .cons rfl rfl rfl ?_ ?_
     ·refine a5i z9z (es' := b4r (l.take i) e) (j := a3n (l.take i) e) (out := pI ((l.take i).count e : Nat)) (ks := w9w (l.take i)) (k := e) Tryz.underlying304 evF rfl rfl (fun _ _ _ h => a5j h) rfl (a1c _) (a4b w1w rfl _ _) ?_
      refine dv 0 ?_
      refine z5z z9z (l := [3, 5]) (by kernel_rfl) (by decide) ?_
      refine .cons rfl rfl rfl ?_ ?_
      ·refine x2x (b := 1) rfl rfl (by omega) (dv 0 ?_)
       refine z5z z9z (l := [5]) (by kernel_rfl) (by decide) ?_
       refine .cons rfl rfl rfl ?_ ?_
       ·refine dv 1 ?_
        refine z5z z9z (l := [6]) (by kernel_rfl) (by decide) ?_
        refine .cons rfl rfl rfl ?_ ?_
        ·refine p9p (j := a3n (l.take i) e) rfl rfl rfl rfl (a1d _ _) (a1v _ _) ?_
         refine dv 0 ?_
         refine a1r (by kernel_rfl) ?_
         exact ⟨(), trivial, [], y2y, y2y, (HE.map rfl rfl HE.nil), y1y, rfl⟩
        exact .nil
       exact .nil
      refine .cons rfl rfl rfl ?_ ?_
      ·refine dv 1 ?_
       refine z5z z9z (l := [3]) (by kernel_rfl) (by decide) ?_
       refine .cons rfl rfl rfl ?_ ?_
       ·refine x2x (b := 1) rfl rfl (by omega) (dv 0 ?_)
        refine z5z z9z (l := [6]) (by kernel_rfl) (by decide) ?_
        refine .cons rfl rfl rfl ?_ ?_
        ·refine p9p (j := a3n (l.take i) e) rfl rfl rfl rfl (a1d _ _) (a1v _ _) ?_
         refine dv 0 ?_
         refine a1r (by kernel_rfl) ?_
         exact ⟨(), trivial, [], y2y, y2y, (HE.map rfl rfl HE.nil), y1y, rfl⟩
        exact .nil
       exact .nil
      exact .nil
     exact .nil
    refine .cons rfl rfl rfl ?_ ?_
    ·refine a5i z9z (es' := b4r (l.take i) e) (j := a3n (l.take i) e) (out := pI ((l.take i).count e : Nat)) (ks := w9w (l.take i)) (k := e) Tryz.underlying304 evF rfl rfl (fun _ _ _ h => a5j h) rfl (a1c _) (a4b w1w rfl _ _) ?_
     refine dv 0 ?_
     refine z5z z9z (l := [2, 5]) (by kernel_rfl) (by decide) ?_
     refine .cons rfl rfl rfl ?_ ?_
     ·refine a2m z9z (ks := e0r (l.take i) e) (k := e) Tryz.underlying304 evF rfl rfl (fun _ _ _ h => a5j h) rfl (b2z (l.take i) e) (b3a (l.take i) e) ?_
      refine dv 0 ?_
      refine z5z z9z (l := [3, 5]) (by kernel_rfl) (by decide) ?_
      refine .cons rfl rfl rfl ?_ ?_
      ·refine x2x (b := 1) rfl rfl (by omega) (dv 0 ?_)
       refine z5z z9z (l := [5]) (by kernel_rfl) (by decide) ?_
       refine .cons rfl rfl rfl ?_ ?_
       ·refine dv 1 ?_
        refine z5z z9z (l := [6]) (by kernel_rfl) (by decide) ?_
        refine .cons rfl rfl rfl ?_ ?_
        ·refine p9p (j := a3n (l.take i) e) rfl rfl rfl rfl (a1d _ _) (a1v _ _) ?_
         refine dv 0 ?_
         refine a1r (by kernel_rfl) ?_
         exact ⟨(), trivial, [], y2y, y2y, (HE.map rfl rfl HE.nil), y1y, rfl⟩
        exact .nil
       exact .nil
      refine .cons rfl rfl rfl ?_ ?_
      ·refine dv 1 ?_
       refine z5z z9z (l := [3]) (by kernel_rfl) (by decide) ?_
       refine .cons rfl rfl rfl ?_ ?_
       ·refine x2x (b := 1) rfl rfl (by omega) (dv 0 ?_)
        refine z5z z9z (l := [6]) (by kernel_rfl) (by decide) ?_
        refine .cons rfl rfl rfl ?_ ?_
        ·refine p9p (j := a3n (l.take i) e) rfl rfl rfl rfl (a1d _ _) (a1v _ _) ?_
         refine dv 0 ?_
         refine a1r (by kernel_rfl) ?_
         exact ⟨(), trivial, [], y2y, y2y, (HE.map rfl rfl HE.nil), y1y, rfl⟩
        exact .nil
       exact .nil
      exact .nil
     refine .cons rfl rfl rfl ?_ ?_
     ·refine dv 1 ?_
      refine z5z z9z (l := [2]) (by kernel_rfl) (by decide) ?_
      refine .cons rfl rfl rfl ?_ ?_
      ·refine a2m z9z (ks := e0r (l.take i) e) (k := e) Tryz.underlying304 evF rfl rfl (fun _ _ _ h => a5j h) rfl (b2z (l.take i) e) (b3a (l.take i) e) ?_
       refine dv 0 ?_
       refine z5z z9z (l := [3]) (by kernel_rfl) (by decide) ?_
       refine .cons rfl rfl rfl ?_ ?_
       ·refine x2x (b := 1) rfl rfl (by omega) (dv 0 ?_)
        refine z5z z9z (l := [6]) (by kernel_rfl) (by decide) ?_
        refine .cons rfl rfl rfl ?_ ?_
        ·refine p9p (j := a3n (l.take i) e) rfl rfl rfl rfl (a1d _ _) (a1v _ _) ?_
         refine dv 0 ?_
         refine a1r (by kernel_rfl) ?_
         exact ⟨(), trivial, [], y2y, y2y, (HE.map rfl rfl HE.nil), y1y, rfl⟩
        exact .nil
       exact .nil
      exact .nil
     exact .nil
    exact .nil
   exact .nil
  exact .nil
 ·try dsimp only [d2l, d2m]
  refine dv 3 ?_
  refine a2m z9z (ks := w9w (l.take i ++ [e])) (k := e) Tryz.underlying304 evF rfl rfl (fun _ _ _ h => a5j h) rfl (a1c (l.take i ++ [e])) (b7j w1w rfl (l.take i ++ [e]) e) ?_
  refine dc 1 (aS ?_ ?_)<;>intro hc5<;>try simp at hc5
  ·have hq : ¬ (l.take i ++ [e]).count e = 1 := by (have := hc5; simp at this ⊢; omega)
   refine dv 2 ?_
   refine x2x (b := 1) rfl rfl (by omega) (dv 1 ?_)
   exact ⟨i + 1, ⟨by omega, by omega⟩, [0, 0, 0, _, _, 0, 0, _], y2y, y2y, (HE.row rfl (by rw [z3z he, d0p hq]) (HE.box rfl rfl (HE.map rfl (by rw [z3z he]) (HE.kill rfl (HE.kill rfl HE.nil))))), y1y, rfl⟩
  have hq : (l.take i ++ [e]).count e = 1 := by (have := hc5; simp at this ⊢; omega)
  have hpl : (b0d a1i (w9w (l.take i))).length ≤ 1000000000 := by rw [a7f]; exact Nat.le_trans (b6y _) (by rw [List.length_take]; omega)
  refine dv 2 ?_
  refine rlM [1, 7] [_, _] (a5u _ e hpl) rfl rfl rfl ?_
  refine dv 1 ?_
  refine x2x (b := 1) rfl rfl (by omega) (dv 1 ?_)
  exact ⟨i + 1, ⟨by omega, by omega⟩, [0, 0, 0, _, _, 0, 0, _], y2y, y2y, (HE.row rfl (by rw [z3z he, d0o hq]) (HE.box rfl rfl (HE.map rfl (by rw [z3z he]) (HE.kill rfl (HE.kill rfl HE.nil))))), y1y, rfl⟩
end
section
theorem a2d (c : Bool) (a : Ev) (l : List Ev) (hl : (a :: l).length ≤ 10000000) : Meth Tryz.prog 245 1 [] [w7w c (a :: l)] [(0, (0, .dead))] (.ref 0 0) [(0, (0, .row 56 7 ((a :: l).map y3y)))] := by
 refine mX Tryz.f245 [.ref 0 0] 1 1 fun γ => ?_
 refine dv 5 fun K K' => ?_
 refine a9w rfl rfl (by (intro p q h; cases h)) (.inl rfl) (c9w Tryz.underlying47 _ _ (by simp)) ?_
 refine y6y rfl (fun hc2 => ?_) (fun hc2 => ?_)
 ·simp [a3k] at hc2
 try simp at hc2
 refine dv 2 ?_
 refine v4v (id := 0) w2w rfl y9y rfl (dv 1 ?_)
 refine p2p (zs := (a :: l).map y3y) rfl rfl w2w rfl y9y rfl rfl rfl (w4w (fun _ => rfl) _) rfl (by (simp only [a3c, a1u, a2b, a2g, a5e, T56] at *; omega)) ?_
 refine dv 2 ?_
 exact ⟨[_], rfl, rfl, y1y⟩
theorem a2j (c : Bool) : Meth Tryz.prog 245 1 [] [w7w c []] [(0, (0, .dead))] (.ref 0 0) [(0, (0, .row 56 7 (([] : List Ev).map y3y)))] := by
 refine mX Tryz.f245 [.ref 0 0] 1 1 fun γ => ?_
 refine c4m 0 rfl fun A0 cap hcap => ?_
 refine dv 5 fun K K' => ?_
 refine a9w rfl rfl (by (intro p q h h2; cases h; cases h2; rfl)) (.inl rfl) (b9y Tryz.underlying47 _ _ _ _ _) ?_
 refine dc 0 (aI ?_ ?_)<;>intro j<;>try simp at j
 ·refine dv 2 ?_
  refine w6w 2 0 56 7 rfl rfl (dv 1 ?_)
  exact ⟨[_], rfl, rfl, y1y⟩
 refine dv 1 ?_
 refine d5r 0 56 7 rfl hcap (dv 1 ?_)
 refine v4v (id := 0) w2w rfl y9y rfl (dv 1 ?_)
 refine p2p (zs := ([] : List Ev).map y3y) rfl rfl w2w rfl y9y rfl rfl rfl (by rfl) rfl (by (simp only [a3c, a1u, a2b, a2g, a5e, T56] at *; omega)) ?_
 refine dv 2 ?_
 exact ⟨[_], rfl, rfl, y1y⟩
theorem z8z (c : Bool) (l : List Ev) (hl : l.length ≤ 10000000) : Meth Tryz.prog 245 1 [] [w7w c l] [(0, (0, .dead))] (.ref 0 0) [(0, (0, .row 56 7 (l.map y3y)))] := by
 cases l with
 | nil => exact a2j c
 | cons a l => exact a2d c a l hl
theorem a3o (c : Bool) (a : Ou) (l : List Ou) (hl : (a :: l).length ≤ 10000000) : Meth Tryz.prog 152 1 [] [r9r c (a :: l)] [(0, (0, .dead))] (.ref 0 0) [(0, (0, .row 141 5 ((a :: l).map v8v)))] := by
 refine mX Tryz.f152 [.ref 0 0] 1 1 fun γ => ?_
 refine dv 5 fun K K' => ?_
 refine a9w rfl rfl (by (intro p q h; cases h)) (.inl rfl) (c9w Tryz.underlying29 _ _ (by simp)) ?_
 refine y6y rfl (fun hc2 => ?_) (fun hc2 => ?_)
 ·simp [a3k] at hc2
 try simp at hc2
 refine dv 2 ?_
 refine v4v (id := 0) q5q rfl u1u rfl (dv 1 ?_)
 refine p2p (zs := (a :: l).map v8v) rfl rfl q5q rfl u1u rfl rfl rfl (w4w (fun _ => rfl) _) rfl (by (simp only [a3c, a1u, a2b, a2g, a5e, T141] at *; omega)) ?_
 refine dv 2 ?_
 exact ⟨[_], rfl, rfl, y1y⟩
theorem a3u (c : Bool) : Meth Tryz.prog 152 1 [] [r9r c []] [(0, (0, .dead))] (.ref 0 0) [(0, (0, .row 141 5 (([] : List Ou).map v8v)))] := by
 refine mX Tryz.f152 [.ref 0 0] 1 1 fun γ => ?_
 refine c4m 0 rfl fun A0 cap hcap => ?_
 refine dv 5 fun K K' => ?_
 refine a9w rfl rfl (by (intro p q h h2; cases h; cases h2; rfl)) (.inl rfl) (b9y Tryz.underlying29 _ _ _ _ _) ?_
 refine dc 0 (aI ?_ ?_)<;>intro j<;>try simp at j
 ·refine dv 2 ?_
  refine w6w 2 0 141 5 rfl rfl (dv 1 ?_)
  exact ⟨[_], rfl, rfl, y1y⟩
 refine dv 1 ?_
 refine d5r 0 141 5 rfl hcap (dv 1 ?_)
 refine v4v (id := 0) q5q rfl u1u rfl (dv 1 ?_)
 refine p2p (zs := ([] : List Ou).map v8v) rfl rfl q5q rfl u1u rfl rfl rfl (by rfl) rfl (by (simp only [a3c, a1u, a2b, a2g, a5e, T56] at *; omega)) ?_
 refine dv 2 ?_
 exact ⟨[_], rfl, rfl, y1y⟩
theorem r2r (c : Bool) (l : List Ou) (hl : l.length ≤ 10000000) : Meth Tryz.prog 152 1 [] [r9r c l] [(0, (0, .dead))] (.ref 0 0) [(0, (0, .row 141 5 (l.map v8v)))] := by
 cases l with
 | nil => exact a3u c
 | cons a l => exact a3o c a l hl
theorem a7l (c : Bool) (a : Int) (l : List Int) (hl : (a :: l).length ≤ 10000000) : Meth Tryz.prog 248 1 [] [a5d c (a :: l)] [(0, (0, .dead))] (.ref 0 0) [(0, (0, .row 3 1 ((a :: l).map r5r)))] := by
 refine mX Tryz.f248 [.ref 0 0] 1 1 fun γ => ?_
 refine dv 5 fun K K' => ?_
 refine a9w rfl rfl (by (intro p q h; cases h)) (.inl rfl) (c9w Tryz.underlying63 _ _ (by simp)) ?_
 refine y6y rfl (fun hc2 => ?_) (fun hc2 => ?_)
 ·simp [a3k] at hc2
 try simp at hc2
 refine dv 2 ?_
 refine v4v (id := 0) a0i rfl w1w rfl (dv 1 ?_)
 refine p2p (zs := (a :: l).map r5r) rfl rfl a0i rfl w1w rfl rfl rfl (w4w (fun _ => rfl) _) rfl (by (simp only [a3c, a1u, a2b, a2g, a5e, T3] at *; omega)) ?_
 refine dv 2 ?_
 exact ⟨[_], rfl, rfl, y1y⟩
theorem a7q (c : Bool) : Meth Tryz.prog 248 1 [] [a5d c []] [(0, (0, .dead))] (.ref 0 0) [(0, (0, .row 3 1 (([] : List Int).map r5r)))] := by
 refine mX Tryz.f248 [.ref 0 0] 1 1 fun γ => ?_
 refine c4m 0 rfl fun A0 cap hcap => ?_
 refine dv 5 fun K K' => ?_
 refine a9w rfl rfl (by (intro p q h h2; cases h; cases h2; rfl)) (.inl rfl) (b9y Tryz.underlying63 _ _ _ _ _) ?_
 refine dc 0 (aI ?_ ?_)<;>intro j<;>try simp at j
 ·refine dv 2 ?_
  refine w6w 2 0 3 1 rfl rfl (dv 1 ?_)
  exact ⟨[_], rfl, rfl, y1y⟩
 refine dv 1 ?_
 refine d5r 0 3 1 rfl hcap (dv 1 ?_)
 refine v4v (id := 0) a0i rfl w1w rfl (dv 1 ?_)
 refine p2p (zs := ([] : List Int).map r5r) rfl rfl a0i rfl w1w rfl rfl rfl (by rfl) rfl (by (simp only [a3c, a1u, a2b, a2g, a5e, T56] at *; omega)) ?_
 refine dv 2 ?_
 exact ⟨[_], rfl, rfl, y1y⟩
theorem b1l (c : Bool) (l : List Int) (hl : l.length ≤ 10000000) : Meth Tryz.prog 248 1 [] [a5d c l] [(0, (0, .dead))] (.ref 0 0) [(0, (0, .row 3 1 (l.map r5r)))] := by
 cases l with
 | nil => exact a7q c
 | cons a l => exact a7l c a l hl
end
section
theorem c6k (c : Bool) (n : Nd) (hl : n.lanes.length ≤ 1048576) : Meth Tryz.prog 158 1 [] [.agg (r4r c n)] [(0, (0, .dead))] (.agg [pI n.id, pI n.inc, pI n.g, pI n.led, .ref 0 0, w7w c n.kept, r9r c n.outs]) [(0, (0, .row 41 3 ((n.lanes).map fun l => p0p l.base)))] := by
 refine mX Tryz.f158 [.agg [pI n.id, pI n.inc, pI n.g, pI n.led, .ref 0 0, w7w c n.kept, r9r c n.outs]] 1 6 fun γ => ?_
 refine dv 1 ?_
 refine x9x (id := 1) rfl rfl rfl (x3x (id := 2) d0z d4t rfl (dv 13 ?_))
 refine rlB d0z d4t ?_
 refine x3x (id := 3) d0z d4t rfl (dv 8 fun K K' => ?_)
 refine v0v 3 4 0 41 3 rfl rfl rfl rfl rfl ?_
 refine x4x (ι := Nat) (fun i γ1 => [(22, pI (i : Int))]) (fun i γ1 => [(0, ((γ1 0), .row 41 3 ((n.lanes.take i).map fun l => p0p l.base))), (3, ((0 + 1), .box 160 [pI n.id, pI n.inc, pI n.g, pI n.led, .ref 0 (γ1 0), w7w c n.kept, r9r c n.outs])), (4, ((γ1 4), .dead)), (5, ((γ1 5), .dead)), (6, ((γ1 6), .dead))]) (fun i => i ≤ n.lanes.length) (fun i => n.lanes.length - i) (a0f [2, 3, 20, 21] rfl) (a2k [1, 2] rfl) 0 (by omega) [_, 0, 0, 0, _, _, _] y2y (HE.row rfl (by rw [List.take_zero]; rfl) (HE.box rfl rfl (HE.kill rfl (HE.kill rfl (HE.kill rfl HE.nil))))) rfl fun i γ1 hi => ?_
 refine dc 3 (fun K K' => aS ?_ ?_)<;>intro o<;>try simp at o
 ·obtain rfl : i = n.lanes.length := by omega
  refine dv 5 ?_
  exact ⟨[_], rfl, rfl, HE.row rfl (by rw [List.take_length]) HE.nil⟩
 obtain ⟨p, hp⟩ := gE n.lanes i
 refine dv 6 fun K K' => ?_
 refine x3x (id := 4) s0s a6w rfl (dv 5 ?_)
 refine u6u (out := .agg (p0p p.base)) rfl a1l rfl rfl ?_
 refine v7v (id := 5) c7h rfl a1l rfl rfl rfl rfl rfl rfl ?_
 refine v5v (zs := (n.lanes.take i ++ [p]).map fun l => p0p l.base) rfl rfl c7h rfl a1l rfl rfl rfl rfl (by rfl) (p5p _ _ _) (by (simp only [a3c, a1u, a2b, a2g, a5e, b8a, T41]; omega)) ?_
 refine dv 3 ?_
 refine u2u rfl rfl rfl (dv 1 ?_)
 exact ⟨i + 1, ⟨by omega, by omega⟩, [_, 0, 0, 0, _, _, _], (Cov.cons' (t := 22) rfl (by rw [x6x (by omega) (by omega)]; rfl) Cov.nil), y2y, (HE.row rfl (by rw [z3z hp]) (HE.box rfl rfl (HE.kill rfl (HE.kill rfl (HE.kill rfl HE.nil))))), y1y, rfl⟩
theorem c2k (c : Bool) (n : Nd) (hl : n.lanes.length ≤ 1048576) : Meth Tryz.prog 157 5 [0] [.agg [pI n.id, pI n.inc, pI n.g, pI n.led, .ref 0 0, w7w c n.kept, r9r c n.outs]] [(0, (0, .row 41 3 ((n.lanes).map fun l => p0p l.base))), (1, (0, .dead)), (2, (0, .dead)), (3, (0, .dead)), (4, (0, .dead))] (.ptr 4 0 0) [(4, (0, .box 164 [pI n.id, pI n.inc, pI n.g, pI n.led, .ref 0 0, w7w c n.kept, r9r c n.outs, .pv (.bool false), .ref 1 0, pI 0, .mp 2 0, .ref 3 0, pI 0, pI 41])), (1, (0, .row 42 1 ((n.lanes).map fun _ => [a3b c []]))), (2, (0, .map [])), (3, (0, .row 3 1 ([0, 0, 0].map r5r)))] := by
 refine mX Tryz.f157 [.ptr 4 0 0] 5 1 fun γ => ?_
 refine dv 1 ?_
 refine x9x (id := 5) rfl rfl rfl (dv 6 ?_)
 refine a6z (id := 1) b3h rfl a1m e8d rfl rfl rfl rfl (by (simp only [a3c, a1u, a2b, a2g, a5e, b8a, T42]; omega)) rfl ?_
 refine c3d (id := 2) rfl ?_
 refine a6z (n := 3) (id := 3) a0i rfl w1w e7l rfl rfl rfl rfl (by (simp only [a3c, a1u, a2b, a2g, a5e, b8a, T3]; omega)) rfl ?_
 refine rlB e5q e5u ?_
 refine x9x (id := 4) rfl rfl rfl (dv 1 ?_)
 refine b1v 1 (xs' := n.lanes.map fun _ => [.pv (.slice none 0 0)]) rfl (by simp [List.map_const', T42]) ?_
 refine e1s (f := fun _ => [.pv (.slice none 0 0)]) (f' := fun _ => [a3b c []]) (l := n.lanes) 1 rfl (fun _ => .le rfl .nil rfl .nil) ?_
 refine dv 1 ?_
 exact ⟨[γ 0, _, _, _, _], rfl, rfl, HE.box rfl rfl (HE.row rfl rfl (HE.map rfl rfl (HE.row rfl rfl (HE.same rfl HE.nil))))⟩
theorem a6o (c : Bool) (n : Nd) (hl : n.lanes.length ≤ 1048576) (hv : n.views.length ≤ 1048576) (hk3 : n.known.length = 3) : Meth Tryz.prog 125 5 [] [.agg (r4r c n)] [(0, (0, .dead)), (1, (0, .dead)), (2, (0, .dead)), (3, (0, .dead)), (4, (0, .dead))] (.ptr 4 0 0) [(0, (0, .row 41 3 ((n.lanes).map fun l => p0p l.base))), (1, (0, .row 42 1 ((n.lanes).map fun l => [a3b c l.done]))), (2, (0, .map (a5t c n.views))), (3, (0, .row 3 1 (n.known.map r5r))), (4, (0, .box 164 [pI n.id, pI n.inc, pI n.g, pI n.led, .ref 0 0, w7w c n.kept, r9r c n.outs, .pv (.bool n.up), .ref 1 0, pI n.version, .mp 2 0, .ref 3 0, pI n.round, pI n.low]))] := by
 refine u9u z9z (fn := Tryz.f125) (by kernel_rfl) (by kernel_rfl) rfl (O0 := [.ptr 4 0 0]) 5 3 (a0w rfl) (by rfl) (by repeat (first | exact BndH.nil | refine BndH.dead ?_ )) (by repeat (first | exact BndH.nil | refine BndH.box rfl ?_ | refine BndH.row (y5y fun _ => rfl) ?_ | refine BndH.map (p4p _ _) ?_ )) (by rfl) fun γ => ?_
 show Ex Tryz.prog _ _ [(0, .agg (r4r c n))] [(0, ((γ 0), .dead)), (1, ((γ 1), .dead)), (2, ((γ 2), .dead)), (3, ((γ 3), .dead)), (4, ((γ 4), .dead)), (7, (0, .dead)), (6, (0, .dead)), (5, (0, .dead))] _
 refine dv 1 ?_
 refine x9x (id := 5) rfl rfl rfl (dv 3 ?_)
 refine rlM [0] [_] (c6k c n hl) rfl rfl rfl ?_
 refine rlM [0, 1, 2, 3, 4] [_, _, _, _, _] (c2k c n hl) rfl rfl rfl ?_
 refine dv 8 fun K K' => ?_
 refine x4x (ι := Nat) (fun i γ1 => [(14, pI (i : Int))]) (fun i γ1 => [(1, ((γ 1 + 1), .row 42 1 ((n.lanes.take i).map (fun l => [a3b c l.done]) ++ (n.lanes.drop i).map fun _ => [a3b c []]))), (6, ((γ1 6), .dead))]) (fun i => i ≤ n.lanes.length) (fun i => n.lanes.length - i) (a0f [1, 3, 12, 13] rfl) (a2k [0, 2, 3, 4, 5, 7] rfl) 0 (by omega) [0, 0, 0, 0, 0, 0, _] y2y (HE.row rfl (by rw [List.take_zero, List.drop_zero]; rfl) (HE.kill rfl HE.nil)) rfl fun i γ1 hi => ?_
 refine dc 3 (fun K K' => aI ?_ ?_)<;>intro o<;>try simp at o
 ·obtain ⟨p, hp⟩ := gE n.lanes i
  have hAl : ((n.lanes.take i).map fun l => [a3b c l.done]).length = i := by rw [List.length_map, List.length_take]; omega
  rw [v1v hp, List.map_cons]
  refine dv 7 fun K K' => ?_
  refine x3x (id := 6) s0s a6w rfl (dv 10 ?_)
  refine u0u rfl rfl b3h rfl a1m rfl rfl hAl (z6z hAl rfl rfl a1m rfl rfl rfl rfl rfl rfl rfl rfl (dv 1 ?_))
  refine u2u rfl rfl rfl (dv 1 ?_)
  exact ⟨i + 1, ⟨by omega, by omega⟩, [0, 0, 0, 0, 0, 0, _], (Cov.cons' (t := 14) rfl (by rw [x6x (by omega) (by omega)]; rfl) Cov.nil), y2y, (HE.row rfl (by rw [z3z hp, List.map_append, List.append_assoc]; rfl) (HE.kill rfl HE.nil)), y1y, rfl⟩
 obtain rfl : i = n.lanes.length := by omega
 refine dv 8 fun K K' => ?_
 refine x4x (ι := Nat) (fun j γ2 => [(31, pI (j : Int))]) (fun j γ2 => [(2, ((γ 2 + 1), .map (a5t c (n.views.take j)))), (7, ((γ2 7), .dead))]) (fun j => j ≤ n.views.length) (fun j => n.views.length - j) (a0f [1, 3, 29, 30] rfl) (a2k [0, 1, 3, 4, 5, 6] rfl) 0 (by omega) [0, 0, 0, 0, 0, 0, 0, _] y2y (HE.map rfl (by rw [List.take_zero]; rfl) (HE.kill rfl HE.nil)) rfl fun j γ2 hi => ?_
 refine dc 3 (fun K K' => aI ?_ ?_)<;>intro o<;>try simp at o
 ·obtain ⟨q, hq⟩ := gE n.views j
  have hjl : (n.views.take j).length = j := by rw [List.length_take]; omega
  refine dv 7 fun K K' => ?_
  refine x3x (id := 7) p7p a4c rfl (dv 9 ?_)
  refine b1s (κ := Int) (enc := fun n => .int .i64 n) (ks := b4q j) (k := (j : Int)) (es' := a5t c (n.views.take j ++ [q])) Tryz.underlying162 (a7c Tryz.underlying3) rfl rfl rfl (fun _ _ _ h => c9v h) rfl (by rw [a7k, hjl]) (.inr ⟨e0p j, by rw [d8h, hjl]; try rfl⟩) ?_
  refine dv 1 ?_
  refine u2u rfl rfl rfl (dv 1 ?_)
  exact ⟨j + 1, ⟨by omega, by omega⟩, [0, 0, 0, 0, 0, 0, 0, _], (Cov.cons' (t := 31) rfl (by rw [x6x (by omega) (by omega)]; rfl) Cov.nil), y2y, (HE.map rfl (by rw [z3z hq]) (HE.kill rfl HE.nil)), y1y, rfl⟩
 obtain rfl : j = n.views.length := by omega
 refine dv 8 ?_
 refine d9m z9z (l := n.known) a0i rfl w1w rfl rfl rfl rfl (by rw [hk3]; rfl) ?_
 refine dv 29 ?_
 exact ⟨[_, _, _, _, _], rfl, rfl, HE.row rfl rfl (HE.row rfl (by rw [List.take_length, List.drop_length, List.map_nil, List.append_nil]) (HE.map rfl (by rw [List.take_length]) (HE.row rfl rfl (HE.box rfl rfl HE.nil))))⟩
end
section
theorem b1a (c : Bool) (n : Nd) (hs : (r7r n).length ≤ 5000000) (hlen : n.lanes.length ≤ 1048576) : Meth Tryz.prog 229 6 [0, 1, 2, 3, 4] [.ptr 4 0 0] [(0, (0, .row 41 3 ((n.lanes).map fun l => p0p l.base))), (1, (0, .row 42 1 ((n.lanes).map fun l => [a3b c l.done]))), (2, (0, .map (a5t c n.views))), (3, (0, .row 3 1 (n.known.map r5r))), (4, (0, .box 164 [pI n.id, pI n.inc, pI n.g, pI n.led, .ref 0 0, w7w c n.kept, r9r c n.outs, .pv (.bool n.up), .ref 1 0, pI n.version, .mp 2 0, .ref 3 0, pI n.round, pI n.low])), (5, (0, .dead))] (.ref 5 0) [(5, (0, .row 56 7 ((r7r n).map y3y)))] := by
 refine u9u z9z (fn := Tryz.f229) (by kernel_rfl) (by kernel_rfl) rfl (O0 := [.ref 5 0]) 6 2 (a0w rfl) (by rfl) (by repeat (first | exact BndH.nil | refine BndH.dead ?_ | refine BndH.box rfl ?_ | refine BndH.row (y5y fun _ => rfl) ?_ | refine BndH.map (p4p _ _) ?_ )) (by repeat (first | exact BndH.nil | refine BndH.row (y5y fun _ => rfl) ?_ )) (by rfl) fun γ => ?_
 show Ex Tryz.prog _ _ [(0, .ptr 4 (γ 4) 0)] [(0, ((γ 0), .row 41 3 ((n.lanes).map fun l => p0p l.base))), (1, ((γ 1), .row 42 1 ((n.lanes).map fun l => [a3b c l.done]))), (2, ((γ 2), .map (a5t c n.views))), (3, ((γ 3), .row 3 1 (n.known.map r5r))), (4, ((γ 4), .box 164 [pI n.id, pI n.inc, pI n.g, pI n.led, .ref 0 (γ 0), w7w c n.kept, r9r c n.outs, .pv (.bool n.up), .ref 1 (γ 1), pI n.version, .mp 2 (γ 2), .ref 3 (γ 3), pI n.round, pI n.low])), (5, ((γ 5), .dead)), (7, (0, .dead)), (6, (0, .dead))] _
 have hkl : n.kept.length ≤ 5000000 := by simp only [r7r, a1u] at hs; omega
 refine dv 8 ?_
 refine rlM [5] [_] (z8z c n.kept (by omega)) rfl rfl rfl ?_
 refine dv 10 fun K K' => ?_
 refine x4x (ι := Nat) (fun i γ1 => [(3, .ref 5 (γ1 5)), (19, pI (i : Int))]) (fun i γ1 => [(5, ((γ1 5), .row 56 7 ((n.kept ++ (n.lanes.take i).flatMap a8l).map y3y))), (6, ((γ1 6), .dead)), (7, ((γ1 7), .dead))]) (fun i => i ≤ n.lanes.length) (fun i => n.lanes.length - i) (a0f [17, 18] rfl) (a2k [0, 1, 2, 3, 4] rfl) 0 (by omega) [0, 0, 0, 0, 0, _, _, _] y2y (HE.row rfl (by simp) (HE.kill rfl (HE.kill rfl HE.nil))) rfl fun i γ1 hi => ?_
 refine dc 3 (fun K K' => aS ?_ ?_)<;>intro o<;>try simp at o
 ·obtain rfl : i = n.lanes.length := by omega
  refine dv 5 ?_
  exact ⟨[γ 0, γ 1, γ 2, γ 3, γ 4, _], rfl, rfl, HE.row rfl (by rw [List.take_length]; rfl) (a2k [0, 1, 2, 3, 4] rfl)⟩
 obtain ⟨p, hp⟩ := gE n.lanes i
 refine dv 4 fun K K' => ?_
 refine z0z (j := i) rfl rfl b3h rfl a1m rfl rfl (u3u hp) ?_
 refine dv 7 ?_
 refine y8y 23 rfl fun hlen2 => ?_
 refine x4x (ι := Nat) (fun j γ2 => [(3, .ref 5 (γ2 5)), (25, pI (j : Int))]) (fun j γ2 => [(5, ((γ2 5), .row 56 7 ((n.kept ++ (n.lanes.take i).flatMap a8l ++ (p.done.take j).flatMap Pa.sends).map y3y))), (6, ((γ2 6), .dead)), (7, ((γ2 7), .dead))]) (fun j => j ≤ p.done.length) (fun j => p.done.length - j) (a0f [17, 18, 19, 23, 24] rfl) (a2k [0, 1, 2, 3, 4] rfl) 0 (by omega) [0, 0, 0, 0, 0, _, _, _] y2y (HE.row rfl (by simp) (HE.kill rfl (HE.kill rfl HE.nil))) rfl fun j γ2 hi => ?_
 refine dc 3 (fun K K' => aS ?_ ?_)<;>intro o<;>try simp at o
 ·obtain rfl : j = p.done.length := by omega
  refine dv 2 ?_
  refine u2u rfl rfl rfl (dv 1 ?_)
  exact ⟨i + 1, ⟨by omega, by omega⟩, [0, 0, 0, 0, 0, _, _, _], (x5x 3 rfl (Cov.cons' (t := 19) rfl (by rw [x6x (by omega) (by omega)]; rfl) Cov.nil)), y2y, (HE.row rfl (by simp only [a1s hp, List.append_assoc, a8l, List.take_length]) (HE.kill rfl (HE.kill rfl HE.nil))), y1y, rfl⟩
 obtain ⟨q, hq⟩ := gE p.done j
 have hsp := c0i hp hq
 refine dv 6 fun K K' => ?_
 refine x3x (id := 6) s1s b8c rfl (dv 5 ?_)
 refine p2p (zs := (n.kept ++ (n.lanes.take i).flatMap a8l ++ (p.done.take j).flatMap Pa.sends ++ q.sends).map y3y) rfl rfl w2w rfl y9y rfl rfl rfl (w4w (fun _ => rfl) _) (a4l _ _ _) (by have hb56 : T56.bytes = 56 := rfl; rw [List.length_map, hb56]; omega) ?_
 refine dv 2 ?_
 refine u2u rfl rfl rfl (dv 1 ?_)
 exact ⟨j + 1, ⟨by omega, by omega⟩, [0, 0, 0, 0, 0, _, _, _], (x5x 3 rfl (Cov.cons' (t := 25) rfl (by rw [x6x (by omega) (by omega)]; rfl) Cov.nil)), (x5x 17 rfl (x5x 18 rfl (x5x 19 rfl (x5x 23 rfl (x5x 24 rfl Cov.nil))))), (HE.row rfl (by simp only [a1s hq, List.append_assoc]) (HE.kill rfl (HE.kill rfl HE.nil))), (u4u 0 rfl (u4u 1 rfl (u4u 2 rfl (u4u 3 rfl (u4u 4 rfl HE.nil))))), rfl⟩
theorem b6i (c : Bool) (n : Nd) (proc : Int) (e : Ev) : Meth Tryz.prog 231 7 [0, 1, 2, 3, 4, 5, 6] [.agg (y3y e), .ptr 5 0 0, .ptr 6 0 0] [(0, (0, .row 41 3 ((n.lanes).map fun l => p0p l.base))), (1, (0, .row 42 1 ((n.lanes).map fun l => [a3b c l.done]))), (2, (0, .map (a5t c n.views))), (3, (0, .row 3 1 (n.known.map r5r))), (4, (0, .box 164 [pI n.id, pI n.inc, pI n.g, pI n.led, .ref 0 0, w7w c n.kept, r9r c n.outs, .pv (.bool n.up), .ref 1 0, pI n.version, .mp 2 0, .ref 3 0, pI n.round, pI n.low])), (5, (0, .box 3 [pI proc])), (6, (0, .box 148 [.ptr 4 0 0]))] (.pv (.bool (a7i proc n.g e))) [] := by
 refine u9u z9z (fn := Tryz.f231) (by kernel_rfl) (by kernel_rfl) rfl (O0 := [.pv (.bool (a7i proc n.g e))]) 7 1 (a0w rfl) (by rfl) (by repeat (first | exact BndH.nil | refine BndH.box rfl ?_ | refine BndH.row (y5y fun _ => rfl) ?_ | refine BndH.map (p4p _ _) ?_ )) (by repeat (exact BndH.nil )) (by rfl) fun γ => ?_
 show Ex Tryz.prog _ _ [(0, .agg (y3y e)), (1, .ptr 5 (γ 5) 0), (2, .ptr 6 (γ 6) 0)] [(0, ((γ 0), .row 41 3 ((n.lanes).map fun l => p0p l.base))), (1, ((γ 1), .row 42 1 ((n.lanes).map fun l => [a3b c l.done]))), (2, ((γ 2), .map (a5t c n.views))), (3, ((γ 3), .row 3 1 (n.known.map r5r))), (4, ((γ 4), .box 164 [pI n.id, pI n.inc, pI n.g, pI n.led, .ref 0 (γ 0), w7w c n.kept, r9r c n.outs, .pv (.bool n.up), .ref 1 (γ 1), pI n.version, .mp 2 (γ 2), .ref 3 (γ 3), pI n.round, pI n.low])), (5, ((γ 5), .box 3 [pI proc])), (6, ((γ 6), .box 148 [.ptr 4 (γ 4) 0])), (7, (0, .dead))] _
 refine dv 1 ?_
 refine x9x (id := 7) rfl rfl rfl (dc 7 (aS ?_ ?_))<;>intro o<;>try simp at o
 ·refine dv 10 ?_
  exact ⟨[γ 0, γ 1, γ 2, γ 3, γ 4, γ 5, γ 6], rfl, congrArg (fun b : Bool => some [AV.pv (.bool b)]) ((decide_eq_false (by omega)).symm), y1y⟩
 refine dv 11 ?_
 exact ⟨[γ 0, γ 1, γ 2, γ 3, γ 4, γ 5, γ 6], rfl, congrArg (fun b : Bool => some [AV.pv (.bool b)]) (by exact decide_eq_decide.2 (by omega)), (u4u 0 rfl (u4u 1 rfl (u4u 2 rfl (u4u 3 rfl (u4u 4 rfl (u4u 5 rfl (u4u 6 rfl HE.nil)))))))⟩
theorem a2s (c : Bool) (n : Nd) (proc : Int) (l : List Ev) (hl : l.length ≤ 10000000) : Meth Tryz.prog 230 7 [0, 1, 2, 3, 4, 5, 6] [w7w true l, .fn (.func 231) [] [.ptr 5 0 0, .ptr 6 0 0]] [(0, (0, .row 41 3 ((n.lanes).map fun l => p0p l.base))), (1, (0, .row 42 1 ((n.lanes).map fun l => [a3b c l.done]))), (2, (0, .map (a5t c n.views))), (3, (0, .row 3 1 (n.known.map r5r))), (4, (0, .box 164 [pI n.id, pI n.inc, pI n.g, pI n.led, .ref 0 0, w7w c n.kept, r9r c n.outs, .pv (.bool n.up), .ref 1 0, pI n.version, .mp 2 0, .ref 3 0, pI n.round, pI n.low])), (5, (0, .box 3 [pI proc])), (6, (0, .box 148 [.ptr 4 0 0]))] (w7w true (l.filter (a7i proc n.g))) [] := by
 refine u9u z9z (fn := Tryz.f230) (by kernel_rfl) (by kernel_rfl) rfl (O0 := [w7w true (l.filter (a7i proc n.g))]) 7 4 (a0w rfl) (by rfl) (by repeat (first | exact BndH.nil | refine BndH.box rfl ?_ | refine BndH.row (y5y fun _ => rfl) ?_ | refine BndH.map (p4p _ _) ?_ )) (by repeat (exact BndH.nil )) (by rfl) fun γ => ?_
 show Ex Tryz.prog _ _ [(0, w7w true l), (1, .fn (.func 231) [] [.ptr 5 (γ 5) 0, .ptr 6 (γ 6) 0])] [(0, ((γ 0), .row 41 3 ((n.lanes).map fun l => p0p l.base))), (1, ((γ 1), .row 42 1 ((n.lanes).map fun l => [a3b c l.done]))), (2, ((γ 2), .map (a5t c n.views))), (3, ((γ 3), .row 3 1 (n.known.map r5r))), (4, ((γ 4), .box 164 [pI n.id, pI n.inc, pI n.g, pI n.led, .ref 0 (γ 0), w7w c n.kept, r9r c n.outs, .pv (.bool n.up), .ref 1 (γ 1), pI n.version, .mp 2 (γ 2), .ref 3 (γ 3), pI n.round, pI n.low])), (5, ((γ 5), .box 3 [pI proc])), (6, ((γ 6), .box 148 [.ptr 4 (γ 4) 0])), (10, (0, .dead)), (9, (0, .dead)), (8, (0, .dead)), (7, (0, .dead))] _
 refine dv 10 fun K K' => ?_
 refine w6w 5 10 56 7 rfl rfl ?_
 refine x4x (ι := Nat) (fun i γ1 => [(5, .ref 10 (γ1 10)), (10, pI (i : Int))]) (fun i γ1 => [(10, ((γ1 10), .row 56 7 (((l.take i).filter (a7i proc n.g)).map y3y))), (7, ((γ1 7), .dead)), (8, ((γ1 8), .dead)), (9, ((γ1 9), .dead))]) (fun i => i ≤ l.length) (fun i => l.length - i) (a0f [1, 8, 9] rfl) (a2k [0, 1, 2, 3, 4, 5, 6] rfl) 0 (by omega) [0, 0, 0, 0, 0, 0, 0, _, _, _, _] y2y (HE.row rfl (by rw [List.take_zero]; rfl) (HE.kill rfl (HE.kill rfl (HE.kill rfl HE.nil)))) rfl fun i γ1 hi => ?_
 refine dc 3 (fun K K' => aS ?_ ?_)<;>intro o<;>try simp at o
 ·obtain rfl : i = l.length := by omega
  rw [List.take_length]
  refine dv 1 ?_
  refine q6q 5 rfl rfl (fun _ => rfl) ?_
  refine dv 4 ?_
  exact ⟨[γ 0, γ 1, γ 2, γ 3, γ 4, γ 5, γ 6], rfl, rfl, y1y⟩
 obtain ⟨p, hp⟩ := gE l i
 have hfl : ((l.take i).filter (a7i proc n.g)).length ≤ 10000000 := Nat.le_trans (List.length_filter_le _ _) (by rw [List.length_take]; omega)
 refine dv 6 fun K K' => ?_
 refine x3x (id := 7) y9y a6x rfl (dv 4 ?_)
 refine rlM [0, 1, 2, 3, 4, 5, 6] [_, _, _, _, _, _, _] (b6i c n proc p) rfl rfl rfl ?_
 refine dc 0 (aS ?_ ?_)<;>intro hc5<;>try simp at hc5
 ·have hw : ¬ a7i proc n.g p = true := by rw [hc5]; decide
  refine dv 2 ?_
  refine u2u rfl rfl rfl (dv 1 ?_)
  exact ⟨i + 1, ⟨by omega, by omega⟩, [0, 0, 0, 0, 0, 0, 0, _, _, _, _], (x5x 5 rfl (Cov.cons' (t := 10) rfl (by rw [x6x (by omega) (by omega)]; rfl) Cov.nil)), y2y, (HE.row rfl (by rw [q7q hp]; rw [if_neg hw, List.append_nil]) (HE.kill rfl (HE.kill rfl (HE.kill rfl HE.nil)))), y1y, rfl⟩
 have hw : a7i proc n.g p = true := hc5
 refine dv 3 ?_
 refine v7v (id := 8) w2w rfl y9y rfl rfl rfl rfl rfl rfl ?_
 refine v5v (zs := ((l.take i).filter (a7i proc n.g) ++ [p]).map y3y) rfl rfl w2w rfl y9y rfl rfl rfl rfl (by rfl) (p5p _ _ _) (by (simp only [a3c, a1u, a2b, a2g, a5e, b8a, T56]; omega)) ?_
 refine dv 2 ?_
 refine u2u rfl rfl rfl (dv 1 ?_)
 exact ⟨i + 1, ⟨by omega, by omega⟩, [0, 0, 0, 0, 0, 0, 0, _, _, _, _], (x5x 5 rfl (Cov.cons' (t := 10) rfl (by rw [x6x (by omega) (by omega)]; rfl) Cov.nil)), (x5x 1 rfl (x5x 8 rfl (x5x 9 rfl Cov.nil))), (HE.row rfl (by rw [q7q hp]; rw [if_pos hw]) (HE.kill rfl (HE.kill rfl (HE.kill rfl HE.nil)))), (u4u 0 rfl (u4u 1 rfl (u4u 2 rfl (u4u 3 rfl (u4u 4 rfl (u4u 5 rfl (u4u 6 rfl HE.nil))))))), rfl⟩
theorem b1c (c : Bool) (n : Nd) (proc : Int) (hs : (r7r n).length + (r1r n 3).length ≤ 5000000) (hlen : n.lanes.length ≤ 1048576) (hv3 : n.views.length = 3) : Meth Tryz.prog 126 6 [0, 1, 2, 3, 4] [.ptr 4 0 0, .pv (.int .i64 proc)] [(0, (0, .row 41 3 ((n.lanes).map fun l => p0p l.base))), (1, (0, .row 42 1 ((n.lanes).map fun l => [a3b c l.done]))), (2, (0, .map (a5t c n.views))), (3, (0, .row 3 1 (n.known.map r5r))), (4, (0, .box 164 [pI n.id, pI n.inc, pI n.g, pI n.led, .ref 0 0, w7w c n.kept, r9r c n.outs, .pv (.bool n.up), .ref 1 0, pI n.version, .mp 2 0, .ref 3 0, pI n.round, pI n.low])), (5, (0, .dead))] (.ref 5 0) [(5, (0, .row 56 7 ((s6s n proc).map y3y)))] := by
 refine u9u z9z (fn := Tryz.f126) (by kernel_rfl) (by kernel_rfl) rfl (O0 := [.ref 5 0]) 6 4 (a0w rfl) (by rfl) (by repeat (first | exact BndH.nil | refine BndH.dead ?_ | refine BndH.box rfl ?_ | refine BndH.row (y5y fun _ => rfl) ?_ | refine BndH.map (p4p _ _) ?_ )) (by repeat (first | exact BndH.nil | refine BndH.row (y5y fun _ => rfl) ?_ )) (by rfl) fun γ => ?_
 show Ex Tryz.prog _ _ [(0, .ptr 4 (γ 4) 0), (1, .pv (.int .i64 proc))] [(0, ((γ 0), .row 41 3 ((n.lanes).map fun l => p0p l.base))), (1, ((γ 1), .row 42 1 ((n.lanes).map fun l => [a3b c l.done]))), (2, ((γ 2), .map (a5t c n.views))), (3, ((γ 3), .row 3 1 (n.known.map r5r))), (4, ((γ 4), .box 164 [pI n.id, pI n.inc, pI n.g, pI n.led, .ref 0 (γ 0), w7w c n.kept, r9r c n.outs, .pv (.bool n.up), .ref 1 (γ 1), pI n.version, .mp 2 (γ 2), .ref 3 (γ 3), pI n.round, pI n.low])), (5, ((γ 5), .dead)), (9, (0, .dead)), (8, (0, .dead)), (7, (0, .dead)), (6, (0, .dead))] _
 refine dv 1 ?_
 refine b1p (id := 6) rfl rfl rfl rfl (b1p (id := 7) rfl rfl rfl rfl (dv 3 ?_))
 refine rlM [0, 1, 2, 3, 4, 9] [_, _, _, _, _, _] (b1a c n (by omega) hlen) rfl rfl rfl ?_
 refine dv 5 fun K K' => ?_
 refine x4x (ι := Nat) (fun i γ1 => [(5, .ref 9 (γ1 9)), (9, pI (i : Int))]) (fun i γ1 => [(9, ((γ1 9), .row 56 7 ((r7r n ++ r1r n i).map y3y))), (8, ((γ1 8), .dead))]) (fun i => i ≤ 3) (fun i => 3 - i) (a0f [2, 3] rfl) (a2k [0, 1, 2, 3, 4, 5, 6, 7] rfl) 0 (by omega) [0, 0, 0, 0, 0, 0, 0, 0, _, _] y2y (HE.row rfl (by simp [r1r]) (HE.kill rfl HE.nil)) rfl fun i γ1 hi => ?_
 refine dc 3 (fun K K' => aS ?_ ?_)<;>intro o<;>try simp at o
 ·obtain rfl : i = 3 := by omega
  refine dv 1 ?_
  refine q6q 5 rfl rfl (fun _ => rfl) ?_
  refine dv 2 ?_
  refine a5k rfl rfl ?_
  refine rlM [0, 1, 2, 3, 4, 7, 6] [_, _, _, _, _, _, _] (a2s c n proc _ (by rw [List.length_append]; omega)) rfl rfl rfl ?_
  refine rlM [5] [_] (a0n true _ (Nat.le_trans (List.length_filter_le _ _) (by rw [List.length_append]; omega))) rfl rfl rfl ?_
  refine dv 2 ?_
  exact ⟨[γ 0, γ 1, γ 2, γ 3, γ 4, _], rfl, rfl, y1y⟩
 obtain ⟨v, hv⟩ := gE n.views i
 have hg : n.views.getD i vi0 = v := by rw [List.getD_eq_getElem?_getD, hv]; rfl
 have hol := c0j n (i := i + 1) (by omega)
 rw [s7s] at hol
 refine dc 14 (fun K K' => aS ?_ ?_)<;>intro hc5<;>try simp at hc5
 ·have hve : b0g n i = [] := by rw [b0g, if_pos hc5]
  refine dv 2 ?_
  refine u2u rfl rfl rfl (dv 1 ?_)
  exact ⟨i + 1, ⟨by omega, by omega⟩, [0, 0, 0, 0, 0, 0, 0, 0, _, _], (x5x 5 rfl (Cov.cons' (t := 9) rfl (by rw [x6x (by omega) (by omega)]; rfl) Cov.nil)), y2y, (HE.row rfl (by rw [s7s, hve]; simp) (HE.kill rfl HE.nil)), y1y, rfl⟩
 have hve : b0g n i = v.events := by rw [b0g, if_neg hc5, hg]
 rw [hve] at hol
 simp only [a1u] at hol
 refine dv 7 ?_
 refine a2m (κ := Int) (enc := fun n => .int .i64 n) (ks := b4q n.views.length) (k := (i : Int)) (out := .agg (a1f c v)) z9z Tryz.underlying162 (a7c Tryz.underlying3) rfl rfl (fun _ _ _ h => c9v h) rfl (a7k _ _) (b6h hv) ?_
 refine dv 1 ?_
 refine p2p (zs := (r7r n ++ r1r n i ++ v.events).map y3y) rfl rfl w2w rfl y9y rfl rfl rfl (w4w (fun _ => rfl) _) (a4l _ _ _) (by have hb56 : T56.bytes = 56 := rfl; rw [List.length_map, hb56]; simp only [a1u]; omega) ?_
 refine dv 2 ?_
 refine u2u rfl rfl rfl (dv 1 ?_)
 exact ⟨i + 1, ⟨by omega, by omega⟩, [0, 0, 0, 0, 0, 0, 0, 0, _, _], (x5x 5 rfl (Cov.cons' (t := 9) rfl (by rw [x6x (by omega) (by omega)]; rfl) Cov.nil)), y2y, (HE.row rfl (by rw [s7s, hve]; simp) (HE.kill rfl HE.nil)), y1y, rfl⟩
end
section
theorem b8i (c : Bool) (p : Pa) (ps : List Pa) : Meth Tryz.prog 236 1 [0] [.ptr 0 0 0, .agg (a0t c p)] [(0, (0, .chn 256 259 ((ps).map (a0t c))))] (.tup []) [(0, (0, .chn 256 259 ((ps ++ [p]).map (a0t c))))] := by
 refine mX Tryz.f236 [] 1 2 fun γ => ?_
 refine d5z (d1q 0 rfl fun b0 bs hbl hbn => ?_)
 have hbl2 : bs.length = ps.length := by rw [hbl, List.length_map]
 refine exR (x9x (id := 1) rfl rfl rfl (exR (c7i rfl s1s rfl rfl rfl (rlB b7v e5x ?_))))
 refine x9x (id := 2) rfl rfl rfl (v3v rfl (q4q fun K1 hK1 => ?_))
 refine d6b 4 0 2 rfl rfl (by intro h; cases h) rfl rfl rfl fun bn hbn2 => ?_
 refine exA 3 rfl rfl ?_
 refine b5p z9z (out := .pv (a4h bs.getLast?)) rfl a3f rfl rfl ?_
 refine a9w rfl rfl (by intro a c h h2; cases h; cases h2; rfl) (.inl rfl) (b9z (by kernel_rfl) _ _ _) ?_
 refine y6y rfl ?_ ?_<;>intro hc2<;>try simp at hc2
 ·obtain rfl : bs = [] := by cases bs with | nil => rfl | cons b r => (simp [List.getLast?_cons, a3k] at hc2)
  obtain rfl : ps = [] := List.eq_nil_of_length_eq_zero (by simpa using hbl2.symm)
  refine exG (s3s 4 rfl rfl (a9i z9z rfl rfl a3f rfl rfl rfl rfl rfl (hK1 _ _ (exG (s3s 4 rfl rfl (a9i z9z rfl rfl a3f rfl rfl rfl rfl rfl (Conv.step (b8t 0 b0 256 259 ([bn]) ([a0t c p]) rfl rfl rfl) (Conv.done ?_))))))))
  exact ⟨.inl rfl, [γ 0], rfl, rfl, y1y⟩
 obtain ⟨bs0, bl, rfl⟩ := d5y (l := bs) hc2
 obtain ⟨ps0, pl, rfl⟩ := d5y (l := ps) (by rintro rfl; simp at hbl2)
 refine exG (s3s 3 rfl rfl ?_)
 refine b5p z9z (out := PQ bl 0) rfl a3f rfl (by rw [List.getLast?_concat]; rfl) ?_
 refine q1q rfl (b4i rfl (a0q z9z rfl b7v rfl rfl a3f rfl ?_))
 refine c7y z9z (bty := 259) ((b0, 256, [.pv (a4h (bs0 ++ [bl]).head?), .pv (a4h (bs0 ++ [bl]).getLast?)]) :: b6q 259 (some bl) bs0 (ps0.map (a0t c))) [(bn, 259, a0t c p ++ [.pv (.pointer none)])] (cs := a0t c pl ++ [.pv (.pointer none)]) 0 rfl rfl a3f rfl rfl rfl (by rw [chB, List.map_append, List.map_cons, List.map_nil, c7x (by rw [List.length_map]; simpa using hbl2)]; simp [a4h]) (a0w rfl) rfl ?_
 refine hK1 _ _ (exG (s3s 4 rfl rfl (a9i z9z rfl rfl a3f rfl rfl rfl rfl rfl ?_)))
 refine Conv.step (b8t 0 b0 256 259 (bs0 ++ [bl] ++ [bn]) (((ps0 ++ [pl]) ++ [p]).map (a0t c)) rfl (by simp at hbl2 ⊢; exact hbl2) (by rw [List.map_append, List.map_cons (l := []), List.map_nil, d1p (by rw [List.length_map]; exact hbl2), List.map_append, List.map_cons, List.map_nil, c7x (by rw [List.length_map]; simpa using hbl2)]; cases bs0 <;> simp [a4h] <;> rfl)) (Conv.done ?_)
 exact ⟨.inl rfl, [γ 0], rfl, rfl, y1y⟩
theorem a8n (c : Bool) (l : List Pa) : Meth Tryz.prog 131 1 [] [a3b c l] [(0, (0, .dead))] (.ptr 0 0 0) [(0, (0, .chn 256 259 ((l).map (a0t c))))] := by
 refine mX Tryz.f131 [.ptr 0 0 0] 1 1 fun γ => ?_
 refine y8y 0 rfl fun hlen => ?_
 refine exR (v3v rfl (exR (rlB e5s e5w ?_)))
 refine x9x (id := 0) rfl rfl rfl (v3v rfl (q4q fun K1 hK1 => ?_))
 refine exR (q1q rfl (c4d rfl a1m rfl (q1q rfl (a2w (d6a 0 259 rfl ?_)))))
 refine x4x (ι := Nat) (fun i γ1 => [(10, pI (i : Int))]) (fun i γ1 => [(0, ((γ 0 + 1), .chn 256 259 ((l.take i).map (a0t c)))), (1, ((γ1 1), .dead))]) (fun i => i ≤ l.length) (fun i => l.length - i) (a0f [3, 8, 9] rfl) HE.nil 0 (by omega) [0, _] y2y (HE.chn rfl (by rw [List.take_zero]; rfl) (HE.kill rfl HE.nil)) rfl fun i γ1 hi => ?_
 refine exR (c3g rfl rfl rfl (q4q fun K2 hK2 => ?_))
 refine c5t rfl ?_ ?_<;>intro o<;>try simp at o
 ·obtain rfl : i = l.length := by omega
  refine a8j (hK1 _ _ (exA 2 rfl rfl (a9d ?_)))
  rw [List.take_length]
  exact ⟨.inr rfl, [_], rfl, rfl, y1y⟩
 obtain ⟨p, hp⟩ := gE l i
 refine a6v (hK2 _ _ (q4q fun K4 hK4 => ?_))
 refine a2w (exR (b4c rfl rfl a1m rfl s1s rfl (by assumption) ?_))
 refine b1q rfl s1s rfl rfl (x3x (id := 1) s1s b8c rfl (b9r rfl rfl s1s rfl rfl rfl rfl (exG (s3s 2 rfl rfl ?_))))
 refine rlM [0] [_] (b8i c p (l.take i)) rfl rfl rfl ?_
 refine hK4 _ _ (exG (x2x (b := 1) rfl rfl (by omega) (q1q rfl ?_)))
 exact ⟨i + 1, ⟨by omega, by omega⟩, [0, _], y2y, y2y, (HE.chn rfl (by rw [z3z hp]) (HE.kill rfl HE.nil)), y1y, rfl⟩
theorem a2t (c c' : Bool) (ps : List Pa) (s : List Ev) : Meth Tryz.prog 132 1 [0] [.ptr 0 0 0, w7w c' s] [(0, (0, .chn 256 259 ((ps).map (a0t c))))] (.pv (.int .i64 (same ps s : Int))) [] := by
 refine mX Tryz.f132 [.pv (.int .i64 (same ps s : Int))] 1 0 fun γ => ?_
 refine y8y 1 rfl fun hlen => ?_
 refine d1q 0 rfl fun b0 bs hbl hbn => ?_
 have hbl2 : bs.length = ps.length := by rw [hbl, List.length_map]
 refine exR (v3v rfl (exR (v3v rfl (q4q fun K1 hK1 => ?_))))
 refine exA 3 rfl rfl ?_
 refine b5p z9z (out := .pv (a4h bs.head?)) rfl a3f rfl rfl ?_
 refine v3v rfl (a2w ?_)
 refine x4x (ι := Nat) (fun i γ1 => [(5, pI (i : Int)), (6, .pv (a4h bs[i]?))]) (fun i γ1 => []) (fun i => i ≤ ps.length ∧ i ≤ s.length ∧ same ps s = i + same (ps.drop i) (s.drop i)) (fun i => ps.length - i) (x5x 1 rfl Cov.nil) (u4u 0 rfl HE.nil) 0 ⟨by omega, by omega, by rw [List.drop_zero, List.drop_zero, Nat.zero_add]⟩ [] (x5x 5 rfl (Cov.cons' (t := 6) rfl ((by rw [List.head?_eq_getElem?])) Cov.nil)) y1y rfl fun i γ1 hi => ?_
 obtain ⟨h1, h2, h3⟩ := hi
 refine q4q fun K2 hK2 => ?_
 refine exD (q1q rfl (a9w rfl rfl (by intro a c h h2; cases h; cases h2; rfl) (.inr rfl) (b9z (by kernel_rfl) _ _ _) ?_))
 refine q1q rfl (e7g rfl rfl ?_ ?_)<;>intro o<;>try simp at o
 ·have g1 : ps.length ≤ i := by omega
  refine s3s 16 rfl rfl ⟨by kernel_rfl, y6y rfl (fun hc8 => ?_) (fun hc8 => ?_)⟩
  ·simp at hc8
  try simp at hc8
  try have heq : ¬ p.ev = e := by simpa [a3k] using hc8
  refine a8j (hK1 _ _ (exA 2 rfl rfl (b5n 0 b0 256 259 (bs) (ps.map (a0t c)) rfl hbl rfl ?_)))
  refine a9d ?_
  refine ⟨.inr rfl, [γ 0], rfl, ?_, HE.same rfl HE.nil⟩
  exact congrArg (fun v : Nat => some [AV.pv (.int .i64 (v : Int))]) (h3.trans (by rw [c8j g1]; rfl)).symm
 obtain ⟨b, hb⟩ := gE bs i
 rw [hb]
 have g1 : i < ps.length := by have := (List.getElem?_eq_some_iff.1 hb).1; omega
 obtain ⟨p, hp⟩ := gE ps i
 refine s3s 2 rfl rfl (b9s rfl rfl (c4d rfl w2w rfl (s3s 3 rfl rfl (e7g rfl rfl ?_ ?_))))<;>intro o<;>try simp at o
 ·have g2 : s.length ≤ i := by omega
  refine s3s 10 rfl rfl ⟨by kernel_rfl, y6y rfl (fun hc7 => ?_) (fun hc7 => ?_)⟩
  ·simp at hc7
  try simp at hc7
  try have heq : ¬ p.ev = e := by simpa [a3k] using hc7
  refine a8j (hK1 _ _ (exA 2 rfl rfl (b5n 0 b0 256 259 (bs) (ps.map (a0t c)) rfl hbl rfl ?_)))
  refine a9d ?_
  refine ⟨.inr rfl, [γ 0], rfl, ?_, HE.same rfl HE.nil⟩
  exact congrArg (fun v : Nat => some [AV.pv (.int .i64 (v : Int))]) (h3.trans (by rw [c8k g2]; rfl)).symm
 have g2 : i < s.length := by omega
 obtain ⟨e, he⟩ := gE s i
 refine q1q rfl (b9s rfl rfl (b4i rfl (b9s rfl rfl (a0q z9z rfl b7v rfl rfl s1s rfl (b9s rfl rfl (a0q z9z rfl s1s rfl rfl y9y rfl (b9s rfl rfl ?_)))))))
 refine b5o z9z (out := .agg (y3y p.ev)) 0 rfl y9y rfl (c0a hbl hb (b4n hp)) rfl ?_
 refine s3s 2 rfl rfl (b9s rfl rfl (b4c rfl rfl w2w rfl y9y rfl he (b9s rfl rfl ?_)))
 refine a0d (out := .agg (y3y e)) rfl y9y rfl ?_
 refine b9s rfl rfl (a9w rfl rfl (by intro a c h; cases h) (.inl rfl) (e4m _ _ _ _) ?_)
 refine d1j rfl rfl ⟨by kernel_rfl, c5t rfl ?_ ?_⟩<;>intro hc5<;>try simp at hc5
 ·try have heq : ¬ p.ev = e := by simpa [a3k] using hc5
  refine a8j (hK1 _ _ (exA 2 rfl rfl (b5n 0 b0 256 259 (bs) (ps.map (a0t c)) rfl hbl rfl ?_)))
  refine a9d ?_
  refine ⟨.inr rfl, [γ 0], rfl, ?_, HE.same rfl HE.nil⟩
  exact congrArg (fun v : Nat => some [AV.pv (.int .i64 (v : Int))]) (h3.trans (by rw [c8i hp he heq]; rfl)).symm
 try have heq : p.ev = e := by simpa [a3k] using hc5
 refine a6v (hK2 _ _ (q4q fun K6 hK6 => ?_))
 refine a2w (exG (q1q rfl (x2x (b := 1) rfl rfl (by omega) (v3v rfl (hK6 _ _ (exG (q1q rfl (b4i rfl (a0q z9z rfl b7v rfl rfl a3f rfl ?_)))))))))
 refine b5o z9z (out := .pv (a4h bs[i + 1]?)) 0 rfl a3f rfl (c0a hbl hb (b4n hp)) rfl ?_
 refine v3v rfl ?_
 exact ⟨i + 1, ⟨⟨by omega, by omega, by rw [h3, c8h hp he heq]; omega⟩, by omega⟩, [], y2y, y2y, y1y, y1y, rfl⟩
theorem b7k (c : Bool) (ps : List Pa) (hlp : ps.length ≤ 1000000) : Meth Tryz.prog 294 1 [0] [.ptr 0 0 0] [(0, (0, .chn 256 259 ((ps).map (a0t c))))] (a3b c ps) [] := by
 refine mX Tryz.f294 [a3b c ps] 1 3 fun γ => ?_
 refine d1q 0 rfl fun b0 bs hbl hbn => ?_
 have hbl2 : bs.length = ps.length := by rw [hbl, List.length_map]
 refine exR (v3v rfl (exR (v3v rfl (q4q fun K1 hK1 => ?_))))
 refine exA 3 rfl rfl ?_
 refine b5p z9z (out := .pv (a4h bs.head?)) rfl a3f rfl rfl ?_
 refine v3v rfl (a2w (w6w 3 3 58 12 rfl rfl ?_))
 refine x4x (ι := Nat) (fun i γ1 => [(3, .ref 3 (γ1 3)), (4, .pv (a4h bs[i]?))]) (fun i γ1 => [(3, ((γ1 3), .row 58 12 ((ps.take i).map (a0t c)))), (1, ((γ1 1), .dead)), (2, ((γ1 2), .dead))]) (fun i => i ≤ ps.length) (fun i => ps.length - i) Cov.nil (u4u 0 rfl HE.nil) 0 (by omega) [0, _, _, _] (x5x 3 rfl (Cov.cons' (t := 4) rfl ((by rw [List.head?_eq_getElem?])) Cov.nil)) (HE.row rfl (by rw [List.take_zero]; rfl) (HE.kill rfl (HE.kill rfl HE.nil))) rfl fun i γ1 hi => ?_
 refine q4q fun K2 hK2 => ?_
 refine exR (q1q rfl (a9w rfl rfl (by intro a c h h2; cases h; cases h2; rfl) (.inr rfl) (b9z (by kernel_rfl) _ _ _) ?_))
 refine c5t rfl ?_ ?_<;>intro o<;>try simp at o
 ·obtain rfl : i = ps.length := by omega
  rw [List.take_length]
  refine a8j (hK1 _ _ (exA 2 rfl rfl ?_))
  refine c7o (b := .row (.rd true) 58 12 (ps.map (a0t c))) 2 rfl (.ref rfl (Le.ow_map _ (fun _ => rfl) (fun _ => rfl)) .nil) ?_
  refine c7o (b := a3b c ps) 2 rfl (.le rfl (Le.low_map fun _ => rfl) .nil) ?_
  refine b5n 0 b0 256 259 (bs) (ps.map (a0t c)) rfl hbl rfl ?_
  refine a9d ?_
  exact ⟨.inr rfl, [γ 0], rfl, rfl, y1y⟩
 obtain ⟨b, hb⟩ := gE bs i
 rw [hb]
 have g1 : i < ps.length := by have := (List.getElem?_eq_some_iff.1 hb).1; omega
 obtain ⟨p, hp⟩ := gE ps i
 refine a6v (hK2 _ _ (q4q fun K4 hK4 => ?_))
 refine a2w (exG (s3s 2 rfl rfl (b4i rfl (a0q z9z rfl b7v rfl rfl s1s rfl ?_))))
 refine b5o z9z (out := .agg (a0t c p)) 0 rfl s1s rfl (c0a hbl hb (b4n hp)) rfl ?_
 refine v7v (id := 1) a1m rfl s1s rfl rfl rfl rfl rfl rfl ?_
 refine v5v (zs := (ps.take i ++ [p]).map (a0t c)) rfl rfl a1m rfl s1s rfl rfl rfl rfl (by rfl) (p5p _ _ _) (by simp only [a3c, a1u, a2b, a2g, a5e, T58]; omega) ?_
 refine v3v rfl (hK4 _ _ (exG (q1q rfl (b4i rfl (a0q z9z rfl b7v rfl rfl a3f rfl ?_)))))
 refine b5o z9z (out := .pv (a4h bs[i + 1]?)) 0 rfl a3f rfl (c0a hbl hb (b4n hp)) rfl ?_
 refine v3v rfl ?_
 exact ⟨i + 1, ⟨by omega, by omega⟩, [0, _, _, _], y2y, y2y, (HE.row rfl (by rw [z3z hp]) (HE.kill rfl (HE.kill rfl HE.nil))), y1y, rfl⟩
theorem b3e (c : Bool) (ps : List Pa) : Meth Tryz.prog 293 2 [0] [.ptr 0 0 0] [(0, (0, .chn 256 259 ((ps).map (a0t c)))), (1, (0, .dead))] (.fn (.func 314) [] [.ptr 1 0 0]) [(1, (0, .box 156 [.ptr 0 0 0]))] := by
 refine mX Tryz.f293 [.fn (.func 314) [] [.ptr 1 0 0]] 2 0 fun γ => ?_
 refine exR (b1p (id := 1) rfl rfl rfl rfl (v3v rfl (exR (a5k rfl rfl (v3v rfl (a9d ?_))))))
 exact ⟨.inr rfl, [γ 0, _], rfl, rfl, y1y⟩
theorem b1m (c : Bool) (ps : List Pa) (k : Nat) (hk : k ≤ ps.length) (hlp : ps.length ≤ 1000000) : Meth Tryz.prog 314 2 [0, 1] [.pv (.int .i64 (k : Int)), .ptr 1 0 0] [(0, (0, .chn 256 259 ((ps).map (a0t c)))), (1, (0, .box 156 [.ptr 0 0 0]))] (.tup []) [(0, (0, .chn 256 259 ((ps.take k).map (a0t c))))] := by
 refine mX Tryz.f314 [] 2 0 fun γ => ?_
 refine d5z (d1q 0 rfl fun b0 bs hbl hbn => ?_)
 have hbl2 : bs.length = ps.length := by rw [hbl, List.length_map]
 refine q4q fun K1 hK1 => ?_
 refine exA 2 rfl rfl (y6y rfl ?_ ?_)<;>intro o<;>try simp at o
 ·obtain rfl : k = 0 := by omega
  refine exD (s3s 4 rfl rfl (a9i z9z rfl rfl a3f rfl rfl rfl rfl rfl (s3s 2 rfl rfl (a9i z9z rfl rfl a3f rfl rfl rfl rfl rfl ⟨by kernel_rfl, d3g 0 [(b0, 256, [.pv (.pointer none), .pv (.pointer none)])] _ rfl rfl ?_⟩))))
  refine b5n 0 b0 256 259 ([]) ([]) rfl rfl rfl ?_
  refine a9d ?_
  (refine Conv.done ?_; exact ⟨.inr rfl, [γ 0, γ 1], rfl, rfl, HE.same rfl (HE.same rfl HE.nil)⟩)
 have hk0 : 0 < k := by omega
 refine a6v (hK1 _ _ (exA 3 rfl rfl ?_))
 refine b5p z9z (out := .pv (a4h bs.head?)) rfl a3f rfl rfl ?_
 refine v3v rfl (q4q fun K3 hK3 => ?_)
 refine exR (v3v rfl (a2w ?_))
 refine x4x (ι := Nat) (fun j γ1 => [(3, .pv (a4h bs[j]?)), (4, pI ((j + 1 : Nat) : Int))]) (fun j γ1 => []) (fun j => j < k) (fun j => k - j) (a0f [0, 1] rfl) (a2k [0, 1] rfl) 0 (by omega) [] (Cov.cons' (t := 3) rfl ((by rw [List.head?_eq_getElem?])) (x5x 4 rfl Cov.nil)) y1y rfl fun j γ1 hi => ?_
 refine q4q fun K4 hK4 => ?_
 refine exA 4 rfl rfl (e3d rfl rfl ?_ ?_)<;>intro o<;>try simp at o
 ·have hj : j + 1 < k := by omega
  obtain ⟨b, hb⟩ := gE bs j
  obtain ⟨p, hp⟩ := gE ps j
  rw [hb]
  refine q1q rfl (b9s rfl rfl (a9w rfl rfl (by intro a c h h2; cases h; cases h2; rfl) (.inr rfl) (b9z (by kernel_rfl) _ _ _) ?_))
  refine d1j rfl rfl (y6y rfl (fun hc6 => ?_) (fun hc6 => ?_))
  rotate_left
  ·simp at hc6
  try simp at hc6
  refine a6v (hK4 _ _ (q4q fun K7 hK7 => ?_))
  refine a2w (exG (q1q rfl (b4i rfl (a0q z9z rfl b7v rfl rfl a3f rfl ?_))))
  refine b5o z9z (out := .pv (a4h bs[j + 1]?)) 0 rfl a3f rfl (c0a hbl hb (b4n hp)) rfl ?_
  refine v3v rfl (hK7 _ _ (exG (q1q rfl (x2x (b := 1) rfl rfl (by omega) (v3v rfl ?_)))))
  exact ⟨j + 1, ⟨by omega, by omega⟩, [], y2y, y2y, y1y, y1y, rfl⟩
 obtain rfl : k = j + 1 := by omega
 obtain ⟨b, hb⟩ := gE bs j
 obtain ⟨p, hp⟩ := gE ps j
 rw [hb]
 refine s3s 2 rfl rfl (y6y rfl (fun hc8 => ?_) (fun hc8 => ?_))
 ·simp at hc8
 try simp at hc8
 refine a8j (hK3 _ _ (exR (q1q rfl (a9w rfl rfl (by intro a c h h2; cases h; cases h2; rfl) (.inr rfl) (b9z (by kernel_rfl) _ _ _) ?_))))
 refine y6y rfl (fun hc9 => ?_) (fun hc9 => ?_)
 rotate_left
 ·simp at hc9
 try simp at hc9
 refine exR (q1q rfl (b4i rfl (a0q z9z rfl b7v rfl rfl a3f rfl ?_)))
 refine c7y z9z (bty := 259) _ _ 0 rfl rfl a3f rfl rfl rfl (d5x hbl hb (b4n hp)) (a0w rfl) rfl ?_
 refine exG (s3s 4 rfl rfl (a9i z9z rfl rfl a3f rfl rfl rfl rfl rfl ?_))
 (refine Conv.step (c3f 0 ((b0, 256, [.pv (a4h bs.head?), PQ b 0]) :: (b6q 259 (some b) (bs.take j) ((ps.map (a0t c)).take j) ++ [(b, 259, a0t c p ++ [.pv (.pointer none)])])) (b6q 259 none (bs.drop (j + 1)) ((ps.map (a0t c)).drop (j + 1))) rfl (by simp [a4h]; rfl)) ?_; refine Conv.step (b8t 0 b0 256 259 (bs.take (j + 1)) ((ps.take (j + 1)).map (a0t c)) rfl (by simp; omega) (by rw [List.map_take, d9o hbl hb (b4n hp)])) (Conv.done ?_); exact ⟨.inl rfl, [γ 0, γ 1], rfl, rfl, HE.same rfl (HE.same rfl HE.nil)⟩)
end
section
theorem a4z (c : Bool) (n : Nd) : r0r Tryz.prog 38 [.agg (r4r c n)] (.pv (.bool (kb (w3w n)))) := by
 refine pX Tryz.f38 [.pv (.bool (kb (w3w n)))] 8 ?_
 have hpl := a7g n.id 4
 refine dv 1 ?_
 refine x9x (id := 0) rfl rfl rfl (dv 4 fun K K' => ?_)
 refine x0x rfl rfl rfl (c2j ..) (dc 1 (aI ?_ ?_))<;>intro hc2<;>try simp at hc2
 ·try have hX : ¬ a1n n := a4s (by simpa using hc2)
  refine dv 3 ?_
  refine x1x rfl ?_ rfl
  exact congrArg (fun b : Bool => [AV.pv (.bool b)]) (a5y (fun h => hX h.1))
 have fS : a1n n := a4r.1 (by simpa using hc2)
 have fB := v2v fS
 have fL := fS.2.2.2.2.1
 have fV := fS.2.2.2.2.2.1
 refine dv 3 ?_
 refine rlM [1, 2, 3, 4, 5] [_, _, _, _, _] (a6o c n (by omega) (by omega) fS.2.2.2.2.2.2.1) rfl rfl rfl ?_
 refine dv 5 fun K K' => ?_
 refine x0x rfl rfl rfl (a3t ..) (dv 3 ?_)
 refine x4x (ι := Nat) (fun j γ1 => [(16, pI (j : Int))]) (fun j γ1 => [(6, ((γ1 6), .dead)), (7, ((γ1 7), .dead))]) (fun j => j ≤ (a0j n.id 4).length ∧ c8f n.lanes (fun j l => ∀ p, (a0j n.id 4)[j]? = some p → l.done.length ≤ same l.done (s6s n p) ∧ (s6s n p).length ≤ 100) j) (fun j => (a0j n.id 4).length - j) (a0f [3, 14, 15] rfl) (a2k [0, 1, 2, 3, 4, 5] rfl) 0 ⟨by omega, a0z⟩ [0, 0, 0, 0, 0, 0, _, _] y2y y1y rfl fun j γ1 hi => ?_
 obtain ⟨d1, d2⟩ := hi
 refine dc 3 (fun K K' => aS ?_ ?_)<;>intro o<;>try simp at o
 ·have fC := fun (i : Nat) p l (a : (a0j n.id 4)[i]? = some p) (b : n.lanes[i]? = some l) => a2z d2 (by omega) i l b p a
  refine dv 4 ?_
  refine x1x rfl ?_ rfl
  exact congrArg (fun b : Bool => [AV.pv (.bool b)]) (e1y ⟨fS, fC⟩)
 obtain ⟨l, hl⟩ := gE n.lanes j
 obtain ⟨p, hp⟩ := gE (a0j n.id 4) j
 obtain ⟨hdl, _⟩ := a1z (fS.2.2.2.2.2.2.2.1 j l hl).2
 refine dv 12 fun K K' => ?_
 refine rlM [1, 2, 3, 4, 5, 6] [_, _, _, _, _, _] (b1c c n p (b7a fS) (by omega) fS.2.2.2.2.2.1) rfl rfl rfl ?_
 refine dv 1 ?_
 refine q6q 6 rfl rfl (fun _ => rfl) ?_
 refine dc 5 (aS ?_ ?_)<;>intro o<;>try simp at o
 ·refine dv 23 ?_
  refine x1x rfl ?_ rfl
  exact congrArg (fun b : Bool => [AV.pv (.bool b)]) (a5y (fun h => by have := h.2 _ _ _ hp hl; omega))
 refine dv 5 ?_
 refine z0z (j := j) rfl rfl b3h rfl a1m rfl rfl (u3u hl) ?_
 refine dv 1 ?_
 refine rlM [7] [_] (a8n c l.done) rfl rfl rfl ?_
 refine dv 1 ?_
 refine rlM [7] [_] (a2t c true l.done (s6s n p)) rfl rfl rfl ?_
 refine dv 5 ?_
 refine z0z (j := j) rfl rfl b3h rfl a1m rfl rfl (u3u hl) ?_
 refine dc 4 (aS ?_ ?_)<;>intro o<;>try simp at o
 ·refine dv 2 ?_
  refine x2x (b := 1) rfl rfl (by omega) (dv 1 ?_)
  exact ⟨j + 1, ⟨⟨by omega, a0e d2 hl (fun p2 hp2 => by rw [hp] at hp2; cases hp2; omega)⟩, by omega⟩, [0, 0, 0, 0, 0, 0, _, _], y2y, y2y, y1y, y1y, rfl⟩
 refine dv 3 ?_
 refine x1x rfl ?_ rfl
 exact congrArg (fun b : Bool => [AV.pv (.bool b)]) (a5y (fun h => by have := h.2 _ _ _ hp hl; omega))
end
section
theorem c1f (c : Bool) (p : Pa) (hs : p.sends.length ≤ 1048576) (ho : p.outs.length ≤ 1048576) : Meth Tryz.prog 222 2 [] [.agg (a0t c p)] [(0, (0, .dead)), (1, (0, .dead))] (.agg [pI p.ev.time, pI p.ev.to, pI p.ev.from', pI p.ev.count, pI p.ev.n, pI p.ev.kind, pI p.ev.arg, pI p.after.x, pI p.after.y, pI p.after.count, .ref 0 0, .ref 1 0]) [(0, (0, .row 56 7 (p.sends.map y3y))), (1, (0, .row 141 5 (p.outs.map v8v)))] := by
 refine mX Tryz.f222 [.agg [pI p.ev.time, pI p.ev.to, pI p.ev.from', pI p.ev.count, pI p.ev.n, pI p.ev.kind, pI p.ev.arg, pI p.after.x, pI p.after.y, pI p.after.count, .ref 0 0, .ref 1 0]] 2 2 fun γ => ?_
 refine dv 1 ?_
 refine x9x (id := 2) rfl rfl rfl (x3x (id := 3) s1s b8c rfl (dv 3 ?_))
 refine rlM [0] [_] (z8z c p.sends (by omega)) rfl rfl rfl ?_
 refine dv 5 ?_
 refine rlM [1] [_] (r2r c p.outs (by omega)) rfl rfl rfl ?_
 refine dv 6 ?_
 exact ⟨[_, _], rfl, rfl, y1y⟩
theorem a8o (c : Bool) (l : List Pa) (hl : c4w l ≤ 1048576) : Meth Tryz.prog 221 1 [] [a3b c l, .fn (.func 222) [] []] [(0, (0, .dead))] (.ref 0 0) [(0, (0, .row 58 12 (l.map a3g)))] := by
 refine mX Tryz.f221 [.ref 0 0] 1 3 fun γ => ?_
 have hc : c4w l = l.length + szs cPa l := rfl
 refine y8y 0 rfl fun hlen => ?_
 refine dc 7 (fun K K' => aI ?_ ?_)<;>intro hc2<;>try simp at hc2
 ·obtain rfl : l = [] := List.eq_nil_of_length_eq_zero (by simpa using hc2)
  refine dv 2 ?_
  refine w6w 4 0 58 12 rfl rfl (dv 1 ?_)
  exact ⟨[_], rfl, rfl, y1y⟩
 refine dv 4 ?_
 refine a6z (id := 0) a1m rfl s1s b8c rfl rfl rfl rfl (by (simp only [a3c, a1u, a2b, a2g, a5e, b8a, T58]; omega)) rfl ?_
 refine dv 7 fun K K' => ?_
 refine x4x (ι := Nat) (fun i γ1 => [(16, pI (i : Int))]) (fun i γ1 => [(2, ((γ1 2), .dead)), (3, ((γ1 3), .dead)), (0, ((γ 0 + 1), .row 58 12 ((l.take i).map a3g ++ (l.drop i).map fun _ => [pI 0, pI 0, pI 0, pI 0, pI 0, pI 0, pI 0, pI 0, pI 0, pI 0, .pv (.slice none 0 0), .pv (.slice none 0 0)]))), (1, ((γ1 1), .dead))]) (fun i => i ≤ l.length) (fun i => l.length - i) (a0f [1, 5, 14, 15] rfl) HE.nil 0 (by omega) [0, _, _, _] y2y (HE.kill rfl (HE.kill rfl (HE.row rfl (by rw [List.take_zero, List.drop_zero, List.map_const']; rfl) (HE.kill rfl HE.nil)))) rfl fun i γ1 hi => ?_
 refine dc 3 (fun K K' => aS ?_ ?_)<;>intro h<;>try simp at h
 ·obtain rfl : i = l.length := by omega
  refine dv 5 ?_
  exact ⟨[_], rfl, rfl, HE.row rfl (by rw [List.take_length, List.drop_length, List.map_nil, List.append_nil]) HE.nil⟩
 obtain ⟨p, hp⟩ := gE l i
 have hAl : ((l.take i).map a3g).length = i := by rw [List.length_map, List.length_take]; omega
 rw [v1v hp, List.map_cons]
 have hat := a2n cPa hp
 have hcp : cPa p = p.sends.length + p.outs.length := rfl
 refine dv 7 fun K K' => ?_
 refine x3x (id := 1) s1s b8c rfl (dv 7 ?_)
 refine rlM [2, 3] [_, _] (c1f c p (by omega) (by omega)) rfl rfl rfl ?_
 refine u0u rfl rfl a1m rfl s1s rfl rfl hAl (a2x hAl rfl rfl s1s rfl rfl rfl rfl (e2i rfl rfl rfl) rfl ?_)
 refine dv 1 ?_
 refine u2u rfl rfl rfl (dv 1 ?_)
 exact ⟨i + 1, ⟨by omega, by omega⟩, [0, _, _, _], (Cov.cons' (t := 16) rfl (by rw [x6x (by omega) (by omega)]; rfl) Cov.nil), y2y, (HE.kill rfl (HE.kill rfl (HE.row rfl (by rw [z3z hp, List.map_append, List.append_assoc]; rfl) (HE.kill rfl HE.nil)))), y1y, rfl⟩
theorem c1g (c : Bool) (p : La) (hs : c4w p.done ≤ 1048576) : Meth Tryz.prog 115 1 [] [.agg (q8q c p)] [(0, (0, .dead))] (.agg [pI p.proc, pI p.base.x, pI p.base.y, pI p.base.count, .ref 0 0]) [(0, (0, .row 58 12 (p.done.map a3g)))] := by
 refine mX Tryz.f115 [.agg [pI p.proc, pI p.base.x, pI p.base.y, pI p.base.count, .ref 0 0]] 1 2 fun γ => ?_
 refine dv 1 ?_
 refine x9x (id := 1) rfl rfl rfl (x3x (id := 2) s0s a6w rfl (dv 3 ?_))
 refine rlM [0] [_] (a8o c p.done hs) rfl rfl rfl ?_
 refine dv 6 ?_
 exact ⟨[_], rfl, rfl, y1y⟩
theorem a8p (c : Bool) (l : List La) (hl : b7y l ≤ 1048576) : Meth Tryz.prog 244 1 [] [c6p c l, .fn (.func 115) [] []] [(0, (0, .dead))] (.ref 0 0) [(0, (0, .row 44 5 (l.map a0l)))] := by
 refine mX Tryz.f244 [.ref 0 0] 1 2 fun γ => ?_
 have hc : b7y l = l.length + szs cLa l := rfl
 refine y8y 0 rfl fun hlen => ?_
 refine dc 7 (fun K K' => aI ?_ ?_)<;>intro hc2<;>try simp at hc2
 ·obtain rfl : l = [] := List.eq_nil_of_length_eq_zero (by simpa using hc2)
  refine dv 2 ?_
  refine w6w 4 0 44 5 rfl rfl (dv 1 ?_)
  exact ⟨[_], rfl, rfl, y1y⟩
 refine dv 4 ?_
 refine a6z (id := 0) a5v rfl s0s a6w rfl rfl rfl rfl (by (simp only [a3c, a1u, a2b, a2g, a5e, b8a, T44]; omega)) rfl ?_
 refine dv 7 fun K K' => ?_
 refine x4x (ι := Nat) (fun i γ1 => [(16, pI (i : Int))]) (fun i γ1 => [(2, ((γ1 2), .dead)), (0, ((γ 0 + 1), .row 44 5 ((l.take i).map a0l ++ (l.drop i).map fun _ => [pI 0, pI 0, pI 0, pI 0, .pv (.slice none 0 0)]))), (1, ((γ1 1), .dead))]) (fun i => i ≤ l.length) (fun i => l.length - i) (a0f [1, 5, 14, 15] rfl) HE.nil 0 (by omega) [0, _, _] y2y (HE.kill rfl (HE.row rfl (by rw [List.take_zero, List.drop_zero, List.map_const']; rfl) (HE.kill rfl HE.nil))) rfl fun i γ1 hi => ?_
 refine dc 3 (fun K K' => aS ?_ ?_)<;>intro h<;>try simp at h
 ·obtain rfl : i = l.length := by omega
  refine dv 5 ?_
  exact ⟨[_], rfl, rfl, HE.row rfl (by rw [List.take_length, List.drop_length, List.map_nil, List.append_nil]) HE.nil⟩
 obtain ⟨p, hp⟩ := gE l i
 have hAl : ((l.take i).map a0l).length = i := by rw [List.length_map, List.length_take]; omega
 rw [v1v hp, List.map_cons]
 have hat := a2n cLa hp
 have hcp : cLa p = c4w p.done := rfl
 refine dv 7 fun K K' => ?_
 refine x3x (id := 1) s0s a6w rfl (dv 7 ?_)
 refine rlM [2] [_] (c1g c p (by omega)) rfl rfl rfl ?_
 refine u0u rfl rfl a5v rfl s0s rfl rfl hAl (a2x hAl rfl rfl s0s rfl rfl rfl rfl (e2j rfl) rfl ?_)
 refine dv 1 ?_
 refine u2u rfl rfl rfl (dv 1 ?_)
 exact ⟨i + 1, ⟨by omega, by omega⟩, [0, _, _], (Cov.cons' (t := 16) rfl (by rw [x6x (by omega) (by omega)]; rfl) Cov.nil), y2y, (HE.kill rfl (HE.row rfl (by rw [z3z hp, List.map_append, List.append_assoc]; rfl) (HE.kill rfl HE.nil))), y1y, rfl⟩
theorem c1h (c : Bool) (p : Vi) (hs : p.events.length ≤ 1048576) : Meth Tryz.prog 247 1 [] [.agg (a1f c p)] [(0, (0, .dead))] (.agg [pI p.inc, pI p.version, .ref 0 0]) [(0, (0, .row 56 7 (p.events.map y3y)))] := by
 refine mX Tryz.f247 [.agg [pI p.inc, pI p.version, .ref 0 0]] 1 2 fun γ => ?_
 refine dv 1 ?_
 refine x9x (id := 1) rfl rfl rfl (x3x (id := 2) p7p a4c rfl (dv 3 ?_))
 refine rlM [0] [_] (z8z c p.events (by omega)) rfl rfl rfl ?_
 refine dv 6 ?_
 exact ⟨[_], rfl, rfl, y1y⟩
theorem a8q (c : Bool) (l : List Vi) (hl : c3j l ≤ 1048576) : Meth Tryz.prog 246 1 [] [c6q c l, .fn (.func 247) [] []] [(0, (0, .dead))] (.ref 0 0) [(0, (0, .row 190 3 (l.map a0u)))] := by
 refine mX Tryz.f246 [.ref 0 0] 1 2 fun γ => ?_
 have hc : c3j l = l.length + szs cVi l := rfl
 refine y8y 0 rfl fun hlen => ?_
 refine dc 7 (fun K K' => aI ?_ ?_)<;>intro hc2<;>try simp at hc2
 ·obtain rfl : l = [] := List.eq_nil_of_length_eq_zero (by simpa using hc2)
  refine dv 2 ?_
  refine w6w 4 0 190 3 rfl rfl (dv 1 ?_)
  exact ⟨[_], rfl, rfl, y1y⟩
 refine dv 4 ?_
 refine a6z (id := 0) a9e rfl p7p a4c rfl rfl rfl rfl (by (simp only [a3c, a1u, a2b, a2g, a5e, b8a, T190]; omega)) rfl ?_
 refine dv 7 fun K K' => ?_
 refine x4x (ι := Nat) (fun i γ1 => [(16, pI (i : Int))]) (fun i γ1 => [(2, ((γ1 2), .dead)), (0, ((γ 0 + 1), .row 190 3 ((l.take i).map a0u ++ (l.drop i).map fun _ => [pI 0, pI 0, .pv (.slice none 0 0)]))), (1, ((γ1 1), .dead))]) (fun i => i ≤ l.length) (fun i => l.length - i) (a0f [1, 5, 14, 15] rfl) HE.nil 0 (by omega) [0, _, _] y2y (HE.kill rfl (HE.row rfl (by rw [List.take_zero, List.drop_zero, List.map_const']; rfl) (HE.kill rfl HE.nil))) rfl fun i γ1 hi => ?_
 refine dc 3 (fun K K' => aS ?_ ?_)<;>intro h<;>try simp at h
 ·obtain rfl : i = l.length := by omega
  refine dv 5 ?_
  exact ⟨[_], rfl, rfl, HE.row rfl (by rw [List.take_length, List.drop_length, List.map_nil, List.append_nil]) HE.nil⟩
 obtain ⟨p, hp⟩ := gE l i
 have hAl : ((l.take i).map a0u).length = i := by rw [List.length_map, List.length_take]; omega
 rw [v1v hp, List.map_cons]
 have hat := a2n cVi hp
 have hcp : cVi p = p.events.length := rfl
 refine dv 7 fun K K' => ?_
 refine x3x (id := 1) p7p a4c rfl (dv 7 ?_)
 refine rlM [2] [_] (c1h c p (by omega)) rfl rfl rfl ?_
 refine u0u rfl rfl a9e rfl p7p rfl rfl hAl (a2x hAl rfl rfl p7p rfl rfl rfl rfl (e2k rfl) rfl ?_)
 refine dv 1 ?_
 refine u2u rfl rfl rfl (dv 1 ?_)
 exact ⟨i + 1, ⟨by omega, by omega⟩, [0, _, _], (Cov.cons' (t := 16) rfl (by rw [x6x (by omega) (by omega)]; rfl) Cov.nil), y2y, (HE.kill rfl (HE.row rfl (by rw [z3z hp, List.map_append, List.append_assoc]; rfl) (HE.kill rfl HE.nil))), y1y, rfl⟩
theorem z2z (c : Bool) (n : Nd) (hl : cNd n ≤ 1048576) : Meth Tryz.prog 156 5 [] [.agg (r4r c n)] [(0, (0, .dead)), (1, (0, .dead)), (2, (0, .dead)), (3, (0, .dead)), (4, (0, .dead))] (.agg [pI n.id, .pv (.bool n.up), pI n.inc, pI n.g, .ref 0 0, .ref 1 0, .ref 2 0, pI n.led, pI n.version, .ref 3 0, .ref 4 0, pI n.round, pI n.low]) [(0, (0, .row 44 5 (n.lanes.map a0l))), (1, (0, .row 56 7 (n.kept.map y3y))), (2, (0, .row 141 5 (n.outs.map v8v))), (3, (0, .row 190 3 (n.views.map a0u))), (4, (0, .row 3 1 (n.known.map r5r)))] := by
 refine mX Tryz.f156 [.agg [pI n.id, .pv (.bool n.up), pI n.inc, pI n.g, .ref 0 0, .ref 1 0, .ref 2 0, pI n.led, pI n.version, .ref 3 0, .ref 4 0, pI n.round, pI n.low]] 5 2 fun γ => ?_
 have hc : cNd n = b7y n.lanes + n.kept.length + n.outs.length + c3j n.views + n.known.length := rfl
 refine dv 1 ?_
 refine x9x (id := 5) rfl rfl rfl (x3x (id := 6) a0o a0p rfl (dv 3 ?_))
 refine rlM [0] [_] (a8p c n.lanes (by omega)) rfl rfl rfl ?_
 refine dv 5 ?_
 refine rlM [1] [_] (z8z c n.kept (by omega)) rfl rfl rfl ?_
 refine dv 5 ?_
 refine rlM [2] [_] (r2r c n.outs (by omega)) rfl rfl rfl ?_
 refine dv 5 ?_
 refine rlM [3] [_] (a8q c n.views (by omega)) rfl rfl rfl ?_
 refine dv 5 ?_
 refine rlM [4] [_] (b1l c n.known (by omega)) rfl rfl rfl ?_
 refine dv 6 ?_
 exact ⟨[_, _, _, _, _], rfl, rfl, y1y⟩
end
section
theorem a2h (c : Bool) (n : Nd) (es : List (Value × AV)) (hes : ∀ p ∈ es, p.2.flatA = true) (i : Nat) (l : La) (hl : n.lanes[i]? = some l) (hp : (a0j n.id 4)[i]? = some l.proc) : Meth Tryz.prog 242 5 [0, 1, 2, 3, 4] [.ptr 4 0 0, .pv (.int .i64 (i : Int))] [(0, (0, .row 41 3 ((n.lanes).map fun l => p0p l.base))), (1, (0, .row 42 1 ((n.lanes).map fun l => [a3b c l.done]))), (2, (0, .map es)), (3, (0, .row 3 1 (n.known.map r5r))), (4, (0, .box 164 [pI n.id, pI n.inc, pI n.g, pI n.led, .ref 0 0, w7w c n.kept, r9r c n.outs, .pv (.bool n.up), .ref 1 0, pI n.version, .mp 2 0, .ref 3 0, pI n.round, pI n.low]))] (.agg (q8q c l)) [] := by
 refine u9u z9z (fn := Tryz.f242) (by kernel_rfl) (by kernel_rfl) rfl (O0 := [.agg (q8q c l)]) 5 1 (a0w rfl) (by rfl) (by repeat (first | exact BndH.nil | refine BndH.box rfl ?_ | refine BndH.row (y5y fun _ => rfl) ?_ | refine BndH.map hes ?_ )) (by repeat (exact BndH.nil )) (by rfl) fun γ => ?_
 show Ex Tryz.prog _ _ [(0, .ptr 4 (γ 4) 0), (1, .pv (.int .i64 (i : Int)))] [(0, ((γ 0), .row 41 3 ((n.lanes).map fun l => p0p l.base))), (1, ((γ 1), .row 42 1 ((n.lanes).map fun l => [a3b c l.done]))), (2, ((γ 2), .map es)), (3, ((γ 3), .row 3 1 (n.known.map r5r))), (4, ((γ 4), .box 164 [pI n.id, pI n.inc, pI n.g, pI n.led, .ref 0 (γ 0), w7w c n.kept, r9r c n.outs, .pv (.bool n.up), .ref 1 (γ 1), pI n.version, .mp 2 (γ 2), .ref 3 (γ 3), pI n.round, pI n.low])), (5, (0, .dead))] _
 refine dv 1 ?_
 refine x3x (id := 5) s0s a6w rfl (dv 6 ?_)
 refine x0x rfl rfl rfl (a3t ..) (dv 9 ?_)
 refine z0z (j := i) rfl rfl c7h rfl a1l rfl rfl (u3u hl) ?_
 refine dv 6 ?_
 refine z0z (j := i) rfl rfl b3h rfl a1m rfl rfl (u3u hl) ?_
 refine dv 1 ?_
 refine rlB s0s a6w ?_
 refine dv 2 ?_
 exact ⟨[γ 0, γ 1, γ 2, γ 3, γ 4], rfl, rfl, y1y⟩
theorem b6j (c : Bool) (n : Nd) (hlen : n.lanes.length ≤ 1048576) (hN : ∀ (i : Nat) l, n.lanes[i]? = some l → (a0j n.id 4)[i]? = some l.proc) (hv3 : n.views.length = 3) : Meth Tryz.prog 159 7 [0, 1, 2, 3, 4] [.ptr 4 0 0] [(0, (0, .row 41 3 ((n.lanes).map fun l => p0p l.base))), (1, (0, .row 42 1 ((n.lanes).map fun l => [a3b c l.done]))), (2, (0, .map (a5t c n.views))), (3, (0, .row 3 1 (n.known.map r5r))), (4, (0, .box 164 [pI n.id, pI n.inc, pI n.g, pI n.led, .ref 0 0, w7w c n.kept, r9r c n.outs, .pv (.bool n.up), .ref 1 0, pI n.version, .mp 2 0, .ref 3 0, pI n.round, pI n.low])), (5, (0, .dead)), (6, (0, .dead))] (.agg [pI n.id, .pv (.bool n.up), pI n.inc, pI n.g, .ref 5 0, w7w c n.kept, r9r c n.outs, pI n.led, pI n.version, .ref 6 0, .ref 3 0, pI n.round, pI n.low]) [(5, (0, .row 44 5 ((n.lanes).map (q8q c)))), (6, (0, .row 190 3 (n.views.map (a1f c))))] := by
 refine u9u z9z (fn := Tryz.f159) (by kernel_rfl) (by kernel_rfl) rfl (O0 := [.agg [pI n.id, .pv (.bool n.up), pI n.inc, pI n.g, .ref 5 0, w7w c n.kept, r9r c n.outs, pI n.led, pI n.version, .ref 6 0, .ref 3 0, pI n.round, pI n.low]]) 7 6 (a0w rfl) (by rfl) (by repeat (first | exact BndH.nil | refine BndH.dead ?_ | refine BndH.box rfl ?_ | refine BndH.row (y5y fun _ => rfl) ?_ | refine BndH.map (p4p _ _) ?_ )) (by repeat (first | exact BndH.nil | refine BndH.row (y5y fun _ => rfl) ?_ )) (by rfl) fun γ => ?_
 show Ex Tryz.prog _ _ [(0, .ptr 4 (γ 4) 0)] [(0, ((γ 0), .row 41 3 ((n.lanes).map fun l => p0p l.base))), (1, ((γ 1), .row 42 1 ((n.lanes).map fun l => [a3b c l.done]))), (2, ((γ 2), .map (a5t c n.views))), (3, ((γ 3), .row 3 1 (n.known.map r5r))), (4, ((γ 4), .box 164 [pI n.id, pI n.inc, pI n.g, pI n.led, .ref 0 (γ 0), w7w c n.kept, r9r c n.outs, .pv (.bool n.up), .ref 1 (γ 1), pI n.version, .mp 2 (γ 2), .ref 3 (γ 3), pI n.round, pI n.low])), (5, ((γ 5), .dead)), (6, ((γ 6), .dead)), (12, (0, .dead)), (11, (0, .dead)), (10, (0, .dead)), (9, (0, .dead)), (8, (0, .dead)), (7, (0, .dead))] _
 refine dv 1 ?_
 refine x3x (id := 7) a0o a0p rfl (dv 51 ?_)
 refine rlB a0o a0p ?_
 refine x3x (id := 8) a0o a0p rfl (dv 11 fun K K' => ?_)
 refine v0v 8 4 5 44 5 rfl rfl rfl rfl rfl ?_
 refine x4x (ι := Nat) (fun i γ1 => [(63, pI (i : Int))]) (fun i γ1 => [(5, ((γ1 5), .row 44 5 ((n.lanes.take i).map (q8q c)))), (8, ((0 + 1), .box 65 [pI n.id, .pv (.bool n.up), pI n.inc, pI n.g, .ref 5 (γ1 5), w7w c n.kept, r9r c n.outs, pI n.led, pI n.version, .pv (.slice none 0 0), .ref 3 (γ 3), pI n.round, pI n.low])), (9, ((γ1 9), .dead)), (10, ((γ1 10), .dead))]) (fun i => i ≤ n.lanes.length) (fun i => n.lanes.length - i) (a0f [0, 2, 3, 62] rfl) (a2k [0, 1, 2, 3, 4, 6, 7, 11, 12] rfl) 0 (by omega) [0, 0, 0, 0, 0, _, 0, 0, 0, _, _] y2y (HE.row rfl (by rw [List.take_zero]; rfl) (HE.box rfl rfl (HE.kill rfl (HE.kill rfl HE.nil)))) rfl fun i γ1 hi => ?_
 refine dc 3 (fun K K' => aI ?_ ?_)<;>intro o<;>try simp at o
 ·obtain ⟨l, hl⟩ := gE n.lanes i
  refine dv 11 fun K K' => ?_
  refine rlM [0, 1, 2, 3, 4] [_, _, _, _, _] (a2h c n _ (p4p _ _) i l hl (hN i l hl)) rfl rfl rfl ?_
  refine v7v (id := 9) a5v rfl s0s rfl rfl rfl rfl rfl rfl ?_
  refine v5v (zs := (n.lanes.take i ++ [l]).map (q8q c)) rfl rfl a5v rfl s0s rfl rfl rfl rfl (by rfl) (p5p _ _ _) (by (simp only [a3c, a1u, a2b, a2g, a5e, b8a, T44]; omega)) ?_
  refine dv 3 ?_
  refine u2u rfl rfl rfl (dv 1 ?_)
  exact ⟨i + 1, ⟨by omega, by omega⟩, [0, 0, 0, 0, 0, _, 0, 0, 0, _, _], (Cov.cons' (t := 63) rfl (by rw [x6x (by omega) (by omega)]; rfl) Cov.nil), y2y, (HE.row rfl (by simp only [z3z hl, List.map_append, List.map_cons, List.map_nil]) (HE.box rfl rfl (HE.kill rfl (HE.kill rfl HE.nil)))), y1y, rfl⟩
 obtain rfl : i = n.lanes.length := by omega
 rw [List.take_length]
 refine dv 5 fun K K' => ?_
 refine v0v 8 9 6 190 3 rfl rfl rfl rfl rfl ?_
 refine x4x (ι := Nat) (fun i γ2 => [(75, pI (i : Int))]) (fun i γ2 => [(6, ((γ2 6), .row 190 3 ((n.views.take i).map (a1f c)))), (8, ((0 + 1), .box 65 [pI n.id, .pv (.bool n.up), pI n.inc, pI n.g, .ref 5 (γ1 5), w7w c n.kept, r9r c n.outs, pI n.led, pI n.version, .ref 6 (γ2 6), .ref 3 (γ 3), pI n.round, pI n.low])), (11, ((γ2 11), .dead)), (12, ((γ2 12), .dead))]) (fun i => i ≤ 3) (fun i => 3 - i) (a0f [0, 2, 3] rfl) (a2k [0, 1, 2, 3, 4, 5, 7, 9, 10] rfl) 0 (by omega) [0, 0, 0, 0, 0, 0, _, 0, 0, 0, 0, _, _] y2y (HE.row rfl (by rfl) (HE.box rfl rfl (HE.kill rfl (HE.kill rfl HE.nil)))) rfl fun i γ2 hi => ?_
 refine dc 3 (fun K K' => aS ?_ ?_)<;>intro o<;>try simp at o
 ·obtain rfl : i = 3 := by omega
  refine dv 5 ?_
  exact ⟨[γ 0, γ 1, γ 2, γ 3, γ 4, _, _], rfl, rfl, HE.row rfl rfl (HE.row rfl (by rw [List.take_of_length_le (by omega)]) (a2k [0, 1, 2, 3, 4] rfl))⟩
 obtain ⟨v, hv⟩ := gE n.views i
 refine dv 14 fun K K' => ?_
 refine a2m (κ := Int) (enc := fun n => .int .i64 n) (ks := b4q n.views.length) (k := (i : Int)) (out := .agg (a1f c v)) z9z Tryz.underlying162 (a7c Tryz.underlying3) rfl rfl (fun _ _ _ h => c9v h) rfl (a7k _ _) (b6h hv) ?_
 refine v7v (id := 11) a9e rfl p7p rfl rfl rfl rfl rfl rfl ?_
 refine v5v (zs := (n.views.take i).map (a1f c) ++ [a1f c v]) rfl rfl a9e rfl p7p rfl rfl rfl rfl (by rfl) rfl (by simp only [a1u, a3c, b8a, a5e, a2b, a2g, T190]; omega) ?_
 refine dv 3 ?_
 refine u2u rfl rfl rfl (dv 1 ?_)
 exact ⟨i + 1, ⟨by omega, by omega⟩, [0, 0, 0, 0, 0, 0, _, 0, 0, 0, 0, _, _], (Cov.cons' (t := 75) rfl (by rw [x6x (by omega) (by omega)]; rfl) Cov.nil), y2y, (HE.row rfl (by rw [z3z hv, List.map_append]; rfl) (HE.box rfl rfl (HE.kill rfl (HE.kill rfl HE.nil)))), y1y, rfl⟩
end
section
theorem b3r (c : Bool) (n0 n : Nd) (h0 : cNd n0 ≤ 1048576) (hlen : n.lanes.length ≤ 1048576) (hN : ∀ (i : Nat) l, n.lanes[i]? = some l → (a0j n.id 4)[i]? = some l.proc) (hv3 : n.views.length = 3) : Meth Tryz.prog 166 10 [0, 1, 2, 3, 4] [.agg (r4r c n0), .ptr 4 0 0] [(0, (0, .row 41 3 ((n.lanes).map fun l => p0p l.base))), (1, (0, .row 42 1 ((n.lanes).map fun l => [a3b c l.done]))), (2, (0, .map (a5t c n.views))), (3, (0, .row 3 1 (n.known.map r5r))), (4, (0, .box 164 [pI n.id, pI n.inc, pI n.g, pI n.led, .ref 0 0, w7w c n.kept, r9r c n.outs, .pv (.bool n.up), .ref 1 0, pI n.version, .mp 2 0, .ref 3 0, pI n.round, pI n.low])), (5, (0, .dead)), (6, (0, .dead)), (7, (0, .dead)), (8, (0, .dead)), (9, (0, .dead))] (.tup [.agg [pI (q2q n0 n).1.id, .pv (.bool (q2q n0 n).1.up), pI (q2q n0 n).1.inc, pI (q2q n0 n).1.g, .ref 5 0, .ref 6 0, .ref 7 0, pI (q2q n0 n).1.led, pI (q2q n0 n).1.version, .ref 8 0, .ref 9 0, pI (q2q n0 n).1.round, pI (q2q n0 n).1.low], .pv (.bool ((q2q n0 n).2))]) [(5, (0, .row 44 5 ((q2q n0 n).1.lanes.map a0l))), (6, (0, .row 56 7 ((q2q n0 n).1.kept.map y3y))), (7, (0, .row 141 5 ((q2q n0 n).1.outs.map v8v))), (8, (0, .row 190 3 ((q2q n0 n).1.views.map a0u))), (9, (0, .row 3 1 ((q2q n0 n).1.known.map r5r)))] := by
 refine u9u z9z (fn := Tryz.f166) (by kernel_rfl) (by kernel_rfl) rfl (O0 := [.agg [pI (q2q n0 n).1.id, .pv (.bool (q2q n0 n).1.up), pI (q2q n0 n).1.inc, pI (q2q n0 n).1.g, .ref 5 0, .ref 6 0, .ref 7 0, pI (q2q n0 n).1.led, pI (q2q n0 n).1.version, .ref 8 0, .ref 9 0, pI (q2q n0 n).1.round, pI (q2q n0 n).1.low], .pv (.bool ((q2q n0 n).2))]) 10 5 (a0w rfl) (by rfl) (by repeat (first | exact BndH.nil | refine BndH.dead ?_ | refine BndH.box rfl ?_ | refine BndH.row (y5y fun _ => rfl) ?_ | refine BndH.map (p4p _ _) ?_ )) (by repeat (first | exact BndH.nil | refine BndH.row (y5y fun _ => rfl) ?_ )) (by rfl) fun γ => ?_
 show Ex Tryz.prog _ _ [(0, .agg (r4r c n0)), (1, .ptr 4 (γ 4) 0)] [(0, ((γ 0), .row 41 3 ((n.lanes).map fun l => p0p l.base))), (1, ((γ 1), .row 42 1 ((n.lanes).map fun l => [a3b c l.done]))), (2, ((γ 2), .map (a5t c n.views))), (3, ((γ 3), .row 3 1 (n.known.map r5r))), (4, ((γ 4), .box 164 [pI n.id, pI n.inc, pI n.g, pI n.led, .ref 0 (γ 0), w7w c n.kept, r9r c n.outs, .pv (.bool n.up), .ref 1 (γ 1), pI n.version, .mp 2 (γ 2), .ref 3 (γ 3), pI n.round, pI n.low])), (5, ((γ 5), .dead)), (6, ((γ 6), .dead)), (7, ((γ 7), .dead)), (8, ((γ 8), .dead)), (9, ((γ 9), .dead)), (14, (0, .dead)), (13, (0, .dead)), (12, (0, .dead)), (11, (0, .dead)), (10, (0, .dead))] _
 refine dv 1 ?_
 refine x9x (id := 10) rfl rfl rfl (x3x (id := 11) a0o a0p rfl (dv 3 ?_))
 refine rlM [0, 1, 2, 3, 4, 13, 14] [_, _, _, _, _, _, _] (b6j c n hlen hN hv3) rfl rfl rfl ?_
 refine x3x (id := 12) a0o a0p rfl (dv 4 fun K K' => ?_)
 refine a2l rfl rfl rfl (c5m rfl rfl rfl .nil) (a4z false n) (.pv _) ?_
 refine dc 1 (aI ?_ ?_)<;>intro hc2<;>try simp at hc2
 ·have fX : ¬ w3w n := a4s (by simpa using hc2)
  refine dv 2 ?_
  refine rlM [5, 6, 7, 8, 9] [_, _, _, _, _] (z2z c n0 h0) rfl rfl rfl ?_
  refine dv 2 ?_
  rw [c0x fX]
  refine dv 1 ?_
  exact ⟨[γ 0, γ 1, γ 2, γ 3, γ 4, _, _, _, _, _], rfl, rfl, HE.row rfl rfl (HE.row rfl rfl (HE.row rfl rfl (HE.row rfl rfl (HE.row rfl rfl ((a2k [0, 1, 2, 3, 4] rfl))))))⟩
 have fK : w3w n := a4r.1 (by simpa using hc2)
 refine dv 3 ?_
 refine c4l [5, 6, 7, 8, 9] [_, _, _, _, _] (z2z false n (by have := v2v fK.1; omega)) rfl rfl rfl (LendM.base (c5m rfl rfl rfl .nil)) rfl (by decide) rfl rfl e8t (by (simp only [pI, a8b, a8e, d1r, gl, nx, c1s, Nat.beq]; rfl)) (by (simp only [pI, a8b, a8e, d1r, gl, nx, c1s, Nat.beq]; rfl)) rfl rfl (d6g rfl) (by repeat (first | exact StrH.nil | refine StrH.dead ?_)) (e4r .nil) ?_
 refine dv 2 ?_
 rw [c0w fK]
 refine dv 1 ?_
 exact ⟨[γ 0, γ 1, γ 2, γ 3, γ 4, _, _, _, _, _], rfl, rfl, HE.row rfl rfl (HE.row rfl rfl (HE.row rfl rfl (HE.row rfl rfl (HE.row rfl rfl ((a2k [0, 1, 2, 3, 4] rfl))))))⟩
end
section
theorem a3v (c : Bool) (l : List Ev) (x : Ev) : r0r Tryz.prog 292 [w7w c l, .agg (y3y x)] (.pv (.int .i64 (d3x x l))) := by
 refine pX Tryz.f292 [.pv (.int .i64 (d3x x l))] 1 ?_
 refine y8y 0 rfl fun hlen => ?_
 refine dv 1 ?_
 refine x9x (id := 0) rfl rfl rfl (dv 7 fun K K' => ?_)
 refine x4x (ι := Nat) (fun i γ1 => [(8, pI (i : Int))]) (fun i γ1 => []) (fun i => i ≤ l.length ∧ ¬ x ∈ l.take i) (fun i => l.length - i) (a0f [0, 3, 7] rfl) (u4u 0 rfl HE.nil) 0 ⟨by omega, by simp⟩ [] y2y y1y rfl fun i γ1 hi => ?_
 obtain ⟨k1, k2⟩ := hi
 refine dc 3 (fun K K' => aS ?_ ?_)<;>intro j<;>try simp at j
 ·obtain rfl : i = l.length := by omega
  rw [List.take_length] at k2
  refine dv 4 ?_
  refine x1x rfl ?_ rfl
  exact congrArg (fun v : Int => [AV.pv (.int .i64 v)]) (d0j k2).symm
 obtain ⟨y, hy⟩ := gE l i
 refine dv 12 fun K K' => ?_
 refine a9w rfl rfl (by intro a c h; cases h) (.inl rfl) (e4m _ _ _ _) ?_
 refine dc 0 (aS ?_ ?_)<;>intro hc5<;>try simp at hc5
 ·have hne : ¬ x = y := by simpa [a3k] using hc5
  refine dv 2 ?_
  refine x2x (b := 1) rfl rfl (by omega) (dv 1 ?_)
  exact ⟨i + 1, ⟨⟨by omega, by rw [z3z hy, List.mem_append, List.mem_singleton, not_or]; exact ⟨k2, hne⟩⟩, by omega⟩, [], y2y, y2y, y1y, y1y, rfl⟩
 have hxy : x = y := by simpa [a3k] using hc5
 subst hxy
 refine dv 4 ?_
 refine x1x rfl ?_ rfl
 exact congrArg (fun v : Int => [AV.pv (.int .i64 v)]) (d7q hy k2).symm
theorem a2u (c : Bool) (l : List Ev) (x : Ev) : r0r Tryz.prog 253 [w7w c l, .agg (y3y x)] (.pv (.bool (decide (x ∈ l)))) := by
 refine pX Tryz.f253 [.pv (.bool (decide (x ∈ l)))] 1 ?_
 refine dv 1 ?_
 refine x9x (id := 0) rfl rfl rfl (dv 4 ?_)
 refine x0x rfl rfl rfl (a3v c l x) (dv 3 ?_)
 refine x1x rfl ?_ rfl
 exact congrArg (fun b : Bool => [AV.pv (.bool b)]) (e0g x l)
theorem a6e (c c' : Bool) (l o : List Ev) (g m : Int) : Meth Tryz.prog 252 2 [0, 1] [w7w c l, w7w c' o, .ptr 0 0 0, .ptr 1 0 0] [(0, (0, .box 3 [pI g])), (1, (0, .box 3 [pI m]))] (.tup []) [(1, (0, .box 3 [pI (chg g o m l)]))] := by
 refine mX Tryz.f252 [] 2 1 fun γ => ?_
 refine y8y 0 rfl fun hlen => ?_
 refine dv 5 ?_
 refine x4x (ι := Nat) (fun i γ1 => [(10, pI (i : Int))]) (fun i γ1 => [(1, ((γ 1), .box 3 [pI (chg g o m (l.take i))])), (2, ((γ1 2), .dead))]) (fun i => i ≤ l.length) (fun i => l.length - i) (a0f [1, 2, 3, 8, 9] rfl) (u4u 0 rfl HE.nil) 0 (by omega) [0, 0, _] y2y (HE.box rfl (by rw [List.take_zero]; rfl) (HE.kill rfl HE.nil)) rfl fun i γ1 hi => ?_
 refine dc 3 (fun K K' => aS ?_ ?_)<;>intro j<;>try simp at j
 ·obtain rfl : i = l.length := by omega
  refine dv 1 ?_
  exact ⟨[γ 0, γ 1], rfl, rfl, HE.box rfl (by rw [List.take_length]; rfl) (u4u 0 rfl HE.nil)⟩
 obtain ⟨x, hx⟩ := gE l i
 refine dv 6 fun K K' => ?_
 refine x3x (id := 2) y9y a6x rfl (dc 7 (aS ?_ ?_))<;>intro j<;>try simp at j
 ·have hn : ¬ (g ≤ x.time ∧ x.time < (chg g o m (l.take i)) ∧ ¬ x ∈ o) := fun q => (by have := q.1; omega)
  refine dv 13 ?_
  refine x2x (b := 1) rfl rfl (by omega) (dv 1 ?_)
  exact ⟨i + 1, ⟨by omega, by omega⟩, [0, 0, _], y2y, y2y, (HE.box rfl (by rw [a6i hx, if_neg hn]) (HE.kill rfl HE.nil)), y1y, rfl⟩
 refine dc 6 (aS ?_ ?_)<;>intro j<;>try simp at j
 ·have hn : ¬ (g ≤ x.time ∧ x.time < (chg g o m (l.take i)) ∧ ¬ x ∈ o) := by exact fun q => (by have := q.2.1; omega)
  refine dv 7 ?_
  refine x2x (b := 1) rfl rfl (by omega) (dv 1 ?_)
  exact ⟨i + 1, ⟨by omega, by omega⟩, [0, 0, _], y2y, y2y, (HE.box rfl (by rw [a6i hx, if_neg hn]) (HE.kill rfl HE.nil)), y1y, rfl⟩
 refine dv 2 ?_
 refine x0x rfl rfl rfl (a2u c' o x) ?_
 refine dc 2 (aS ?_ ?_)<;>intro hc6<;>try simp at hc6
 ·have hn : ¬ (g ≤ x.time ∧ x.time < (chg g o m (l.take i)) ∧ ¬ x ∈ o) := fun q => q.2.2 hc6
  refine dv 2 ?_
  refine x2x (b := 1) rfl rfl (by omega) (dv 1 ?_)
  exact ⟨i + 1, ⟨by omega, by omega⟩, [0, 0, _], y2y, y2y, (HE.box rfl (by rw [a6i hx, if_neg hn]) (HE.kill rfl HE.nil)), y1y, rfl⟩
 have hy : g ≤ x.time ∧ x.time < (chg g o m (l.take i)) ∧ ¬ x ∈ o := ⟨by omega, by omega, by exact hc6⟩
 refine dv 5 ?_
 refine x2x (b := 1) rfl rfl (by omega) (dv 1 ?_)
 exact ⟨i + 1, ⟨by omega, by omega⟩, [0, 0, _], y2y, y2y, (HE.box rfl (by (rw [a6i hx, if_pos hy]; try rfl)) (HE.kill rfl HE.nil)), y1y, rfl⟩
theorem a8h (c c' : Bool) (a b : List Ev) (g m : Int) : r0r Tryz.prog 174 [w7w c a, w7w c' b, .pv (.int .i64 g), .pv (.int .i64 m)] (.pv (.int .i64 (chg g a (chg g b m a) b))) := by
 refine pX Tryz.f174 [.pv (.int .i64 (chg g a (chg g b m a) b))] 2 ?_
 refine dv 1 ?_
 refine b1p (id := 0) rfl rfl rfl rfl (dv 3 ?_)
 refine x3x (id := 1) w1w e7l rfl (dv 2 ?_)
 refine a5k rfl rfl (dv 5 ?_)
 refine rlM [0, 1] [_, _] (a6e c c' a b g m) rfl rfl rfl ?_
 refine dv 4 ?_
 refine rlM [0, 1] [_, _] (a6e c' c b a g (chg g b m a)) rfl rfl rfl ?_
 refine dv 4 ?_
 exact x1x rfl rfl rfl
theorem c1i (c c' : Bool) (n : Nd) (f inc ver g : Int) (es : List Ev) : r0r Tryz.prog 172 [.agg (r4r c n), .pv (.int .i64 f), .pv (.int .i64 inc), .pv (.int .i64 ver), .pv (.int .i64 g), w7w c' es] (.pv (.bool (kb (a1j n f inc ver g es)))) := by
 refine pX Tryz.f172 [.pv (.bool (kb (a1j n f inc ver g es)))] 2 ?_
 refine dv 1 ?_
 refine x9x (id := 0) rfl rfl rfl (dc 7 (fun K K' => aS ?_ ?_))<;>intro hg2<;>try simp at hg2
 ·have fX : ¬ a1j n f inc ver g es := by (rintro ⟨m1, m2, m3, m4, m5, m6, m7, m8, m9⟩; (simp_all; done))
  refine dv 18 ?_
  refine x1x rfl ?_ rfl
  exact congrArg (fun b : Bool => [AV.pv (.bool b)]) (a5y fX)
 have fUp : n.up = true := hg2
 refine dc 5 (aS ?_ ?_)<;>intro j<;>try simp at j
 ·have fX : ¬ a1j n f inc ver g es := by (rintro ⟨m1, m2, m3, m4, m5, m6, m7, m8, m9⟩; omega)
  refine dv 13 ?_
  refine x1x rfl ?_ rfl
  exact congrArg (fun b : Bool => [AV.pv (.bool b)]) (a5y fX)
 refine dv 1 ?_
 refine x0x rfl rfl rfl (a6n ..) (dc 3 (aS ?_ ?_))<;>intro j<;>try simp at j
 ·have fX : ¬ a1j n f inc ver g es := by (rintro ⟨m1, m2, m3, m4, m5, m6, m7, m8, m9⟩; omega)
  refine dv 8 ?_
  refine x1x rfl ?_ rfl
  exact congrArg (fun b : Bool => [AV.pv (.bool b)]) (a5y fX)
 refine dc 5 (aI ?_ ?_)<;>intro hc5<;>try simp at hc5
 ·have fX : ¬ a1j n f inc ver g es := by (rintro ⟨m1, m2, m3, m4, m5, m6, m7, m8, m9⟩; omega)
  refine dv 3 ?_
  refine x1x rfl ?_ rfl
  exact congrArg (fun b : Bool => [AV.pv (.bool b)]) (a5y fX)
 have f4 : ¬ f = n.id := hc5
 refine dv 4 fun K K' => ?_
 refine x0x rfl rfl rfl (y7y ..) (dc 2 (aS ?_ ?_))<;>intro j<;>try simp at j
 ·have fX : ¬ a1j n f inc ver g es := by (rintro ⟨m1, m2, m3, m4, m5, m6, m7, m8, m9⟩; omega)
  refine dv 12 ?_
  refine x1x rfl ?_ rfl
  exact congrArg (fun b : Bool => [AV.pv (.bool b)]) (a5y fX)
 refine dv 1 ?_
 refine x0x rfl rfl rfl (y7y ..) (dc 3 (aS ?_ ?_))<;>intro j<;>try simp at j
 ·have fX : ¬ a1j n f inc ver g es := by (rintro ⟨m1, m2, m3, m4, m5, m6, m7, m8, m9⟩; omega)
  refine dv 7 ?_
  refine x1x rfl ?_ rfl
  exact congrArg (fun b : Bool => [AV.pv (.bool b)]) (a5y fX)
 refine dv 1 ?_
 refine x0x rfl rfl rfl (y7y ..) (dc 2 (aI ?_ ?_))<;>intro j<;>try simp at j
 ·have fX : ¬ a1j n f inc ver g es := by (rintro ⟨m1, m2, m3, m4, m5, m6, m7, m8, m9⟩; omega)
  refine dv 3 ?_
  refine x1x rfl ?_ rfl
  exact congrArg (fun b : Bool => [AV.pv (.bool b)]) (a5y fX)
 refine dv 7 fun K K' => ?_
 refine y8y 5 rfl fun hlen => ?_
 refine x4x (ι := Nat) (fun i γ1 => [(49, pI (i : Int))]) (fun i γ1 => [(1, ((γ1 1), .dead))]) (fun i => i ≤ es.length ∧ c8f es (fun _ e => q0q e.to = n.id ∧ (e.from' = -1 ∨ q0q e.from' = f)) i) (fun i => es.length - i) (a0f [1, 5, 6, 47, 48] rfl) (u4u 0 rfl HE.nil) 0 ⟨by omega, a0z⟩ [0, _] y2y y1y rfl fun i γ1 hi => ?_
 obtain ⟨k1, k2⟩ := hi
 refine dc 3 (fun K K' => aS ?_ ?_)<;>intro j<;>try simp at j
 ·have hall := a2z k2 (by omega)
  refine dv 3 ?_
  refine x0x rfl rfl rfl (a2q c' es 100) ?_
  refine dv 2 ?_
  refine x1x rfl ?_ rfl
  exact congrArg (fun b : Bool => [AV.pv (.bool b)]) (e4a ⟨fun q => ⟨fUp, by omega, by omega, f4, by omega, by omega, by omega, q, fun e he => by obtain ⟨i, hi⟩ := List.getElem?_of_mem he; exact hall i e hi⟩, fun q => q.2.2.2.2.2.2.2.1⟩)
 obtain ⟨e, he⟩ := gE es i
 refine dv 6 fun K K' => ?_
 refine x3x (id := 1) y9y a6x rfl (dv 4 ?_)
 refine x0x rfl rfl rfl (a4x ..) (dc 4 (aS ?_ ?_))<;>intro hg14<;>try simp at hg14
 ·have fE : ¬ (q0q e.to = n.id ∧ (e.from' = -1 ∨ q0q e.from' = f)) := fun q => (by have := q.1; omega)
  refine dv 11 ?_
  have fX : ¬ a1j n f inc ver g es := fun q => fE (q.2.2.2.2.2.2.2.2 e (List.mem_of_getElem? he))
  refine dv 3 ?_
  refine x1x rfl ?_ rfl
  exact congrArg (fun b : Bool => [AV.pv (.bool b)]) (a5y fX)
 have e1 : q0q e.to = n.id := hg14
 refine dc 4 (aS ?_ ?_)<;>intro hg15<;>try simp at hg15
 ·have hE : q0q e.to = n.id ∧ (e.from' = -1 ∨ q0q e.from' = f) := ⟨e1, .inl hg15⟩
  refine dv 9 ?_
  refine x2x (b := 1) rfl rfl (by omega) (dv 1 ?_)
  exact ⟨i + 1, ⟨⟨by omega, a0e k2 he hE⟩, by omega⟩, [0, _], y2y, y2y, y1y, y1y, rfl⟩
 refine dv 2 ?_
 refine x0x rfl rfl rfl (a4x ..) (dc 4 (aS ?_ ?_))<;>intro hc16<;>try simp at hc16
 ·have hE : q0q e.to = n.id ∧ (e.from' = -1 ∨ q0q e.from' = f) := ⟨e1, .inr hc16⟩
  refine dv 2 ?_
  refine x2x (b := 1) rfl rfl (by omega) (dv 1 ?_)
  exact ⟨i + 1, ⟨⟨by omega, a0e k2 he hE⟩, by omega⟩, [0, _], y2y, y2y, y1y, y1y, rfl⟩
 have fE : ¬ (q0q e.to = n.id ∧ (e.from' = -1 ∨ q0q e.from' = f)) := by (rintro ⟨q1, q2 | q2⟩ <;> omega)
 have fX : ¬ a1j n f inc ver g es := fun q => fE (q.2.2.2.2.2.2.2.2 e (List.mem_of_getElem? he))
 refine dv 3 ?_
 refine x1x rfl ?_ rfl
 exact congrArg (fun b : Bool => [AV.pv (.bool b)]) (a5y fX)
end
section
theorem b6k (c : Bool) (n : Nd) (hs : (r7r n).length ≤ 5000000) (hlen : n.lanes.length ≤ 1048576) : Meth Tryz.prog 229 6 [0, 1, 2, 3, 4] [.ptr 4 0 0] [(0, (0, .row 41 3 ((n.lanes).map fun l => p0p l.base))), (1, (0, .row 42 1 ((n.lanes).map fun l => [a3b c l.done]))), (2, (0, .map (a5t c n.views))), (3, (0, .row 3 1 (n.known.map r5r))), (4, (0, .box 164 [pI n.id, pI n.inc, pI n.g, pI n.led, .ref 0 0, w7w c n.kept, r9r c n.outs, .pv (.bool n.up), .ref 1 0, pI n.version, .mp 2 0, .ref 3 0, pI n.round, pI n.low])), (5, (0, .dead))] (w7w true (r7r n)) [(5, (0, .dead))] := by
 refine u9u z9z (fn := Tryz.f229) (by kernel_rfl) (by kernel_rfl) rfl (O0 := [w7w true (r7r n)]) 6 2 (a0w rfl) (by rfl) (by repeat (first | exact BndH.nil | refine BndH.dead ?_ | refine BndH.box rfl ?_ | refine BndH.row (y5y fun _ => rfl) ?_ | refine BndH.map (p4p _ _) ?_ )) (by repeat (first | exact BndH.nil | refine BndH.dead ?_ )) (by rfl) fun γ => ?_
 show Ex Tryz.prog _ _ [(0, .ptr 4 (γ 4) 0)] [(0, ((γ 0), .row 41 3 ((n.lanes).map fun l => p0p l.base))), (1, ((γ 1), .row 42 1 ((n.lanes).map fun l => [a3b c l.done]))), (2, ((γ 2), .map (a5t c n.views))), (3, ((γ 3), .row 3 1 (n.known.map r5r))), (4, ((γ 4), .box 164 [pI n.id, pI n.inc, pI n.g, pI n.led, .ref 0 (γ 0), w7w c n.kept, r9r c n.outs, .pv (.bool n.up), .ref 1 (γ 1), pI n.version, .mp 2 (γ 2), .ref 3 (γ 3), pI n.round, pI n.low])), (5, ((γ 5), .dead)), (7, (0, .dead)), (6, (0, .dead))] _
 have hkl : n.kept.length ≤ 5000000 := by simp only [r7r, a1u] at hs; omega
 refine dv 8 ?_
 refine rlM [5] [_] (z8z c n.kept (by omega)) rfl rfl rfl ?_
 refine dv 10 fun K K' => ?_
 refine x4x (ι := Nat) (fun i γ1 => [(3, .ref 5 (γ1 5)), (19, pI (i : Int))]) (fun i γ1 => [(5, ((γ1 5), .row 56 7 ((n.kept ++ (n.lanes.take i).flatMap a8l).map y3y))), (6, ((γ1 6), .dead)), (7, ((γ1 7), .dead))]) (fun i => i ≤ n.lanes.length) (fun i => n.lanes.length - i) (a0f [17, 18] rfl) (a2k [0, 1, 2, 3, 4] rfl) 0 (by omega) [0, 0, 0, 0, 0, _, _, _] y2y (HE.row rfl (by simp) (HE.kill rfl (HE.kill rfl HE.nil))) rfl fun i γ1 hi => ?_
 refine dc 3 (fun K K' => aS ?_ ?_)<;>intro h<;>try simp at h
 ·obtain rfl : i = n.lanes.length := by omega
  refine dv 4 ?_
  refine q6q 2 rfl rfl (fun _ => rfl) ?_
  refine dv 1 ?_
  exact ⟨[γ 0, γ 1, γ 2, γ 3, γ 4, _], rfl, congrArg (fun l : List Ev => some [w7w true l]) (by rw [List.take_length]; rfl), y1y⟩
 obtain ⟨p, hp⟩ := gE n.lanes i
 refine dv 4 fun K K' => ?_
 refine z0z (j := i) rfl rfl b3h rfl a1m rfl rfl (u3u hp) ?_
 refine dv 7 ?_
 refine y8y 23 rfl fun hlen2 => ?_
 refine x4x (ι := Nat) (fun j γ2 => [(3, .ref 5 (γ2 5)), (25, pI (j : Int))]) (fun j γ2 => [(5, ((γ2 5), .row 56 7 ((n.kept ++ (n.lanes.take i).flatMap a8l ++ (p.done.take j).flatMap Pa.sends).map y3y))), (6, ((γ2 6), .dead)), (7, ((γ2 7), .dead))]) (fun j => j ≤ p.done.length) (fun j => p.done.length - j) (a0f [17, 18, 19, 23, 24] rfl) (a2k [0, 1, 2, 3, 4] rfl) 0 (by omega) [0, 0, 0, 0, 0, _, _, _] y2y (HE.row rfl (by simp) (HE.kill rfl (HE.kill rfl HE.nil))) rfl fun j γ2 hi => ?_
 refine dc 3 (fun K K' => aS ?_ ?_)<;>intro h<;>try simp at h
 ·obtain rfl : j = p.done.length := by omega
  refine dv 2 ?_
  refine u2u rfl rfl rfl (dv 1 ?_)
  exact ⟨i + 1, ⟨by omega, by omega⟩, [0, 0, 0, 0, 0, _, _, _], (x5x 3 rfl (Cov.cons' (t := 19) rfl (by rw [x6x (by omega) (by omega)]; rfl) Cov.nil)), y2y, (HE.row rfl (by simp only [a1s hp, List.append_assoc, a8l, List.take_length]) (HE.kill rfl (HE.kill rfl HE.nil))), y1y, rfl⟩
 obtain ⟨q, hq⟩ := gE p.done j
 have hsp := c0i hp hq
 refine dv 6 fun K K' => ?_
 refine x3x (id := 6) s1s b8c rfl (dv 5 ?_)
 refine p2p (zs := (n.kept ++ (n.lanes.take i).flatMap a8l ++ (p.done.take j).flatMap Pa.sends ++ q.sends).map y3y) rfl rfl w2w rfl y9y rfl rfl rfl (w4w (fun _ => rfl) _) (a4l _ _ _) (by have hb56 : T56.bytes = 56 := rfl; rw [List.length_map, hb56]; omega) ?_
 refine dv 2 ?_
 refine u2u rfl rfl rfl (dv 1 ?_)
 exact ⟨j + 1, ⟨by omega, by omega⟩, [0, 0, 0, 0, 0, _, _, _], (x5x 3 rfl (Cov.cons' (t := 25) rfl (by rw [x6x (by omega) (by omega)]; rfl) Cov.nil)), y2y, (HE.row rfl (by simp only [a1s hq, List.append_assoc]) (HE.kill rfl (HE.kill rfl HE.nil))), y1y, rfl⟩
theorem b4s (to kn : Int) (e : Ev) : Meth Tryz.prog 240 2 [0, 1] [.agg (y3y e), .ptr 0 0 0, .ptr 1 0 0] [(0, (0, .box 3 [pI to])), (1, (0, .box 3 [pI kn]))] (.pv (.bool (a6h to kn e))) [] := by
 refine mX Tryz.f240 [.pv (.bool (a6h to kn e))] 2 1 fun γ => ?_
 refine dv 1 ?_
 refine x9x (id := 2) rfl rfl rfl (dv 4 ?_)
 refine x0x rfl rfl rfl (a4x ..) (dc 3 (aS ?_ ?_))<;>intro h<;>try simp at h
 ·refine dv 6 ?_
  exact ⟨[γ 0, γ 1], rfl, congrArg (fun b : Bool => some [AV.pv (.bool b)]) ((decide_eq_false (by omega)).symm), y1y⟩
 refine dv 7 ?_
 exact ⟨[γ 0, γ 1], rfl, congrArg (fun b : Bool => some [AV.pv (.bool b)]) (decide_eq_decide.2 (by omega)), y1y⟩
theorem a6p (to kn : Int) (l : List Ev) (hl : l.length ≤ 10000000) : Meth Tryz.prog 230 2 [0, 1] [w7w true l, .fn (.func 240) [] [.ptr 0 0 0, .ptr 1 0 0]] [(0, (0, .box 3 [pI to])), (1, (0, .box 3 [pI kn]))] (w7w true (l.filter (a6h to kn))) [] := by
 refine mX Tryz.f230 [w7w true (l.filter (a6h to kn))] 2 4 fun γ => ?_
 refine dv 10 fun K K' => ?_
 refine w6w 5 5 56 7 rfl rfl ?_
 refine x4x (ι := Nat) (fun i γ1 => [(5, .ref 5 (γ1 5)), (10, pI (i : Int))]) (fun i γ1 => [(5, ((γ1 5), .row 56 7 (((l.take i).filter (a6h to kn)).map y3y))), (2, ((γ1 2), .dead)), (3, ((γ1 3), .dead)), (4, ((γ1 4), .dead))]) (fun i => i ≤ l.length) (fun i => l.length - i) (a0f [1, 8, 9] rfl) (a2k [0, 1] rfl) 0 (by omega) [0, 0, _, _, _, _] y2y (HE.row rfl (by rw [List.take_zero]; rfl) (HE.kill rfl (HE.kill rfl (HE.kill rfl HE.nil)))) rfl fun i γ1 hi => ?_
 refine dc 3 (fun K K' => aS ?_ ?_)<;>intro h<;>try simp at h
 ·obtain rfl : i = l.length := by omega
  rw [List.take_length]
  refine dv 1 ?_
  refine q6q 5 rfl rfl (fun _ => rfl) ?_
  refine dv 4 ?_
  exact ⟨[γ 0, γ 1], rfl, rfl, y1y⟩
 obtain ⟨p, hp⟩ := gE l i
 have hfl : ((l.take i).filter (a6h to kn)).length ≤ 10000000 := Nat.le_trans (List.length_filter_le _ _) (by rw [List.length_take]; omega)
 refine dv 6 fun K K' => ?_
 refine x3x (id := 2) y9y a6x rfl (dv 4 ?_)
 refine rlM [0, 1] [_, _] (b4s to kn p) rfl rfl rfl ?_
 refine dc 0 (aS ?_ ?_)<;>intro hc5<;>try simp at hc5
 ·have hw : ¬ a6h to kn p = true := by rw [hc5]; decide
  refine dv 2 ?_
  refine u2u rfl rfl rfl (dv 1 ?_)
  exact ⟨i + 1, ⟨by omega, by omega⟩, [0, 0, _, _, _, _], (x5x 5 rfl (Cov.cons' (t := 10) rfl (by rw [x6x (by omega) (by omega)]; rfl) Cov.nil)), y2y, (HE.row rfl (by rw [q7q hp]; rw [if_neg hw, List.append_nil]) (HE.kill rfl (HE.kill rfl (HE.kill rfl HE.nil)))), y1y, rfl⟩
 have hw : a6h to kn p = true := hc5
 refine dv 3 ?_
 refine v7v (id := 3) w2w rfl y9y rfl rfl rfl rfl rfl rfl ?_
 refine v5v (zs := ((l.take i).filter (a6h to kn) ++ [p]).map y3y) rfl rfl w2w rfl y9y rfl rfl rfl rfl (by rfl) (p5p _ _ _) (by (simp only [a3c, a1u, a2b, a2g, a5e, b8a, T56] at *; omega)) ?_
 refine dv 2 ?_
 refine u2u rfl rfl rfl (dv 1 ?_)
 exact ⟨i + 1, ⟨by omega, by omega⟩, [0, 0, _, _, _, _], (x5x 5 rfl (Cov.cons' (t := 10) rfl (by rw [x6x (by omega) (by omega)]; rfl) Cov.nil)), (x5x 1 rfl (x5x 8 rfl (x5x 9 rfl Cov.nil))), (HE.row rfl (by rw [q7q hp]; rw [if_pos hw]) (HE.kill rfl (HE.kill rfl (HE.kill rfl HE.nil)))), (u4u 0 rfl (u4u 1 rfl HE.nil)), rfl⟩
end
section
theorem c2l (c c' : Bool) (l : La) (s : List Ev) (hs : l.done.length ≤ 1000000) : r0r Tryz.prog 254 [.agg (q8q c l), w7w c' s] (.tup [.agg (q8q c (a0x l 0 (same l.done s))), .pv (.bool (decide ((same l.done s) < l.done.length)))]) := by
 refine pX Tryz.f254 [.agg (q8q c (a0x l 0 (same l.done s))), .pv (.bool (decide ((same l.done s) < l.done.length)))] 4 ?_
 have hsm := b5w l.done s
 refine dv 1 ?_
 refine x9x (id := 0) rfl rfl rfl (x3x (id := 1) s0s a6w rfl (dv 4 ?_))
 refine rlM [2] [_] (a8n c l.done) rfl rfl rfl ?_
 refine dv 3 ?_
 refine rlM [2, 3] [_, _] (b3e c l.done) rfl rfl rfl ?_
 refine dv 4 ?_
 refine rlM [2] [_] (a2t c c' l.done s) rfl rfl rfl ?_
 refine dc 8 (fun K K' => aI ?_ ?_)<;>intro o<;>try simp at o
 ·have hq : (same l.done s) = l.done.length := by omega
  refine dv 5 ?_
  (rw [hq, c0m, decide_eq_false (Nat.lt_irrefl _)]; exact ⟨_, _, rfl, .agg rfl (.cl rfl (.cl rfl (.cl rfl (.cl rfl (.cl rfl .nil))))) (.cl rfl .nil)⟩)
 have hq : ¬ (same l.done s) = l.done.length := by omega
 refine dv 4 ?_
 refine rlM [2, 3] [_, _] (b1m c l.done (same l.done s) hsm.2 hs) rfl rfl rfl ?_
 refine dv 2 ?_
 refine rlM [2] [_] (b7k c (l.done.take (same l.done s)) (by rw [List.length_take]; omega)) rfl rfl rfl ?_
 refine dv 7 ?_
 (rw [decide_eq_true (show (same l.done s) < l.done.length by omega)]; exact ⟨_, _, rfl, .agg rfl (.cl rfl (.cl rfl (.cl rfl (.cl rfl (.cl rfl .nil))))) (.cl rfl .nil)⟩)
theorem b6l (c : Bool) (n : Nd) (proc : Int) (hs : (r7r n).length + (r1r n 3).length ≤ 5000000) (hlen : n.lanes.length ≤ 1048576) (hv3 : n.views.length = 3) : Meth Tryz.prog 126 6 [0, 1, 2, 3, 4] [.ptr 4 0 0, .pv (.int .i64 proc)] [(0, (0, .row 41 3 ((n.lanes).map fun l => p0p l.base))), (1, (0, .row 42 1 ((n.lanes).map fun l => [a3b c l.done]))), (2, (0, .map (a5t c n.views))), (3, (0, .row 3 1 (n.known.map r5r))), (4, (0, .box 164 [pI n.id, pI n.inc, pI n.g, pI n.led, .ref 0 0, w7w c n.kept, r9r c n.outs, .pv (.bool n.up), .ref 1 0, pI n.version, .mp 2 0, .ref 3 0, pI n.round, pI n.low])), (5, (0, .dead))] (w7w true (s6s n proc)) [(5, (0, .dead))] := by
 refine u9u z9z (fn := Tryz.f126) (by kernel_rfl) (by kernel_rfl) rfl (O0 := [w7w true (s6s n proc)]) 6 4 (a0w rfl) (by rfl) (by repeat (first | exact BndH.nil | refine BndH.dead ?_ | refine BndH.box rfl ?_ | refine BndH.row (y5y fun _ => rfl) ?_ | refine BndH.map (p4p _ _) ?_ )) (by repeat (first | exact BndH.nil | refine BndH.dead ?_ )) (by rfl) fun γ => ?_
 show Ex Tryz.prog _ _ [(0, .ptr 4 (γ 4) 0), (1, .pv (.int .i64 proc))] [(0, ((γ 0), .row 41 3 ((n.lanes).map fun l => p0p l.base))), (1, ((γ 1), .row 42 1 ((n.lanes).map fun l => [a3b c l.done]))), (2, ((γ 2), .map (a5t c n.views))), (3, ((γ 3), .row 3 1 (n.known.map r5r))), (4, ((γ 4), .box 164 [pI n.id, pI n.inc, pI n.g, pI n.led, .ref 0 (γ 0), w7w c n.kept, r9r c n.outs, .pv (.bool n.up), .ref 1 (γ 1), pI n.version, .mp 2 (γ 2), .ref 3 (γ 3), pI n.round, pI n.low])), (5, ((γ 5), .dead)), (9, (0, .dead)), (8, (0, .dead)), (7, (0, .dead)), (6, (0, .dead))] _
 refine dv 1 ?_
 refine b1p (id := 6) rfl rfl rfl rfl (b1p (id := 7) rfl rfl rfl rfl (dv 3 ?_))
 refine rlM [0, 1, 2, 3, 4, 9] [_, _, _, _, _, _] (b1a c n (by omega) hlen) rfl rfl rfl ?_
 refine dv 5 fun K K' => ?_
 refine x4x (ι := Nat) (fun i γ1 => [(5, .ref 9 (γ1 9)), (9, pI (i : Int))]) (fun i γ1 => [(9, ((γ1 9), .row 56 7 ((r7r n ++ r1r n i).map y3y))), (8, ((γ1 8), .dead))]) (fun i => i ≤ 3) (fun i => 3 - i) (a0f [2, 3] rfl) (a2k [0, 1, 2, 3, 4, 5, 6, 7] rfl) 0 (by omega) [0, 0, 0, 0, 0, 0, 0, 0, _, _] y2y (HE.row rfl (by simp [r1r]) (HE.kill rfl HE.nil)) rfl fun i γ1 hi => ?_
 refine dc 3 (fun K K' => aS ?_ ?_)<;>intro o<;>try simp at o
 ·obtain rfl : i = 3 := by omega
  refine dv 1 ?_
  refine q6q 5 rfl rfl (fun _ => rfl) ?_
  refine dv 2 ?_
  refine a5k rfl rfl ?_
  refine rlM [0, 1, 2, 3, 4, 7, 6] [_, _, _, _, _, _, _] (a2s c n proc _ (by rw [List.length_append]; omega)) rfl rfl rfl ?_
  refine rlM [5] [_] (a0n true _ (Nat.le_trans (List.length_filter_le _ _) (by rw [List.length_append]; omega))) rfl rfl rfl ?_
  refine dv 1 ?_
  refine q6q 4 rfl rfl (fun _ => rfl) ?_
  refine dv 1 ?_
  exact ⟨[γ 0, γ 1, γ 2, γ 3, γ 4, _], rfl, rfl, y1y⟩
 obtain ⟨v, hv⟩ := gE n.views i
 have hg : n.views.getD i vi0 = v := by rw [List.getD_eq_getElem?_getD, hv]; rfl
 have hol := c0j n (i := i + 1) (by omega)
 rw [s7s] at hol
 refine dc 14 (fun K K' => aS ?_ ?_)<;>intro hc5<;>try simp at hc5
 ·have hve : b0g n i = [] := by rw [b0g, if_pos hc5]
  refine dv 2 ?_
  refine u2u rfl rfl rfl (dv 1 ?_)
  exact ⟨i + 1, ⟨by omega, by omega⟩, [0, 0, 0, 0, 0, 0, 0, 0, _, _], (x5x 5 rfl (Cov.cons' (t := 9) rfl (by rw [x6x (by omega) (by omega)]; rfl) Cov.nil)), y2y, (HE.row rfl (by rw [s7s, hve]; simp) (HE.kill rfl HE.nil)), y1y, rfl⟩
 have hve : b0g n i = v.events := by rw [b0g, if_neg hc5, hg]
 rw [hve] at hol
 simp only [a1u] at hol
 refine dv 7 ?_
 refine a2m (κ := Int) (enc := fun n => .int .i64 n) (ks := b4q n.views.length) (k := (i : Int)) (out := .agg (a1f c v)) z9z Tryz.underlying162 (a7c Tryz.underlying3) rfl rfl (fun _ _ _ h => c9v h) rfl (a7k _ _) (b6h hv) ?_
 refine dv 1 ?_
 refine p2p (zs := (r7r n ++ r1r n i ++ v.events).map y3y) rfl rfl w2w rfl y9y rfl rfl rfl (w4w (fun _ => rfl) _) (a4l _ _ _) (by have hb56 : T56.bytes = 56 := rfl; rw [List.length_map, hb56]; simp only [a1u]; omega) ?_
 refine dv 2 ?_
 refine u2u rfl rfl rfl (dv 1 ?_)
 exact ⟨i + 1, ⟨by omega, by omega⟩, [0, 0, 0, 0, 0, 0, 0, 0, _, _], (x5x 5 rfl (Cov.cons' (t := 9) rfl (by rw [x6x (by omega) (by omega)]; rfl) Cov.nil)), (x5x 2 rfl (x5x 3 rfl Cov.nil)), (HE.row rfl (by rw [s7s, hve]; simp) (HE.kill rfl HE.nil)), (u4u 0 rfl (u4u 1 rfl (u4u 2 rfl (u4u 3 rfl (u4u 4 rfl (u4u 5 rfl (u4u 6 rfl (u4u 7 rfl HE.nil)))))))), rfl⟩
theorem b4t (c : Bool) (n : Nd) (t : Nat) (ht : t < 3) (hk3 : n.known.length = 3) (hs : (r7r n).length ≤ 5000000) (hlen : n.lanes.length ≤ 1048576) : Meth Tryz.prog 138 6 [0, 1, 2, 3, 4] [.ptr 4 0 0, .pv (.int .i64 (t : Int))] [(0, (0, .row 41 3 ((n.lanes).map fun l => p0p l.base))), (1, (0, .row 42 1 ((n.lanes).map fun l => [a3b c l.done]))), (2, (0, .map (a5t c n.views))), (3, (0, .row 3 1 (n.known.map r5r))), (4, (0, .box 164 [pI n.id, pI n.inc, pI n.g, pI n.led, .ref 0 0, w7w c n.kept, r9r c n.outs, .pv (.bool n.up), .ref 1 0, pI n.version, .mp 2 0, .ref 3 0, pI n.round, pI n.low])), (5, (0, .dead))] (w7w true (a2p n (t : Int))) [(5, (0, .dead))] := by
 refine u9u z9z (fn := Tryz.f138) (by kernel_rfl) (by kernel_rfl) rfl (O0 := [w7w true (a2p n (t : Int))]) 6 3 (a0w rfl) (by rfl) (by repeat (first | exact BndH.nil | refine BndH.dead ?_ | refine BndH.box rfl ?_ | refine BndH.row (y5y fun _ => rfl) ?_ | refine BndH.map (p4p _ _) ?_ )) (by repeat (first | exact BndH.nil | refine BndH.dead ?_ )) (by rfl) fun γ => ?_
 show Ex Tryz.prog _ _ [(0, .ptr 4 (γ 4) 0), (1, .pv (.int .i64 (t : Int)))] [(0, ((γ 0), .row 41 3 ((n.lanes).map fun l => p0p l.base))), (1, ((γ 1), .row 42 1 ((n.lanes).map fun l => [a3b c l.done]))), (2, ((γ 2), .map (a5t c n.views))), (3, ((γ 3), .row 3 1 (n.known.map r5r))), (4, ((γ 4), .box 164 [pI n.id, pI n.inc, pI n.g, pI n.led, .ref 0 (γ 0), w7w c n.kept, r9r c n.outs, .pv (.bool n.up), .ref 1 (γ 1), pI n.version, .mp 2 (γ 2), .ref 3 (γ 3), pI n.round, pI n.low])), (5, ((γ 5), .dead)), (8, (0, .dead)), (7, (0, .dead)), (6, (0, .dead))] _
 obtain ⟨kn, hkn⟩ := gE n.known t
 refine dv 1 ?_
 refine b1p (id := 6) rfl rfl rfl rfl (dv 7 ?_)
 refine z0z (j := t) rfl rfl a0i rfl w1w rfl rfl (u3u hkn) ?_
 refine dv 1 ?_
 refine x3x (id := 7) w1w e7l rfl (dv 3 ?_)
 refine rlM [0, 1, 2, 3, 4, 8] [_, _, _, _, _, _] (b6k c n hs hlen) rfl rfl rfl ?_
 refine a5k rfl rfl ?_
 refine rlM [6, 7] [_, _] (a6p (t : Int) kn _ (by omega)) rfl rfl rfl ?_
 refine rlM [5] [_] (a0n true _ (Nat.le_trans (List.length_filter_le _ _) (by omega))) rfl rfl rfl ?_
 refine dv 1 ?_
 refine q6q 4 rfl rfl (fun _ => rfl) ?_
 refine dv 1 ?_
 exact ⟨[γ 0, γ 1, γ 2, γ 3, γ 4, _], rfl, congrArg (fun l : List Ev => some [w7w true l]) (by rw [c8o hkn]), HE.kill rfl (u4u 0 rfl (u4u 1 rfl (u4u 2 rfl (u4u 3 rfl (u4u 4 rfl HE.nil)))))⟩
theorem b7l (c : Bool) (n : Nd) (hw : wk n) (hpc : n.lanes.length = (a0j n.id 4).length) : Meth Tryz.prog 175 5 [0, 1, 2, 3, 4] [.ptr 4 0 0] [(0, (0, .row 41 3 ((n.lanes).map fun l => p0p l.base))), (1, (0, .row 42 1 ((n.lanes).map fun l => [a3b c l.done]))), (2, (0, .map (a5t c n.views))), (3, (0, .row 3 1 (n.known.map r5r))), (4, (0, .box 164 [pI n.id, pI n.inc, pI n.g, pI n.led, .ref 0 0, w7w c n.kept, r9r c n.outs, .pv (.bool n.up), .ref 1 0, pI n.version, .mp 2 0, .ref 3 0, pI n.round, pI n.low]))] (.tup []) [(0, (0, .row 41 3 (((nl n (v6v n n.lanes)).lanes).map fun l => p0p l.base))), (1, (0, .row 42 1 (((nl n (v6v n n.lanes)).lanes).map fun l => [a3b c l.done]))), (2, (0, .map (a5t c (nl n (v6v n n.lanes)).views))), (3, (0, .row 3 1 ((nl n (v6v n n.lanes)).known.map r5r))), (4, (0, .box 164 [pI (nl n (v6v n n.lanes)).id, pI (nl n (v6v n n.lanes)).inc, pI (nl n (v6v n n.lanes)).g, pI (nl n (v6v n n.lanes)).led, .ref 0 0, w7w c (nl n (v6v n n.lanes)).kept, r9r c (nl n (v6v n n.lanes)).outs, .pv (.bool (nl n (v6v n n.lanes)).up), .ref 1 0, pI (nl n (v6v n n.lanes)).version, .mp 2 0, .ref 3 0, pI (nl n (v6v n n.lanes)).round, pI (nl n (v6v n n.lanes)).low]))] := by
 refine u9u z9z (fn := Tryz.f175) (by kernel_rfl) (by kernel_rfl) rfl (O0 := []) 5 2 (a0w rfl) (by rfl) (by repeat (first | exact BndH.nil | refine BndH.box rfl ?_ | refine BndH.row (y5y fun _ => rfl) ?_ | refine BndH.map (p4p _ _) ?_ )) (by repeat (first | exact BndH.nil | refine BndH.box rfl ?_ | refine BndH.row (y5y fun _ => rfl) ?_ | refine BndH.map (p4p _ _) ?_ )) (by rfl) fun γ => ?_
 show Ex Tryz.prog _ _ [(0, .ptr 4 (γ 4) 0)] [(0, ((γ 0), .row 41 3 ((n.lanes).map fun l => p0p l.base))), (1, ((γ 1), .row 42 1 ((n.lanes).map fun l => [a3b c l.done]))), (2, ((γ 2), .map (a5t c n.views))), (3, ((γ 3), .row 3 1 (n.known.map r5r))), (4, ((γ 4), .box 164 [pI n.id, pI n.inc, pI n.g, pI n.led, .ref 0 (γ 0), w7w c n.kept, r9r c n.outs, .pv (.bool n.up), .ref 1 (γ 1), pI n.version, .mp 2 (γ 2), .ref 3 (γ 3), pI n.round, pI n.low])), (6, (0, .dead)), (5, (0, .dead))] _
 refine dv 3 ?_
 refine x4x (ι := List La × Bool) (fun p γ1 => [(2, .pv (.bool (p.2)))]) (fun p γ1 => [(6, ((γ1 6), .dead)), (0, ((γ 0), .row 41 3 ((p.1).map fun l => p0p l.base))), (1, ((γ 1), .row 42 1 ((p.1).map fun l => [a3b c l.done]))), (5, ((γ1 5), .dead))]) (fun p => (p.2 = true → v6v n p.1 = v6v n n.lanes) ∧ (p.2 = false → p.1 = v6v n n.lanes) ∧ wk (nl n p.1) ∧ p.1.length = n.lanes.length) (fun p => 2 * c5g p.1 + p.2.toNat) (x5x 0 rfl Cov.nil) (a2k [2, 3, 4] rfl) (n.lanes, true) ⟨fun _ => rfl, fun h => (by cases h), hw, rfl⟩ [0, 0, 0, 0, 0, _, _] y2y y1y rfl fun p γ1 hi => ?_
 obtain ⟨ls, q⟩ := p
 obtain ⟨h1, h2, h3, h5⟩ := hi
 dsimp only at h1 h2 h3 h5 ⊢
 refine dc 3 (fun K K' => aS ?_ ?_)<;>intro hc2<;>try simp at hc2
 ·have hq : q = false := by simpa using hc2
  subst hq
  have hfin : ls = v6v n n.lanes := h2 rfl
  subst hfin
  refine dv 1 ?_
  exact ⟨[γ 0, γ 1, γ 2, γ 3, γ 4], rfl, rfl, y1y⟩
 have hq : q = true := hc2
 subst hq
 refine dv 10 ?_
 refine x0x rfl rfl rfl (a3t n.id) (dv 3 ?_)
 refine x4x (ι := Nat) (fun i γ2 => [(2, .pv (.bool (b0j n ls i))), (15, pI (i : Int))]) (fun i γ2 => [(6, ((γ2 6), .dead)), (0, ((γ 0), .row 41 3 ((a0b n ls i).map fun l => p0p l.base))), (1, ((γ 1), .row 42 1 ((a0b n ls i).map fun l => [a3b c l.done]))), (5, ((γ2 5), .dead))]) (fun i => i ≤ ls.length) (fun i => ls.length - i) (a0f [0, 13, 14] rfl) (a2k [2, 3, 4] rfl) 0 (by omega) [0, 0, 0, 0, 0, _, _] y2y y1y rfl fun i γ2 hi => ?_
 refine dc 3 (fun K K' => aS ?_ ?_)<;>intro o<;>try simp at o
 ·obtain rfl : i = ls.length := by omega
  refine dv 1 ?_
  exact ⟨(a0b n ls ls.length, b0j n ls ls.length), ⟨⟨fun h => (c5h h).trans (h1 rfl), fun h => (c5i h).trans (h1 rfl), b4m h3 _, (b6d n ls _).trans h5⟩, (d7m n ls ls.length)⟩, [0, 0, 0, 0, 0, _, _], y2y, y2y, y1y, y1y, rfl⟩
 have hpl : (a0b n ls i).length = ls.length := b6d n ls i
 have hpr : i < (a0j n.id 4).length := by omega
 obtain ⟨l, hp⟩ := gE (a0b n ls i) i
 have h4 := b4m h3 i
 have h41 : (a0b n ls i).length ≤ 4 := h4.1
 have hb4 := h4.2.2.2.2.1 l (List.mem_of_getElem? hp)
 have hpp : (a0j n.id 4)[i]? = some l.proc := h4.2.2.2.2.2.2 i l hp
 refine dv 12 fun K K' => ?_
 refine rlM [0, 1, 2, 3, 4] [_, _, _, _, _] (a2h c (nl n (a0b n ls i)) _ (p4p _ _) i l hp hpp) rfl rfl rfl ?_
 refine dv 2 ?_
 refine rlM [0, 1, 2, 3, 4, 6] [_, _, _, _, _, _] (b6l c (nl n (a0b n ls i)) l.proc (d7j h4) (by show (a0b n ls i).length ≤ 1048576; omega) h4.2.2.1) rfl rfl rfl ?_
 refine x0x rfl rfl rfl (c2l c true l (s6s (nl n (a0b n ls i)) l.proc) (by omega)) ?_
 refine dv 3 ?_
 refine x3x (id := 5) s0s a6w rfl (dc 4 (aS ?_ ?_))<;>intro hc6<;>try simp at hc6
 ·have hk := d0i (n := n) hp (by show ¬ same l.done (s6s (nl n (a0b n ls i)) l.proc) < l.done.length; simpa using hc6)
  refine dv 2 ?_
  refine u2u rfl rfl rfl (dv 1 ?_)
  exact ⟨i + 1, ⟨by omega, by omega⟩, [0, 0, 0, 0, 0, _, _], (Cov.cons' (t := 2) rfl (by rw [b2y, hk.2, Bool.or_false]) (Cov.cons' (t := 15) rfl (by rw [x6x (by omega) (by omega)]; rfl) Cov.nil)), y2y, (HE.kill rfl (HE.row rfl (by rw [a9n, c8v (fun _ _ => rfl)]) (HE.row rfl (by rw [a9n, hk.1]) (HE.kill rfl HE.nil)))), y1y, rfl⟩
 have hk := d0h (n := n) hp (by show same l.done (s6s (nl n (a0b n ls i)) l.proc) < l.done.length; exact hc6)
 refine dv 8 ?_
 refine z0z (j := i) rfl rfl b3h rfl a1m rfl rfl (u3u hp) ?_
 refine a6r (el' := a0x l 0 (keep n (a0b n ls i) l)) rfl rfl a1m rfl rfl rfl hp rfl (by omega) (.val rfl rfl .nil) rfl rfl ?_
 refine dv 3 ?_
 refine u2u rfl rfl rfl (dv 1 ?_)
 exact ⟨i + 1, ⟨by omega, by omega⟩, [0, 0, 0, 0, 0, _, _], (Cov.cons' (t := 2) rfl (by rw [b2y, hk.2, Bool.or_true]) (Cov.cons' (t := 15) rfl (by rw [x6x (by omega) (by omega)]; rfl) Cov.nil)), y2y, (HE.kill rfl (HE.row rfl (by rw [a9n, c8v (fun _ _ => rfl)]) (HE.row rfl (by rw [a9n, hk.1]) (HE.kill rfl HE.nil)))), y1y, rfl⟩
end
section
theorem a3w (c c' : Bool) (l l' : List Ev) : r0r Tryz.prog 256 [w7w c l, w7w c' l'] (.pv (.bool (decide (l = l')))) := by
 refine pX Tryz.f256 [.pv (.bool (decide (l = l')))] 0 ?_
 refine y8y 0 rfl fun hlen => ?_
 refine dc 9 (fun K K' => aI ?_ ?_)<;>intro j<;>try simp at j
 ·refine dv 3 ?_
  refine x1x rfl ?_ rfl
  exact d8n (by omega)
 refine dv 7 fun K K' => ?_
 refine x4x (ι := Nat) (fun i γ1 => [(13, pI (i : Int))]) (fun i γ1 => []) (fun i => i ≤ l.length ∧ l.length = l'.length ∧ l.take i = l'.take i) (fun i => l.length - i) (a0f [0, 1, 12] rfl) HE.nil 0 ⟨by omega, by omega, rfl⟩ [] y2y y1y rfl fun i γ1 hi => ?_
 obtain ⟨h1, h2, h3⟩ := hi
 refine dc 3 (fun K K' => aS ?_ ?_)<;>intro j<;>try simp at j
 ·refine dv 4 ?_
  refine x1x rfl ?_ rfl
  exact eqT h3 (by omega) (by omega)
 obtain ⟨x, hx⟩ := gE l i
 obtain ⟨y, hy⟩ := gE l' i
 refine dv 15 fun K K' => ?_
 refine a9w rfl rfl (by intro p q h; cases h) (.inr rfl) (e4m _ _ _ _) ?_
 refine dc 0 (aS ?_ ?_)<;>intro hc7<;>try simp at hc7
 ·have hxy : x = y := by simpa [a3k] using hc7
  refine dv 2 ?_
  refine x2x (b := 1) rfl rfl (by omega) (dv 1 ?_)
  exact ⟨i + 1, ⟨⟨by omega, h2, a3s h3 hx hy hxy⟩, by omega⟩, [], y2y, y2y, y1y, y1y, rfl⟩
 have hxy : ¬ x = y := by simpa [a3k] using hc7
 refine dv 3 ?_
 refine x1x rfl ?_ rfl
 exact d8o hx hy hxy
theorem q9q (l l' : List (List Ev)) : Meth Tryz.prog 255 1 [0] [.row (.rd true) 47 1 ((l).map fun l => [w7w true l]), .row (.rd true) 47 1 ((l').map fun l => [w7w true l]), .fn (.func 256) [] []] [(0, (0, .dead))] (.pv (.bool (decide (l = l')))) [] := by
 refine mX Tryz.f255 [.pv (.bool (decide (l = l')))] 1 0 fun γ => ?_
 refine y8y 0 rfl fun hlen => ?_
 refine dc 9 (fun K K' => aI ?_ ?_)<;>intro j<;>try simp at j
 ·refine dv 3 ?_
  exact ⟨[γ 0], rfl, congrArg some (d8n (by omega)), y1y⟩
 refine dv 7 fun K K' => ?_
 refine x4x (ι := Nat) (fun i γ1 => [(17, pI (i : Int))]) (fun i γ1 => []) (fun i => i ≤ l.length ∧ l.length = l'.length ∧ l.take i = l'.take i) (fun i => l.length - i) (a0f [1, 2, 15, 16] rfl) (u4u 0 rfl HE.nil) 0 ⟨by omega, by omega, rfl⟩ [] y2y y1y rfl fun i γ1 hi => ?_
 obtain ⟨h1, h2, h3⟩ := hi
 refine dc 3 (fun K K' => aS ?_ ?_)<;>intro j<;>try simp at j
 ·refine dv 4 ?_
  exact ⟨[γ 0], rfl, congrArg some (eqT h3 (by omega) (by omega)), y1y⟩
 obtain ⟨x, hx⟩ := gE l i
 obtain ⟨y, hy⟩ := gE l' i
 refine dv 19 fun K K' => ?_
 refine x0x rfl rfl rfl (a3w true true x y) (dc 1 (aI ?_ ?_))<;>intro hc7<;>try simp at hc7
 ·have hxy : ¬ x = y := by simpa [a3k] using hc7
  refine dv 3 ?_
  exact ⟨[γ 0], rfl, congrArg some (d8o hx hy hxy), y1y⟩
 have hxy : x = y := by simpa [a3k] using hc7
 refine dv 2 ?_
 refine x2x (b := 1) rfl rfl (by omega) (dv 1 ?_)
 exact ⟨i + 1, ⟨⟨by omega, h2, a3s h3 hx hy hxy⟩, by omega⟩, [], (x5x 17 rfl Cov.nil), (x5x 1 rfl (x5x 2 rfl (x5x 15 rfl (x5x 16 rfl Cov.nil)))), HE.nil, (u4u 0 rfl HE.nil), rfl⟩
theorem b1d (c : Bool) (n : Nd) (hw : wk n) : Meth Tryz.prog 173 5 [0, 1, 2, 3, 4] [.ptr 4 0 0] [(0, (0, .row 41 3 ((n.lanes).map fun l => p0p l.base))), (1, (0, .row 42 1 ((n.lanes).map fun l => [a3b c l.done]))), (2, (0, .map (a5t c n.views))), (3, (0, .row 3 1 (n.known.map r5r))), (4, (0, .box 164 [pI n.id, pI n.inc, pI n.g, pI n.led, .ref 0 0, w7w c n.kept, r9r c n.outs, .pv (.bool n.up), .ref 1 0, pI n.version, .mp 2 0, .ref 3 0, pI n.round, pI n.low]))] (.row (.rd true) 47 1 ((s4s n 3).map fun l => [w7w true l])) [] := by
 refine u9u z9z (fn := Tryz.f173) (by kernel_rfl) (by kernel_rfl) rfl (O0 := [.row (.rd true) 47 1 ((s4s n 3).map fun l => [w7w true l])]) 5 4 (a0w rfl) (by rfl) (by repeat (first | exact BndH.nil | refine BndH.box rfl ?_ | refine BndH.row (y5y fun _ => rfl) ?_ | refine BndH.map (p4p _ _) ?_ )) (by repeat (exact BndH.nil )) (by rfl) fun γ => ?_
 show Ex Tryz.prog _ _ [(0, .ptr 4 (γ 4) 0)] [(0, ((γ 0), .row 41 3 ((n.lanes).map fun l => p0p l.base))), (1, ((γ 1), .row 42 1 ((n.lanes).map fun l => [a3b c l.done]))), (2, ((γ 2), .map (a5t c n.views))), (3, ((γ 3), .row 3 1 (n.known.map r5r))), (4, ((γ 4), .box 164 [pI n.id, pI n.inc, pI n.g, pI n.led, .ref 0 (γ 0), w7w c n.kept, r9r c n.outs, .pv (.bool n.up), .ref 1 (γ 1), pI n.version, .mp 2 (γ 2), .ref 3 (γ 3), pI n.round, pI n.low])), (8, (0, .dead)), (7, (0, .dead)), (6, (0, .dead)), (5, (0, .dead))] _
 refine dv 8 fun K K' => ?_
 refine w6w 3 7 47 1 rfl rfl ?_
 refine x4x (ι := Nat) (fun i γ1 => [(3, .ref 7 (γ1 7)), (5, pI (i : Int))]) (fun i γ1 => [(7, ((γ1 7), .row 47 1 ((s4s n i).map fun l => [w7w true l]))), (8, ((γ1 8), .dead)), (5, ((γ1 5), .dead)), (6, ((γ1 6), .dead))]) (fun i => i ≤ 3) (fun i => 3 - i) (x5x 0 rfl Cov.nil) (a2k [0, 1, 2, 3, 4] rfl) 0 (by omega) [0, 0, 0, 0, 0, _, _, _, _] y2y (HE.row rfl (by rfl) (HE.kill rfl (HE.kill rfl (HE.kill rfl HE.nil)))) rfl fun i γ1 hi => ?_
 refine dc 3 (fun K K' => aS ?_ ?_)<;>intro j<;>try simp at j
 ·obtain rfl : i = 3 := by omega
  refine dv 1 ?_
  refine q6q 3 rfl rfl (fun _ => rfl) ?_
  refine dv 4 ?_
  exact ⟨[γ 0, γ 1, γ 2, γ 3, γ 4], rfl, rfl, y1y⟩
 have htl := c8w n i
 refine dc 14 (fun K K' => aS ?_ ?_)<;>intro hc5<;>try simp at hc5
 ·have hi0 : (i : Int) = n.id := hc5
  refine dv 2 ?_
  refine u2u rfl rfl rfl (dv 1 ?_)
  exact ⟨i + 1, ⟨by omega, by omega⟩, [0, 0, 0, 0, 0, _, _, _, _], (x5x 3 rfl (Cov.cons' (t := 5) rfl (by rw [x6x (by omega) (by omega)]; rfl) Cov.nil)), y2y, (HE.row rfl (by rw [c5l hi0]) (HE.kill rfl (HE.kill rfl (HE.kill rfl HE.nil)))), y1y, rfl⟩
 have hi0 : ¬ (i : Int) = n.id := hc5
 refine dv 4 ?_
 refine rlM [0, 1, 2, 3, 4, 8] [_, _, _, _, _, _] (b4t c n i (by omega) hw.2.2.2.1 (by have := c5f hw; omega) (by have := hw.1; omega)) rfl rfl rfl ?_
 refine a6y (id := 5) e1c rfl w2w rfl rfl rfl rfl rfl ?_
 refine v5v (zs := (s4s n i ++ [a2p n (i : Int)]).map fun l => [w7w true l]) rfl rfl e1c rfl w2w rfl rfl rfl rfl (by rfl) (p5p _ _ _) (by (simp only [a3c, a1u, a2b, a2g, a5e, T47]; omega)) ?_
 refine dv 2 ?_
 refine u2u rfl rfl rfl (dv 1 ?_)
 exact ⟨i + 1, ⟨by omega, by omega⟩, [0, 0, 0, 0, 0, _, _, _, _], (x5x 3 rfl (Cov.cons' (t := 5) rfl (by rw [x6x (by omega) (by omega)]; rfl) Cov.nil)), (x5x 0 rfl Cov.nil), (HE.row rfl (by rw [c5k hi0]) (HE.kill rfl (HE.kill rfl (HE.kill rfl HE.nil)))), (u4u 0 rfl (u4u 1 rfl (u4u 2 rfl (u4u 3 rfl (u4u 4 rfl HE.nil))))), rfl⟩
theorem b4u (c : Bool) (was n : Nd) (hw : wk n) (hv : was.version = n.version) (hb : 0 ≤ n.version ∧ n.version ≤ 9998) : Meth Tryz.prog 176 5 [0, 1, 2, 3, 4] [.ptr 4 0 0, .row (.rd true) 47 1 ((s4s was 3).map fun l => [w7w true l])] [(0, (0, .row 41 3 ((n.lanes).map fun l => p0p l.base))), (1, (0, .row 42 1 ((n.lanes).map fun l => [a3b c l.done]))), (2, (0, .map (a5t c n.views))), (3, (0, .row 3 1 (n.known.map r5r))), (4, (0, .box 164 [pI n.id, pI n.inc, pI n.g, pI n.led, .ref 0 0, w7w c n.kept, r9r c n.outs, .pv (.bool n.up), .ref 1 0, pI n.version, .mp 2 0, .ref 3 0, pI n.round, pI n.low]))] (.tup []) [(4, (0, .box 164 [pI n.id, pI n.inc, pI n.g, pI n.led, .ref 0 0, w7w c n.kept, r9r c n.outs, .pv (.bool n.up), .ref 1 0, pI (a3m was n 3), .mp 2 0, .ref 3 0, pI n.round, pI n.low]))] := by
 refine u9u z9z (fn := Tryz.f176) (by kernel_rfl) (by kernel_rfl) rfl (O0 := []) 5 1 (a0w rfl) (by rfl) (by repeat (first | exact BndH.nil | refine BndH.box rfl ?_ | refine BndH.row (y5y fun _ => rfl) ?_ | refine BndH.map (p4p _ _) ?_ )) (by repeat (first | exact BndH.nil | refine BndH.box rfl ?_ )) (by rfl) fun γ => ?_
 show Ex Tryz.prog _ _ [(0, .ptr 4 (γ 4) 0), (1, .row (.rd true) 47 1 ((s4s was 3).map fun l => [w7w true l]))] [(0, ((γ 0), .row 41 3 ((n.lanes).map fun l => p0p l.base))), (1, ((γ 1), .row 42 1 ((n.lanes).map fun l => [a3b c l.done]))), (2, ((γ 2), .map (a5t c n.views))), (3, ((γ 3), .row 3 1 (n.known.map r5r))), (4, ((γ 4), .box 164 [pI n.id, pI n.inc, pI n.g, pI n.led, .ref 0 (γ 0), w7w c n.kept, r9r c n.outs, .pv (.bool n.up), .ref 1 (γ 1), pI n.version, .mp 2 (γ 2), .ref 3 (γ 3), pI n.round, pI n.low])), (5, (0, .dead))] _
 refine dv 3 ?_
 refine rlM [0, 1, 2, 3, 4] [_, _, _, _, _] (b1d c n hw) rfl rfl rfl ?_
 refine rlM [5] [_] (q9q (s4s was 3) (s4s n 3)) rfl rfl rfl ?_
 refine dc 1 (aS ?_ ?_)<;>intro hc1<;>try simp at hc1
 ·have hq : s4s was 3 = s4s n 3 := hc1
  have hnum : a3m was n 3 = n.version := by unfold a3m; rw [if_pos hq]
  refine dv 1 ?_
  exact ⟨[γ 0, γ 1, γ 2, γ 3, γ 4], rfl, rfl, HE.box rfl (by rw [hnum]; rfl) (a2k [0, 1, 2, 3] rfl)⟩
 have hq : ¬ s4s was 3 = s4s n 3 := hc1
 have hnum : a3m was n 3 = n.version + 1 := by unfold a3m; rw [if_neg hq, hv]
 refine dv 5 ?_
 refine a0m (.int .i64 (n.version + 1)) rfl rfl rfl (a7p rfl rfl (by omega) (by omega)) ?_
 refine dv 3 ?_
 exact ⟨[γ 0, γ 1, γ 2, γ 3, γ 4], rfl, rfl, HE.box rfl (by rw [hnum]; rfl) (a2k [0, 1, 2, 3] rfl)⟩
end
section
theorem c1j (c : Bool) (n : Nd) (f inc ver g : Int) (es : List Ev) : Meth Tryz.prog 71 5 [] [.agg (r4r c n), .pv (.int .i64 f), .pv (.int .i64 inc), .pv (.int .i64 ver), .pv (.int .i64 g), w7w c es] [(0, (0, .dead)), (1, (0, .dead)), (2, (0, .dead)), (3, (0, .dead)), (4, (0, .dead))] (.agg [pI (w5w n f inc ver g es).id, .pv (.bool (w5w n f inc ver g es).up), pI (w5w n f inc ver g es).inc, pI (w5w n f inc ver g es).g, .ref 0 0, .ref 1 0, .ref 2 0, pI (w5w n f inc ver g es).led, pI (w5w n f inc ver g es).version, .ref 3 0, .ref 4 0, pI (w5w n f inc ver g es).round, pI (w5w n f inc ver g es).low]) [(0, (0, .row 44 5 ((w5w n f inc ver g es).lanes.map a0l))), (1, (0, .row 56 7 ((w5w n f inc ver g es).kept.map y3y))), (2, (0, .row 141 5 ((w5w n f inc ver g es).outs.map v8v))), (3, (0, .row 190 3 ((w5w n f inc ver g es).views.map a0u))), (4, (0, .row 3 1 ((w5w n f inc ver g es).known.map r5r)))] := by
 refine mX Tryz.f71 [.agg [pI (w5w n f inc ver g es).id, .pv (.bool (w5w n f inc ver g es).up), pI (w5w n f inc ver g es).inc, pI (w5w n f inc ver g es).g, .ref 0 0, .ref 1 0, .ref 2 0, pI (w5w n f inc ver g es).led, pI (w5w n f inc ver g es).version, .ref 3 0, .ref 4 0, pI (w5w n f inc ver g es).round, pI (w5w n f inc ver g es).low]] 5 9 fun γ => ?_
 refine dv 1 ?_
 refine x9x (id := 5) rfl rfl rfl (x3x (id := 6) a0o a0p rfl (dv 3 fun K K' => ?_))
 refine x0x rfl rfl rfl (a4z c n) (dc 1 (aI ?_ ?_))<;>intro hc2<;>try simp at hc2
 ·have fX : ¬ w3w n := a4s (by simpa using hc2)
  refine dv 1 ?_
  refine rlB a0o a0p ?_
  refine dv 1 ?_
  (rw [e2h fX]; refine v0v 6 4 0 44 5 rfl rfl rfl rfl rfl ?_; refine v0v 6 5 1 56 7 rfl rfl rfl rfl rfl ?_; refine v0v 6 6 2 141 5 rfl rfl rfl rfl rfl ?_; refine v0v 6 9 3 190 3 rfl rfl rfl rfl rfl ?_; refine v0v 6 10 4 3 1 rfl rfl rfl rfl rfl ?_)
  refine dv 1 ?_
  exact ⟨[_, _, _, _, _], rfl, rfl, y1y⟩
 have fK : w3w n := a4r.1 (by simpa using hc2)
 have fS := fK.1
 have fB := v2v fS
 have fV := fS.2.2.2.2.2.1
 have fQ := fS.2.2.2.2.2.2.1
 refine dv 9 fun K K' => ?_
 refine x0x rfl rfl rfl (c1i c c n f inc ver g es) (dc 1 (aI ?_ ?_))<;>intro hc4<;>try simp at hc4
 ·have fU : ¬ a1j n f inc ver g es := a4s (by simpa using hc4)
  refine dv 2 ?_
  refine rlM [0, 1, 2, 3, 4] [_, _, _, _, _] (z2z c n (by omega)) rfl rfl rfl ?_
  refine dv 1 ?_
  rw [b3k fK fU]
  refine dv 1 ?_
  exact ⟨[_, _, _, _, _], rfl, rfl, y1y⟩
 have fH : a1j n f inc ver g es := a4r.1 (by simpa using hc4)
 obtain ⟨k, rfl⟩ : ∃ k : Nat, f = (k : Int) := ⟨f.toNat, by have := fH.2.2.1; omega⟩
 have hk3 : k < 3 := by have := fH.2.2.1; omega
 obtain ⟨kn, hkn⟩ := gE n.known k
 obtain ⟨v, hv⟩ := gE n.views k
 have hes : es.length ≤ 100 := by have := (r8r fH.2.2.2.2.2.2.2.1).1; omega
 obtain ⟨M, hM⟩ : ∃ M, M = b6e n k inc ver g es := ⟨_, rfl⟩
 have hv9 : n.version ≤ 9998 := by have := fH.2.1; omega
 have hv0 := fS.1.2.2.2.2.1.1
 refine dv 3 ?_
 refine rlM [9, 10, 11, 12, 13] [_, _, _, _, _] (a6o c n (by omega) (by omega) fQ) rfl rfl rfl ?_
 refine dv 3 ?_
 refine rlM [9, 10, 11, 12, 13] [_, _, _, _, _] (b1d c n (e0c fS)) rfl rfl rfl ?_
 refine dv 12 ?_
 refine z0z (j := k) rfl rfl a0i rfl w1w rfl rfl (u3u hkn) ?_
 refine dv 2 ?_
 refine e6j (c := max kn g) rfl rfl (by rw [Int.max_def]; split <;> split <;> omega) ?_
 refine z0z (j := k) rfl rfl a0i rfl w1w rfl rfl (u3u hkn) ?_
 refine a6r (el' := max kn g) rfl rfl w1w rfl rfl rfl hkn rfl (by omega) (.val rfl rfl .nil) rfl rfl ?_
 refine dv 6 ?_
 refine a2m (κ := Int) (enc := fun n => .int .i64 n) (ks := b4q n.views.length) (k := (k : Int)) (out := .agg (a1f c v)) z9z Tryz.underlying162 (a7c Tryz.underlying3) rfl rfl (fun _ _ _ h => c9v h) rfl (a7k _ _) (b6h hv) ?_
 refine x3x (id := 7) p7p a4c rfl (dv 1 ?_)
 refine a7b (ι := Unit) (fun _i γ1 => []) (fun _i γ1 => [(9, ((0 + 1), .row 41 3 ((M.lanes).map fun l => p0p l.base))), (10, ((0 + 1), .row 42 1 ((M.lanes).map fun l => [a3b c l.done]))), (11, ((0 + 1), .map (a5t c M.views))), (12, ((0 + 1), .row 3 1 (M.known.map r5r))), (13, ((0 + 1), .box 164 [pI M.id, pI M.inc, pI M.g, pI M.led, .ref 9 (0 + 1), w7w c M.kept, r9r c M.outs, .pv (.bool M.up), .ref 10 (0 + 1), pI M.version, .mp 11 (0 + 1), .ref 12 (0 + 1), pI M.round, pI M.low]))]) (fun _i => True) (a0f [6, 12, 13, 14] rfl) (a2k [0, 1, 2, 3, 4, 5, 6, 7, 8] rfl) ?_ fun _i γ1 hi => ?_
 ·refine dc 6 (aS ?_ ?_)<;>intro o<;>try simp at o
  ·refine dv 11 ?_
   have hL : b7f v inc ver := .inl (by omega)
   refine dv 14 ?_
   refine x0x rfl rfl rfl (a8h c c v.events es n.g n.low) (dv 12 ?_)
   refine rlB p7p a4c ?_
   refine b1s (κ := Int) (enc := fun n => .int .i64 n) (ks := b4q n.views.length) (k := (k : Int)) (es' := a5t c (n.views.set k ⟨inc, ver, es⟩)) Tryz.underlying162 (a7c Tryz.underlying3) rfl rfl rfl (fun _ _ _ h => c9v h) rfl (a7k _ _) (.inl ⟨k, c6g (u3u hv), d2n _ _ _ _⟩) ?_
   exact ⟨(), trivial, [], y2y, y2y, (HE.row rfl (by rw [hM]; (rw [q3q hv hkn hL] <;> rfl)) (HE.row rfl (by rw [hM]; (rw [q3q hv hkn hL] <;> rfl)) (HE.map rfl (by rw [hM]; (rw [q3q hv hkn hL] <;> rfl)) (HE.row rfl (by rw [hM]; (rw [q3q hv hkn hL] <;> rfl)) (HE.box rfl (by rw [hM]; (rw [q3q hv hkn hL] <;> rfl)) HE.nil))))), y1y, rfl⟩
  refine dc 5 (aS ?_ ?_)<;>intro o<;>try simp at o
  ·refine dv 6 ?_
   have hL : ¬ b7f v inc ver := by rintro (q | ⟨q1, q2⟩) <;> omega
   refine dv 1 ?_
   exact ⟨(), trivial, [], y2y, y2y, (HE.row rfl (by rw [hM]; (rw [a1b hv hkn hL] <;> rfl)) (HE.row rfl (by rw [hM]; (rw [a1b hv hkn hL] <;> rfl)) (HE.map rfl (by rw [hM]; (rw [a1b hv hkn hL] <;> rfl)) (HE.row rfl (by rw [hM]; (rw [a1b hv hkn hL] <;> rfl)) (HE.box rfl (by rw [hM]; (rw [a1b hv hkn hL] <;> rfl)) HE.nil))))), y1y, rfl⟩
  refine dc 6 (aS ?_ ?_)<;>intro o<;>try simp at o
  ·have hL : ¬ b7f v inc ver := by rintro (q | ⟨q1, q2⟩) <;> omega
   refine dv 1 ?_
   exact ⟨(), trivial, [], y2y, y2y, (HE.row rfl (by rw [hM]; (rw [a1b hv hkn hL] <;> rfl)) (HE.row rfl (by rw [hM]; (rw [a1b hv hkn hL] <;> rfl)) (HE.map rfl (by rw [hM]; (rw [a1b hv hkn hL] <;> rfl)) (HE.row rfl (by rw [hM]; (rw [a1b hv hkn hL] <;> rfl)) (HE.box rfl (by rw [hM]; (rw [a1b hv hkn hL] <;> rfl)) HE.nil))))), y1y, rfl⟩
  have hL : b7f v inc ver := .inr ⟨by omega, by omega⟩
  refine dv 14 ?_
  refine x0x rfl rfl rfl (a8h c c v.events es n.g n.low) (dv 12 ?_)
  refine rlB p7p a4c ?_
  refine b1s (κ := Int) (enc := fun n => .int .i64 n) (ks := b4q n.views.length) (k := (k : Int)) (es' := a5t c (n.views.set k ⟨inc, ver, es⟩)) Tryz.underlying162 (a7c Tryz.underlying3) rfl rfl rfl (fun _ _ _ h => c9v h) rfl (a7k _ _) (.inl ⟨k, c6g (u3u hv), d2n _ _ _ _⟩) ?_
  exact ⟨(), trivial, [], y2y, y2y, (HE.row rfl (by rw [hM]; (rw [q3q hv hkn hL] <;> rfl)) (HE.row rfl (by rw [hM]; (rw [q3q hv hkn hL] <;> rfl)) (HE.map rfl (by rw [hM]; (rw [q3q hv hkn hL] <;> rfl)) (HE.row rfl (by rw [hM]; (rw [q3q hv hkn hL] <;> rfl)) (HE.box rfl (by rw [hM]; (rw [q3q hv hkn hL] <;> rfl)) HE.nil))))), y1y, rfl⟩
 ·try dsimp only [d2l, d2m]
  obtain ⟨w1, w2, w3⟩ := d2j n k inc ver g es
  rw [← hM] at w1 w2 w3
  have hwM : wk M := by rw [hM]; exact d2i (e0c fS) hes
  have hpcM : M.lanes.length = (a0j M.id 4).length := by rw [w1, w3]; exact fS.2.2.2.2.1
  have hwA : wk (nl M (v6v M M.lanes)) := c5j _ (Nat.le_refl _) hwM
  have hLA : (v6v M M.lanes).length ≤ 4 := hwA.1
  refine dv 2 ?_
  refine rlM [9, 10, 11, 12, 13] [_, _, _, _, _] (b7l c M hwM hpcM) rfl rfl rfl ?_
  refine dv 3 ?_
  refine rlM [9, 10, 11, 12, 13] [_, _, _, _, _] (b4u c n (nl M (v6v M M.lanes)) hwA w2.symm ⟨by rw [show ((nl M (v6v M M.lanes)) : Nd).version = M.version from rfl, w2]; omega, by rw [show ((nl M (v6v M M.lanes)) : Nd).version = M.version from rfl, w2]; omega⟩) rfl rfl rfl ?_
  refine dv 3 ?_
  refine rlM [9, 10, 11, 12, 13, 0, 1, 2, 3, 4] [_, _, _, _, _, _, _, _, _, _] (b3r c n (c0z n M) (by omega) (by show (v6v M M.lanes).length ≤ 1048576; omega) (fun i l h => hwA.2.2.2.2.2.2 i l h) hwA.2.2.1) rfl rfl rfl ?_
  refine dv 3 ?_
  refine x3x (id := 8) a0o a0p rfl (dv 5 ?_)
  rw [d7r fK fH, ← hM]
  refine dv 1 ?_
  exact ⟨[_, _, _, _, _], rfl, rfl, y1y⟩
end
section
theorem c1k (c c' : Bool) (l : La) (s : List Ev) : r0r Tryz.prog 150 [.agg (q8q c l), w7w c' s] (.tup [.agg (y3y (a3z l s).1), .pv (.bool (a3z l s).2)]) := by
 refine pX Tryz.f150 [.agg (y3y (a3z l s).1), .pv (.bool (a3z l s).2)] 3 ?_
 refine y8y 1 rfl fun hlen => ?_
 have hsm := b5w l.done s
 refine dv 1 ?_
 refine x9x (id := 0) rfl rfl rfl (x3x (id := 1) y9y a6x rfl (dv 4 ?_))
 refine rlM [2] [_] (a8n c l.done) rfl rfl rfl ?_
 refine dv 1 ?_
 refine rlM [2] [_] (a2t c c' l.done s) rfl rfl rfl ?_
 refine dc 9 (fun K K' => aS ?_ ?_)<;>intro h<;>try simp at h
 ·refine dv 6 ?_
  refine rlB y9y a6x ?_
  refine dv 3 ?_
  (rw [d7b (by omega)]; exact ⟨_, _, rfl, .agg rfl (.cl rfl (.cl rfl (.cl rfl (.cl rfl (.cl rfl (.cl rfl (.cl rfl .nil))))))) (.cl rfl .nil)⟩)
 refine dc 5 (aI ?_ ?_)<;>intro h<;>try simp at h
 ·refine dv 1 ?_
  refine rlB y9y a6x ?_
  refine dv 3 ?_
  (rw [d7c (by omega)]; exact ⟨_, _, rfl, .agg rfl (.cl rfl (.cl rfl (.cl rfl (.cl rfl (.cl rfl (.cl rfl (.cl rfl .nil))))))) (.cl rfl .nil)⟩)
 have hlt : same l.done s < s.length := by omega
 obtain ⟨e, he⟩ : ∃ e, s[same l.done s]? = some e := ⟨_, List.getElem?_eq_getElem hlt⟩
 refine dv 5 ?_
 refine a0d (out := .agg (y3y e)) rfl y9y rfl ?_
 refine dv 3 ?_
 (rw [d7e (by omega) he]; exact ⟨_, _, rfl, .agg rfl (.cl rfl (.cl rfl (.cl rfl (.cl rfl (.cl rfl (.cl rfl (.cl rfl .nil))))))) (.cl rfl .nil)⟩)
end
section
theorem b2k (c : Bool) (n : Nd) (fK : w3w n) : Meth Tryz.prog 142 5 [0, 1, 2, 3, 4] [.ptr 4 0 0] [(0, (0, .row 41 3 ((n.lanes).map fun l => p0p l.base))), (1, (0, .row 42 1 ((n.lanes).map fun l => [a3b c l.done]))), (2, (0, .map (a5t c n.views))), (3, (0, .row 3 1 (n.known.map r5r))), (4, (0, .box 164 [pI n.id, pI n.inc, pI n.g, pI n.led, .ref 0 0, w7w c n.kept, r9r c n.outs, .pv (.bool n.up), .ref 1 0, pI n.version, .mp 2 0, .ref 3 0, pI n.round, pI n.low]))] (.pv (.int .i64 (e2d n))) [] := by
 refine u9u z9z (fn := Tryz.f142) (by kernel_rfl) (by kernel_rfl) rfl (O0 := [.pv (.int .i64 (e2d n))]) 5 3 (a0w rfl) (by rfl) (by repeat (first | exact BndH.nil | refine BndH.box rfl ?_ | refine BndH.row (y5y fun _ => rfl) ?_ | refine BndH.map (p4p _ _) ?_ )) (by repeat (exact BndH.nil )) (by rfl) fun γ => ?_
 show Ex Tryz.prog _ _ [(0, .ptr 4 (γ 4) 0)] [(0, ((γ 0), .row 41 3 ((n.lanes).map fun l => p0p l.base))), (1, ((γ 1), .row 42 1 ((n.lanes).map fun l => [a3b c l.done]))), (2, ((γ 2), .map (a5t c n.views))), (3, ((γ 3), .row 3 1 (n.known.map r5r))), (4, ((γ 4), .box 164 [pI n.id, pI n.inc, pI n.g, pI n.led, .ref 0 (γ 0), w7w c n.kept, r9r c n.outs, .pv (.bool n.up), .ref 1 (γ 1), pI n.version, .mp 2 (γ 2), .ref 3 (γ 3), pI n.round, pI n.low])), (7, (0, .dead)), (6, (0, .dead)), (5, (0, .dead))] _
 have fS := fK.1
 have fB := v2v fS
 have fL := fS.2.2.2.2.1
 refine dv 11 fun K K' => ?_
 refine x0x rfl rfl rfl (a3t ..) (dv 3 ?_)
 refine x4x (ι := Nat) (fun i γ1 => [(3, pI (b2a n i)), (15, pI (i : Int))]) (fun i γ1 => [(6, ((γ1 6), .dead)), (5, ((γ1 5), .dead))]) (fun i => i ≤ n.lanes.length) (fun i => n.lanes.length - i) (a0f [0, 13, 14] rfl) (a2k [0, 1, 2, 3, 4, 7] rfl) 0 (by omega) [0, 0, 0, 0, 0, _, _] y2y y1y rfl fun i γ1 hi => ?_
 refine dc 3 (fun K K' => aS ?_ ?_)<;>intro j<;>try simp at j
 ·obtain rfl : i = n.lanes.length := by omega
  refine dv 5 ?_
  exact ⟨[γ 0, γ 1, γ 2, γ 3, γ 4], rfl, rfl, y1y⟩
 obtain ⟨l, hl⟩ := gE n.lanes i
 have hnc := c8p fK hl
 refine dv 5 fun K K' => ?_
 refine b4c rfl rfl a0i rfl w1w rfl hnc.1 ?_
 refine dv 6 ?_
 refine rlM [0, 1, 2, 3, 4] [_, _, _, _, _] (a2h c n _ (p4p _ _) i l hl hnc.1) rfl rfl rfl ?_
 refine dv 2 ?_
 refine rlM [0, 1, 2, 3, 4, 6] [_, _, _, _, _, _] (b1c c n l.proc (b7a fS) (by omega) fS.2.2.2.2.2.1) rfl rfl rfl ?_
 refine a2l rfl rfl rfl (e0h rfl rfl (.ref rfl (Le.ow_map _ nf (fun _ => rfl)) .nil)) (c1k c false l (s6s n l.proc)) (.tup (a2i (.agg (d3s (evN _))) (a2i (.pv _) e2l))) ?_
 refine dv 3 ?_
 refine x3x (id := 5) y9y a6x rfl (dc 5 (aS ?_ ?_))<;>intro hg5<;>try simp at hg5
 ·have hno : ¬ ((a3z l (s6s n l.proc)).2 = true ∧ (a3z l (s6s n l.proc)).1.time < b2a n i) := fun h => by have := h.1; simp_all
  refine dv 7 ?_
  refine x2x (b := 1) rfl rfl (by omega) (dv 1 ?_)
  exact ⟨i + 1, ⟨by omega, by omega⟩, [0, 0, 0, 0, 0, _, _], (Cov.cons' (t := 3) rfl (congrArg (fun v : Int => AV.pv (.int .i64 v)) (c5a hl hno).symm) (x5x 15 rfl Cov.nil)), y2y, y1y, y1y, rfl⟩
 have h2 : (a3z l (s6s n l.proc)).2 = true := hg5
 refine dc 5 (aS ?_ ?_)<;>intro j<;>try simp at j
 ·have hno : ¬ ((a3z l (s6s n l.proc)).2 = true ∧ (a3z l (s6s n l.proc)).1.time < b2a n i) := by (intro h; omega)
  refine dv 2 ?_
  refine x2x (b := 1) rfl rfl (by omega) (dv 1 ?_)
  exact ⟨i + 1, ⟨by omega, by omega⟩, [0, 0, 0, 0, 0, _, _], (Cov.cons' (t := 3) rfl (congrArg (fun v : Int => AV.pv (.int .i64 v)) (c5a hl hno).symm) (x5x 15 rfl Cov.nil)), y2y, y1y, y1y, rfl⟩
 have h3 : (a3z l (s6s n l.proc)).1.time < b2a n i := by omega
 refine dv 5 ?_
 refine x2x (b := 1) rfl rfl (by omega) (dv 1 ?_)
 exact ⟨i + 1, ⟨by omega, by omega⟩, [0, 0, 0, 0, 0, _, _], (Cov.cons' (t := 3) rfl (congrArg (fun v : Int => AV.pv (.int .i64 v)) (d7g hl ⟨h2, h3⟩).symm) (x5x 15 rfl Cov.nil)), y2y, y1y, y1y, rfl⟩
end
section
theorem b4v (i r g f t : Int) (l m : List Int) : Meth Tryz.prog 163 2 [0, 1] [.agg [pI i, pI r, pI g, .ref 0 0, .ref 1 0], .pv (.int .i64 f), .pv (.int .i64 t)] [(0, (0, .row 3 1 ((l).map r5r))), (1, (0, .row 3 1 ((m).map r5r)))] (.agg [pI 3, pI f, pI t, pI i, pI 0, pI r, pI g, .ref 0 0, .ref 1 0, .pv (.slice none 0 0), .pv (.slice none 0 0)]) [] := by
 refine mX Tryz.f163 [.agg [pI 3, pI f, pI t, pI i, pI 0, pI r, pI g, .ref 0 0, .ref 1 0, .pv (.slice none 0 0), .pv (.slice none 0 0)]] 2 2 fun γ => ?_
 refine dv 1 ?_
 refine x9x (id := 2) rfl rfl rfl (x3x (id := 3) a0v a9f rfl (dv 13 ?_))
 refine rlB a0v a9f ?_
 refine dv 2 ?_
 exact ⟨[γ 0, γ 1], rfl, rfl, y1y⟩
theorem b7m (c : Bool) (n : Nd) (r : Int) : Meth Tryz.prog 62 9 [] [.agg (r4r c n), .pv (.int .i64 r)] [(0, (0, .dead)), (1, (0, .dead)), (2, (0, .dead)), (3, (0, .dead)), (4, (0, .dead)), (5, (0, .dead)), (6, (0, .dead)), (7, (0, .dead)), (8, (0, .dead))] (.tup [.agg [pI (x7x n r).1.id, .pv (.bool (x7x n r).1.up), pI (x7x n r).1.inc, pI (x7x n r).1.g, .ref 0 0, .ref 1 0, .ref 2 0, pI (x7x n r).1.led, pI (x7x n r).1.version, .ref 3 0, .ref 4 0, pI (x7x n r).1.round, pI (x7x n r).1.low], .agg [pI (x7x n r).2.1.kind, pI (x7x n r).2.1.from', pI (x7x n r).2.1.to, pI (x7x n r).2.1.inc, pI (x7x n r).2.1.version, pI (x7x n r).2.1.round, pI (x7x n r).2.1.g, .ref 5 0, .ref 6 0, .ref 7 0, .ref 8 0], .pv (.bool ((x7x n r).2.2))]) [(0, (0, .row 44 5 ((x7x n r).1.lanes.map a0l))), (1, (0, .row 56 7 ((x7x n r).1.kept.map y3y))), (2, (0, .row 141 5 ((x7x n r).1.outs.map v8v))), (3, (0, .row 190 3 ((x7x n r).1.views.map a0u))), (4, (0, .row 3 1 ((x7x n r).1.known.map r5r))), (5, (0, .row 3 1 ((x7x n r).2.1.incs.map r5r))), (6, (0, .row 3 1 ((x7x n r).2.1.versions.map r5r))), (7, (0, .row 56 7 ((x7x n r).2.1.events.map y3y))), (8, (0, .row 141 5 ((x7x n r).2.1.outs.map v8v)))] := by
 refine mX Tryz.f62 [.agg [pI (x7x n r).1.id, .pv (.bool (x7x n r).1.up), pI (x7x n r).1.inc, pI (x7x n r).1.g, .ref 0 0, .ref 1 0, .ref 2 0, pI (x7x n r).1.led, pI (x7x n r).1.version, .ref 3 0, .ref 4 0, pI (x7x n r).1.round, pI (x7x n r).1.low], .agg [pI (x7x n r).2.1.kind, pI (x7x n r).2.1.from', pI (x7x n r).2.1.to, pI (x7x n r).2.1.inc, pI (x7x n r).2.1.version, pI (x7x n r).2.1.round, pI (x7x n r).2.1.g, .ref 5 0, .ref 6 0, .ref 7 0, .ref 8 0], .pv (.bool ((x7x n r).2.2))] 9 15 fun γ => ?_
 refine dv 1 ?_
 refine x9x (id := 9) rfl rfl rfl (x3x (id := 10) a0o a0p rfl (x3x (id := 11) a0v a9f rfl (dv 4 fun K K' => ?_)))
 refine x0x rfl rfl rfl (a4z ..) (dc 1 (aI ?_ ?_))<;>intro hc2<;>try simp at hc2
 ·have fX : ¬ w3w n := a4s (by simpa using hc2)
  refine dv 1 ?_
  refine rlB a0o a0p ?_
  refine rlB a0v a9f ?_
  refine dv 3 ?_
  (rw [d2b fX]; refine v0v 10 4 0 44 5 rfl rfl rfl rfl rfl ?_; refine v0v 10 5 1 56 7 rfl rfl rfl rfl rfl ?_; refine v0v 10 6 2 141 5 rfl rfl rfl rfl rfl ?_; refine v0v 10 9 3 190 3 rfl rfl rfl rfl rfl ?_; refine v0v 10 10 4 3 1 rfl rfl rfl rfl rfl ?_; refine v0v 11 7 5 3 1 rfl rfl rfl rfl rfl ?_; refine v0v 11 8 6 3 1 rfl rfl rfl rfl rfl ?_; refine v0v 11 9 7 56 7 rfl rfl rfl rfl rfl ?_; refine v0v 11 10 8 141 5 rfl rfl rfl rfl rfl ?_)
  refine dv 1 ?_
  exact ⟨[_, _, _, _, _, _, _, _, _], rfl, rfl, y1y⟩
 have fK : w3w n := a4r.1 (by simpa using hc2)
 have fS := fK.1
 have fB := v2v fS
 have fV := fS.2.2.2.2.2.1
 have fb := d0e fS
 refine dv 3 ?_
 refine rlM [0, 1, 2, 3, 4] [_, _, _, _, _] (z2z c n (by omega)) rfl rfl rfl ?_
 refine x3x (id := 12) a0o a0p rfl (dc 7 (fun K K' => aS ?_ ?_))<;>intro hg4<;>try simp at hg4
 ·have fU : ¬ (n.up = true ∧ n.round + 1 ≤ r ∧ r ≤ 9999) := fun h => by have := h.1; simp_all
  refine dv 9 ?_
  refine rlB a0v a9f ?_
  refine dv 3 ?_
  (rw [b8w fK fU]; refine v0v 11 7 5 3 1 rfl rfl rfl rfl rfl ?_; refine v0v 11 8 6 3 1 rfl rfl rfl rfl rfl ?_; refine v0v 11 9 7 56 7 rfl rfl rfl rfl rfl ?_; refine v0v 11 10 8 141 5 rfl rfl rfl rfl rfl ?_)
  refine dv 1 ?_
  exact ⟨[_, _, _, _, _, _, _, _, _], rfl, rfl, y1y⟩
 have fUp : n.up = true := hg4
 refine dv 3 ?_
 refine a0m (.int .i64 (n.round + 1)) rfl rfl rfl (a7p rfl rfl (by have := fS.1.2.2.2.2.2.1; omega) (by have := fS.1.2.2.2.2.2.1; omega)) ?_
 refine dv 0 ?_
 refine x0x rfl rfl rfl (y7y ..) (dc 2 (aI ?_ ?_))<;>intro j<;>try simp at j
 ·have fU : ¬ (n.up = true ∧ n.round + 1 ≤ r ∧ r ≤ 9999) := by (intro h; omega)
  refine dv 2 ?_
  refine rlB a0v a9f ?_
  refine dv 3 ?_
  (rw [b8w fK fU]; refine v0v 11 7 5 3 1 rfl rfl rfl rfl rfl ?_; refine v0v 11 8 6 3 1 rfl rfl rfl rfl rfl ?_; refine v0v 11 9 7 56 7 rfl rfl rfl rfl rfl ?_; refine v0v 11 10 8 141 5 rfl rfl rfl rfl rfl ?_)
  refine dv 1 ?_
  exact ⟨[_, _, _, _, _, _, _, _, _], rfl, rfl, y1y⟩
 have fU : n.up = true ∧ n.round + 1 ≤ r ∧ r ≤ 9999 := ⟨fUp, by omega⟩
 refine dv 13 ?_
 refine rlM [19, 20, 21, 22, 23] [_, _, _, _, _] (a6o c n (by omega) (by omega) fS.2.2.2.2.2.2.1) rfl rfl rfl ?_
 refine rlM [19, 20, 21, 22, 23] [_, _, _, _, _] (b2k c n fK) rfl rfl rfl ?_
 refine rlB d1b d4u ?_
 refine x3x (id := 13) d1b d4u rfl (dv 8 fun K K' => ?_)
 refine y8y 42 rfl fun hlen => ?_
 refine v0v 13 3 5 3 1 rfl rfl rfl rfl rfl (v0v 13 4 6 3 1 rfl rfl rfl rfl rfl ?_)
 refine x4x (ι := Nat) (fun i γ1 => [(44, pI (i : Int))]) (fun i γ1 => [(5, ((γ1 5), .row 3 1 (((n.views.take i).map Vi.inc).map r5r))), (6, ((γ1 6), .row 3 1 (((n.views.take i).map Vi.version).map r5r))), (13, ((0 + 1), .box 192 [pI n.inc, pI r, pI (e2d n), .ref 5 (γ1 5), .ref 6 (γ1 6)])), (14, ((γ1 14), .dead)), (15, ((γ1 15), .dead)), (16, ((γ1 16), .dead)), (17, ((γ1 17), .dead)), (18, ((γ1 18), .dead))]) (fun i => i ≤ n.views.length) (fun i => n.views.length - i) (a0f [2, 4, 5, 7, 8, 42, 43] rfl) (a2k [0, 1, 2, 3, 4, 7, 8, 9, 10, 11, 12, 19, 20, 21, 22, 23] rfl) 0 (by omega) [0, 0, 0, 0, 0, _, _, 0, 0, 0, 0, 0, 0, 0, _, _, _, _, _] y2y (HE.row rfl (by rw [List.take_zero]; rfl) (HE.row rfl (by rw [List.take_zero]; rfl) (HE.box rfl rfl (HE.kill rfl (HE.kill rfl (HE.kill rfl (HE.kill rfl (HE.kill rfl HE.nil)))))))) rfl fun i γ1 hi => ?_
 refine dc 3 (fun K K' => aS ?_ ?_)<;>intro j<;>try simp at j
 ·obtain rfl : i = n.views.length := by omega
  rw [List.take_length]
  refine dv 6 ?_
  refine rlM [5, 6] [_, _] (b4v n.inc r (e2d n) n.id 0 (n.views.map Vi.inc) (n.views.map Vi.version)) rfl rfl rfl ?_
  refine dv 3 ?_
  (rw [d2c fK fU]; refine v0v 11 9 7 56 7 rfl rfl rfl rfl rfl ?_; refine v0v 11 10 8 141 5 rfl rfl rfl rfl rfl ?_)
  refine dv 1 ?_
  exact ⟨[_, _, _, _, _, _, _, _, _], rfl, rfl, y1y⟩
 obtain ⟨v, hv⟩ := gE n.views i
 refine dv 6 fun K K' => ?_
 refine x3x (id := 14) p7p a4c rfl (dv 6 ?_)
 refine a6y (id := 15) a0i rfl w1w rfl rfl rfl rfl rfl ?_
 refine v5v (zs := ((n.views.take i).map Vi.inc ++ [v.inc]).map r5r) rfl rfl a0i rfl w1w rfl rfl rfl rfl (by rfl) (p5p _ _ _) (by (simp only [a3c, a1u, a2b, a2g, a5e, T3]; omega)) ?_
 refine dv 7 ?_
 refine a6y (id := 17) a0i rfl w1w rfl rfl rfl rfl rfl ?_
 refine v5v (zs := ((n.views.take i).map Vi.version ++ [v.version]).map r5r) rfl rfl a0i rfl w1w rfl rfl rfl rfl (by rfl) (p5p _ _ _) (by (simp only [a3c, a1u, a2b, a2g, a5e, T3]; omega)) ?_
 refine dv 3 ?_
 refine u2u rfl rfl rfl (dv 1 ?_)
 exact ⟨i + 1, ⟨by omega, by omega⟩, [0, 0, 0, 0, 0, _, _, 0, 0, 0, 0, 0, 0, 0, _, _, _, _, _], (Cov.cons' (t := 44) rfl (by rw [x6x (by omega) (by omega)]; rfl) Cov.nil), y2y, (HE.row rfl (by simp only [z3z hv, List.map_append, List.map_cons, List.map_nil]) (HE.row rfl (by simp only [z3z hv, List.map_append, List.map_cons, List.map_nil]) (HE.box rfl rfl (HE.kill rfl (HE.kill rfl (HE.kill rfl (HE.kill rfl (HE.kill rfl HE.nil)))))))), y1y, rfl⟩
end
section
theorem a8r (l : List Ou) (x : Ou) (hl : l.length ≤ 1000000000) : Meth Tryz.prog 284 2 [0] [.ptr 0 0 0, .agg (v8v x)] [(0, (0, .box 310 [.ref 1 0, .fn (.func 283) [] []])), (1, (0, .row 141 5 ((l).map v8v)))] (.tup []) [(0, (0, .box 310 [.ref 1 0, .fn (.func 283) [] []])), (1, (0, .row 141 5 ((b5s a4e l x).map v8v)))] := by
 refine mX Tryz.f284 [] 2 3 fun γ => ?_
 refine dv 1 ?_
 refine x9x (id := 2) rfl rfl rfl (dv 7 ?_)
 refine v7v (id := 3) q5q rfl u1u rfl rfl rfl rfl rfl rfl (v5v rfl rfl q5q rfl u1u rfl rfl rfl rfl (by rfl) (p5p _ _ _) (by (simp only [a3c, a1u, a2b, a2g, T141]; omega)) ?_)
 refine dv 9 ?_
 refine a0c (b := 1) rfl rfl (by (simp; done)) (by (simp; omega)) ?_
 refine dv 2 ?_
 refine x4x (ι := Nat × List Ou) (fun i γ1 => [(4, pI (i.1 : Int))]) (fun i γ1 => [(1, ((γ1 1), .row 141 5 ((i.2).map v8v))), (0, ((γ 0), .box 310 [.ref 1 (γ1 1), .fn (.func 283) [] []]))]) (fun i => a7d a4e i.2 i.1 = b5s a4e l x ∧ i.1 < i.2.length ∧ i.2.length = l.length + 1) (fun i => i.1) (x5x 0 rfl Cov.nil) (a2k [2, 3, 4] rfl) (l.length, l ++ [x]) ⟨rfl, by simp, by simp⟩ [0, _] (Cov.cons' (t := 4) rfl (by simp) Cov.nil) y1y rfl fun i γ1 hi => ?_
 obtain ⟨k, m⟩ := i
 obtain ⟨h1, h2, h3⟩ := hi
 dsimp only at h1 h2 h3 ⊢
 refine dc 4 (fun K K' => aS ?_ ?_)<;>intro h<;>try simp at h
 ·have hk : k = 0 := by omega
  subst hk
  have hfin := siftUp_zero.symm.trans h1
  refine dv 1 ?_
  exact ⟨[γ 0, _], rfl, rfl, HE.box rfl rfl (HE.row rfl (by rw [← hfin]) HE.nil)⟩
 obtain ⟨a, ha⟩ := gE m k
 obtain ⟨b, hb⟩ := gE m ((k - 1) / 2)
 have hp : (k - 1) / 2 < k := by omega
 refine dv 4 ?_
 refine a0c (b := 1) rfl rfl (by omega) (by omega) (d5i (b := 2) rfl rfl (by omega) (by omega) (dv 12 fun K K' => ?_))
 refine z0z (j := k) rfl rfl q5q rfl u1u rfl rfl (by omega) ?_
 refine dv 6 ?_
 refine z0z (j := (k - 1) / 2) rfl rfl q5q rfl u1u rfl rfl (by omega) ?_
 refine dv 1 ?_
 refine x0x rfl rfl rfl (a5o _ _) (dc 1 (aI ?_ ?_))<;>intro hc4<;>try simp at hc4
 ·have hfin := (b4k ha hb hc4).symm.trans h1
  refine dv 1 ?_
  exact ⟨[γ 0, _], rfl, rfl, HE.box rfl rfl (HE.row rfl (by rw [← hfin]) HE.nil)⟩
 have hg := hc4
 refine dv 17 ?_
 refine z0z (j := (k - 1) / 2) rfl rfl q5q rfl u1u rfl rfl (by omega) ?_
 refine dv 6 ?_
 refine z0z (j := k) rfl rfl q5q rfl u1u rfl rfl (by omega) ?_
 refine dv 1 ?_
 refine z0z (j := k) rfl rfl q5q rfl u1u rfl rfl (by omega) ?_
 refine w8w (el' := b) rfl rfl u1u rfl rfl rfl ha rfl (a0g _) rfl rfl ?_
 refine z0z (j := (k - 1) / 2) rfl rfl q5q rfl u1u rfl rfl (by rw [List.length_set]; omega) ?_
 refine w8w (el' := a) rfl rfl u1u rfl rfl rfl (by rw [List.getElem?_set_ne (by omega)]; exact hb) rfl (a0g _) rfl rfl ?_
 refine dv 3 ?_
 exact ⟨((k - 1) / 2, sw m k ((k - 1) / 2)), ⟨⟨by rw [← h1, b4j (by omega) ha hb hg], by rw [a8c]; dsimp only; omega, by rw [a8c]; exact h3⟩, (by dsimp only; omega)⟩, [0, _], y2y, y2y, (HE.row rfl (by rw [d6l ha hb]) (HE.box rfl rfl HE.nil)), y1y, rfl⟩
theorem a9p (m : Ou) (r : List Ou) (hl : r.length ≤ 1000000000) : Meth Tryz.prog 307 2 [0] [.ptr 0 0 0] [(0, (0, .box 310 [.ref 1 0, .fn (.func 283) [] []])), (1, (0, .row 141 5 ((m :: r).map v8v)))] (.agg (v8v m)) [(0, (0, .box 310 [.ref 1 0, .fn (.func 283) [] []])), (1, (0, .row 141 5 ((b0c a4e (m :: r)).map v8v)))] := by
 refine u9u z9z (fn := Tryz.f307) (by kernel_rfl) (by kernel_rfl) rfl (O0 := [.agg (v8v m)]) 2 2 (a0w rfl) (by rfl) (by repeat (first | exact BndH.nil | refine BndH.box rfl ?_ | refine BndH.row (y5y fun _ => rfl) ?_)) (by repeat (first | exact BndH.nil | refine BndH.box rfl ?_ | refine BndH.row (y5y fun _ => rfl) ?_)) (by rfl) fun γ => ?_
 show Ex Tryz.prog _ _ [(0, .ptr 0 (γ 0) 0)] [(0, ((γ 0), .box 310 [.ref 1 (γ 1), .fn (.func 283) [] []])), (1, ((γ 1), .row 141 5 ((m :: r).map v8v))), (3, (0, .dead)), (2, (0, .dead))] _
 obtain ⟨T0, hT⟩ : ∃ T0, T0 = ((m :: r).set 0 ((m :: r).getLast (by simp))).take r.length := ⟨_, rfl⟩
 have hres : b0c a4e (m :: r) = a0r a4e T0 0 := by rw [hT]; rfl
 have hTl : T0.length = r.length := by rw [hT]; simp
 have hlast : (m :: r)[(m :: r).length - 1]? = some ((m :: r).getLast (by simp)) := by rw [← List.getLast?_eq_getElem?, List.getLast?_eq_some_getLast]
 refine exR (x3x (id := 2) u1u b5g rfl (exR (q1q rfl (e1o rfl rfl (x8x rfl d4s rfl rfl q5q rfl rfl (u6u rfl q5q rfl rfl ?_))))))
 refine z0z (j := 0) rfl rfl q5q rfl u1u rfl rfl (by simp) ?_
 refine a9h rfl u1u rfl (show (m :: r)[0]? = some m from rfl) rfl rfl ?_
 refine x3x (id := 3) u1u b5g rfl (dv 7 ?_)
 refine a0c (b := 1) rfl rfl (by (simp; done)) (by (simp; omega)) ?_
 refine dv 11 ?_
 refine z0z (j := (m :: r).length - 1) rfl rfl q5q rfl u1u rfl rfl (by simp) ?_
 refine dv 1 ?_
 refine z0z (j := 0) rfl rfl q5q rfl u1u rfl rfl (by simp) ?_
 refine w8w (el' := ((m :: r).getLast (by simp))) rfl rfl u1u rfl rfl rfl (show (m :: r)[0]? = some m from rfl) rfl (a0g _) rfl rfl ?_
 refine dv 7 ?_
 refine d1l z9z (u := (m :: r).length - 1) (ys := T0.map v8v) rfl q5q rfl u1u rfl rfl rfl (by (simp; done)) (by rw [hT, List.map_take]; rfl) ?_
 refine dv 6 ?_
 refine x4x (ι := Nat × List Ou) (fun i γ1 => [(5, pI (i.1 : Int))]) (fun i γ1 => [(1, ((γ1 1), .row 141 5 ((i.2).map v8v))), (0, ((γ 0), .box 310 [.ref 1 (γ1 1), .fn (.func 283) [] []]))]) (fun i => a0r a4e i.2 i.1 = b0c a4e (m :: r) ∧ i.2.length = r.length ∧ i.1 ≤ r.length) (fun i => i.2.length - i.1) (a0f [0, 2, 3, 4] rfl) (a2k [2, 3] rfl) (0, T0) ⟨hres.symm, hTl, by omega⟩ [0, _] y2y y1y rfl fun i γ1 hi => ?_
 obtain ⟨k, t⟩ := i
 obtain ⟨h1, h2, h3⟩ := hi
 dsimp only at h1 h2 h3 ⊢
 refine dv 3 ?_
 refine d5h (a := 2) rfl rfl (by omega) (x2x (b := 1) rfl rfl (by omega) (dc 6 (fun K K' => aI ?_ ?_)))<;>intro h<;>try simp at h
 ·have hfin := (a4n (lt := a4e) (l := t) (k := k) (by omega)).symm.trans h1
  refine dv 4 ?_
  exact ⟨[γ 0, _], rfl, rfl, HE.box rfl rfl (HE.row rfl (by rw [← hfin]) HE.nil)⟩
 have hlt : 2 * k + 1 < t.length := by omega
 refine dv 1 ?_
 refine a7b (ι := Unit) (fun _i γ2 => [(6, pI (a2c a4e t k : Int))]) (fun _i γ2 => []) (fun _i => True) (a0f [0, 2, 3, 4, 5] rfl) (a2k [0, 1, 2, 3] rfl) ?_ fun _i γ2 hi => ?_
 ·refine dv 2 ?_
  refine x2x (b := 1) rfl rfl (by omega) (dc 3 (aS ?_ ?_))<;>intro h<;>try simp at h
  ·have hlt2 : ¬ 2 * k + 2 < t.length := by omega
   refine dv 22 ?_
   exact ⟨(), trivial, [], (Cov.cons' (t := 6) rfl (by rw [d6q (by omega)]) Cov.nil), y2y, y1y, y1y, rfl⟩
  have hlt2 : 2 * k + 1 + 1 < t.length := by omega
  obtain ⟨c1, hc1⟩ := gE t (2 * k + 1 + 1)
  obtain ⟨d1, hd1⟩ := gE t (2 * k + 1)
  refine dv 9 ?_
  refine x2x (b := 1) rfl rfl (by omega) (dv 0 ?_)
  refine z0z (j := 2 * k + 1 + 1) rfl rfl q5q rfl u1u rfl rfl (by omega) ?_
  refine dv 6 ?_
  refine z0z (j := 2 * k + 1) rfl rfl q5q rfl u1u rfl rfl (by omega) ?_
  refine dv 1 ?_
  refine x0x rfl rfl rfl (a5o _ _) (dc 1 (aS ?_ ?_))<;>intro hc4<;>try simp at hc4
  ·try have hl1 := hc4
   refine dv 1 ?_
   exact ⟨(), trivial, [], (Cov.cons' (t := 6) rfl (by rw [d6p hc1 hd1 hl1]) Cov.nil), y2y, y1y, y1y, rfl⟩
  have hl1 := hc4
  refine dv 2 ?_
  refine x2x (b := 1) rfl rfl (by omega) (dv 1 ?_)
  exact ⟨(), trivial, [], (Cov.cons' (t := 6) rfl (by rw [d6o hc1 hd1 hl1]) Cov.nil), y2y, y1y, y1y, rfl⟩
 ·try dsimp only [d2l, d2m]
  have hch := a9y (lt := a4e) t k
  obtain ⟨a, ha⟩ := gE t (a2c a4e t k)
  obtain ⟨b, hb⟩ := gE t k
  refine dv 11 fun K K' => ?_
  refine z0z (j := a2c a4e t k) rfl rfl q5q rfl u1u rfl rfl (by omega) ?_
  refine dv 6 ?_
  refine z0z (j := k) rfl rfl q5q rfl u1u rfl rfl (by omega) ?_
  refine dv 1 ?_
  refine x0x rfl rfl rfl (a5o _ _) (dc 1 (aI ?_ ?_))<;>intro hc7<;>try simp at hc7
  ·have hfin := (b0a ha hb hc7).symm.trans h1
   refine dv 4 ?_
   exact ⟨[γ 0, _], rfl, rfl, HE.box rfl rfl (HE.row rfl (by rw [← hfin]) HE.nil)⟩
  have hg := hc7
  refine dv 17 ?_
  refine z0z (j := a2c a4e t k) rfl rfl q5q rfl u1u rfl rfl (by omega) ?_
  refine dv 6 ?_
  refine z0z (j := k) rfl rfl q5q rfl u1u rfl rfl (by omega) ?_
  refine dv 1 ?_
  refine z0z (j := k) rfl rfl q5q rfl u1u rfl rfl (by omega) ?_
  refine w8w (el' := a) rfl rfl u1u rfl rfl rfl hb rfl (a0g _) rfl rfl ?_
  refine z0z (j := a2c a4e t k) rfl rfl q5q rfl u1u rfl rfl (by rw [List.length_set]; omega) ?_
  refine w8w (el' := b) rfl rfl u1u rfl rfl rfl (by rw [List.getElem?_set_ne (by omega)]; exact ha) rfl (a0g _) rfl rfl ?_
  refine dv 3 ?_
  exact ⟨(a2c a4e t k, sw t (a2c a4e t k) k), ⟨⟨by rw [← h1, a9z (by omega) ha hb hg], by rw [a8c]; exact h2, by dsimp only; omega⟩, (by dsimp only; rw [a8c]; omega)⟩, [0, _], y2y, y2y, (HE.row rfl (by rw [d6l ha hb, List.set_comm _ _ (by omega)]) (HE.box rfl rfl HE.nil)), y1y, rfl⟩
theorem a7r (l : List Ou) (hl : l.length ≤ 1000000000) : Meth Tryz.prog 285 2 [0] [.ptr 0 0 0] [(0, (0, .box 310 [.ref 1 0, .fn (.func 283) [] []])), (1, (0, .row 141 5 ((l).map v8v)))] (.row (.rd true) 141 5 ((a3r a4e l.length l).map v8v)) [(0, (0, .box 310 [.ref 1 0, .fn (.func 283) [] []])), (1, (0, .row 141 5 ((([] : List Ou)).map v8v)))] := by
 refine mX Tryz.f285 [.row (.rd true) 141 5 ((a3r a4e l.length l).map v8v)] 2 3 fun γ => ?_
 refine dv 8 ?_
 refine c4g z9z (id := 2) q5q rfl u1u rfl rfl (by (simp only [a3c, a1u, a2b, a2g, T141]; omega)) (by (unfold maxLen; omega)) rfl ?_
 refine dv 3 fun K K' => ?_
 refine x4x (ι := List Ou × List Ou) (fun i γ1 => [(3, .ref 2 (γ1 2))]) (fun i γ1 => [(1, ((γ1 1), .row 141 5 ((i.1).map v8v))), (2, ((γ1 2), .row 141 5 ((i.2).map v8v))), (0, ((γ 0), .box 310 [.ref 1 (γ1 1), .fn (.func 283) [] []])), (3, ((γ1 3), .dead)), (4, ((γ1 4), .dead))]) (fun i => i.2 ++ a3r a4e i.1.length i.1 = a3r a4e l.length l ∧ i.1.length + i.2.length = l.length) (fun i => i.1.length) (x5x 0 rfl Cov.nil) HE.nil (l, []) ⟨rfl, rfl⟩ [0, _, _, _, _] y2y y1y rfl fun i γ1 hi => ?_
 obtain ⟨ls, o⟩ := i
 obtain ⟨h1, h2⟩ := hi
 dsimp only at h1 h2 ⊢
 refine dc 8 (fun K K' => aS ?_ ?_)<;>intro hc3<;>try simp at hc3
 ·obtain rfl : ls = [] := hc3
  have ho : o = a3r a4e l.length l := by rw [← h1]; simp [a3r]
  subst ho
  refine dv 1 ?_
  refine q6q 3 rfl rfl (fun _ => rfl) ?_
  refine dv 4 ?_
  exact ⟨[γ 0, _], rfl, rfl, y1y⟩
 obtain ⟨m, r, rfl⟩ : ∃ m r, ls = m :: r := by cases ls with | nil => simp at hc3 | cons m r => exact ⟨m, r, rfl⟩
 simp only [a2b] at h2
 refine dv 5 ?_
 refine rlM [0, 1] [_, _] (a9p m r (by omega)) rfl rfl rfl ?_
 refine v7v (id := 3) q5q rfl u1u rfl rfl rfl rfl rfl rfl (v5v rfl rfl q5q rfl u1u rfl rfl rfl rfl (by rfl) (p5p _ _ _) (by (simp only [a3c, a1u, a2b, a2g, T141]; omega)) ?_)
 refine dv 1 ?_
 exact ⟨(b0c a4e (m :: r), o ++ [m]), ⟨⟨by rw [← h1, a7e, List.append_assoc]; rfl, by rw [a7e, List.length_append]; simp only [a2b, a2g] at h2 ⊢; omega⟩, (by dsimp only; rw [a7e]; simp)⟩, [0, _, _, _, _], y2y, y2y, (HE.row rfl rfl (HE.row rfl (by simp) (HE.box rfl rfl (HE.kill rfl (HE.kill rfl HE.nil))))), y1y, rfl⟩
theorem a8s (c : Bool) (l : List Ou) (hl : l.length ≤ 1000000) : r0r Tryz.prog 220 [r9r c l] (r9r true (a2f l)) := by
 refine pX Tryz.f220 [r9r true (a2f l)] 5 ?_
 refine dv 3 ?_
 refine rlB d4s e1n ?_
 refine x3x (id := 0) d4s e1n rfl (dv 7 fun K K' => ?_)
 refine v0v 0 0 4 141 5 rfl rfl rfl rfl rfl ?_
 refine x4x (ι := Nat) (fun i γ1 => [(9, pI (i : Int))]) (fun i γ1 => [(4, ((γ1 4), .row 141 5 ((b0d a4e (l.take i)).map v8v))), (0, ((0 + 1), .box 310 [.ref 4 (γ1 4), .fn (.func 283) [] []])), (1, ((γ1 1), .dead))]) (fun i => i ≤ l.length) (fun i => l.length - i) (a0f [3, 7, 8] rfl) (a2k [2, 3] rfl) 0 (by omega) [0, _, 0, 0, _] y2y (HE.row rfl (by rw [List.take_zero]; try rfl) (HE.box rfl rfl (HE.kill rfl HE.nil))) rfl fun i γ1 hi => ?_
 refine dc 3 (fun K K' => aS ?_ ?_)<;>intro h<;>try simp at h
 ·obtain rfl : i = l.length := by omega
  have hpl : (b0d a4e (l.take l.length)).length ≤ 1000000000 := by rw [a7f, List.length_take]; omega
  refine dv 2 ?_
  refine rlM [0, 4] [_, _] (a7r _ hpl) rfl rfl rfl ?_
  refine dv 2 ?_
  refine x1x rfl ?_ rfl
  exact congrArg (fun l : List Ou => [r9r true l]) (by rw [a7f, List.take_length, d1u e3y]; rfl)
 obtain ⟨e, he⟩ := gE l i
 have hpl : (b0d a4e (l.take i)).length ≤ 1000000000 := by rw [a7f, List.length_take]; omega
 refine dv 6 fun K K' => ?_
 refine x3x (id := 1) u1u b5g rfl (dv 3 ?_)
 refine rlM [0, 4] [_, _] (a8r _ e hpl) rfl rfl rfl ?_
 refine dv 1 ?_
 refine x2x (b := 1) rfl rfl (by omega) (dv 1 ?_)
 exact ⟨i + 1, ⟨by omega, by omega⟩, [0, _, 0, 0, _], y2y, y2y, (HE.row rfl (by rw [z3z he, c3h]) (HE.box rfl rfl (HE.kill rfl HE.nil))), y1y, rfl⟩
end
section
theorem b7n (c : Bool) (l : La) (u : Int) (hok : a9m l = true) : r0r Tryz.prog 114 [.agg (q8q c l), .pv (.int .i64 u)] (.tup [.agg (q8q c (b1j u l)), w7w true (b5x u l), r9r true (b8d u l)]) := by
 refine pX Tryz.f114 [.agg (q8q c (b1j u l)), w7w true (b5x u l), r9r true (b8d u l)] 7 ?_
 obtain ⟨h1, h2⟩ := a1z hok
 refine dv 1 ?_
 refine x9x (id := 0) rfl rfl rfl (x3x (id := 1) s0s a6w rfl (dv 10 fun K K' => ?_))
 refine w6w 7 4 56 7 rfl rfl (w6w 8 5 141 5 rfl rfl ?_)
 refine x4x (ι := Nat) (fun i γ1 => [(7, .ref 4 (γ1 4)), (8, .ref 5 (γ1 5)), (9, pI (i : Int))]) (fun i γ1 => [(4, ((γ1 4), .row 56 7 (((l.done.take i).flatMap Pa.sends).map y3y))), (5, ((γ1 5), .row 141 5 (((l.done.take i).flatMap Pa.outs).map v8v))), (0, ((0 + 1), .box 44 [pI l.proc, pI (b0v l i).x, pI (b0v l i).y, pI (b0v l i).count, a3b c l.done])), (2, ((γ1 2), .dead)), (3, ((γ1 3), .dead))]) (fun i => i ≤ l.done.length ∧ (∀ (j : Nat) p, j < i → l.done[j]? = some p → p.ev.time < u)) (fun i => l.done.length - i) (a0f [1, 2, 4] rfl) (a2k [1, 6] rfl) 0 ⟨by omega, fun j p hj => by omega⟩ [0, 0, _, _, _, _] y2y (HE.row rfl (by rfl) (HE.row rfl (by rfl) (HE.box rfl rfl (HE.kill rfl (HE.kill rfl HE.nil))))) rfl fun i γ1 hi => ?_
 obtain ⟨k1, k2⟩ := hi
 refine dc 8 (fun K K' => aS ?_ ?_)<;>intro h<;>try simp at h
 ·have hcut : c5b u l.done = i := c0o k1 k2 (fun q hq => by rw [List.getElem?_eq_none (by omega)] at hq; cases hq)
  refine dv 10 ?_
  have hfs := a4t (f := Pa.sends) (m := 2) k1 fun p hp => (h2 p hp).1
  have hfo := a4t (f := Pa.outs) (m := 2) k1 fun p hp => (h2 p hp).2
  refine dv 5 ?_
  refine b8r rfl a1m rfl s1s rfl rfl rfl (by omega) (by (rw [List.length_map]; omega)) (by (rw [List.length_map]; omega)) ?_
  rw [c3o]
  refine dv 2 ?_
  refine q6q 7 rfl rfl (fun _ => rfl) ?_
  refine q6q 8 rfl rfl (fun _ => rfl) ?_
  refine dv 3 ?_
  refine rlM [6] [_] (a0n true _ (by omega)) rfl rfl rfl ?_
  refine dv 1 ?_
  refine x0x rfl rfl rfl (a8s true _ (by omega)) ?_
  refine dv 3 ?_
  refine q6q 5 rfl rfl (fun _ => rfl) ?_
  refine dv 1 ?_
  subst hcut
  exact ⟨_, _, rfl, .agg rfl (.cl rfl (.cl rfl (.cl rfl (.cl rfl (.cl rfl .nil))))) (.cl rfl (.cl rfl .nil))⟩
 obtain ⟨p, hp⟩ := gE l.done i
 have hpb := h2 p (List.mem_of_getElem? hp)
 refine dc 10 (aS ?_ ?_)<;>intro hc4<;>try simp at hc4
 ·have hcut : c5b u l.done = i := by exact c0o k1 k2 (fun q hq => by rw [hp] at hq; cases hq; omega)
  have hfs := a4t (f := Pa.sends) (m := 2) k1 fun p hp => (h2 p hp).1
  have hfo := a4t (f := Pa.outs) (m := 2) k1 fun p hp => (h2 p hp).2
  refine dv 5 ?_
  refine b8r rfl a1m rfl s1s rfl rfl rfl (by omega) (by (rw [List.length_map]; omega)) (by (rw [List.length_map]; omega)) ?_
  rw [c3o]
  refine dv 2 ?_
  refine q6q 7 rfl rfl (fun _ => rfl) ?_
  refine q6q 8 rfl rfl (fun _ => rfl) ?_
  refine dv 3 ?_
  refine rlM [6] [_] (a0n true _ (by omega)) rfl rfl rfl ?_
  refine dv 1 ?_
  refine x0x rfl rfl rfl (a8s true _ (by omega)) ?_
  refine dv 3 ?_
  refine q6q 5 rfl rfl (fun _ => rfl) ?_
  refine dv 1 ?_
  subst hcut
  exact ⟨_, _, rfl, .agg rfl (.cl rfl (.cl rfl (.cl rfl (.cl rfl (.cl rfl .nil))))) (.cl rfl (.cl rfl .nil))⟩
 have hlt : p.ev.time < u := hc4
 have hfs := a4t (f := Pa.sends) (m := 2) (show i ≤ l.done.length by omega) fun p hp => (h2 p hp).1
 have hfo := a4t (f := Pa.outs) (m := 2) (show i ≤ l.done.length by omega) fun p hp => (h2 p hp).2
 refine dv 10 ?_
 refine p2p (zs := ((l.done.take i).flatMap Pa.sends ++ p.sends).map y3y) rfl rfl w2w rfl y9y rfl rfl rfl (w4w (fun _ => rfl) _) (a4l _ _ _) (by (simp only [a3c, a1u, a2b, a2g, a5e, c6r, T56]; omega)) ?_
 refine dv 9 ?_
 refine p2p (zs := ((l.done.take i).flatMap Pa.outs ++ p.outs).map v8v) rfl rfl q5q rfl u1u rfl rfl rfl (w4w (fun _ => rfl) _) (a4l _ _ _) (by (simp only [a3c, a1u, a2b, a2g, a5e, c6r, T141]; omega)) ?_
 refine dv 7 ?_
 refine a0d (out := .agg (p0p p.after)) rfl a1l rfl ?_
 refine dv 1 ?_
 refine a1h rfl rfl a1l rfl rfl rfl rfl (a0w rfl) rfl ?_
 refine dv 2 ?_
 refine x2x (b := 1) rfl rfl (by omega) (dv 1 ?_)
 exact ⟨i + 1, ⟨⟨by omega, fun j q hj hq => by by_cases e : j = i; (subst e; rw [hp] at hq; cases hq; exact hlt); exact k2 j q (by omega) hq⟩, by omega⟩, [0, 0, _, _, _, _], y2y, y2y, (HE.row rfl (by rw [a1s hp]) (HE.row rfl (by rw [a1s hp]) (HE.box rfl (by rw [c0q hp]; rfl) (HE.kill rfl (HE.kill rfl HE.nil))))), y1y, rfl⟩
end
section
theorem b3f (c : Bool) (n : Nd) (e : Ev) (hok : okE e = true) (hk3 : n.known.length = 3) : Meth Tryz.prog 250 6 [0, 1, 2, 3, 4, 5] [.agg (y3y e), .ptr 5 0 0] [(0, (0, .row 41 3 ((n.lanes).map fun l => p0p l.base))), (1, (0, .row 42 1 ((n.lanes).map fun l => [a3b c l.done]))), (2, (0, .map (a5t c n.views))), (3, (0, .row 3 1 (n.known.map r5r))), (4, (0, .box 164 [pI n.id, pI n.inc, pI n.g, pI n.led, .ref 0 0, w7w c n.kept, r9r c n.outs, .pv (.bool n.up), .ref 1 0, pI n.version, .mp 2 0, .ref 3 0, pI n.round, pI n.low])), (5, (0, .box 148 [.ptr 4 0 0]))] (.pv (.bool (b2c n.known e))) [] := by
 refine u9u z9z (fn := Tryz.f250) (by kernel_rfl) (by kernel_rfl) rfl (O0 := [.pv (.bool (b2c n.known e))]) 6 1 (a0w rfl) (by rfl) (by repeat (first | exact BndH.nil | refine BndH.box rfl ?_ | refine BndH.row (y5y fun _ => rfl) ?_ | refine BndH.map (p4p _ _) ?_ )) (by repeat (exact BndH.nil )) (by rfl) fun γ => ?_
 show Ex Tryz.prog _ _ [(0, .agg (y3y e)), (1, .ptr 5 (γ 5) 0)] [(0, ((γ 0), .row 41 3 ((n.lanes).map fun l => p0p l.base))), (1, ((γ 1), .row 42 1 ((n.lanes).map fun l => [a3b c l.done]))), (2, ((γ 2), .map (a5t c n.views))), (3, ((γ 3), .row 3 1 (n.known.map r5r))), (4, ((γ 4), .box 164 [pI n.id, pI n.inc, pI n.g, pI n.led, .ref 0 (γ 0), w7w c n.kept, r9r c n.outs, .pv (.bool n.up), .ref 1 (γ 1), pI n.version, .mp 2 (γ 2), .ref 3 (γ 3), pI n.round, pI n.low])), (5, ((γ 5), .box 148 [.ptr 4 (γ 4) 0])), (6, (0, .dead))] _
 obtain ⟨k, v, hk, hv, hw⟩ := d2f hok hk3
 refine dv 1 ?_
 refine x9x (id := 6) rfl rfl rfl (dv 10 ?_)
 refine x0x rfl rfl rfl (a4x ..) ?_
 refine z0z (j := k) rfl (by rw [← hk]; rfl) a0i rfl w1w rfl rfl (u3u hv) ?_
 refine dv 4 ?_
 exact ⟨[γ 0, γ 1, γ 2, γ 3, γ 4, γ 5], rfl, congrArg (fun b : Bool => some [AV.pv (.bool b)]) (by exact hw.symm), (u4u 0 rfl (u4u 1 rfl (u4u 2 rfl (u4u 3 rfl (u4u 4 rfl (u4u 5 rfl HE.nil))))))⟩
theorem a6d (c : Bool) (n : Nd) (l : List Ev) (hok : ∀ e ∈ l, okE e = true) (hk3 : n.known.length = 3) (hl : l.length ≤ 10000000) : Meth Tryz.prog 230 6 [0, 1, 2, 3, 4, 5] [w7w true l, .fn (.func 250) [] [.ptr 5 0 0]] [(0, (0, .row 41 3 ((n.lanes).map fun l => p0p l.base))), (1, (0, .row 42 1 ((n.lanes).map fun l => [a3b c l.done]))), (2, (0, .map (a5t c n.views))), (3, (0, .row 3 1 (n.known.map r5r))), (4, (0, .box 164 [pI n.id, pI n.inc, pI n.g, pI n.led, .ref 0 0, w7w c n.kept, r9r c n.outs, .pv (.bool n.up), .ref 1 0, pI n.version, .mp 2 0, .ref 3 0, pI n.round, pI n.low])), (5, (0, .box 148 [.ptr 4 0 0]))] (w7w true (l.filter (b2c n.known))) [] := by
 refine u9u z9z (fn := Tryz.f230) (by kernel_rfl) (by kernel_rfl) rfl (O0 := [w7w true (l.filter (b2c n.known))]) 6 4 (a0w rfl) (by rfl) (by repeat (first | exact BndH.nil | refine BndH.box rfl ?_ | refine BndH.row (y5y fun _ => rfl) ?_ | refine BndH.map (p4p _ _) ?_ )) (by repeat (exact BndH.nil )) (by rfl) fun γ => ?_
 show Ex Tryz.prog _ _ [(0, w7w true l), (1, .fn (.func 250) [] [.ptr 5 (γ 5) 0])] [(0, ((γ 0), .row 41 3 ((n.lanes).map fun l => p0p l.base))), (1, ((γ 1), .row 42 1 ((n.lanes).map fun l => [a3b c l.done]))), (2, ((γ 2), .map (a5t c n.views))), (3, ((γ 3), .row 3 1 (n.known.map r5r))), (4, ((γ 4), .box 164 [pI n.id, pI n.inc, pI n.g, pI n.led, .ref 0 (γ 0), w7w c n.kept, r9r c n.outs, .pv (.bool n.up), .ref 1 (γ 1), pI n.version, .mp 2 (γ 2), .ref 3 (γ 3), pI n.round, pI n.low])), (5, ((γ 5), .box 148 [.ptr 4 (γ 4) 0])), (9, (0, .dead)), (8, (0, .dead)), (7, (0, .dead)), (6, (0, .dead))] _
 refine dv 10 fun K K' => ?_
 refine w6w 5 9 56 7 rfl rfl ?_
 refine x4x (ι := Nat) (fun i γ1 => [(5, .ref 9 (γ1 9)), (10, pI (i : Int))]) (fun i γ1 => [(9, ((γ1 9), .row 56 7 (((l.take i).filter (b2c n.known)).map y3y))), (6, ((γ1 6), .dead)), (7, ((γ1 7), .dead)), (8, ((γ1 8), .dead))]) (fun i => i ≤ l.length) (fun i => l.length - i) (a0f [1, 8, 9] rfl) (a2k [0, 1, 2, 3, 4, 5] rfl) 0 (by omega) [0, 0, 0, 0, 0, 0, _, _, _, _] y2y (HE.row rfl (by rw [List.take_zero]; rfl) (HE.kill rfl (HE.kill rfl (HE.kill rfl HE.nil)))) rfl fun i γ1 hi => ?_
 refine dc 3 (fun K K' => aS ?_ ?_)<;>intro h<;>try simp at h
 ·obtain rfl : i = l.length := by omega
  rw [List.take_length]
  refine dv 1 ?_
  refine q6q 5 rfl rfl (fun _ => rfl) ?_
  refine dv 4 ?_
  exact ⟨[γ 0, γ 1, γ 2, γ 3, γ 4, γ 5], rfl, rfl, y1y⟩
 obtain ⟨p, hp⟩ := gE l i
 have hfl : ((l.take i).filter (b2c n.known)).length ≤ 10000000 := Nat.le_trans (List.length_filter_le _ _) (by rw [List.length_take]; omega)
 refine dv 6 fun K K' => ?_
 refine x3x (id := 6) y9y a6x rfl (dv 4 ?_)
 refine rlM [0, 1, 2, 3, 4, 5] [_, _, _, _, _, _] (b3f c n p (hok p (List.mem_of_getElem? hp)) hk3) rfl rfl rfl ?_
 refine dc 0 (aS ?_ ?_)<;>intro hc5<;>try simp at hc5
 ·have hw : ¬ b2c n.known p = true := by rw [hc5]; decide
  refine dv 2 ?_
  refine u2u rfl rfl rfl (dv 1 ?_)
  exact ⟨i + 1, ⟨by omega, by omega⟩, [0, 0, 0, 0, 0, 0, _, _, _, _], (x5x 5 rfl (Cov.cons' (t := 10) rfl (by rw [x6x (by omega) (by omega)]; rfl) Cov.nil)), y2y, (HE.row rfl (by rw [q7q hp]; rw [if_neg hw, List.append_nil]) (HE.kill rfl (HE.kill rfl (HE.kill rfl HE.nil)))), y1y, rfl⟩
 have hw : b2c n.known p = true := hc5
 refine dv 3 ?_
 refine v7v (id := 7) w2w rfl y9y rfl rfl rfl rfl rfl rfl ?_
 refine v5v (zs := ((l.take i).filter (b2c n.known) ++ [p]).map y3y) rfl rfl w2w rfl y9y rfl rfl rfl rfl (by rfl) (p5p _ _ _) (by (simp only [a3c, a1u, a2b, a2g, a5e, b8a, T56] at *; omega)) ?_
 refine dv 2 ?_
 refine u2u rfl rfl rfl (dv 1 ?_)
 exact ⟨i + 1, ⟨by omega, by omega⟩, [0, 0, 0, 0, 0, 0, _, _, _, _], (x5x 5 rfl (Cov.cons' (t := 10) rfl (by rw [x6x (by omega) (by omega)]; rfl) Cov.nil)), (x5x 1 rfl (x5x 8 rfl (x5x 9 rfl Cov.nil))), (HE.row rfl (by rw [q7q hp]; rw [if_pos hw]) (HE.kill rfl (HE.kill rfl (HE.kill rfl HE.nil)))), (u4u 0 rfl (u4u 1 rfl (u4u 2 rfl (u4u 3 rfl (u4u 4 rfl (u4u 5 rfl HE.nil)))))), rfl⟩
theorem b6m (c : Bool) (n : Nd) (g : Int) (fS : a1n n) : Meth Tryz.prog 165 5 [0, 1, 2, 3, 4] [.ptr 4 0 0, .pv (.int .i64 g)] [(0, (0, .row 41 3 ((n.lanes).map fun l => p0p l.base))), (1, (0, .row 42 1 ((n.lanes).map fun l => [a3b c l.done]))), (2, (0, .map (a5t c n.views))), (3, (0, .row 3 1 (n.known.map r5r))), (4, (0, .box 164 [pI n.id, pI n.inc, pI n.g, pI n.led, .ref 0 0, w7w c n.kept, r9r c n.outs, .pv (.bool n.up), .ref 1 0, pI n.version, .mp 2 0, .ref 3 0, pI n.round, pI n.low]))] (.tup []) [(0, (0, .row 41 3 (((p3p n g).lanes).map fun l => p0p l.base))), (1, (0, .row 42 1 (((p3p n g).lanes).map fun l => [a3b c l.done]))), (2, (0, .map (a5t c (p3p n g).views))), (3, (0, .row 3 1 ((p3p n g).known.map r5r))), (4, (0, .box 164 [pI (p3p n g).id, pI (p3p n g).inc, pI (p3p n g).g, pI (p3p n g).led, .ref 0 0, w7w true (p3p n g).kept, r9r true (p3p n g).outs, .pv (.bool (p3p n g).up), .ref 1 0, pI (p3p n g).version, .mp 2 0, .ref 3 0, pI (p3p n g).round, pI (p3p n g).low]))] := by
 refine u9u z9z (fn := Tryz.f165) (by kernel_rfl) (by kernel_rfl) rfl (O0 := []) 5 7 (a0w rfl) (by rfl) (by repeat (first | exact BndH.nil | refine BndH.box rfl ?_ | refine BndH.row (y5y fun _ => rfl) ?_ | refine BndH.map (p4p _ _) ?_ )) (by repeat (first | exact BndH.nil | refine BndH.box rfl ?_ | refine BndH.row (y5y fun _ => rfl) ?_ | refine BndH.map (p4p _ _) ?_ )) (by rfl) fun γ => ?_
 show Ex Tryz.prog _ _ [(0, .ptr 4 (γ 4) 0), (1, .pv (.int .i64 g))] [(0, ((γ 0), .row 41 3 ((n.lanes).map fun l => p0p l.base))), (1, ((γ 1), .row 42 1 ((n.lanes).map fun l => [a3b c l.done]))), (2, ((γ 2), .map (a5t c n.views))), (3, ((γ 3), .row 3 1 (n.known.map r5r))), (4, ((γ 4), .box 164 [pI n.id, pI n.inc, pI n.g, pI n.led, .ref 0 (γ 0), w7w c n.kept, r9r c n.outs, .pv (.bool n.up), .ref 1 (γ 1), pI n.version, .mp 2 (γ 2), .ref 3 (γ 3), pI n.round, pI n.low])), (11, (0, .dead)), (10, (0, .dead)), (9, (0, .dead)), (8, (0, .dead)), (7, (0, .dead)), (6, (0, .dead)), (5, (0, .dead))] _
 have fB := v2v fS
 have fL := c0v fS
 obtain ⟨k, hk, hk3, hkn⟩ := e2f fS
 have hkl := fS.2.2.2.2.2.2.1
 obtain ⟨kn, hkv⟩ := gE n.known k
 have hKk : n.known.set n.id.toNat g = n.known.set k g := by rw [hkn]
 refine dv 1 ?_
 refine b1p (id := 5) rfl rfl rfl rfl (dv 6 ?_)
 refine rlM [9] [_] (z8z c n.kept (by omega)) rfl rfl rfl ?_
 refine dv 5 ?_
 refine rlM [10] [_] (r2r c n.outs (by omega)) rfl rfl rfl ?_
 refine dv 12 fun K K' => ?_
 refine x4x (ι := Nat) (fun i γ1 => [(4, .ref 9 (γ1 9)), (5, .ref 10 (γ1 10)), (28, pI (i : Int))]) (fun i γ1 => [(9, ((γ1 9), .row 56 7 ((a1t n g i).map y3y))), (10, ((γ1 10), .row 141 5 ((a8d n g i).map v8v))), (0, ((γ 0), .row 41 3 ((b1k g n.lanes i).map fun l => p0p l.base))), (1, ((γ 1), .row 42 1 ((b1k g n.lanes i).map fun l => [a3b c l.done]))), (6, ((γ1 6), .dead)), (7, ((γ1 7), .dead)), (8, ((γ1 8), .dead))]) (fun i => i ≤ n.lanes.length) (fun i => n.lanes.length - i) (a0f [1, 2, 27] rfl) (a2k [2, 3, 4, 5, 11] rfl) 0 (by omega) [0, 0, 0, 0, 0, 0, _, _, _, _, _] y2y (HE.row rfl (by rw [c0t]) (HE.row rfl (by rw [c0u]) (HE.row rfl (by rw [b7d]) (HE.row rfl (by rw [b7d]) (HE.kill rfl (HE.kill rfl (HE.kill rfl HE.nil))))))) rfl fun i γ1 hi => ?_
 refine dc 3 (fun K K' => aS ?_ ?_)<;>intro h<;>try simp at h
 ·obtain rfl : i = n.lanes.length := by omega
  have hkt := b5y fS g n.lanes.length
  have hot := b5z fS g n.lanes.length
  refine dv 19 ?_
  refine z0z (j := k) rfl (by rw [← hk]; rfl) a0i rfl w1w rfl rfl (u3u hkv) ?_
  refine a6r (el' := g) rfl rfl w1w rfl rfl rfl hkv rfl (by omega) (.val rfl rfl .nil) rfl rfl ?_
  refine dv 0 ?_
  refine q6q 4 rfl rfl (fun _ => rfl) ?_
  refine dv 3 ?_
  refine a5k rfl rfl ?_
  refine rlM [0, 1, 2, 3, 4, 5] [_, _, _, _, _, _] (a6d c ({ n with g := g, lanes := b1k g n.lanes n.lanes.length, known := n.known.set k g } : Nd) (a1t n g n.lanes.length) (fun e he => c8s fS he) (by show (n.known.set k g).length = 3; rw [List.length_set]; exact hkl) (by omega)) rfl rfl rfl ?_
  refine rlM [11] [_] (a0n true _ (Nat.le_trans (List.length_filter_le _ _) (by omega))) rfl rfl rfl ?_
  refine dv 4 ?_
  refine b1v 11 (xs' := (p3p n g).kept.map y3y) rfl (by simp only [p3p, hKk]) ?_
  refine b1t (b := w7w true (p3p n g).kept) 4 5 rfl rfl rfl (.ref rfl (Le.ow_map _ (fun _ => rfl) (fun _ => rfl)) .nil) rfl rfl rfl rfl ?_
  refine q6q 5 rfl rfl (fun _ => rfl) ?_
  refine dv 3 ?_
  refine x0x rfl rfl rfl (a8s true _ (by omega)) ?_
  refine dv 4 ?_
  exact ⟨[γ 0, γ 1, γ 2, γ 3, γ 4], rfl, rfl, HE.row rfl (by rw [c0r]; rfl) (HE.row rfl (by rw [c0r]; rfl) (u4u 2 rfl (HE.row rfl (by rw [← hKk]; rfl) (HE.box rfl rfl HE.nil))))⟩
 obtain ⟨l, hp⟩ := gE n.lanes i
 have hkt := b5y fS g (i + 1)
 rw [b0h hp, List.length_append] at hkt
 have hot := b5z fS g (i + 1)
 rw [b0i hp, List.length_append] at hot
 have hlt2 : i < (b1k g n.lanes i).length := by rw [c8r _ _ (by omega)]; omega
 refine dv 9 fun K K' => ?_
 refine rlM [0, 1, 2, 3, 4] [_, _, _, _, _] (a2h c ({ n with lanes := b1k g n.lanes i } : Nd) _ (p4p _ _) i l (b8x hp) (fS.2.2.2.2.2.2.2.1 i l hp).1) rfl rfl rfl ?_
 refine dv 1 ?_
 refine x0x rfl rfl rfl (b7n c l g (fL l (List.mem_of_getElem? hp))) ?_
 refine dv 4 ?_
 refine x3x (id := 6) s0s a6w rfl (dv 16 ?_)
 refine u6u (out := .agg (p0p (b1j g l).base)) rfl a1l rfl rfl ?_
 refine dv 2 ?_
 refine z0z (j := i) rfl rfl c7h rfl a1l rfl rfl hlt2 ?_
 refine w8w (el' := b1j g l) rfl rfl a1l rfl rfl rfl (b8x hp) rfl (a0g _) rfl rfl ?_
 refine z0z (j := i) rfl rfl b3h rfl a1m rfl rfl hlt2 ?_
 refine a6r (el' := b1j g l) rfl rfl a1m rfl rfl rfl (b8x hp) rfl (by omega) (.val rfl rfl .nil) rfl rfl ?_
 refine dv 3 ?_
 refine p2p (zs := (a1t n g i ++ b5x g l).map y3y) rfl rfl w2w rfl y9y rfl rfl rfl (w4w (fun _ => rfl) _) (a4l _ _ _) (by (simp only [a3c, a1u, a2b, a2g, a5e, b8a, T56] at *; omega)) ?_
 refine dv 4 ?_
 refine p2p (zs := (a8d n g i ++ b8d g l).map v8v) rfl rfl q5q rfl u1u rfl rfl rfl (w4w (fun _ => rfl) _) (a4l _ _ _) (by (simp only [a3c, a1u, a2b, a2g, a5e, b8a, T141] at *; omega)) ?_
 refine dv 2 ?_
 refine u2u rfl rfl rfl (dv 1 ?_)
 exact ⟨i + 1, ⟨by omega, by omega⟩, [0, 0, 0, 0, 0, 0, _, _, _, _, _], (x5x 4 rfl (x5x 5 rfl (Cov.cons' (t := 28) rfl (by rw [x6x (by omega) (by omega)]; rfl) Cov.nil))), y2y, (HE.row rfl (by rw [b0h hp]) (HE.row rfl (by rw [b0i hp]) (HE.row rfl (by rw [c0s hp]) (HE.row rfl (by rw [c0s hp]) (HE.kill rfl (HE.kill rfl (HE.kill rfl HE.nil))))))), y1y, rfl⟩
end
section
theorem b7o (c : Bool) (n : Nd) (r g : Int) : Meth Tryz.prog 68 5 [] [.agg (r4r c n), .pv (.int .i64 r), .pv (.int .i64 g)] [(0, (0, .dead)), (1, (0, .dead)), (2, (0, .dead)), (3, (0, .dead)), (4, (0, .dead))] (.tup [.agg [pI (z4z n r g).1.id, .pv (.bool (z4z n r g).1.up), pI (z4z n r g).1.inc, pI (z4z n r g).1.g, .ref 0 0, .ref 1 0, .ref 2 0, pI (z4z n r g).1.led, pI (z4z n r g).1.version, .ref 3 0, .ref 4 0, pI (z4z n r g).1.round, pI (z4z n r g).1.low], .pv (.bool ((z4z n r g).2))]) [(0, (0, .row 44 5 ((z4z n r g).1.lanes.map a0l))), (1, (0, .row 56 7 ((z4z n r g).1.kept.map y3y))), (2, (0, .row 141 5 ((z4z n r g).1.outs.map v8v))), (3, (0, .row 190 3 ((z4z n r g).1.views.map a0u))), (4, (0, .row 3 1 ((z4z n r g).1.known.map r5r)))] := by
 refine mX Tryz.f68 [.agg [pI (z4z n r g).1.id, .pv (.bool (z4z n r g).1.up), pI (z4z n r g).1.inc, pI (z4z n r g).1.g, .ref 0 0, .ref 1 0, .ref 2 0, pI (z4z n r g).1.led, pI (z4z n r g).1.version, .ref 3 0, .ref 4 0, pI (z4z n r g).1.round, pI (z4z n r g).1.low], .pv (.bool ((z4z n r g).2))] 5 7 fun γ => ?_
 refine dv 1 ?_
 refine x9x (id := 5) rfl rfl rfl (x3x (id := 6) a0o a0p rfl (dv 4 fun K K' => ?_))
 refine x0x rfl rfl rfl (a4z c n) (dc 1 (aI ?_ ?_))<;>intro hc2<;>try simp at hc2
 ·have fX : ¬ w3w n := a4s (by simpa using hc2)
  refine dv 1 ?_
  refine rlB a0o a0p ?_
  refine dv 2 ?_
  (rw [d2g fX]; refine v0v 6 4 0 44 5 rfl rfl rfl rfl rfl ?_; refine v0v 6 5 1 56 7 rfl rfl rfl rfl rfl ?_; refine v0v 6 6 2 141 5 rfl rfl rfl rfl rfl ?_; refine v0v 6 9 3 190 3 rfl rfl rfl rfl rfl ?_; refine v0v 6 10 4 3 1 rfl rfl rfl rfl rfl ?_)
  refine dv 1 ?_
  exact ⟨[_, _, _, _, _], rfl, rfl, y1y⟩
 have fK : w3w n := a4r.1 (by simpa using hc2)
 have fS := fK.1
 have fB := v2v fS
 have fV := fS.2.2.2.2.2.1
 have fN : ∀ (i : Nat) l, n.lanes[i]? = some l → (a0j n.id 4)[i]? = some l.proc := fun i l h => (fS.2.2.2.2.2.2.2.1 i l h).1
 refine dv 3 ?_
 refine rlM [7, 8, 9, 10, 11] [_, _, _, _, _] (a6o c n (by omega) (by omega) fS.2.2.2.2.2.2.1) rfl rfl rfl ?_
 refine dc 5 (aS ?_ ?_)<;>intro hg3<;>try simp at hg3
 ·have fU : ¬ a4f n r g := by (rintro ⟨m1, m2, m3, m4, m5, m6, m7, m8⟩; (simp_all; done))
  refine dv 43 fun K K' => ?_
  refine rlM [0, 1, 2, 3, 4] [_, _, _, _, _] (z2z c n (by omega)) rfl rfl rfl ?_
  refine dv 2 ?_
  rw [a1o fK fU]
  refine dv 1 ?_
  exact ⟨[_, _, _, _, _], rfl, rfl, y1y⟩
 have fUp : n.up = true := hg3
 refine dc 4 (aS ?_ ?_)<;>intro j<;>try simp at j
 ·have fU : ¬ a4f n r g := by (rintro ⟨m1, m2, m3, m4, m5, m6, m7, m8⟩; omega)
  refine dv 39 fun K K' => ?_
  refine rlM [0, 1, 2, 3, 4] [_, _, _, _, _] (z2z c n (by omega)) rfl rfl rfl ?_
  refine dv 2 ?_
  rw [a1o fK fU]
  refine dv 1 ?_
  exact ⟨[_, _, _, _, _], rfl, rfl, y1y⟩
 refine dc 6 (aS ?_ ?_)<;>intro j<;>try simp at j
 ·have fU : ¬ a4f n r g := by (rintro ⟨m1, m2, m3, m4, m5, m6, m7, m8⟩; omega)
  refine dv 33 fun K K' => ?_
  refine rlM [0, 1, 2, 3, 4] [_, _, _, _, _] (z2z c n (by omega)) rfl rfl rfl ?_
  refine dv 2 ?_
  rw [a1o fK fU]
  refine dv 1 ?_
  exact ⟨[_, _, _, _, _], rfl, rfl, y1y⟩
 refine dc 6 (aS ?_ ?_)<;>intro j<;>try simp at j
 ·have fU : ¬ a4f n r g := by (rintro ⟨m1, m2, m3, m4, m5, m6, m7, m8⟩; omega)
  refine dv 27 fun K K' => ?_
  refine rlM [0, 1, 2, 3, 4] [_, _, _, _, _] (z2z c n (by omega)) rfl rfl rfl ?_
  refine dv 2 ?_
  rw [a1o fK fU]
  refine dv 1 ?_
  exact ⟨[_, _, _, _, _], rfl, rfl, y1y⟩
 refine dc 4 (aS ?_ ?_)<;>intro j<;>try simp at j
 ·have fU : ¬ a4f n r g := by (rintro ⟨m1, m2, m3, m4, m5, m6, m7, m8⟩; omega)
  refine dv 23 fun K K' => ?_
  refine rlM [0, 1, 2, 3, 4] [_, _, _, _, _] (z2z c n (by omega)) rfl rfl rfl ?_
  refine dv 2 ?_
  rw [a1o fK fU]
  refine dv 1 ?_
  exact ⟨[_, _, _, _, _], rfl, rfl, y1y⟩
 refine dc 6 (aS ?_ ?_)<;>intro j<;>try simp at j
 ·have fU : ¬ a4f n r g := by (rintro ⟨m1, m2, m3, m4, m5, m6, m7, m8⟩; omega)
  refine dv 17 fun K K' => ?_
  refine rlM [0, 1, 2, 3, 4] [_, _, _, _, _] (z2z c n (by omega)) rfl rfl rfl ?_
  refine dv 2 ?_
  rw [a1o fK fU]
  refine dv 1 ?_
  exact ⟨[_, _, _, _, _], rfl, rfl, y1y⟩
 refine dv 1 ?_
 refine rlM [7, 8, 9, 10, 11] [_, _, _, _, _] (b2k c n fK) rfl rfl rfl ?_
 refine dc 4 (aS ?_ ?_)<;>intro j<;>try simp at j
 ·have fU : ¬ a4f n r g := by (rintro ⟨m1, m2, m3, m4, m5, m6, m7, m8⟩; omega)
  refine dv 11 fun K K' => ?_
  refine rlM [0, 1, 2, 3, 4] [_, _, _, _, _] (z2z c n (by omega)) rfl rfl rfl ?_
  refine dv 2 ?_
  rw [a1o fK fU]
  refine dv 1 ?_
  exact ⟨[_, _, _, _, _], rfl, rfl, y1y⟩
 refine dc 9 (fun K K' => aI ?_ ?_)<;>intro j<;>try simp at j
 ·have fU : ¬ a4f n r g := by (rintro ⟨m1, m2, m3, m4, m5, m6, m7, m8⟩; omega)
  refine dv 2 ?_
  refine rlM [0, 1, 2, 3, 4] [_, _, _, _, _] (z2z c n (by omega)) rfl rfl rfl ?_
  refine dv 2 ?_
  rw [a1o fK fU]
  refine dv 1 ?_
  exact ⟨[_, _, _, _, _], rfl, rfl, y1y⟩
 have fM : a4f n r g := ⟨fUp, by omega, by omega, by omega, by omega, by omega, by omega, by omega⟩
 refine dv 4 ?_
 refine rlM [7, 8, 9, 10, 11] [_, _, _, _, _] (b6m c n g fS) rfl rfl rfl ?_
 refine e6g 11 rfl (.same (.same (.same (.same (.same (.le (b := w7w c (p3p n g).kept) rfl (Le.low_map fun _ => rfl) rfl (.le (b := r9r c (p3p n g).outs) rfl (Le.low_map fun _ => rfl) rfl (LeCs.refl _)))))))) ?_
 refine dv 3 ?_
 refine rlM [7, 8, 9, 10, 11, 0, 1, 2, 3, 4] [_, _, _, _, _, _, _, _, _, _] (b3r c n (p3p n g) (by omega) (by show (n.lanes.map (b1j g)).length ≤ 1048576; rw [List.length_map]; omega) (fun i l h => by obtain ⟨l0, e1, e2⟩ := e4g h; subst e2; exact fN i l0 e1) fV) rfl rfl rfl ?_
 refine dv 4 ?_
 rw [c5e fK fM]
 refine dv 1 ?_
 exact ⟨[_, _, _, _, _], rfl, rfl, y1y⟩
end
section
theorem a9q (c : Bool) (n : Nd) (w : Wo) : Meth Tryz.prog 77 6 [] [.agg (r4r c n), .agg (a5z c w)] [(0, (0, .dead)), (1, (0, .dead)), (2, (0, .dead)), (3, (0, .dead)), (4, (0, .dead)), (5, (0, .dead))] (.tup [.agg [pI (y4y n w).1.id, .pv (.bool (y4y n w).1.up), pI (y4y n w).1.inc, pI (y4y n w).1.g, .ref 0 0, .ref 1 0, .ref 2 0, pI (y4y n w).1.led, pI (y4y n w).1.version, .ref 3 0, .ref 4 0, pI (y4y n w).1.round, pI (y4y n w).1.low], .ref 5 0]) [(0, (0, .row 44 5 ((y4y n w).1.lanes.map a0l))), (1, (0, .row 56 7 ((y4y n w).1.kept.map y3y))), (2, (0, .row 141 5 ((y4y n w).1.outs.map v8v))), (3, (0, .row 190 3 ((y4y n w).1.views.map a0u))), (4, (0, .row 3 1 ((y4y n w).1.known.map r5r))), (5, (0, .row 79 11 (((y4y n w).2).map a7j)))] := by
 refine mX Tryz.f77 [.agg [pI (y4y n w).1.id, .pv (.bool (y4y n w).1.up), pI (y4y n w).1.inc, pI (y4y n w).1.g, .ref 0 0, .ref 1 0, .ref 2 0, pI (y4y n w).1.led, pI (y4y n w).1.version, .ref 3 0, .ref 4 0, pI (y4y n w).1.round, pI (y4y n w).1.low], .ref 5 0] 6 15 fun γ => ?_
 refine dv 1 ?_
 refine x9x (id := 6) rfl rfl rfl (x9x (id := 7) rfl rfl rfl (x3x (id := 8) a0o a0p rfl (dv 4 fun K K' => ?_)))
 refine x0x rfl rfl rfl (a4z c n) (dc 1 (aI ?_ ?_))<;>intro hc2<;>try simp at hc2
 ·have fX : ¬ w3w n := a4s (by simpa using hc2)
  refine dv 1 ?_
  refine rlB a0o a0p ?_
  refine dv 2 ?_
  (rw [d8e fX]; refine v0v 8 4 0 44 5 rfl rfl rfl rfl rfl ?_; refine v0v 8 5 1 56 7 rfl rfl rfl rfl rfl ?_; refine v0v 8 6 2 141 5 rfl rfl rfl rfl rfl ?_; refine v0v 8 9 3 190 3 rfl rfl rfl rfl rfl ?_; refine v0v 8 10 4 3 1 rfl rfl rfl rfl rfl ?_; refine w6w 5 5 79 11 rfl rfl ?_)
  refine dv 1 ?_
  exact ⟨[_, _, _, _, _, _], rfl, rfl, y1y⟩
 have fK : w3w n := a4r.1 (by simpa using hc2)
 have fS := fK.1
 have fB := v2v fS
 refine dv 4 fun K K' => ?_
 refine x0x rfl rfl rfl (c6f c w) (dc 2 (aS ?_ ?_))<;>intro hg4<;>try simp at hg4
 ·have fU : ¬ a3i n w := fun q => absurd q.2.1 hg4
  refine dv 18 ?_
  try have fU : ¬ a3i n w := fun q => by have := q.1; simp_all
  refine dv 2 ?_
  refine rlM [0, 1, 2, 3, 4] [_, _, _, _, _] (z2z c n (by omega)) rfl rfl rfl ?_
  refine dv 2 ?_
  (rw [b6f fK fU]; refine w6w 5 5 79 11 rfl rfl ?_)
  refine dv 1 ?_
  exact ⟨[_, _, _, _, _, _], rfl, rfl, y1y⟩
 have fW : b2e w := hg4
 refine dc 7 (aS ?_ ?_)<;>intro hg5<;>try simp at hg5
 ·try have fU : ¬ a3i n w := fun q => by have := q.2.2.1; omega
  refine dv 11 ?_
  try have fU : ¬ a3i n w := fun q => by have := q.1; simp_all
  refine dv 2 ?_
  refine rlM [0, 1, 2, 3, 4] [_, _, _, _, _] (z2z c n (by omega)) rfl rfl rfl ?_
  refine dv 2 ?_
  (rw [b6f fK fU]; refine w6w 5 5 79 11 rfl rfl ?_)
  refine dv 1 ?_
  exact ⟨[_, _, _, _, _, _], rfl, rfl, y1y⟩
 have q1 : w.to = n.id := hg5
 refine dc 7 (aS ?_ ?_)<;>intro hg6<;>try simp at hg6
 ·try have fU : ¬ a3i n w := fun q => by have := q.2.2.2; omega
  refine dv 4 ?_
  try have fU : ¬ a3i n w := fun q => by have := q.1; simp_all
  refine dv 2 ?_
  refine rlM [0, 1, 2, 3, 4] [_, _, _, _, _] (z2z c n (by omega)) rfl rfl rfl ?_
  refine dv 2 ?_
  (rw [b6f fK fU]; refine w6w 5 5 79 11 rfl rfl ?_)
  refine dv 1 ?_
  exact ⟨[_, _, _, _, _, _], rfl, rfl, y1y⟩
 have q2 : ¬ w.from' = n.id := hg6
 refine dc 4 (aI ?_ ?_)<;>intro hc7<;>try simp at hc7
 ·try have fU : ¬ a3i n w := fun q => by have := q.1; simp_all
  refine dv 2 ?_
  refine rlM [0, 1, 2, 3, 4] [_, _, _, _, _] (z2z c n (by omega)) rfl rfl rfl ?_
  refine dv 2 ?_
  (rw [b6f fK fU]; refine w6w 5 5 79 11 rfl rfl ?_)
  refine dv 1 ?_
  exact ⟨[_, _, _, _, _, _], rfl, rfl, y1y⟩
 have fM : a3i n w := ⟨by exact hc7, fW, q1, q2⟩
 refine dv 2 fun K K' => ?_
 refine e6v fun B X0 w0 => ?_
 refine txR 1 rfl rfl (dv 1 ?_)
 refine txM [] [] (b8f c w) rfl rfl rfl rfl fun J hJ => ?_
 refine e4t rfl (dv 2 ?_)
 refine e0o z9z rfl d1a rfl rfl (dc 2 (aI ?_ ?_))<;>intro hc9<;>try simp at hc9
 ·obtain rfl : J = .tells := c6d (b := .tells) hc9
  have k1 : w.kind = 1 := hJ
  refine dv 1 ?_
  refine x3x (id := 9) d1a e1i rfl (dv 13 ?_)
  refine rlM [0, 1, 2, 3, 4] [_, _, _, _, _] (c1j c n w.from' w.inc w.version w.g w.events) rfl rfl rfl ?_
  refine dv 2 ?_
  (rw [a4u fK fM, d0n k1]; refine w6w 5 5 79 11 rfl rfl ?_)
  refine dv 1 ?_
  exact ⟨[_, _, _, _, _, _], rfl, rfl, y1y⟩
 have j1 : ¬ J = .tells := fun e => by subst e; exact absurd rfl hc9
 refine dv 1 ?_
 refine e0o z9z rfl d1c rfl rfl (dc 2 (aI ?_ ?_))<;>intro hc10<;>try simp at hc10
 ·obtain rfl : J = .ask := c6d (b := .ask) hc10
  have k2 : w.kind = 2 := hJ
  refine dv 1 ?_
  refine x3x (id := 10) d1c e1j rfl (dv 5 ?_)
  refine rlM [0, 1, 2, 3, 4, 17, 18, 19, 20] [_, _, _, _, _, _, _, _, _] (b7m c n w.round) rfl rfl rfl ?_
  refine dv 4 ?_
  refine x3x (id := 11) a0o a0p rfl (x3x (id := 12) a0v a9f rfl (dc 5 (aI ?_ ?_)))<;>intro hc11<;>try simp at hc11
  ·have hr : (x7x n w.round).2.2 = true := hc11
   refine dv 3 ?_
   refine a6f (id := 5) b1g rfl a0v rfl rfl rfl rfl (.val rfl rfl (.val rfl rfl (.val rfl rfl (.val rfl rfl (.val rfl rfl (.val rfl rfl (.val rfl rfl (.ref rfl (y5y fun _ => rfl) (.ref rfl (y5y fun _ => rfl) (.ref rfl (y5y fun _ => rfl) (.ref rfl (y5y fun _ => rfl) .nil rfl rfl) rfl rfl) rfl rfl) rfl rfl)))))))) rfl (a0w rfl) (a0w rfl) (a0w rfl) rfl rfl ?_
   refine dv 2 ?_
   rw [a4u fK fM, c5n k2 hr]
   refine dv 1 ?_
   exact ⟨[_, _, _, _, _, _], rfl, rfl, y1y⟩
  have hr : ¬ (x7x n w.round).2.2 = true := by simpa using hc11
  have hE : y4y n w = (n, []) := by rw [a4u fK fM, c5o k2 hr]
  refine dv 1 ?_
  refine s8s 0 rfl (s8s 1 rfl (s8s 2 rfl (s8s 3 rfl (s8s 4 rfl (dv 2 ?_)))))
  refine rlM [0, 1, 2, 3, 4] [_, _, _, _, _] (z2z c n (by omega)) rfl rfl rfl ?_
  refine dv 2 ?_
  (rw [hE]; refine w6w 5 5 79 11 rfl rfl ?_)
  refine dv 1 ?_
  exact ⟨[_, _, _, _, _, _], rfl, rfl, y1y⟩
 have j2 : ¬ J = .ask := fun e => by subst e; exact absurd rfl hc10
 refine dv 1 ?_
 refine e0o z9z rfl d1e rfl rfl (dc 2 (aS ?_ ?_))<;>intro hc12<;>try simp at hc12
 ·have j4 : ¬ J = .more := fun e => by subst e; exact absurd rfl hc12
  refine dv 1 ?_
  refine e0o z9z rfl d1g rfl rfl (dc 2 (aS ?_ ?_))<;>intro hc16<;>try simp at hc16
  ·have j6 : ¬ J = .done := fun e => by subst e; exact absurd rfl hc16
   have hE : y4y n w = (n, []) := by rw [a4u fK fM]; cases J <;> first | exact absurd rfl j1 | exact absurd rfl j2 | exact absurd rfl j4 | exact absurd rfl j6 | (have q : _ = _ := hJ; exact c5s (by omega) (by omega) (by omega) (by omega)) | exact c5s hJ.1 hJ.2.1 hJ.2.2.2.1 hJ.2.2.2.2.2
   refine dv 1 ?_
   refine s8s 0 rfl (s8s 1 rfl (s8s 2 rfl (s8s 3 rfl (s8s 4 rfl (dv 2 ?_)))))
   refine rlM [0, 1, 2, 3, 4] [_, _, _, _, _] (z2z c n (by omega)) rfl rfl rfl ?_
   refine dv 2 ?_
   (rw [hE]; refine w6w 5 5 79 11 rfl rfl ?_)
   refine dv 1 ?_
   exact ⟨[_, _, _, _, _, _], rfl, rfl, y1y⟩
  obtain rfl : J = .done := c6d (b := .done) hc16
  have k6 : w.kind = 6 := hJ
  refine dv 1 ?_
  refine x3x (id := 15) d1g e1l rfl (dc 7 (aS ?_ ?_))<;>intro hc17<;>try simp at hc17
  ·have hE : y4y n w = (n, []) := by rw [a4u fK fM, c5r k6 hc17]
   refine dv 1 ?_
   refine s8s 0 rfl (s8s 1 rfl (s8s 2 rfl (s8s 3 rfl (s8s 4 rfl (dv 2 ?_)))))
   refine rlM [0, 1, 2, 3, 4] [_, _, _, _, _] (z2z c n (by omega)) rfl rfl rfl ?_
   refine dv 2 ?_
   (rw [hE]; refine w6w 5 5 79 11 rfl rfl ?_)
   refine dv 1 ?_
   exact ⟨[_, _, _, _, _, _], rfl, rfl, y1y⟩
  have h6 : w.inc = n.inc := hc17
  refine dv 6 ?_
  refine rlM [0, 1, 2, 3, 4] [_, _, _, _, _] (b7o c n w.round w.g) rfl rfl rfl ?_
  refine dv 3 ?_
  refine x3x (id := 16) a0o a0p rfl (dv 6 ?_)
  (rw [a4u fK fM, c5q k6 h6]; refine w6w 5 5 79 11 rfl rfl ?_)
  refine dv 1 ?_
  exact ⟨[_, _, _, _, _, _], rfl, rfl, y1y⟩
 obtain rfl : J = .more := c6d (b := .more) hc12
 have k4 : w.kind = 4 := hJ
 refine dv 1 ?_
 refine x3x (id := 13) d1e e1k rfl (dc 8 (aS ?_ ?_))<;>intro h<;>try simp at h
 ·refine dv 4 ?_
  have hE : y4y n w = (n, []) := by rw [a4u fK fM, b6g k4 (by omega)]
  refine dv 1 ?_
  refine s8s 0 rfl (s8s 1 rfl (s8s 2 rfl (s8s 3 rfl (s8s 4 rfl (dv 2 ?_)))))
  refine rlM [0, 1, 2, 3, 4] [_, _, _, _, _] (z2z c n (by omega)) rfl rfl rfl ?_
  refine dv 2 ?_
  (rw [hE]; refine w6w 5 5 79 11 rfl rfl ?_)
  refine dv 1 ?_
  exact ⟨[_, _, _, _, _, _], rfl, rfl, y1y⟩
 refine dc 4 (aS ?_ ?_)<;>intro h<;>try simp at h
 ·have hE : y4y n w = (n, []) := by rw [a4u fK fM, b6g k4 (by omega)]
  refine dv 1 ?_
  refine s8s 0 rfl (s8s 1 rfl (s8s 2 rfl (s8s 3 rfl (s8s 4 rfl (dv 2 ?_)))))
  refine rlM [0, 1, 2, 3, 4] [_, _, _, _, _] (z2z c n (by omega)) rfl rfl rfl ?_
  refine dv 2 ?_
  (rw [hE]; refine w6w 5 5 79 11 rfl rfl ?_)
  refine dv 1 ?_
  exact ⟨[_, _, _, _, _, _], rfl, rfl, y1y⟩
 have h4 : w.round = n.round ∧ 0 < w.round := by omega
 refine dv 7 ?_
 refine rlB d1f d4v ?_
 refine x3x (id := 14) d1f d4v rfl (dv 3 ?_)
 refine rlM [0, 1, 2, 3, 4] [_, _, _, _, _] (z2z c n (by omega)) rfl rfl rfl ?_
 refine dv 3 ?_
 refine d5f [] [] (b4p n.inc n.round n.version n.id 0) rfl rfl rfl (by decide) rfl rfl (by repeat (exact InH.nil)) (by (simp only [pI, a8b, a8e, d1r, gl, nx, c1s, Nat.beq]; rfl)) (by (simp only [pI, a8b, a8e, d1r, gl, nx, c1s, Nat.beq]; rfl)) ?_
 refine a6f (id := 5) b1g rfl a0v rfl rfl rfl rfl (.val rfl rfl (.val rfl rfl (.val rfl rfl (.val rfl rfl (.val rfl rfl (.val rfl rfl (.val rfl rfl (.val rfl rfl (.val rfl rfl (.val rfl rfl (.val rfl rfl .nil))))))))))) rfl (a0w rfl) (a0w rfl) (a0w rfl) rfl rfl ?_
 refine dv 2 ?_
 (rw [a4u fK fM, c5p k4 h4]; refine e3q 5 rfl (NilLs.cons (x' := a7j (e7p n)) (.same (.same (.same (.same (.same (.same (.same (.own (.own (.own (.own .nil))))))))))) (.refl [])) ?_)
 refine dv 1 ?_
 exact ⟨[_, _, _, _, _, _], rfl, rfl, y1y⟩
end
section
theorem b3s (c : Bool) (l : List Int) : r0r Tryz.prog 259 [a5d c l] (.pv (.bool (decide (b3d l)))) := by
 refine pX Tryz.f259 [.pv (.bool (decide (b3d l)))] 0 ?_
 refine y8y 0 rfl fun hlen => ?_
 refine dc 8 (fun K K' => aS ?_ ?_)<;>intro o<;>try simp at o
 ·refine dv 4 ?_
  have hL : l.length = 0 ∨ l.length = 3 := by (simp_all; done)
  refine dv 5 fun K K' => ?_
  refine x4x (ι := Nat) (fun i γ2 => [(3, pI (i : Int))]) (fun i γ2 => []) (fun i => i ≤ l.length ∧ c8f l (fun _ v => 0 ≤ v ∧ v ≤ 9999) i) (fun i => l.length - i) (x5x 0 rfl Cov.nil) HE.nil 0 ⟨by omega, a0z⟩ [] y2y y1y rfl fun i γ2 hi => ?_
  obtain ⟨h1, h2⟩ := hi
  refine dc 6 (fun K K' => aS ?_ ?_)<;>intro o<;>try simp at o
  ·have hall := a2z h2 (by omega)
   refine dv 4 ?_
   refine x1x rfl ?_ rfl
   exact kT ⟨hL, fun v hv => by obtain ⟨i, hi⟩ := List.getElem?_of_mem hv; exact hall i v hi⟩
  obtain ⟨v, hv⟩ := gE l i
  refine dv 8 fun K K' => ?_
  refine x0x rfl rfl rfl (p1p ..) (x0x rfl rfl rfl (z1z ..) (dc 1 (aS ?_ ?_)))<;>intro o<;>try simp at o
  ·have hb : 0 ≤ v ∧ v ≤ 9999 := by omega
   refine dv 3 ?_
   refine x2x (b := 1) rfl rfl (by omega) (dv 1 ?_)
   exact ⟨i + 1, ⟨⟨by omega, a0e h2 hv hb⟩, by omega⟩, [], y2y, y2y, y1y, y1y, rfl⟩
  have hX2 : ¬ (0 ≤ v ∧ v ≤ 9999) := by omega
  refine dv 3 ?_
  refine x1x rfl ?_ rfl
  exact kF (fun h => hX2 (h.2 v (List.mem_of_getElem? hv)))
 refine dc 4 (aI ?_ ?_)<;>intro o<;>try simp at o
 ·have hX : ¬ (l.length = 0 ∨ l.length = 3) := by (rintro (h | h); exact absurd (List.length_eq_zero_iff.1 h) ‹_›; omega)
  refine dv 3 ?_
  refine x1x rfl ?_ rfl
  exact kF (fun h => hX h.1)
 have hL : l.length = 0 ∨ l.length = 3 := by omega
 refine dv 5 fun K K' => ?_
 refine x4x (ι := Nat) (fun i γ1 => [(3, pI (i : Int))]) (fun i γ1 => []) (fun i => i ≤ l.length ∧ c8f l (fun _ v => 0 ≤ v ∧ v ≤ 9999) i) (fun i => l.length - i) (x5x 0 rfl Cov.nil) HE.nil 0 ⟨by omega, a0z⟩ [] y2y y1y rfl fun i γ1 hi => ?_
 obtain ⟨h1, h2⟩ := hi
 refine dc 6 (fun K K' => aS ?_ ?_)<;>intro o<;>try simp at o
 ·have hall := a2z h2 (by omega)
  refine dv 4 ?_
  refine x1x rfl ?_ rfl
  exact kT ⟨hL, fun v hv => by obtain ⟨i, hi⟩ := List.getElem?_of_mem hv; exact hall i v hi⟩
 obtain ⟨v, hv⟩ := gE l i
 refine dv 8 fun K K' => ?_
 refine x0x rfl rfl rfl (p1p ..) (x0x rfl rfl rfl (z1z ..) (dc 1 (aS ?_ ?_)))<;>intro o<;>try simp at o
 ·have hb : 0 ≤ v ∧ v ≤ 9999 := by omega
  refine dv 3 ?_
  refine x2x (b := 1) rfl rfl (by omega) (dv 1 ?_)
  exact ⟨i + 1, ⟨⟨by omega, a0e h2 hv hb⟩, by omega⟩, [], y2y, y2y, y1y, y1y, rfl⟩
 have hX2 : ¬ (0 ≤ v ∧ v ≤ 9999) := by omega
 refine dv 3 ?_
 refine x1x rfl ?_ rfl
 exact kF (fun h => hX2 (h.2 v (List.mem_of_getElem? hv)))
theorem c6l (c : Bool) (w : Wo) : r0r Tryz.prog 182 [.agg (a5z c w)] (.pv (.bool (decide (b2e w)))) := by
 refine pX Tryz.f182 [.pv (.bool (decide (b2e w)))] 1 ?_
 refine dv 1 ?_
 refine x9x (id := 0) rfl rfl rfl (dv 4 ?_)
 refine x0x rfl rfl rfl (z1z ..) (dc 1 (aS ?_ ?_))<;>intro o<;>try simp at o
 ·have hX : ¬ s5s w := by unfold s5s; omega
  refine dv 54 ?_
  refine x1x rfl ?_ rfl
  exact kF (fun h => hX h.1)
 refine dv 2 ?_
 refine x0x rfl rfl rfl (z1z ..) (dc 2 (aS ?_ ?_))<;>intro o<;>try simp at o
 ·have hX : ¬ s5s w := by unfold s5s; omega
  refine dv 49 ?_
  refine x1x rfl ?_ rfl
  exact kF (fun h => hX h.1)
 refine dv 2 ?_
 refine x0x rfl rfl rfl (z1z ..) (dc 2 (aS ?_ ?_))<;>intro o<;>try simp at o
 ·have hX : ¬ s5s w := by unfold s5s; omega
  refine dv 44 ?_
  refine x1x rfl ?_ rfl
  exact kF (fun h => hX h.1)
 refine dv 2 ?_
 refine x0x rfl rfl rfl (p1p ..) (dv 0 ?_)
 refine x0x rfl rfl rfl (z1z ..) (dc 2 (aS ?_ ?_))<;>intro o<;>try simp at o
 ·have hX : ¬ s5s w := by unfold s5s; omega
  refine dv 38 ?_
  refine x1x rfl ?_ rfl
  exact kF (fun h => hX h.1)
 refine dv 2 ?_
 refine x0x rfl rfl rfl (p1p ..) (dv 0 ?_)
 refine x0x rfl rfl rfl (z1z ..) (dc 2 (aS ?_ ?_))<;>intro o<;>try simp at o
 ·have hX : ¬ s5s w := by unfold s5s; omega
  refine dv 32 ?_
  refine x1x rfl ?_ rfl
  exact kF (fun h => hX h.1)
 refine dv 2 ?_
 refine x0x rfl rfl rfl (p1p ..) (dv 0 ?_)
 refine x0x rfl rfl rfl (z1z ..) (dc 2 (aS ?_ ?_))<;>intro o<;>try simp at o
 ·have hX : ¬ s5s w := by unfold s5s; omega
  refine dv 26 ?_
  refine x1x rfl ?_ rfl
  exact kF (fun h => hX h.1)
 refine dv 2 ?_
 refine x0x rfl rfl rfl (z1z ..) (dc 2 (aS ?_ ?_))<;>intro o<;>try simp at o
 ·have hX : ¬ s5s w := by unfold s5s; omega
  refine dv 21 ?_
  refine x1x rfl ?_ rfl
  exact kF (fun h => hX h.1)
 have hN : s5s w := by unfold s5s; omega
 refine dv 2 ?_
 refine x0x rfl rfl rfl (b3s ..) (dc 2 (aS ?_ ?_))<;>intro hg8<;>try simp at hg8
 ·have hX1 : ¬ b3d w.incs := hg8
  refine dv 16 ?_
  refine x1x rfl ?_ rfl
  exact kF (fun h => hX1 h.2.1)
 have hI : b3d w.incs := hg8
 refine dv 2 ?_
 refine x0x rfl rfl rfl (b3s ..) (dc 2 (aS ?_ ?_))<;>intro hg9<;>try simp at hg9
 ·have hX2 : ¬ b3d w.versions := hg9
  refine dv 11 ?_
  refine x1x rfl ?_ rfl
  exact kF (fun h => hX2 h.2.2.1)
 have hV : b3d w.versions := hg9
 refine dv 2 ?_
 refine x0x rfl rfl rfl (a3d ..) (dv 0 ?_)
 refine x0x rfl rfl rfl (a2r ..) (dc 2 (aS ?_ ?_))<;>intro hg10<;>try simp at hg10
 ·have hX3 : ¬ a6t okE a1i w.events 100 = true := by simpa using hg10
  refine dv 5 ?_
  refine x1x rfl ?_ rfl
  exact kF (fun h => hX3 h.2.2.2.1)
 have hE : a6t okE a1i w.events 100 = true := hg10
 refine dv 2 ?_
 refine x0x rfl rfl rfl (b0p ..) (dv 3 ?_)
 refine x1x rfl ?_ rfl
 exact congrArg (fun b : Bool => [AV.pv (.bool b)]) (Bool.eq_iff_iff.2 ⟨fun h => decide_eq_true ⟨hN, hI, hV, hE, h⟩, fun h => (of_decide_eq_true h).2.2.2.2⟩)
end
section
theorem c1l (id : Int) : r0r Tryz.prog 147 [.pv (.int .i64 id)] (.row (.rd true) 44 5 ((a0j id 4).map fun p => q8q true (e3z p))) := by
 refine pX Tryz.f147 [.row (.rd true) 44 5 ((a0j id 4).map fun p => q8q true (e3z p))] 3 ?_
 have hpl := fun k => a7g id k
 refine dv 3 ?_
 refine v4v (id := 0) a5v rfl s0s rfl (dv 5 fun K K' => ?_)
 refine x4x (ι := Nat) (fun i γ1 => [(3, .ref 0 (γ1 0)), (4, pI (i : Int))]) (fun i γ1 => [(0, ((γ1 0), .row 44 5 ((a0j id i).map d7t))), (1, ((γ1 1), .dead)), (2, ((γ1 2), .dead))]) (fun i => i ≤ 4) (fun i => 4 - i) (x5x 0 rfl Cov.nil) HE.nil 0 (by omega) [_, _, _] y2y y1y rfl fun i γ1 hi => ?_
 refine dc 4 (fun K K' => aS ?_ ?_)<;>intro h<;>try simp at h
 ·refine dv 5 ?_
  refine d9f rfl rfl d7u ?_
  have : i = 4 := by omega
  rw [this]
 refine dv 5 fun K K' => ?_
 refine x0x rfl rfl rfl (a4y ..) (dc 2 (aS ?_ ?_))<;>intro h<;>try simp at h
 ·refine dv 3 ?_
  refine u2u rfl rfl rfl (dv 1 ?_)
  exact ⟨i + 1, ⟨by omega, by omega⟩, [_, _, _], (x5x 3 rfl (Cov.cons' (t := 4) rfl (by rw [x6x (by omega) (by omega)]; rfl) Cov.nil)), y2y, (HE.row rfl (by simp only [a9k]; rw [if_neg (by assumption)]) (HE.kill rfl (HE.kill rfl HE.nil))), y1y, rfl⟩
 refine dv 3 ?_
 refine rlB s0s a6w ?_
 refine v7v (id := 1) a5v rfl s0s rfl rfl rfl rfl rfl rfl ?_
 have := hpl i
 refine v5v (zs := (a0j id i ++ [(i : Int)]).map d7t) rfl rfl a5v rfl s0s rfl rfl rfl rfl (by rfl) (p5p _ _ _) (by (simp only [a3c, a1u, a2b, a2g, a5e, b8a, T44]; omega)) ?_
 refine dv 3 ?_
 refine u2u rfl rfl rfl (dv 1 ?_)
 exact ⟨i + 1, ⟨by omega, by omega⟩, [_, _, _], (x5x 3 rfl (Cov.cons' (t := 4) rfl (by rw [x6x (by omega) (by omega)]; rfl) Cov.nil)), y2y, (HE.row rfl (by simp only [a9k]; rw [if_pos (by assumption)]) (HE.kill rfl (HE.kill rfl HE.nil))), y1y, rfl⟩
end
section
theorem a8t (c c' : Bool) (l : La) (s : List Ev) : r0r Tryz.prog 148 [.agg (q8q c l), w7w c' s] (.pv (.int .i64 (same l.done s : Int))) := by
 refine pX Tryz.f148 [.pv (.int .i64 (same l.done s : Int))] 1 ?_
 refine y8y 1 rfl fun hlen => ?_
 refine dv 1 ?_
 refine x9x (id := 0) rfl rfl rfl (dv 5 fun K K' => ?_)
 refine x4x (ι := Nat) (fun i γ1 => [(5, pI (i : Int))]) (fun i γ1 => []) (fun i => i ≤ l.done.length ∧ i ≤ s.length ∧ same l.done s = i + same (l.done.drop i) (s.drop i)) (fun i => l.done.length - i) (a0f [1, 2] rfl) (u4u 0 rfl HE.nil) 0 ⟨by omega, by omega, by rw [List.drop_zero, List.drop_zero, Nat.zero_add]⟩ [] y2y y1y rfl fun i γ1 hi => ?_
 obtain ⟨h1, h2, h3⟩ := hi
 refine dc 8 (fun K K' => aS ?_ ?_)<;>intro o<;>try simp at o
 ·have g1 : l.done.length ≤ i := by omega
  refine dv 23 ?_
  refine x1x rfl ?_ rfl
  exact congrArg (fun v : Nat => [AV.pv (.int .i64 (v : Int))]) (h3.trans (by rw [c8j g1]; rfl)).symm
 have g1 : i < l.done.length := by omega
 obtain ⟨p, hp⟩ := gE l.done i
 refine dc 6 (aS ?_ ?_)<;>intro o<;>try simp at o
 ·have g2 : s.length ≤ i := by omega
  refine dv 17 ?_
  refine x1x rfl ?_ rfl
  exact congrArg (fun v : Nat => [AV.pv (.int .i64 (v : Int))]) (h3.trans (by rw [c8k g2]; rfl)).symm
 have g2 : i < s.length := by omega
 obtain ⟨e, he⟩ := gE s i
 refine dv 5 ?_
 refine a0d (out := .agg (y3y p.ev)) rfl y9y rfl ?_
 refine dv 3 ?_
 refine a0d (out := .agg (y3y e)) rfl y9y rfl ?_
 refine dv 0 ?_
 refine a9w rfl rfl (by intro a c h; cases h) (.inl rfl) (e4m _ _ _ _) ?_
 refine dc 1 (aI ?_ ?_)<;>intro hc5<;>try simp at hc5
 ·try have heq : p.ev = e := by simpa [a3k] using hc5
  refine dv 4 ?_
  refine x2x (b := 1) rfl rfl (by omega) (dv 1 ?_)
  exact ⟨i + 1, ⟨⟨by omega, by omega, by rw [h3, c8h hp he heq]; omega⟩, by omega⟩, [], y2y, y2y, y1y, y1y, rfl⟩
 try have heq : ¬ p.ev = e := by simpa [a3k] using hc5
 refine dv 5 ?_
 refine x1x rfl ?_ rfl
 exact congrArg (fun v : Nat => [AV.pv (.int .i64 (v : Int))]) (h3.trans (by rw [c8i hp he heq]; rfl)).symm
theorem b3t (c : Bool) (n : Nd) (hs : (r7r n).length ≤ 5000000) (hlen : n.lanes.length ≤ 1048576) : Meth Tryz.prog 228 1 [] [.agg (r4r c n)] [(0, (0, .dead))] (.ref 0 0) [(0, (0, .row 56 7 ((r7r n).map y3y)))] := by
 refine mX Tryz.f228 [.ref 0 0] 1 3 fun γ => ?_
 have hkl : n.kept.length ≤ 5000000 := by simp only [r7r, a1u] at hs; omega
 refine dv 1 ?_
 refine x9x (id := 1) rfl rfl rfl (dv 2 ?_)
 refine v4v (id := 0) w2w rfl y9y rfl (dv 2 ?_)
 refine p2p (zs := n.kept.map y3y) rfl rfl w2w rfl y9y rfl rfl rfl (w4w (fun _ => rfl) _) rfl (by have hb56 : T56.bytes = 56 := rfl; rw [List.length_map, hb56]; omega) ?_
 refine dv 5 fun K K' => ?_
 refine x4x (ι := Nat) (fun i γ1 => [(3, .ref 0 (γ1 0)), (4, pI (i : Int))]) (fun i γ1 => [(0, ((γ1 0), .row 56 7 ((n.kept ++ (n.lanes.take i).flatMap a8l).map y3y))), (3, ((γ1 3), .dead))]) (fun i => i ≤ n.lanes.length) (fun i => n.lanes.length - i) (x5x 1 rfl Cov.nil) (a2k [1, 2] rfl) 0 (by omega) [_, 0, 0, _] y2y (HE.row rfl (by simp) (HE.kill rfl HE.nil)) rfl fun i γ1 hi => ?_
 refine dc 7 (fun K K' => aS ?_ ?_)<;>intro o<;>try simp at o
 ·obtain rfl : i = n.lanes.length := by omega
  refine dv 5 ?_
  exact ⟨[_], rfl, rfl, HE.row rfl (by rw [List.take_length]; rfl) HE.nil⟩
 obtain ⟨p, hp⟩ := gE n.lanes i
 refine dv 6 fun K K' => ?_
 refine x4x (ι := Nat) (fun j γ2 => [(3, .ref 0 (γ2 0)), (5, pI (j : Int))]) (fun j γ2 => [(0, ((γ2 0), .row 56 7 ((n.kept ++ (n.lanes.take i).flatMap a8l ++ (p.done.take j).flatMap Pa.sends).map y3y))), (3, ((γ2 3), .dead))]) (fun j => j ≤ p.done.length) (fun j => p.done.length - j) (a0f [1, 4] rfl) (a2k [1, 2] rfl) 0 (by omega) [_, 0, 0, _] y2y (HE.row rfl (by simp) (HE.kill rfl HE.nil)) rfl fun j γ2 hi => ?_
 refine dc 11 (fun K K' => aS ?_ ?_)<;>intro o<;>try simp at o
 ·obtain rfl : j = p.done.length := by omega
  refine dv 3 ?_
  refine u2u rfl rfl rfl (dv 1 ?_)
  exact ⟨i + 1, ⟨by omega, by omega⟩, [_, 0, 0, _], (x5x 3 rfl (Cov.cons' (t := 4) rfl (by rw [x6x (by omega) (by omega)]; rfl) Cov.nil)), y2y, (HE.row rfl (by simp only [a1s hp, List.append_assoc, a8l, List.take_length]) (HE.kill rfl HE.nil)), y1y, rfl⟩
 obtain ⟨q, hq⟩ := gE p.done j
 have hsp := c0i hp hq
 refine dv 15 fun K K' => ?_
 refine p2p (zs := (n.kept ++ (n.lanes.take i).flatMap a8l ++ (p.done.take j).flatMap Pa.sends ++ q.sends).map y3y) rfl rfl w2w rfl y9y rfl rfl rfl (w4w (fun _ => rfl) _) (a4l _ _ _) (by have hb56 : T56.bytes = 56 := rfl; rw [List.length_map, hb56]; omega) ?_
 refine dv 1 ?_
 refine y8y 23 rfl fun hlen2 => ?_
 refine dv 2 ?_
 refine u2u rfl rfl rfl (dv 1 ?_)
 exact ⟨j + 1, ⟨by omega, by omega⟩, [_, 0, 0, _], (x5x 3 rfl (Cov.cons' (t := 5) rfl (by rw [x6x (by omega) (by omega)]; rfl) Cov.nil)), y2y, (HE.row rfl (by simp only [a1s hq, List.append_assoc]) (HE.kill rfl HE.nil)), y1y, rfl⟩
end
section
theorem a1w (c : Bool) (l : List Ev) (hl : l.length ≤ 10000000) : r0r Tryz.prog 111 [w7w c l] (w7w true (w0w l)) := by
 refine pX Tryz.f111 [w7w true (w0w l)] 3 ?_
 refine dv 3 ?_
 refine v4v (id := 0) w2w rfl y9y rfl (dv 5 fun K K' => ?_)
 refine x4x (ι := Nat) (fun i γ1 => [(3, .ref 0 (γ1 0)), (4, pI (i : Int))]) (fun i γ1 => [(0, ((γ1 0), .row 56 7 ((w0w (l.take i)).map y3y))), (1, ((γ1 1), .dead)), (2, ((γ1 2), .dead))]) (fun i => i ≤ l.length) (fun i => l.length - i) (x5x 0 rfl Cov.nil) HE.nil 0 (by omega) [_, _, _] y2y (HE.row rfl (by rw [List.take_zero]; rfl) (HE.kill rfl (HE.kill rfl HE.nil))) rfl fun i γ1 hi => ?_
 refine dc 6 (fun K K' => aS ?_ ?_)<;>intro o<;>try simp at o
 ·obtain rfl : i = l.length := by omega
  refine dv 5 ?_
  refine d5g rfl rfl (fun _ => rfl) ?_
  rw [List.take_length]
 obtain ⟨x, hx⟩ := gE l i
 have hol : (w0w (l.take i)).length ≤ 10000000 := Nat.le_trans (c0k _) (by rw [List.length_take]; omega)
 have hss := b5u (l.take i)
 refine dv 7 fun K K' => ?_
 refine a7b (ι := Nat) (fun k γ2 => [(5, pI (k : Int))]) (fun k γ2 => []) (fun k => k ≤ (w0w (l.take i)).length ∧ (∀ (j : Nat) y, k ≤ j → (w0w (l.take i))[j]? = some y → a1i x y = true) ∧ (∀ y, 0 < k → (w0w (l.take i))[k - 1]? = some y → a1i x y = false)) (a0f [0, 3, 4] rfl) (a2k [0, 1, 2] rfl) ?_ fun k γ2 hi => ?_
 ·refine dv 1 ?_
  refine x4x (ι := Nat) (fun k γ3 => [(5, pI (k : Int))]) (fun k γ3 => []) (fun k => k ≤ (w0w (l.take i)).length ∧ (∀ (j : Nat) y, k ≤ j → (w0w (l.take i))[j]? = some y → a1i x y = true)) (fun k => k) (a0f [0, 3, 4] rfl) (a2k [0, 1, 2] rfl) (w0w (l.take i)).length ⟨Nat.le_refl _, fun j y hj hy => by have := (List.getElem?_eq_some_iff.1 hy).1; omega⟩ [] y2y y1y rfl fun k γ3 hi => ?_
  obtain ⟨k1, k2⟩ := hi
  refine dc 5 (fun K K' => aS ?_ ?_)<;>intro o<;>try simp at o
  ·have k0 : k = 0 := by omega
   refine dv 12 ?_
   exact ⟨k, ⟨k1, k2, fun y2 h0 h2 => by omega⟩, [], y2y, y2y, y1y, y1y, rfl⟩
  have k0 : 0 < k := by omega
  obtain ⟨y, hy⟩ := gE (w0w (l.take i)) (k - 1)
  refine dv 6 ?_
  refine a0c (b := 1) rfl rfl (by omega) (by omega) (dv 0 ?_)
  refine z0z (j := k - 1) rfl rfl w2w rfl y9y rfl rfl (by omega) ?_
  refine dv 1 ?_
  refine x0x rfl rfl rfl (a6b ..) (dc 1 (aS ?_ ?_))<;>intro hc7<;>try simp at hc7
  ·try have hlt := hc7
   refine dv 1 ?_
   exact ⟨k, ⟨k1, k2, fun y2 h0 h2 => by (rw [hy] at h2; cases h2; exact hlt)⟩, [], y2y, y2y, y1y, y1y, rfl⟩
  try have hlt := hc7
  refine dv 4 ?_
  refine a0c (b := 1) rfl rfl (by omega) (by omega) (dv 1 ?_)
  exact ⟨k - 1, ⟨⟨by omega, fun j y2 hj hy2 => by by_cases hjk : j = k - 1; (subst hjk; rw [hy] at hy2; cases hy2; exact hlt); exact k2 j y2 (by omega) hy2⟩, by omega⟩, [], y2y, y2y, y1y, y1y, rfl⟩
 ·try dsimp only [d2l, d2m]
  obtain ⟨c1, c2, c3⟩ := hi
  refine dc 5 (fun K K' => aS ?_ ?_)<;>intro o<;>try simp at o
  ·have k0 : k = 0 := by omega
   refine dv 11 ?_
   have hin : w0w (l.take (i + 1)) = (w0w (l.take i)).take k ++ x :: (w0w (l.take i)).drop k := by rw [b4l hx]; exact d6w c8e hss c2 (fun y2 h0 h2 => ⟨c3 y2 h0 h2, by omega⟩) c1
   refine dv 7 ?_
   refine v7v (id := 1) w2w rfl y9y rfl rfl rfl rfl rfl rfl ?_
   refine v5v (zs := (w0w (l.take i) ++ [x]).map y3y) rfl rfl w2w rfl y9y rfl rfl rfl rfl (by rfl) (p5p _ _ _) (by have hb56 : T56.bytes = 56 := rfl; rw [List.length_map, hb56]; simp only [a1u, a2b, a2g]; omega) ?_
   refine dv 5 fun K K' => ?_
   refine a0c (b := 1) rfl rfl (by (simp; done)) (by (simp; omega)) ?_
   refine dv 2 ?_
   refine x4x (ι := Nat × Ev) (fun q γ5 => [(6, pI (q.1 : Int))]) (fun q γ5 => [(0, ((γ1 0 + 1), .row 56 7 (((w0w (l.take i)).take q.1 ++ q.2 :: (w0w (l.take i)).drop q.1).map y3y)))]) (fun q => k ≤ q.1 ∧ q.1 ≤ (w0w (l.take i)).length) (fun q => q.1) (a0f [0, 3, 4, 5] rfl) (a2k [1, 2] rfl) ((w0w (l.take i)).length, x) ⟨c1, Nat.le_refl _⟩ [] (Cov.cons' (t := 6) rfl (by simp) Cov.nil) (HE.row rfl (by rw [List.take_length, List.drop_length]) HE.nil) rfl fun q γ5 hi => ?_
   obtain ⟨m, u⟩ := q
   obtain ⟨m1, m2⟩ := hi
   dsimp only at m1 m2 ⊢
   refine dc 5 (fun K K' => aS ?_ ?_)<;>intro o<;>try simp at o
   ·obtain rfl : k = m := by omega
    refine a8j (hkL (by assumption) ?_)
    refine exG (q1q rfl (q1q rfl (q1q rfl (q1q rfl (b4c rfl rfl w2w rfl y9y rfl hx (b1q rfl y9y rfl rfl ?_))))))
    refine z0z (j := k) rfl rfl w2w rfl y9y rfl rfl (u3u (c8m c1)) ?_
    refine w8w (el' := x) rfl rfl y9y rfl rfl rfl (c8m c1) rfl (a0g _) rfl rfl ?_
    refine dv 2 ?_
    refine x2x (b := 1) rfl rfl (by omega) (dv 1 ?_)
    exact ⟨i + 1, ⟨by omega, by omega⟩, [_, _, _], y2y, y2y, (HE.row rfl (by rw [hin, d6x c1]) (HE.kill rfl (HE.kill rfl HE.nil))), y1y, rfl⟩
   obtain ⟨z, hz⟩ := gE (w0w (l.take i)) (m - 1)
   refine dv 8 fun K K' => ?_
   refine a0c (b := 1) rfl rfl (by omega) (by omega) ?_
   refine z0z (j := m - 1) rfl rfl w2w rfl y9y rfl rfl (u3u (d1x m2 (by omega) hz)) ?_
   refine a9h rfl y9y rfl (d1x m2 (by omega) hz) rfl rfl ?_
   refine z0z (j := m) rfl rfl w2w rfl y9y rfl rfl (u3u (c8m m2)) ?_
   refine w8w (el' := z) rfl rfl y9y rfl rfl rfl (c8m m2) rfl (a0g _) rfl rfl ?_
   refine dv 2 ?_
   refine a0c (b := 1) rfl rfl (by omega) (by omega) (dv 1 ?_)
   exact ⟨(m - 1, z), ⟨⟨by dsimp only; omega, by dsimp only; omega⟩, (by dsimp only; omega)⟩, [], y2y, y2y, (HE.row rfl (by rw [e1z m2 (by omega) hz]) HE.nil), y1y, rfl⟩
  have k0 : 0 < k := by omega
  obtain ⟨y, hy⟩ := gE (w0w (l.take i)) (k - 1)
  refine dv 2 ?_
  refine a0c (b := 1) rfl rfl (by omega) (by omega) (dv 0 ?_)
  refine z0z (j := k - 1) rfl rfl w2w rfl y9y rfl rfl (by omega) ?_
  refine dv 5 ?_
  refine a9w rfl rfl (by intro a c h; cases h) (.inl rfl) (e4m _ _ _ _) ?_
  refine dc 1 (aI ?_ ?_)<;>intro hc11<;>try simp at hc11
  ·have hyx : y = x := by simpa [a3k] using hc11
   have hsk : w0w (l.take (i + 1)) = w0w (l.take i) := by rw [b4l hx]; exact e4b c8e hss (List.mem_of_getElem? (hyx ▸ hy))
   refine dv 3 ?_
   refine x2x (b := 1) rfl rfl (by omega) (dv 1 ?_)
   exact ⟨i + 1, ⟨by omega, by omega⟩, [_, _, _], y2y, y2y, (HE.row rfl (by rw [hsk]) (HE.kill rfl (HE.kill rfl HE.nil))), y1y, rfl⟩
  try have hyx : ¬ y = x := by simpa [a3k] using hc11
  have hin : w0w (l.take (i + 1)) = (w0w (l.take i)).take k ++ x :: (w0w (l.take i)).drop k := by rw [b4l hx]; exact d6w c8e hss c2 (fun y2 h0 h2 => ⟨c3 y2 h0 h2, by (rw [hy] at h2; cases h2; exact hyx)⟩) c1
  refine dv 7 ?_
  refine v7v (id := 1) w2w rfl y9y rfl rfl rfl rfl rfl rfl ?_
  refine v5v (zs := (w0w (l.take i) ++ [x]).map y3y) rfl rfl w2w rfl y9y rfl rfl rfl rfl (by rfl) (p5p _ _ _) (by have hb56 : T56.bytes = 56 := rfl; rw [List.length_map, hb56]; simp only [a1u, a2b, a2g]; omega) ?_
  refine dv 5 fun K K' => ?_
  refine a0c (b := 1) rfl rfl (by (simp; done)) (by (simp; omega)) ?_
  refine dv 2 ?_
  refine x4x (ι := Nat × Ev) (fun q γ4 => [(6, pI (q.1 : Int))]) (fun q γ4 => [(0, ((γ1 0 + 1), .row 56 7 (((w0w (l.take i)).take q.1 ++ q.2 :: (w0w (l.take i)).drop q.1).map y3y)))]) (fun q => k ≤ q.1 ∧ q.1 ≤ (w0w (l.take i)).length) (fun q => q.1) (a0f [0, 3, 4, 5] rfl) (a2k [1, 2] rfl) ((w0w (l.take i)).length, x) ⟨c1, Nat.le_refl _⟩ [] (Cov.cons' (t := 6) rfl (by simp) Cov.nil) (HE.row rfl (by rw [List.take_length, List.drop_length]) HE.nil) rfl fun q γ4 hi => ?_
  obtain ⟨m, u⟩ := q
  obtain ⟨m1, m2⟩ := hi
  dsimp only at m1 m2 ⊢
  refine dc 5 (fun K K' => aS ?_ ?_)<;>intro o<;>try simp at o
  ·obtain rfl : k = m := by omega
   refine a8j (hkL (by assumption) ?_)
   refine exG (q1q rfl (q1q rfl (q1q rfl (q1q rfl (b4c rfl rfl w2w rfl y9y rfl hx (b1q rfl y9y rfl rfl ?_))))))
   refine z0z (j := k) rfl rfl w2w rfl y9y rfl rfl (u3u (c8m c1)) ?_
   refine w8w (el' := x) rfl rfl y9y rfl rfl rfl (c8m c1) rfl (a0g _) rfl rfl ?_
   refine dv 2 ?_
   refine x2x (b := 1) rfl rfl (by omega) (dv 1 ?_)
   exact ⟨i + 1, ⟨by omega, by omega⟩, [_, _, _], y2y, y2y, (HE.row rfl (by rw [hin, d6x c1]) (HE.kill rfl (HE.kill rfl HE.nil))), y1y, rfl⟩
  obtain ⟨z, hz⟩ := gE (w0w (l.take i)) (m - 1)
  refine dv 8 fun K K' => ?_
  refine a0c (b := 1) rfl rfl (by omega) (by omega) ?_
  refine z0z (j := m - 1) rfl rfl w2w rfl y9y rfl rfl (u3u (d1x m2 (by omega) hz)) ?_
  refine a9h rfl y9y rfl (d1x m2 (by omega) hz) rfl rfl ?_
  refine z0z (j := m) rfl rfl w2w rfl y9y rfl rfl (u3u (c8m m2)) ?_
  refine w8w (el' := z) rfl rfl y9y rfl rfl rfl (c8m m2) rfl (a0g _) rfl rfl ?_
  refine dv 2 ?_
  refine a0c (b := 1) rfl rfl (by omega) (by omega) (dv 1 ?_)
  exact ⟨(m - 1, z), ⟨⟨by dsimp only; omega, by dsimp only; omega⟩, (by dsimp only; omega)⟩, [], y2y, y2y, (HE.row rfl (by rw [e1z m2 (by omega) hz]) HE.nil), y1y, rfl⟩
end
section
theorem a5p (c : Bool) (n : Nd) (proc : Int) (hs : (r7r n).length + (r1r n 3).length ≤ 5000000) (hlen : n.lanes.length ≤ 1048576) (hv3 : n.views.length = 3) : r0r Tryz.prog 124 [.agg (r4r c n), .pv (.int .i64 proc)] (w7w true (s6s n proc)) := by
 refine pX Tryz.f124 [w7w true (s6s n proc)] 6 ?_
 have hla : (r7r n ++ r1r n 3).length = (r7r n).length + (r1r n 3).length := List.length_append
 refine dv 1 ?_
 refine x9x (id := 0) rfl rfl rfl (dv 3 ?_)
 refine rlM [5] [_] (b3t c n (by omega) hlen) rfl rfl rfl ?_
 refine dv 5 fun K K' => ?_
 refine x4x (ι := Nat) (fun i γ1 => [(5, .ref 5 (γ1 5)), (6, pI (i : Int))]) (fun i γ1 => [(5, ((γ1 5), .row 56 7 ((r7r n ++ r1r n i).map y3y))), (1, ((γ1 1), .dead))]) (fun i => i ≤ 3) (fun i => 3 - i) (a0f [1, 2] rfl) (a2k [0, 2, 3, 4] rfl) 0 (by omega) [0, _, 0, 0, 0, _] y2y (HE.row rfl (by simp [r1r]) (HE.kill rfl HE.nil)) rfl fun i γ1 hi => ?_
 refine dc 7 (fun K K' => aI ?_ ?_)<;>intro h<;>try simp at h
 ·obtain ⟨v, hv⟩ := gE n.views i
  have hg : n.views.getD i vi0 = v := by rw [List.getD_eq_getElem?_getD, hv]; rfl
  have hol := c0j n (i := i + 1) (by omega)
  rw [s7s] at hol
  refine dc 8 (fun K K' => aS ?_ ?_)<;>intro hc5<;>try simp at hc5
  ·have hve : b0g n i = [] := by rw [b0g, if_pos hc5]
   refine dv 3 ?_
   refine u2u rfl rfl rfl (dv 1 ?_)
   exact ⟨i + 1, ⟨by omega, by omega⟩, [0, _, 0, 0, 0, _], (x5x 5 rfl (Cov.cons' (t := 6) rfl (by rw [x6x (by omega) (by omega)]; rfl) Cov.nil)), y2y, (HE.row rfl (by rw [s7s, hve]; simp) (HE.kill rfl HE.nil)), y1y, rfl⟩
  have hve : b0g n i = v.events := by rw [b0g, if_neg hc5, hg]
  rw [hve] at hol
  simp only [a1u] at hol
  refine dv 8 ?_
  refine p2p (zs := (r7r n ++ r1r n i ++ v.events).map y3y) rfl rfl w2w rfl y9y rfl rfl rfl (w4w (fun _ => rfl) _) (a4l _ _ _) (by have hb56 : T56.bytes = 56 := rfl; rw [List.length_map, hb56]; simp only [a1u, a2b, a2g]; omega) ?_
  refine dv 3 ?_
  refine u2u rfl rfl rfl (dv 1 ?_)
  exact ⟨i + 1, ⟨by omega, by omega⟩, [0, _, 0, 0, 0, _], (x5x 5 rfl (Cov.cons' (t := 6) rfl (by rw [x6x (by omega) (by omega)]; rfl) Cov.nil)), y2y, (HE.row rfl (by rw [s7s, hve]; simp) (HE.kill rfl HE.nil)), y1y, rfl⟩
 obtain rfl : i = 3 := by omega
 have hall : (r7r n ++ r1r n 3).length ≤ 5000000 := by rw [List.length_append]; omega
 refine dv 1 ?_
 refine q6q 5 rfl rfl (fun _ => rfl) ?_
 refine dv 1 ?_
 refine v4v (id := 2) w2w rfl y9y rfl (dv 5 fun K K' => ?_)
 refine x4x (ι := Nat) (fun j γ2 => [(7, .ref 2 (γ2 2)), (8, pI (j : Int))]) (fun j γ2 => [(2, ((γ2 2), .row 56 7 ((((r7r n ++ r1r n 3).take j).filter (a7i proc n.g)).map y3y))), (3, ((γ2 3), .dead)), (4, ((γ2 4), .dead))]) (fun j => j ≤ (r7r n ++ r1r n 3).length) (fun j => (r7r n ++ r1r n 3).length - j) (a0f [1, 2, 5] rfl) (a2k [0, 1, 5] rfl) 0 (by omega) [0, 0, _, _, _] y2y (HE.row rfl (by rw [List.take_zero]; rfl) (HE.kill rfl (HE.kill rfl HE.nil))) rfl fun j γ2 hi => ?_
 refine dc 6 (fun K K' => aS ?_ ?_)<;>intro h<;>try simp at h
 ·obtain rfl : j = (r7r n ++ r1r n 3).length := by omega
  rw [List.take_length]
  refine dv 1 ?_
  refine q6q 7 rfl rfl (fun _ => rfl) ?_
  refine dv 2 ?_
  refine x0x rfl rfl rfl (a1w true ((r7r n ++ r1r n 3).filter (a7i proc n.g)) (Nat.le_trans (List.length_filter_le _ _) (by rw [List.length_append]; omega))) ?_
  refine dv 2 ?_
  refine x1x rfl rfl rfl
 obtain ⟨p, hp⟩ := gE (r7r n ++ r1r n 3) j
 have hfl : (((r7r n ++ r1r n 3).take j).filter (a7i proc n.g)).length ≤ 5000000 := Nat.le_trans (List.length_filter_le _ _) (by rw [List.length_take]; omega)
 refine dc 12 (fun K K' => aS ?_ ?_)<;>intro hg10<;>try simp at hg10
 ·have hw : ¬ a7i proc n.g p = true := by simp only [a7i, decide_eq_true_eq]; omega
  refine dv 9 ?_
  try have hw : ¬ a7i proc n.g p = true := by simp only [a7i, decide_eq_true_eq]; omega
  refine dv 3 ?_
  refine u2u rfl rfl rfl (dv 1 ?_)
  exact ⟨j + 1, ⟨by omega, by omega⟩, [0, 0, _, _, _], (x5x 7 rfl (Cov.cons' (t := 8) rfl (by rw [x6x (by omega) (by omega)]; rfl) Cov.nil)), y2y, (HE.row rfl (by rw [q7q hp]; rw [if_neg hw, List.append_nil]) (HE.kill rfl (HE.kill rfl HE.nil))), y1y, rfl⟩
 have hw1 : p.to = proc := hg10
 refine dc 9 (aS ?_ ?_)<;>intro h<;>try simp at h
 ·try have hw : ¬ a7i proc n.g p = true := by simp only [a7i, decide_eq_true_eq]; omega
  refine dv 3 ?_
  refine u2u rfl rfl rfl (dv 1 ?_)
  exact ⟨j + 1, ⟨by omega, by omega⟩, [0, 0, _, _, _], (x5x 7 rfl (Cov.cons' (t := 8) rfl (by rw [x6x (by omega) (by omega)]; rfl) Cov.nil)), y2y, (HE.row rfl (by rw [q7q hp]; rw [if_neg hw, List.append_nil]) (HE.kill rfl (HE.kill rfl HE.nil))), y1y, rfl⟩
 have hw : a7i proc n.g p = true := by simp only [a7i, decide_eq_true_eq]; omega
 refine dv 6 ?_
 refine v7v (id := 3) w2w rfl y9y rfl rfl rfl rfl rfl rfl ?_
 refine v5v (zs := (((r7r n ++ r1r n 3).take j).filter (a7i proc n.g) ++ [p]).map y3y) rfl rfl w2w rfl y9y rfl rfl rfl rfl (by rfl) (p5p _ _ _) (by have hb56 : T56.bytes = 56 := rfl; rw [List.length_map, hb56]; simp only [a1u, a2b, a2g]; omega) ?_
 refine dv 3 ?_
 refine u2u rfl rfl rfl (dv 1 ?_)
 exact ⟨j + 1, ⟨by omega, by omega⟩, [0, 0, _, _, _], (x5x 7 rfl (Cov.cons' (t := 8) rfl (by rw [x6x (by omega) (by omega)]; rfl) Cov.nil)), y2y, (HE.row rfl (by rw [q7q hp]; rw [if_pos hw]) (HE.kill rfl (HE.kill rfl HE.nil))), y1y, rfl⟩
end
section
theorem a1p (c : Bool) (n : Nd) : r0r Tryz.prog 46 [.agg (r4r c n)] (.pv (.bool (kb (w3w n)))) := by
 refine pX Tryz.f46 [.pv (.bool (kb (w3w n)))] 1 ?_
 have hpl := a7g n.id 4
 refine dv 1 ?_
 refine x9x (id := 0) rfl rfl rfl (dv 5 fun K K' => ?_)
 refine x0x rfl rfl rfl (z1z ..) (dc 2 (aS ?_ ?_))<;>intro hg2<;>try simp at hg2
 ·have hX : ¬ (0 ≤ n.id ∧ n.id ≤ 2) := by omega
  refine dv 40 ?_
  refine x1x rfl ?_ rfl
  exact congrArg (fun b : Bool => [AV.pv (.bool b)]) (a5y (fun h => by obtain ⟨⟨q1, q2, q3, q4, q5, q6, q7, q8, q9⟩, q0⟩ := h; exact hX q1.1))
 have f1 : 0 ≤ n.id ∧ n.id ≤ 2 := hg2
 refine dv 2 ?_
 refine x0x rfl rfl rfl (p1p ..) (dv 0 ?_)
 refine x0x rfl rfl rfl (z1z ..) (dc 3 (aS ?_ ?_))<;>intro hg3<;>try simp at hg3
 ·have hX : ¬ (1 ≤ n.inc ∧ n.inc ≤ 9999) := by omega
  refine dv 33 ?_
  refine x1x rfl ?_ rfl
  exact congrArg (fun b : Bool => [AV.pv (.bool b)]) (a5y (fun h => by obtain ⟨⟨q1, q2, q3, q4, q5, q6, q7, q8, q9⟩, q0⟩ := h; exact hX q1.2.1))
 have f2 : 1 ≤ n.inc ∧ n.inc ≤ 9999 := hg3
 refine dv 2 ?_
 refine x0x rfl rfl rfl (z1z ..) (dc 3 (aS ?_ ?_))<;>intro hg4<;>try simp at hg4
 ·have hX : ¬ (0 ≤ n.g ∧ n.g ≤ 41) := by omega
  refine dv 27 ?_
  refine x1x rfl ?_ rfl
  exact congrArg (fun b : Bool => [AV.pv (.bool b)]) (a5y (fun h => by obtain ⟨⟨q1, q2, q3, q4, q5, q6, q7, q8, q9⟩, q0⟩ := h; exact hX q1.2.2.1))
 have f3 : 0 ≤ n.g ∧ n.g ≤ 41 := hg4
 refine dv 2 ?_
 refine x0x rfl rfl rfl (p1p ..) (dv 0 ?_)
 refine x0x rfl rfl rfl (z1z ..) (dc 3 (aS ?_ ?_))<;>intro hg5<;>try simp at hg5
 ·have hX : ¬ (0 ≤ n.led ∧ n.led ≤ 9999) := by omega
  refine dv 20 ?_
  refine x1x rfl ?_ rfl
  exact congrArg (fun b : Bool => [AV.pv (.bool b)]) (a5y (fun h => by obtain ⟨⟨q1, q2, q3, q4, q5, q6, q7, q8, q9⟩, q0⟩ := h; exact hX q1.2.2.2.1))
 have f4 : 0 ≤ n.led ∧ n.led ≤ 9999 := hg5
 refine dv 2 ?_
 refine x0x rfl rfl rfl (a3d ..) (dv 0 ?_)
 refine x0x rfl rfl rfl (a2r ..) (dc 3 (aS ?_ ?_))<;>intro hg6<;>try simp at hg6
 ·have hX : ¬ a6t okE a1i n.kept 100 = true := by simpa using hg6
  refine dv 13 ?_
  refine x1x rfl ?_ rfl
  exact congrArg (fun b : Bool => [AV.pv (.bool b)]) (a5y (fun h => by obtain ⟨⟨q1, q2, q3, q4, q5, q6, q7, q8, q9⟩, q0⟩ := h; exact hX q2))
 have f5 : a6t okE a1i n.kept 100 = true := hg6
 refine dv 2 ?_
 refine x0x rfl rfl rfl (b0p ..) (dc 3 (aS ?_ ?_))<;>intro hg7<;>try simp at hg7
 ·have hX : ¬ a6t okO a4e n.outs 96 = true := by simpa using hg7
  refine dv 7 ?_
  refine x1x rfl ?_ rfl
  exact congrArg (fun b : Bool => [AV.pv (.bool b)]) (a5y (fun h => by obtain ⟨⟨q1, q2, q3, q4, q5, q6, q7, q8, q9⟩, q0⟩ := h; exact hX q3))
 have f6 : a6t okO a4e n.outs 96 = true := hg7
 refine dv 1 ?_
 refine x0x rfl rfl rfl (c1e ..) (dc 2 (aI ?_ ?_))<;>intro hc8<;>try simp at hc8
 ·try have hX : ¬ c4x n := a4s (by simpa using hc8)
  refine dv 3 ?_
  refine x1x rfl ?_ rfl
  exact congrArg (fun b : Bool => [AV.pv (.bool b)]) (a5y (fun h => by obtain ⟨⟨q1, q2, q3, q4, q5, q6, q7, q8, q9⟩, q0⟩ := h; exact hX ⟨q6, q7, q1.2.2.2.2.1, q1.2.2.2.2.2.1, q1.2.2.2.2.2.2, q9⟩))
 have fF : c4x n := a4r.1 (by simpa using hc8)
 have fo96 := (r8r f6).1
 refine dv 1 ?_
 refine a7b (ι := Unit) (fun _i γ1 => []) (fun _i γ1 => []) (fun _i => ∀ (i : Nat) a, n.outs[i]? = some a → a.time < n.g) (x5x 1 rfl Cov.nil) (u4u 0 rfl HE.nil) ?_ fun _i γ1 hi => ?_
 ·refine dc 6 (aS ?_ ?_)<;>intro hg9<;>try simp at hg9
  ·have g0 : n.outs.length = 0 := by (rw [hg9]; rfl)
   have fO : ∀ (i : Nat) a, n.outs[i]? = some a → a.time < n.g := fun i a ha => by have := (List.getElem?_eq_some_iff.1 ha).1; omega
   refine dv 13 ?_
   try have fO : ∀ (i : Nat) a, n.outs[i]? = some a → a.time < n.g := c8n f6 ho (by omega)
   refine dv 1 ?_
   exact ⟨(), fO, [], y2y, y2y, y1y, y1y, rfl⟩
  have g0 : 0 < n.outs.length := by omega
  obtain ⟨o, ho⟩ := gE n.outs (n.outs.length - 1)
  refine dv 5 ?_
  refine a0c (b := 1) rfl rfl (by omega) (by omega) (dc 7 (aS ?_ ?_))<;>intro u<;>try simp at u
  ·try have fO : ∀ (i : Nat) a, n.outs[i]? = some a → a.time < n.g := c8n f6 ho (by omega)
   refine dv 1 ?_
   exact ⟨(), fO, [], y2y, y2y, y1y, y1y, rfl⟩
  have hX : ¬ o.time < n.g := by omega
  refine dv 3 ?_
  refine x1x rfl ?_ rfl
  exact congrArg (fun b : Bool => [AV.pv (.bool b)]) (a5y (fun h => by obtain ⟨⟨q1, q2, q3, q4, q5, q6, q7, q8, q9⟩, q0⟩ := h; exact hX (q4 _ _ ho)))
 ·try dsimp only [d2l, d2m]
  have fO := hi
  refine dv 3 ?_
  refine x0x rfl rfl rfl (c1l ..) (dc 9 (fun K K' => aI ?_ ?_))<;>intro u<;>try simp at u
  ·refine dv 3 ?_
   refine x1x rfl ?_ rfl
   exact congrArg (fun b : Bool => [AV.pv (.bool b)]) (a5y (fun h => by obtain ⟨⟨q1, q2, q3, q4, q5, q6, q7, q8, q9⟩, q0⟩ := h; omega))
  have fL : n.lanes.length = (a0j n.id 4).length := by omega
  refine dv 5 fun K K' => ?_
  refine x4x (ι := Nat) (fun i γ2 => [(4, pI (i : Int))]) (fun i γ2 => []) (fun i => i ≤ (a0j n.id 4).length ∧ c8f n.lanes (fun j l => (a0j n.id 4)[j]? = some l.proc ∧ a9m l = true) i) (fun i => (a0j n.id 4).length - i) (a0f [1, 3] rfl) (u4u 0 rfl HE.nil) 0 ⟨by omega, a0z⟩ [] y2y y1y rfl fun i γ2 hi => ?_
  obtain ⟨b1, b2⟩ := hi
  refine dc 6 (fun K K' => aI ?_ ?_)<;>intro u<;>try simp at u
  ·obtain ⟨l, hl⟩ := gE n.lanes i
   obtain ⟨p, hp⟩ := gE (a0j n.id 4) i
   refine dv 9 fun K K' => ?_
   refine x0x rfl rfl rfl (b0q ..) (dc 2 (aS ?_ ?_))<;>intro hg18<;>try simp at hg18
   ·have hX : ¬ a9m l = true := by simpa using hg18
    refine dv 16 ?_
    refine x1x rfl ?_ rfl
    exact congrArg (fun b : Bool => [AV.pv (.bool b)]) (a5y (fun h => by obtain ⟨⟨q1, q2, q3, q4, q5, q6, q7, q8, q9⟩, q0⟩ := h; exact hX (q8 _ _ hl).2))
   have hlo : a9m l = true := hg18
   refine dc 13 (aS ?_ ?_)<;>intro hc19<;>try simp at hc19
   ·have hpe : l.proc = p := hc19
    refine dv 3 ?_
    refine x2x (b := 1) rfl rfl (by omega) (dv 1 ?_)
    exact ⟨i + 1, ⟨⟨by omega, a0e b2 hl ⟨by rw [hp, hpe], hlo⟩⟩, by omega⟩, [], y2y, y2y, y1y, y1y, rfl⟩
   try have hX : ¬ l.proc = p := hc19
   refine dv 3 ?_
   refine x1x rfl ?_ rfl
   exact congrArg (fun b : Bool => [AV.pv (.bool b)]) (a5y (fun h => by obtain ⟨⟨q1, q2, q3, q4, q5, q6, q7, q8, q9⟩, q0⟩ := h; have := (q8 _ _ hl).1; rw [hp] at this; exact hX (Option.some.inj this).symm))
  have fN : d9u n := a2z b2 (by omega)
  refine dv 5 fun K K' => ?_
  refine x4x (ι := Nat) (fun j γ3 => [(5, pI (j : Int))]) (fun j γ3 => []) (fun j => j ≤ (a0j n.id 4).length ∧ c8f n.lanes (fun j l => ∀ p, (a0j n.id 4)[j]? = some p → l.done.length ≤ same l.done (s6s n p) ∧ (s6s n p).length ≤ 100) j) (fun j => (a0j n.id 4).length - j) (a0f [1, 3] rfl) (u4u 0 rfl HE.nil) 0 ⟨by omega, a0z⟩ [] y2y y1y rfl fun j γ3 hi => ?_
  obtain ⟨d1, d2⟩ := hi
  refine dc 6 (fun K K' => aS ?_ ?_)<;>intro u<;>try simp at u
  ·have fC := fun (i : Nat) p l (a : (a0j n.id 4)[i]? = some p) (b : n.lanes[i]? = some l) => a2z d2 (by omega) i l b p a
   refine dv 4 ?_
   refine x1x rfl ?_ rfl
   exact congrArg (fun b : Bool => [AV.pv (.bool b)]) (e1y ⟨⟨⟨f1, f2, f3, f4, fF.2.2.1, fF.2.2.2.1, fF.2.2.2.2.1⟩, f5, f6, fO, fL, fF.1, fF.2.1, fN, fF.2.2.2.2.2⟩, fC⟩)
  obtain ⟨l, hl⟩ := gE n.lanes j
  obtain ⟨p, hp⟩ := gE (a0j n.id 4) j
  obtain ⟨hdl, _⟩ := a1z (fN j l hl).2
  refine dv 15 fun K K' => ?_
  refine x0x rfl rfl rfl (a5p c n p (by have := d0c f5 (by omega) fN; have := c4y fF.1 fF.2.1 fF.2.2.2.2.2; omega) (by omega) fF.1) ?_
  refine x0x rfl rfl rfl (a8t ..) (dc 9 (aS ?_ ?_))<;>intro u<;>try simp at u
  ·refine dv 14 ?_
   refine x1x rfl ?_ rfl
   exact congrArg (fun b : Bool => [AV.pv (.bool b)]) (a5y (fun h => by obtain ⟨⟨q1, q2, q3, q4, q5, q6, q7, q8, q9⟩, q0⟩ := h; have := q0 _ _ _ hp hl; omega))
  refine dv 6 ?_
  refine x0x rfl rfl rfl (a5p c n p (by have := d0c f5 (by omega) fN; have := c4y fF.1 fF.2.1 fF.2.2.2.2.2; omega) (by omega) fF.1) ?_
  refine dv 1 ?_
  refine x0x rfl rfl rfl (a3d ..) (dc 2 (aS ?_ ?_))<;>intro u<;>try simp at u
  ·refine dv 3 ?_
   refine x2x (b := 1) rfl rfl (by omega) (dv 1 ?_)
   exact ⟨j + 1, ⟨⟨by omega, a0e d2 hl (fun p2 hp2 => by rw [hp] at hp2; cases hp2; omega)⟩, by omega⟩, [], y2y, y2y, y1y, y1y, rfl⟩
  refine dv 3 ?_
  refine x1x rfl ?_ rfl
  exact congrArg (fun b : Bool => [AV.pv (.bool b)]) (a5y (fun h => by obtain ⟨⟨q1, q2, q3, q4, q5, q6, q7, q8, q9⟩, q0⟩ := h; have := q0 _ _ _ hp hl; omega))
end
section
theorem a3x (c : Bool) (l : La) (f t : Nat) (hlen : l.done.length ≤ 1000000) (hf : f ≤ 1000000) (ht : t ≤ 1000000) (hb : ∀ p ∈ l.done, p.sends.length ≤ 1000000 ∧ p.outs.length ≤ 1000000) : r0r Tryz.prog 110 [.agg (q8q c l), .pv (.int .i64 (f : Int)), .pv (.int .i64 (t : Int))] (.agg (q8q true (a0x l f t))) := by
 refine pX Tryz.f110 [.agg (q8q true (a0x l f t))] 11 ?_
 refine dv 1 ?_
 refine x9x (id := 0) rfl rfl rfl (x3x (id := 1) s0s a6w rfl (dv 5 ?_))
 refine rlB s0s a6w ?_
 refine x3x (id := 2) s0s a6w rfl (dv 6 fun K K' => ?_)
 refine v0v 2 4 10 58 12 rfl rfl rfl rfl rfl ?_
 refine x4x (ι := Nat) (fun i γ1 => [(8, pI (i : Int))]) (fun i γ1 => [(10, ((γ1 10), .row 58 12 (((l.done.take i).drop f).map (a0t true)))), (2, ((0 + 1), .box 44 [pI l.proc, pI l.base.x, pI l.base.y, pI l.base.count, .ref 10 (γ1 10)])), (3, ((γ1 3), .dead)), (4, ((γ1 4), .dead)), (5, ((γ1 5), .dead)), (6, ((γ1 6), .dead)), (7, ((γ1 7), .dead)), (8, ((γ1 8), .dead)), (9, ((γ1 9), .dead))]) (fun i => f ≤ i ∧ (i = f ∨ (i ≤ t ∧ i ≤ l.done.length))) (fun i => l.done.length - i) (a0f [2, 3, 6, 7] rfl) (a2k [0, 1] rfl) f ⟨Nat.le_refl _, .inl rfl⟩ [0, 0, 0, _, _, _, _, _, _, _, _] y2y (HE.row rfl (by rw [List.drop_of_length_le (by rw [List.length_take]; omega)]; rfl) (HE.box rfl rfl (HE.kill rfl (HE.kill rfl (HE.kill rfl (HE.kill rfl (HE.kill rfl (HE.kill rfl (HE.kill rfl HE.nil))))))))) rfl fun i γ1 hi => ?_
 obtain ⟨k1, k2⟩ := hi
 refine dc 6 (fun K K' => aS ?_ ?_)<;>intro h<;>try simp at h
 ·refine dv 6 ?_
  have hfin : (l.done.take i).drop f = (l.done.take t).drop f := d6y k1 k2 (by omega)
  refine dv 5 ?_
  rw [a0x, ← hfin]
  exact ⟨_, _, rfl, .agg rfl (.cl rfl (.cl rfl (.cl rfl (.cl rfl (.ref rfl (Le.ow_map _ (fun _ => rfl) (fun _ => rfl)) .nil))))) .nil⟩
 refine dc 6 (aS ?_ ?_)<;>intro h<;>try simp at h
 ·have hfin : (l.done.take i).drop f = (l.done.take t).drop f := d6y k1 k2 (by omega)
  refine dv 5 ?_
  rw [a0x, ← hfin]
  exact ⟨_, _, rfl, .agg rfl (.cl rfl (.cl rfl (.cl rfl (.cl rfl (.ref rfl (Le.ow_map _ (fun _ => rfl) (fun _ => rfl)) .nil))))) .nil⟩
 obtain ⟨p, hp⟩ := gE l.done i
 have g1 : i < t := by omega
 obtain ⟨hps, hpo⟩ := hb p (List.mem_of_getElem? hp)
 refine dv 9 fun K K' => ?_
 refine x3x (id := 3) s1s b8c rfl (dv 5 ?_)
 refine u6u (out := .agg (y3y p.ev)) rfl y9y rfl rfl ?_
 refine dv 1 ?_
 refine u6u (out := .agg (p0p p.after)) rfl a1l rfl rfl ?_
 refine v4v (id := 4) w2w rfl y9y rfl (dv 2 ?_)
 refine a5x z9z (zs := (p.sends).map y3y) rfl rfl w2w rfl y9y rfl rfl rfl (w4w (fun _ => rfl) _) rfl (by (simp only [a3c, a1u, a2b, a2g, a5e, b8a, c6r, T56]; omega)) (Le.ow_map _ (fun _ => rfl) (fun _ => rfl)) ?_
 refine v4v (id := 6) q5q rfl u1u rfl (dv 2 ?_)
 refine a5x z9z (zs := (p.outs).map v8v) rfl rfl q5q rfl u1u rfl rfl rfl (w4w (fun _ => rfl) _) rfl (by (simp only [a3c, a1u, a2b, a2g, a5e, b8a, c6r, T141]; omega)) (Le.ow_map _ (fun _ => rfl) (fun _ => rfl)) ?_
 refine rlB s1s b8c ?_
 refine v7v (id := 8) a1m rfl s1s rfl rfl rfl rfl rfl rfl ?_
 refine v5v (zs := ((l.done.take i).drop f ++ [p]).map (a0t true)) rfl rfl a1m rfl s1s rfl rfl rfl rfl (by rfl) (p5p _ _ _) (by (simp only [a3c, a1u, a2b, a2g, a5e, b8a, c6r, T58]; omega)) ?_
 refine dv 4 ?_
 refine x2x (b := 1) rfl rfl (by omega) (dv 1 ?_)
 exact ⟨i + 1, ⟨⟨by omega, .inr ⟨by omega, by omega⟩⟩, by omega⟩, [0, 0, 0, _, _, _, _, _, _, _, _], y2y, y2y, (HE.row rfl (by rw [z3z hp, List.drop_append_of_le_length (by rw [List.length_take]; omega)]) (HE.box rfl rfl (HE.kill rfl (HE.kill rfl (HE.kill rfl (HE.kill rfl (HE.kill rfl (HE.kill rfl (HE.kill rfl HE.nil))))))))), y1y, rfl⟩
theorem b7p (c : Bool) (n : Nd) (hl : n.lanes.length ≤ 1000000) (hk : n.kept.length ≤ 1000000) (ho : n.outs.length ≤ 1000000) (hd : ∀ l ∈ n.lanes, lb l) : Meth Tryz.prog 155 3 [] [.agg (r4r c n)] [(0, (0, .dead)), (1, (0, .dead)), (2, (0, .dead))] (.agg [pI n.id, .pv (.bool n.up), pI n.inc, pI n.g, .ref 0 0, w7w true n.kept, r9r true n.outs, pI n.led, pI 0, .ref 1 0, .ref 2 0, pI 0, pI 41]) [(0, (0, .row 44 5 ((n.lanes.map b1y).map (q8q true)))), (1, (0, .row 190 3 ([vi0, vi0, vi0].map (a1f true)))), (2, (0, .row 3 1 ([0, 0, 0].map r5r)))] := by
 refine mX Tryz.f155 [.agg [pI n.id, .pv (.bool n.up), pI n.inc, pI n.g, .ref 0 0, w7w true n.kept, r9r true n.outs, pI n.led, pI 0, .ref 1 0, .ref 2 0, pI 0, pI 41]] 3 13 fun γ => ?_
 refine dv 1 ?_
 refine x9x (id := 3) rfl rfl rfl (x3x (id := 4) a0o a0p rfl (dv 9 ?_))
 refine v4v (id := 5) w2w rfl y9y rfl (dv 2 ?_)
 refine a5x z9z (zs := (n.kept).map y3y) rfl rfl w2w rfl y9y rfl rfl rfl (w4w (fun _ => rfl) _) rfl (by (simp only [a3c, a1u, a2b, a2g, a5e, b8a, c6r, T56]; omega)) (Le.ow_map _ (fun _ => rfl) (fun _ => rfl)) ?_
 refine v4v (id := 7) q5q rfl u1u rfl (dv 2 ?_)
 refine a5x z9z (zs := (n.outs).map v8v) rfl rfl q5q rfl u1u rfl rfl rfl (w4w (fun _ => rfl) _) rfl (by (simp only [a3c, a1u, a2b, a2g, a5e, b8a, c6r, T141]; omega)) (Le.ow_map _ (fun _ => rfl) (fun _ => rfl)) ?_
 refine dv 2 ?_
 refine rlB a0o a0p ?_
 refine x3x (id := 9) a0o a0p rfl (dv 5 fun K K' => ?_)
 refine v0v 9 4 0 44 5 rfl rfl rfl rfl rfl ?_
 refine x4x (ι := Nat) (fun i γ1 => [(4, pI (i : Int))]) (fun i γ1 => [(0, ((γ1 0), .row 44 5 (((n.lanes.take i).map b1y).map (q8q true)))), (9, ((0 + 1), .box 65 [pI n.id, .pv (.bool n.up), pI n.inc, pI n.g, .ref 0 (γ1 0), w7w true n.kept, r9r true n.outs, pI n.led, pI 0, .pv (.slice none 0 0), .pv (.slice none 0 0), pI 0, pI 41])), (10, ((γ1 10), .dead)), (11, ((γ1 11), .dead))]) (fun i => i ≤ n.lanes.length) (fun i => n.lanes.length - i) (a0f [1, 2, 3] rfl) (a2k [1, 2, 3, 4, 5, 6, 7, 8, 12, 13, 14, 15] rfl) 0 (by omega) [_, 0, 0, 0, 0, 0, 0, 0, 0, 0, _, _] y2y (HE.row rfl (by rw [List.take_zero]; rfl) (HE.box rfl rfl (HE.kill rfl (HE.kill rfl HE.nil)))) rfl fun i γ1 hi => ?_
 refine dc 7 (fun K K' => aI ?_ ?_)<;>intro h<;>try simp at h
 ·obtain ⟨a, ha⟩ := gE n.lanes i
  have had := hd a (List.mem_of_getElem? ha)
  refine dv 11 fun K K' => ?_
  refine x0x rfl rfl rfl (a3x c a 0 0 had.1 (by omega) (by omega) had.2) ?_
  refine v7v (id := 10) a5v rfl s0s rfl rfl rfl rfl rfl rfl ?_
  refine v5v (zs := ((n.lanes.take i).map b1y ++ [b1y a]).map (q8q true)) rfl rfl a5v rfl s0s rfl rfl rfl rfl (by rfl) (p5p _ _ _) (by (simp only [a3c, a1u, a2b, a2g, a5e, b8a, c6r, T44]; omega)) ?_
  refine dv 4 ?_
  refine u2u rfl rfl rfl (dv 1 ?_)
  exact ⟨i + 1, ⟨by omega, by omega⟩, [_, 0, 0, 0, 0, 0, 0, 0, 0, 0, _, _], (Cov.cons' (t := 4) rfl (by rw [x6x (by omega) (by omega)]; rfl) Cov.nil), y2y, (HE.row rfl (by simp only [z3z ha, List.map_append, List.map_cons, List.map_nil]) (HE.box rfl rfl (HE.kill rfl (HE.kill rfl HE.nil)))), y1y, rfl⟩
 obtain rfl : i = n.lanes.length := by omega
 refine dv 5 fun K K' => ?_
 refine v0v 9 9 1 190 3 rfl rfl rfl rfl rfl (v0v 9 10 2 3 1 rfl rfl rfl rfl rfl ?_)
 refine x4x (ι := Nat) (fun i γ2 => [(5, pI (i : Int))]) (fun i γ2 => [(1, ((γ2 1), .row 190 3 ((List.range i).map fun _ => d2k))), (2, ((γ2 2), .row 3 1 ((List.range i).map fun _ => r5r 0))), (9, ((0 + 1), .box 65 [pI n.id, .pv (.bool n.up), pI n.inc, pI n.g, .ref 0 (γ1 0), w7w true n.kept, r9r true n.outs, pI n.led, pI 0, .ref 1 (γ2 1), .ref 2 (γ2 2), pI 0, pI 41])), (12, ((γ2 12), .dead)), (13, ((γ2 13), .dead)), (14, ((γ2 14), .dead)), (15, ((γ2 15), .dead))]) (fun i => i ≤ 3) (fun i => 3 - i) (a0f [2, 3] rfl) (a2k [0, 3, 4, 5, 6, 7, 8, 10, 11] rfl) 0 (by omega) [0, _, _, 0, 0, 0, 0, 0, 0, 0, 0, 0, _, _, _, _] y2y y1y rfl fun i γ2 hi => ?_
 refine dc 4 (fun K K' => aS ?_ ?_)<;>intro h<;>try simp at h
 ·obtain rfl : i = 3 := by omega
  rw [List.take_length]
  refine dv 4 ?_
  refine e1s (f := fun _ => d2k) (f' := fun _ => a1f true vi0) (l := List.range 3) 1 rfl (fun _ => .same (.same (.le rfl .nil rfl .nil))) ?_
  refine dv 1 ?_
  exact ⟨[_, _, _], rfl, rfl, y1y⟩
 refine dv 6 fun K K' => ?_
 refine rlB p7p a4c ?_
 refine v7v (id := 12) a9e rfl p7p rfl rfl rfl rfl rfl rfl ?_
 refine v5v (zs := (List.range i).map (fun _ => d2k) ++ [d2k]) rfl rfl a9e rfl p7p rfl rfl rfl rfl (by rfl) rfl (by (simp only [a3c, a1u, a2b, a2g, a5e, b8a, c6r, T190]; omega)) ?_
 refine dv 5 ?_
 refine a6y (id := 14) a0i rfl w1w rfl rfl rfl rfl rfl ?_
 refine v5v (zs := (List.range i).map (fun _ => r5r 0) ++ [r5r 0]) rfl rfl a0i rfl w1w rfl rfl rfl rfl (by rfl) rfl (by (simp only [a3c, a1u, a2b, a2g, a5e, b8a, c6r, T3]; omega)) ?_
 refine dv 4 ?_
 refine u2u rfl rfl rfl (dv 1 ?_)
 exact ⟨i + 1, ⟨by omega, by omega⟩, [0, _, _, 0, 0, 0, 0, 0, 0, 0, 0, 0, _, _, _, _], (Cov.cons' (t := 5) rfl (by rw [x6x (by omega) (by omega)]; rfl) Cov.nil), y2y, (HE.row rfl (by rw [List.range_succ, List.map_append]; rfl) (HE.row rfl (by rw [List.range_succ, List.map_append]; rfl) (HE.box rfl rfl (HE.kill rfl (HE.kill rfl (HE.kill rfl (HE.kill rfl HE.nil))))))), y1y, rfl⟩
end
section
theorem b6n (c : Bool) (l : La) (h : lb l) : r0r Tryz.prog 110 [.agg (q8q c l), .pv (.int .i64 ((0 : Nat) : Int)), .pv (.int .i64 (l.done.length : Int))] (.agg (q8q true l)) := by
 have := a3x c l 0 l.done.length h.1 (by omega) h.1 h.2
 rw [c0m] at this
 exact this
theorem z7z (c : Bool) (n : Nd) (h : nb n) : Meth Tryz.prog 161 3 [] [.agg (r4r c n)] [(0, (0, .dead)), (1, (0, .dead)), (2, (0, .dead))] (.agg [pI n.id, .pv (.bool n.up), pI n.inc, pI n.g, .ref 0 0, w7w true n.kept, r9r true n.outs, pI n.led, pI n.version, .ref 1 0, .ref 2 0, pI n.round, pI n.low]) [(0, (0, .row 44 5 ((n.lanes).map (q8q true)))), (1, (0, .row 190 3 ((n.views).map (a1f true)))), (2, (0, .row 3 1 (n.known.map r5r)))] := by
 refine mX Tryz.f161 [.agg [pI n.id, .pv (.bool n.up), pI n.inc, pI n.g, .ref 0 0, w7w true n.kept, r9r true n.outs, pI n.led, pI n.version, .ref 1 0, .ref 2 0, pI n.round, pI n.low]] 3 10 fun γ => ?_
 obtain ⟨b1, b2, b3, b4, b5, b6, b7⟩ := h
 refine dv 1 ?_
 refine x9x (id := 3) rfl rfl rfl (x3x (id := 4) a0o a0p rfl (dv 2 ?_))
 refine rlM [0, 11, 12] [_, _, _] (b7p c n b1 b2 b3 b4) rfl rfl rfl ?_
 refine x3x (id := 5) a0o a0p rfl (dv 5 fun K K' => ?_)
 refine x4x (ι := Nat) (fun i γ1 => [(4, pI (i : Int))]) (fun i γ1 => [(0, ((γ 0 + 1), .row 44 5 ((n.lanes.take i ++ (n.lanes.drop i).map b1y).map (q8q true))))]) (fun i => i ≤ n.lanes.length) (fun i => n.lanes.length - i) (a0f [1, 2, 3] rfl) (a2k [1, 2, 3, 4, 5, 6, 7, 8, 9, 10, 11, 12] rfl) 0 (by omega) [] y2y (HE.row rfl (by rw [List.take_zero, List.drop_zero]; rfl) HE.nil) rfl fun i γ1 hi => ?_
 refine dc 7 (fun K K' => aI ?_ ?_)<;>intro o<;>try simp at o
 ·obtain ⟨p, hp⟩ := gE n.lanes i
  have hpl := b4 p (List.mem_of_getElem? hp)
  have hAl : ((n.lanes.take i).map (q8q true)).length = i := by rw [List.length_map, List.length_take]; omega
  rw [v1v hp, List.map_cons, List.map_append, List.map_cons]
  refine dv 19 fun K K' => ?_
  refine x0x rfl rfl rfl (b6n c p hpl) (u0u rfl rfl a5v rfl s0s rfl rfl hAl (a2x hAl rfl rfl s0s rfl rfl rfl rfl (a3p rfl) rfl ?_))
  refine dv 2 ?_
  refine u2u rfl rfl rfl (dv 1 ?_)
  exact ⟨i + 1, ⟨by omega, by omega⟩, [], (Cov.cons' (t := 4) rfl (by rw [x6x (by omega) (by omega)]; rfl) Cov.nil), y2y, (HE.row rfl (by simp only [z3z hp, List.map_append, List.append_assoc]; rfl) HE.nil), y1y, rfl⟩
 obtain rfl : i = n.lanes.length := by omega
 rw [List.take_length, List.drop_length, List.map_nil, List.append_nil]
 refine dv 17 ?_
 refine v4v (id := 1) a9e rfl p7p rfl (dv 6 fun K K' => ?_)
 refine x4x (ι := Nat) (fun j γ2 => [(5, pI (j : Int))]) (fun j γ2 => [(1, ((γ2 1), .row 190 3 ((n.views.take j).map (a1f true)))), (5, ((0 + 1), .box 65 [pI n.id, .pv (.bool n.up), pI n.inc, pI n.g, .ref 0 (γ 0 + 1), w7w true n.kept, r9r true n.outs, pI n.led, pI n.version, .ref 1 (γ2 1), .ref 12 (0 + 1), pI n.round, pI n.low])), (6, ((γ2 6), .dead)), (7, ((γ2 7), .dead)), (8, ((γ2 8), .dead)), (9, ((γ2 9), .dead))]) (fun j => j ≤ n.views.length) (fun j => n.views.length - j) (a0f [1, 2, 3] rfl) (a2k [0, 2, 3, 4, 10, 11, 12] rfl) 0 (by omega) [0, _, 0, 0, 0, 0, _, _, _, _] y2y (HE.row rfl (by rw [List.take_zero]; rfl) (HE.box rfl rfl (HE.kill rfl (HE.kill rfl (HE.kill rfl (HE.kill rfl HE.nil)))))) rfl fun j γ2 hi => ?_
 refine dc 7 (fun K K' => aS ?_ ?_)<;>intro o<;>try simp at o
 ·obtain rfl : j = n.views.length := by omega
  rw [List.take_length]
  refine dv 2 ?_
  refine v4v (id := 2) a0i rfl w1w rfl (dv 2 ?_)
  refine p2p (zs := n.known.map r5r) rfl rfl a0i rfl w1w rfl rfl rfl (w4w (fun _ => rfl) _) rfl (by (simp only [a3c, a1u, a2b, a2g, a5e, b8a, c6r, T3]; omega)) ?_
  refine dv 6 ?_
  exact ⟨[_, _, _], rfl, rfl, y1y⟩
 obtain ⟨v, hv⟩ := gE n.views j
 have hve := b6 v (List.mem_of_getElem? hv)
 refine dv 18 fun K K' => ?_
 refine v4v (id := 6) w2w rfl y9y rfl (dv 6 ?_)
 refine a5x z9z (zs := (v.events).map y3y) rfl rfl w2w rfl y9y rfl rfl rfl (w4w (fun _ => rfl) _) rfl (by (simp only [a3c, a1u, a2b, a2g, a5e, b8a, c6r, T56]; omega)) (Le.ow_map _ (fun _ => rfl) (fun _ => rfl)) ?_
 refine rlB p7p a4c ?_
 refine v7v (id := 8) a9e rfl p7p rfl rfl rfl rfl rfl rfl ?_
 refine v5v (zs := (n.views.take j ++ [v]).map (a1f true)) rfl rfl a9e rfl p7p rfl rfl rfl rfl (by rfl) (p5p _ _ _) (by (simp only [a3c, a1u, a2b, a2g, a5e, b8a, c6r, T190]; omega)) ?_
 refine dv 4 ?_
 refine u2u rfl rfl rfl (dv 1 ?_)
 exact ⟨j + 1, ⟨by omega, by omega⟩, [0, _, 0, 0, 0, 0, _, _, _, _], (Cov.cons' (t := 5) rfl (by rw [x6x (by omega) (by omega)]; rfl) Cov.nil), y2y, (HE.row rfl (by rw [z3z hv]) (HE.box rfl rfl (HE.kill rfl (HE.kill rfl (HE.kill rfl (HE.kill rfl HE.nil)))))), y1y, rfl⟩
end
section
theorem c2m (c c' : Bool) (l : La) (s : List Ev) : r0r Tryz.prog 291 [.agg (q8q c l), w7w c' s] (.pv (.bool (kb (b3j l s)))) := by
 refine pX Tryz.f291 [.pv (.bool (kb (b3j l s)))] 1 ?_
 refine dv 1 ?_
 refine x9x (id := 0) rfl rfl rfl (dv 4 fun K K' => ?_)
 refine x0x rfl rfl rfl (a3d ..) (x0x rfl rfl rfl (a2r ..) (dc 1 (aI ?_ ?_)))<;>intro hc2<;>try simp at hc2
 ·try have hX : ¬ a6t okE a1i s 100 = true := by simpa using hc2
  refine dv 3 ?_
  refine x1x rfl ?_ rfl
  exact congrArg (fun b : Bool => [AV.pv (.bool b)]) (a5y (fun h => hX h.1))
 have hA : a6t okE a1i s 100 = true := hc2
 refine dv 5 fun K K' => ?_
 refine y8y 1 rfl fun hlen => ?_
 refine x4x (ι := Nat) (fun i γ1 => [(5, pI (i : Int))]) (fun i γ1 => []) (fun i => i ≤ s.length ∧ c8f s (fun _ e => e.to = l.proc) i) (fun i => s.length - i) (a0f [1, 2] rfl) (u4u 0 rfl HE.nil) 0 ⟨by omega, a0z⟩ [] y2y y1y rfl fun i γ1 hi => ?_
 obtain ⟨h1, h2⟩ := hi
 refine dc 6 (fun K K' => aS ?_ ?_)<;>intro j<;>try simp at j
 ·have hall := a2z h2 (by omega)
  refine dv 4 ?_
  refine x1x rfl ?_ rfl
  exact congrArg (fun b : Bool => [AV.pv (.bool b)]) (e1y ⟨hA, fun e he => by obtain ⟨i, hi⟩ := List.getElem?_of_mem he; exact hall i e hi⟩)
 obtain ⟨e, he⟩ := gE s i
 refine dc 12 (fun K K' => aS ?_ ?_)<;>intro j<;>try simp at j
 ·have hto : e.to = l.proc := by omega
  refine dv 3 ?_
  refine x2x (b := 1) rfl rfl (by omega) (dv 1 ?_)
  exact ⟨i + 1, ⟨⟨by omega, a0e h2 he hto⟩, by omega⟩, [], y2y, y2y, y1y, y1y, rfl⟩
 have hX : ¬ e.to = l.proc := by omega
 refine dv 3 ?_
 refine x1x rfl ?_ rfl
 exact congrArg (fun b : Bool => [AV.pv (.bool b)]) (a5y (fun h => hX (h.2 e (List.mem_of_getElem? he))))
theorem c1m (c c' : Bool) (l : La) (s : List Ev) : r0r Tryz.prog 241 [.agg (q8q c l), w7w c' s] (.tup [.agg (y3y (c2b l s).1), .pv (.bool (c2b l s).2)]) := by
 refine pX Tryz.f241 [.agg (y3y (c2b l s).1), .pv (.bool (c2b l s).2)] 2 ?_
 have hsm := b5w l.done s
 refine dv 1 ?_
 refine x9x (id := 0) rfl rfl rfl (x3x (id := 1) y9y a6x rfl (dv 4 fun K K' => ?_))
 refine x0x rfl rfl rfl (b0q ..) (dc 2 (aS ?_ ?_))<;>intro hg2<;>try simp at hg2
 ·have fX : ¬ (a9m l = true ∧ b3j l s) := fun h => by have := h.1; simp_all
  refine dv 6 ?_
  refine rlB y9y a6x ?_
  refine dv 3 ?_
  (rw [d7f fX]; exact ⟨_, _, rfl, .agg rfl (.cl rfl (.cl rfl (.cl rfl (.cl rfl (.cl rfl (.cl rfl (.cl rfl .nil))))))) (.cl rfl .nil)⟩)
 have fL : a9m l = true := hg2
 refine dv 2 ?_
 refine x0x rfl rfl rfl (c2m ..) (dc 2 (aI ?_ ?_))<;>intro hc3<;>try simp at hc3
 ·have fX : ¬ (a9m l = true ∧ b3j l s) := fun h => a4s (by simpa using hc3) h.2
  refine dv 1 ?_
  refine rlB y9y a6x ?_
  refine dv 3 ?_
  (rw [d7f fX]; exact ⟨_, _, rfl, .agg rfl (.cl rfl (.cl rfl (.cl rfl (.cl rfl (.cl rfl (.cl rfl (.cl rfl .nil))))))) (.cl rfl .nil)⟩)
 have fF : a9m l = true ∧ b3j l s := ⟨fL, a4r.1 (by simpa using hc3)⟩
 refine dv 4 ?_
 refine x0x rfl rfl rfl (a8t ..) (dv 2 fun K K' => ?_)
 refine y8y 1 rfl fun hlen => ?_
 refine dc 7 (aS ?_ ?_)<;>intro j<;>try simp at j
 ·refine dv 6 ?_
  refine rlB y9y a6x ?_
  refine dv 3 ?_
  (rw [c4z fF, d7b (by omega)]; exact ⟨_, _, rfl, .agg rfl (.cl rfl (.cl rfl (.cl rfl (.cl rfl (.cl rfl (.cl rfl (.cl rfl .nil))))))) (.cl rfl .nil)⟩)
 refine dc 5 (aI ?_ ?_)<;>intro j<;>try simp at j
 ·refine dv 1 ?_
  refine rlB y9y a6x ?_
  refine dv 3 ?_
  (rw [c4z fF, d7c (by omega)]; exact ⟨_, _, rfl, .agg rfl (.cl rfl (.cl rfl (.cl rfl (.cl rfl (.cl rfl (.cl rfl (.cl rfl .nil))))))) (.cl rfl .nil)⟩)
 have hlt : same l.done s < s.length := by omega
 obtain ⟨e, he⟩ : ∃ e, s[same l.done s]? = some e := ⟨_, List.getElem?_eq_getElem hlt⟩
 refine dv 5 ?_
 refine a0d (out := .agg (y3y e)) rfl y9y rfl ?_
 refine dv 3 ?_
 (rw [c4z fF, d7e (by omega) he]; exact ⟨_, _, rfl, .agg rfl (.cl rfl (.cl rfl (.cl rfl (.cl rfl (.cl rfl (.cl rfl (.cl rfl .nil))))))) (.cl rfl .nil)⟩)
end
section
theorem c2n (c : Bool) (n : Nd) (fS : a1n n) (i : Nat) (l : La) (hl : n.lanes[i]? = some l) : r0r Tryz.prog 141 [.agg (r4r c n), .pv (.int .i64 (i : Int))] (.tup [.agg (y3y (c2b l (s6s n l.proc)).1), .pv (.bool (c2b l (s6s n l.proc)).2)]) := by
 refine pX Tryz.f141 [.agg (y3y (c2b l (s6s n l.proc)).1), .pv (.bool (c2b l (s6s n l.proc)).2)] 2 ?_
 have fB := v2v fS
 refine dv 1 ?_
 refine x9x (id := 0) rfl rfl rfl (x3x (id := 1) y9y a6x rfl (dv 14 ?_))
 refine x0x rfl rfl rfl (a5p c n l.proc (b7a fS) (by omega) fS.2.2.2.2.2.1) ?_
 refine x0x rfl rfl rfl (c1m c true l (s6s n l.proc)) ?_
 refine dv 5 ?_
 exact ⟨_, _, rfl, .agg rfl (.cl rfl (.cl rfl (.cl rfl (.cl rfl (.cl rfl (.cl rfl (.cl rfl .nil))))))) (.cl rfl .nil)⟩
theorem b3u (c : Bool) (n : Nd) : r0r Tryz.prog 44 [.agg (r4r c n)] (.pv (.int .i64 (b7c n))) := by
 refine pX Tryz.f44 [.pv (.int .i64 (b7c n))] 2 ?_
 refine dv 1 ?_
 refine x9x (id := 0) rfl rfl rfl (dv 6 fun K K' => ?_)
 refine x0x rfl rfl rfl (a1p ..) (dc 1 (aI ?_ ?_))<;>intro hc2<;>try simp at hc2
 ·have fX : ¬ w3w n := a4s (by simpa using hc2)
  refine dv 3 ?_
  refine x1x rfl ?_ rfl
  exact congrArg (fun v : Int => [AV.pv (.int .i64 v)]) (d7h fX).symm
 have fK : w3w n := a4r.1 (by simpa using hc2)
 have fS := fK.1
 have fB := v2v fS
 refine dv 5 fun K K' => ?_
 refine x4x (ι := Nat) (fun i γ1 => [(3, pI (b2a n i)), (4, pI (i : Int))]) (fun i γ1 => [(1, ((γ1 1), .dead))]) (fun i => i ≤ n.lanes.length) (fun i => n.lanes.length - i) (x5x 1 rfl Cov.nil) (u4u 0 rfl HE.nil) 0 (by omega) [0, _] y2y y1y rfl fun i γ1 hi => ?_
 refine dc 7 (fun K K' => aS ?_ ?_)<;>intro j<;>try simp at j
 ·obtain rfl : i = n.lanes.length := by omega
  refine dv 5 ?_
  refine x1x rfl ?_ rfl
  exact congrArg (fun v : Int => [AV.pv (.int .i64 v)]) (c0n fK).symm
 obtain ⟨l, hl⟩ := gE n.lanes i
 have hnc := c8p fK hl
 refine dv 6 fun K K' => ?_
 refine x0x rfl rfl rfl (c2n c n fS i l hl) (dv 3 ?_)
 refine x3x (id := 1) y9y a6x rfl (dv 2 ?_)
 rw [c4z ⟨hnc.2.1, hnc.2.2.1⟩]
 refine dc 3 (aS ?_ ?_)<;>intro hg7<;>try simp at hg7
 ·have hno : ¬ ((a3z l (s6s n l.proc)).2 = true ∧ (a3z l (s6s n l.proc)).1.time < b2a n i) := fun h => by have := h.1; simp_all
  refine dv 8 ?_
  refine x2x (b := 1) rfl rfl (by omega) (dv 1 ?_)
  exact ⟨i + 1, ⟨by omega, by omega⟩, [0, _], (Cov.cons' (t := 3) rfl (congrArg (fun v : Int => AV.pv (.int .i64 v)) (c5a hl hno).symm) (x5x 4 rfl Cov.nil)), y2y, y1y, y1y, rfl⟩
 have h2 : (a3z l (s6s n l.proc)).2 = true := hg7
 refine dc 5 (aS ?_ ?_)<;>intro j<;>try simp at j
 ·have hno : ¬ ((a3z l (s6s n l.proc)).2 = true ∧ (a3z l (s6s n l.proc)).1.time < b2a n i) := by (intro h; omega)
  refine dv 3 ?_
  refine x2x (b := 1) rfl rfl (by omega) (dv 1 ?_)
  exact ⟨i + 1, ⟨by omega, by omega⟩, [0, _], (Cov.cons' (t := 3) rfl (congrArg (fun v : Int => AV.pv (.int .i64 v)) (c5a hl hno).symm) (x5x 4 rfl Cov.nil)), y2y, y1y, y1y, rfl⟩
 have h3 : (a3z l (s6s n l.proc)).1.time < b2a n i := by omega
 refine dv 6 ?_
 refine x2x (b := 1) rfl rfl (by omega) (dv 1 ?_)
 exact ⟨i + 1, ⟨by omega, by omega⟩, [0, _], (Cov.cons' (t := 3) rfl (congrArg (fun v : Int => AV.pv (.int .i64 v)) (d7g hl ⟨h2, h3⟩).symm) (x5x 4 rfl Cov.nil)), y2y, y1y, y1y, rfl⟩
end
section
theorem b7q (c : Bool) (n : Nd) (r : Int) : r0r Tryz.prog 61 [.agg (r4r c n), .pv (.int .i64 r)] (.tup [.agg (r4r true (x7x n r).1), .agg (a5z true (x7x n r).2.1), .pv (.bool (x7x n r).2.2)]) := by
 refine pX Tryz.f61 [.agg (r4r true (x7x n r).1), .agg (a5z true (x7x n r).2.1), .pv (.bool (x7x n r).2.2)] 14 ?_
 refine dv 1 ?_
 refine x9x (id := 0) rfl rfl rfl (x3x (id := 1) a0o a0p rfl (x3x (id := 2) a0v a9f rfl (dv 4 fun K K' => ?_)))
 refine x0x rfl rfl rfl (a1p ..) (dc 1 (aI ?_ ?_))<;>intro hc2<;>try simp at hc2
 ·have fX : ¬ w3w n := a4s (by simpa using hc2)
  refine dv 1 ?_
  refine rlB a0o a0p ?_
  refine rlB a0v a9f ?_
  refine dv 4 ?_
  (rw [d2b fX]; exact ⟨_, _, rfl, d0l (d0m (.cl rfl .nil))⟩)
 have fK : w3w n := a4r.1 (by simpa using hc2)
 have fS := fK.1
 have fB := v2v fS
 have fV := fS.2.2.2.2.2.1
 have fb := d0e fS
 refine dv 3 ?_
 refine rlM [9, 10, 11] [_, _, _] (z7z c n fb) rfl rfl rfl ?_
 refine x3x (id := 3) a0o a0p rfl (dc 7 (fun K K' => aS ?_ ?_))<;>intro hg4<;>try simp at hg4
 ·have fU : ¬ (n.up = true ∧ n.round + 1 ≤ r ∧ r ≤ 9999) := fun h => by have := h.1; simp_all
  refine dv 10 ?_
  refine rlB a0v a9f ?_
  refine dv 4 ?_
  (rw [b8w fK fU]; exact ⟨_, _, rfl, a3h rfl rfl rfl (d0m (.cl rfl .nil))⟩)
 have fUp : n.up = true := hg4
 refine dv 3 ?_
 refine a0m (.int .i64 (n.round + 1)) rfl rfl rfl (a7p rfl rfl (by have := fS.1.2.2.2.2.2.1; omega) (by have := fS.1.2.2.2.2.2.1; omega)) ?_
 refine dv 0 ?_
 refine x0x rfl rfl rfl (p1p ..) (dv 0 ?_)
 refine x0x rfl rfl rfl (z1z ..) (dc 2 (aI ?_ ?_))<;>intro j<;>try simp at j
 ·have fU : ¬ (n.up = true ∧ n.round + 1 ≤ r ∧ r ≤ 9999) := by (intro h; omega)
  refine dv 2 ?_
  refine rlB a0v a9f ?_
  refine dv 4 ?_
  (rw [b8w fK fU]; exact ⟨_, _, rfl, a3h rfl rfl rfl (d0m (.cl rfl .nil))⟩)
 have fU : n.up = true ∧ n.round + 1 ≤ r ∧ r ≤ 9999 := ⟨fUp, by omega⟩
 refine dv 15 ?_
 refine x0x rfl rfl rfl (b3u ..) (rlB a0v a9f ?_)
 refine x3x (id := 4) a0v a9f rfl (dv 5 fun K K' => ?_)
 refine v0v 4 7 12 3 1 rfl rfl rfl rfl rfl (v0v 4 8 13 3 1 rfl rfl rfl rfl rfl ?_)
 refine x4x (ι := Nat) (fun i γ1 => [(9, pI (i : Int))]) (fun i γ1 => [(12, ((γ1 12), .row 3 1 (((n.views.take i).map Vi.inc).map r5r))), (13, ((γ1 13), .row 3 1 (((n.views.take i).map Vi.version).map r5r))), (4, ((0 + 1), .box 79 [pI 3, pI n.id, pI 0, pI n.inc, pI 0, pI r, pI (b7c n), .ref 12 (γ1 12), .ref 13 (γ1 13), .pv (.slice none 0 0), .pv (.slice none 0 0)])), (5, ((γ1 5), .dead)), (6, ((γ1 6), .dead)), (7, ((γ1 7), .dead)), (8, ((γ1 8), .dead))]) (fun i => i ≤ 3) (fun i => 3 - i) (a0f [2, 4, 5, 7, 8] rfl) (a2k [0, 1, 2, 3, 9, 10, 11] rfl) 0 (by omega) [0, 0, 0, 0, 0, _, _, _, _, 0, 0, 0, _, _] y2y (HE.row rfl (by rw [List.take_zero]; rfl) (HE.row rfl (by rw [List.take_zero]; rfl) (HE.box rfl rfl (HE.kill rfl (HE.kill rfl (HE.kill rfl (HE.kill rfl HE.nil))))))) rfl fun i γ1 hi => ?_
 refine dc 4 (fun K K' => aS ?_ ?_)<;>intro j<;>try simp at j
 ·obtain rfl : i = n.views.length := by omega
  rw [List.take_length]
  refine dv 8 ?_
  (rw [d2c fK fU, show e6p n r = { e6p n r with g := b7c n } from by rw [c0n fK]; rfl]; exact ⟨_, _, rfl, a3h (n := { n with round := r, low := 41 }) rfl rfl rfl (.agg rfl (.cl rfl (.cl rfl (.cl rfl (.cl rfl (.cl rfl (.cl rfl (.cl rfl (.ref rfl (Le.ow_map _ (fun _ => rfl) (fun _ => rfl)) (.ref rfl (Le.ow_map _ (fun _ => rfl) (fun _ => rfl)) (.le rfl .nil (.le rfl .nil .nil))))))))))) (.cl rfl .nil))⟩)
 obtain ⟨v, hv⟩ := gE n.views i
 refine dv 12 fun K K' => ?_
 refine a6y (id := 5) a0i rfl w1w rfl rfl rfl rfl rfl ?_
 refine v5v (zs := ((n.views.take i).map Vi.inc ++ [v.inc]).map r5r) rfl rfl a0i rfl w1w rfl rfl rfl rfl (by rfl) (p5p _ _ _) (by (simp only [a3c, a1u, a2b, a2g, a5e, T3]; omega)) ?_
 refine dv 11 ?_
 refine a6y (id := 7) a0i rfl w1w rfl rfl rfl rfl rfl ?_
 refine v5v (zs := ((n.views.take i).map Vi.version ++ [v.version]).map r5r) rfl rfl a0i rfl w1w rfl rfl rfl rfl (by rfl) (p5p _ _ _) (by (simp only [a3c, a1u, a2b, a2g, a5e, T3]; omega)) ?_
 refine dv 4 ?_
 refine u2u rfl rfl rfl (dv 1 ?_)
 exact ⟨i + 1, ⟨by omega, by omega⟩, [0, 0, 0, 0, 0, _, _, _, _, 0, 0, 0, _, _], (Cov.cons' (t := 9) rfl (by rw [x6x (by omega) (by omega)]; rfl) Cov.nil), y2y, (HE.row rfl (by simp only [z3z hv, List.map_append, List.map_cons, List.map_nil]) (HE.row rfl (by simp only [z3z hv, List.map_append, List.map_cons, List.map_nil]) (HE.box rfl rfl (HE.kill rfl (HE.kill rfl (HE.kill rfl (HE.kill rfl HE.nil))))))), y1y, rfl⟩
end
section
theorem a8u (c : Bool) (l : List Ou) (hl : l.length ≤ 1000000) : r0r Tryz.prog 112 [r9r c l] (r9r true (a2f l)) := by
 refine pX Tryz.f112 [r9r true (a2f l)] 6 ?_
 refine dv 3 ?_
 refine v4v (id := 0) q5q rfl u1u rfl (dv 5 fun K K' => ?_)
 refine q6q (l := ([] : List Ou)) (f := v8v) 3 rfl rfl (fun _ => rfl) ?_
 refine x4x (ι := Nat) (fun i γ1 => [(3, r9r true (a2f (l.take i))), (4, pI (i : Int))]) (fun i γ1 => [(1, ((γ1 1), .dead)), (2, ((γ1 2), .dead)), (3, ((γ1 3), .dead)), (4, ((γ1 4), .dead)), (5, ((γ1 5), .dead))]) (fun i => i ≤ l.length) (fun i => l.length - i) (x5x 0 rfl Cov.nil) (u4u 0 rfl HE.nil) 0 (by omega) [0, _, _, _, _, _] (Cov.cons' (t := 3) rfl (by rw [List.take_zero]; rfl) (x5x 4 rfl Cov.nil)) y1y rfl fun i γ1 hi => ?_
 refine dc 6 (fun K K' => aS ?_ ?_)<;>intro h<;>try simp at h
 ·obtain rfl : i = l.length := by omega
  refine dv 5 ?_
  refine x1x rfl ?_ rfl
  exact congrArg (fun l : List Ou => [r9r true l]) (by rw [List.take_length])
 obtain ⟨x, hx⟩ := gE l i
 have hol : (a2f (l.take i)).length ≤ 1000000 := by rw [c3n, List.length_take]; omega
 refine dv 7 fun K K' => ?_
 refine a7b (ι := Nat) (fun k γ2 => [(5, pI (k : Int))]) (fun k γ2 => []) (fun k => k ≤ (a2f (l.take i)).length ∧ (∀ (j : Nat) y, k ≤ j → (a2f (l.take i))[j]? = some y → a4e x y = true) ∧ (∀ y, 0 < k → (a2f (l.take i))[k - 1]? = some y → a4e x y = false)) (a0f [0, 3, 4] rfl) (a2k [0, 1, 2, 3, 4, 5] rfl) ?_ fun k γ2 hi => ?_
 ·refine dv 1 ?_
  refine x4x (ι := Nat) (fun k γ3 => [(5, pI (k : Int))]) (fun k γ3 => []) (fun k => k ≤ (a2f (l.take i)).length ∧ (∀ (j : Nat) y, k ≤ j → (a2f (l.take i))[j]? = some y → a4e x y = true)) (fun k => k) (a0f [0, 3, 4] rfl) (a2k [0, 1, 2, 3, 4, 5] rfl) (a2f (l.take i)).length ⟨Nat.le_refl _, fun j y hj hy => by have := (List.getElem?_eq_some_iff.1 hy).1; omega⟩ [] y2y y1y rfl fun k γ3 hi => ?_
  obtain ⟨k1, k2⟩ := hi
  refine dc 5 (fun K K' => aS ?_ ?_)<;>intro h<;>try simp at h
  ·have k0 : k = 0 := by omega
   refine dv 12 ?_
   exact ⟨k, ⟨k1, k2, fun y2 h0 h2 => by omega⟩, [], y2y, y2y, y1y, y1y, rfl⟩
  have k0 : 0 < k := by omega
  obtain ⟨y, hy⟩ := gE (a2f (l.take i)) (k - 1)
  refine dv 6 ?_
  refine a0c (b := 1) rfl rfl (by omega) (by omega) (dv 2 ?_)
  refine x0x rfl rfl rfl (b3q ..) (dc 1 (aS ?_ ?_))<;>intro hc7<;>try simp at hc7
  ·try have hlt := hc7
   refine dv 1 ?_
   exact ⟨k, ⟨k1, k2, fun y2 h0 h2 => by (rw [hy] at h2; cases h2; exact hlt)⟩, [], y2y, y2y, y1y, y1y, rfl⟩
  try have hlt := hc7
  refine dv 4 ?_
  refine a0c (b := 1) rfl rfl (by omega) (by omega) (dv 1 ?_)
  exact ⟨k - 1, ⟨⟨by omega, fun j y2 hj hy2 => by by_cases hjk : j = k - 1; (subst hjk; rw [hy] at hy2; cases hy2; exact hlt); exact k2 j y2 (by omega) hy2⟩, by omega⟩, [], y2y, y2y, y1y, y1y, rfl⟩
 ·try dsimp only [d2l, d2m]
  obtain ⟨c1, c2, c3⟩ := hi
  have hin := (d0g hx).trans (e4f e3y (d7i _) c2 c3 c1)
  refine dv 1 ?_
  refine v4v (id := 1) q5q rfl u1u rfl (dv 2 ?_)
  refine b8r rfl q5q rfl u1u rfl rfl rfl (by omega) (by omega) (by omega) ?_
  refine p2p (zs := ((a2f (l.take i)).take k).map v8v) rfl rfl q5q rfl u1u rfl rfl rfl (w4w (fun _ => rfl) _) (by simp) (by (simp only [a3c, a1u, a2b, a2g, a5e, c6r, T141]; omega)) ?_
  refine dv 4 ?_
  refine v7v (id := 3) q5q rfl u1u rfl rfl rfl rfl rfl rfl ?_
  refine v5v (zs := ((a2f (l.take i)).take k ++ [x]).map v8v) rfl rfl q5q rfl u1u rfl rfl rfl rfl (by rfl) (p5p _ _ _) (by (simp only [a3c, a1u, a2b, a2g, a5e, c6r, T141]; omega)) ?_
  refine dv 2 ?_
  refine b8r rfl q5q rfl u1u rfl rfl rfl (by omega) (by (rw [List.length_map]; omega)) (by (rw [List.length_map]; omega)) ?_
  refine a5x z9z (zs := ((a2f (l.take i)).take k ++ x :: (a2f (l.take i)).drop k).map v8v) rfl rfl q5q rfl u1u rfl rfl rfl (w4w (fun _ => rfl) _) (by simp) (by (simp only [a3c, a1u, a2b, a2g, a5e, c6r, T141]; omega)) (Le.ow_map _ (fun _ => rfl) (fun _ => rfl)) ?_
  refine dv 3 ?_
  refine x2x (b := 1) rfl rfl (by omega) (dv 1 ?_)
  exact ⟨i + 1, ⟨by omega, by omega⟩, [0, _, _, _, _, _], (Cov.cons' (t := 3) rfl (by rw [hin]; rfl) (x5x 4 rfl Cov.nil)), y2y, y1y, y1y, rfl⟩
end
section
theorem b7r (c : Bool) (l : La) (u : Int) (hok : a9m l = true) : r0r Tryz.prog 25 [.agg (q8q c l), .pv (.int .i64 u)] (.tup [.agg (q8q true (b1j u l)), w7w true (b5x u l), r9r true (b8d u l)]) := by
 refine pX Tryz.f25 [.agg (q8q true (b1j u l)), w7w true (b5x u l), r9r true (b8d u l)] 8 ?_
 obtain ⟨h1, h2⟩ := a1z hok
 have hlb := e6o hok
 refine dv 1 ?_
 refine x9x (id := 0) rfl rfl rfl (x3x (id := 1) s0s a6w rfl (dv 3 ?_))
 refine v4v (id := 2) w2w rfl y9y rfl (dv 2 ?_)
 refine v4v (id := 3) q5q rfl u1u rfl (dv 4 fun K K' => ?_)
 refine x0x rfl rfl rfl (b0q ..) (dv 1 ?_)
 refine y6y rfl (fun hc2 => ?_) (fun hc2 => ?_)
 ·simp [hok] at hc2
 try simp at hc2
 refine dv 6 ?_
 refine x3x (id := 4) a1l e3a rfl (dv 3 fun K K' => ?_)
 refine x4x (ι := Nat) (fun i γ1 => [(7, .ref 2 (γ1 2)), (8, .ref 3 (γ1 3)), (9, pI (i : Int))]) (fun i γ1 => [(2, ((γ1 2), .row 56 7 (((l.done.take i).flatMap Pa.sends).map y3y))), (3, ((γ1 3), .row 141 5 (((l.done.take i).flatMap Pa.outs).map v8v))), (4, ((0 + 1), .box 41 [pI (b0v l i).x, pI (b0v l i).y, pI (b0v l i).count])), (5, ((γ1 5), .dead)), (6, ((γ1 6), .dead))]) (fun i => i ≤ l.done.length ∧ (∀ (j : Nat) p, j < i → l.done[j]? = some p → p.ev.time < u)) (fun i => l.done.length - i) (a0f [1, 2, 4, 10] rfl) (a2k [0, 1, 7] rfl) 0 ⟨by omega, fun j p hj => by omega⟩ [0, 0, _, _, 0, _, _] y2y (HE.row rfl (by rfl) (HE.row rfl (by rfl) (HE.box rfl rfl (HE.kill rfl (HE.kill rfl HE.nil))))) rfl fun i γ1 hi => ?_
 obtain ⟨k1, k2⟩ := hi
 refine dc 8 (fun K K' => aS ?_ ?_)<;>intro h<;>try simp at h
 ·have hcut : c5b u l.done = i := c0o k1 k2 (fun q hq => by rw [List.getElem?_eq_none (by omega)] at hq; cases hq)
  refine dv 9 ?_
  refine y6y rfl (fun hc7 => ?_) (fun hc7 => ?_)
  ·simp [hok] at hc7
  try simp at hc7
  have hfs := a4t (f := Pa.sends) (m := 2) k1 fun p hp => (h2 p hp).1
  have hfo := a4t (f := Pa.outs) (m := 2) k1 fun p hp => (h2 p hp).2
  refine dv 7 ?_
  refine x0x rfl rfl rfl (a3x c l i l.done.length hlb.1 (by omega) hlb.1 hlb.2) ?_
  refine x3x (id := 7) s0s a6w rfl (dv 4 ?_)
  refine a1h rfl rfl a1l rfl rfl rfl rfl (a0w rfl) rfl ?_
  refine q6q 7 rfl rfl (fun _ => rfl) ?_
  refine q6q 8 rfl rfl (fun _ => rfl) ?_
  refine dv 3 ?_
  refine x0x rfl rfl rfl (a1w true _ (by omega)) ?_
  refine dv 1 ?_
  refine x0x rfl rfl rfl (a8u true _ (by omega)) ?_
  refine dv 4 ?_
  subst hcut
  rw [show b1j u l = ⟨l.proc, b0v l (c5b u l.done), (l.done.take l.done.length).drop (c5b u l.done)⟩ from by rw [List.take_length]; rfl]
  exact ⟨_, _, rfl, .agg rfl (.cl rfl (.cl rfl (.cl rfl (.cl rfl (.cl rfl .nil))))) (.cl rfl (.cl rfl .nil))⟩
 obtain ⟨p, hp⟩ := gE l.done i
 have hpb := h2 p (List.mem_of_getElem? hp)
 refine dc 10 (aS ?_ ?_)<;>intro hc6<;>try simp at hc6
 ·have hcut : c5b u l.done = i := by exact c0o k1 k2 (fun q hq => by rw [hp] at hq; cases hq; omega)
  have hfs := a4t (f := Pa.sends) (m := 2) k1 fun p hp => (h2 p hp).1
  have hfo := a4t (f := Pa.outs) (m := 2) k1 fun p hp => (h2 p hp).2
  refine dv 7 ?_
  refine x0x rfl rfl rfl (a3x c l i l.done.length hlb.1 (by omega) hlb.1 hlb.2) ?_
  refine x3x (id := 7) s0s a6w rfl (dv 4 ?_)
  refine a1h rfl rfl a1l rfl rfl rfl rfl (a0w rfl) rfl ?_
  refine q6q 7 rfl rfl (fun _ => rfl) ?_
  refine q6q 8 rfl rfl (fun _ => rfl) ?_
  refine dv 3 ?_
  refine x0x rfl rfl rfl (a1w true _ (by omega)) ?_
  refine dv 1 ?_
  refine x0x rfl rfl rfl (a8u true _ (by omega)) ?_
  refine dv 4 ?_
  subst hcut
  rw [show b1j u l = ⟨l.proc, b0v l (c5b u l.done), (l.done.take l.done.length).drop (c5b u l.done)⟩ from by rw [List.take_length]; rfl]
  exact ⟨_, _, rfl, .agg rfl (.cl rfl (.cl rfl (.cl rfl (.cl rfl (.cl rfl .nil))))) (.cl rfl (.cl rfl .nil))⟩
 have hlt : p.ev.time < u := hc6
 have hfs := a4t (f := Pa.sends) (m := 2) (show i ≤ l.done.length by omega) fun p hp => (h2 p hp).1
 have hfo := a4t (f := Pa.outs) (m := 2) (show i ≤ l.done.length by omega) fun p hp => (h2 p hp).2
 refine dv 8 ?_
 refine a0d (out := .agg (p0p p.after)) rfl a1l rfl ?_
 refine dv 9 ?_
 refine p2p (zs := ((l.done.take i).flatMap Pa.sends ++ p.sends).map y3y) rfl rfl w2w rfl y9y rfl rfl rfl (w4w (fun _ => rfl) _) (a4l _ _ _) (by (simp only [a3c, a1u, a2b, a2g, a5e, c6r, T56]; omega)) ?_
 refine dv 9 ?_
 refine p2p (zs := ((l.done.take i).flatMap Pa.outs ++ p.outs).map v8v) rfl rfl q5q rfl u1u rfl rfl rfl (w4w (fun _ => rfl) _) (a4l _ _ _) (by (simp only [a3c, a1u, a2b, a2g, a5e, c6r, T141]; omega)) ?_
 refine dv 3 ?_
 refine x2x (b := 1) rfl rfl (by omega) (dv 1 ?_)
 exact ⟨i + 1, ⟨⟨by omega, fun j q hj hq => by by_cases e : j = i; (subst e; rw [hp] at hq; cases hq; exact hlt); exact k2 j q (by omega) hq⟩, by omega⟩, [0, 0, _, _, 0, _, _], y2y, y2y, (HE.row rfl (by rw [a1s hp]) (HE.row rfl (by rw [a1s hp]) (HE.box rfl (by rw [c0q hp]; rfl) (HE.kill rfl (HE.kill rfl HE.nil))))), y1y, rfl⟩
end
section
theorem b7s (c : Bool) (n : Nd) (r g : Int) : r0r Tryz.prog 67 [.agg (r4r c n), .pv (.int .i64 r), .pv (.int .i64 g)] (.tup [.agg (r4r true (z4z n r g).1), .pv (.bool (z4z n r g).2)]) := by
 refine pX Tryz.f67 [.agg (r4r true (z4z n r g).1), .pv (.bool (z4z n r g).2)] 19 ?_
 refine dv 1 ?_
 refine x9x (id := 0) rfl rfl rfl (x3x (id := 1) a0o a0p rfl (dv 4 fun K K' => ?_))
 refine x0x rfl rfl rfl (a1p c n) (dc 1 (aI ?_ ?_))<;>intro hc2<;>try simp at hc2
 ·have fX : ¬ w3w n := a4s (by simpa using hc2)
  refine dv 1 ?_
  refine rlB a0o a0p ?_
  refine dv 3 ?_
  (rw [d2g fX]; exact ⟨_, _, rfl, d0l (.cl rfl .nil)⟩)
 have fK : w3w n := a4r.1 (by simpa using hc2)
 have fS := fK.1
 have fB := v2v fS
 have fV := fS.2.2.2.2.2.1
 have fb := d0e fS
 have fM0 := c0n fK
 have fL := c0v fS
 have fG := fS.1.2.2.1
 refine dv 3 ?_
 refine rlM [13, 14, 15] [_, _, _] (z7z c n fb) rfl rfl rfl ?_
 refine x3x (id := 2) a0o a0p rfl (dc 7 (fun K K' => aS ?_ ?_))<;>intro hg4<;>try simp at hg4
 ·have fU : ¬ a4f n r g := by (rintro ⟨m1, m2, m3, m4, m5, m6, m7, m8⟩; (simp_all; done))
  refine dv 40 ?_
  (rw [a1o fK fU]; exact ⟨_, _, rfl, a3h (n := n) rfl rfl rfl (.cl rfl .nil)⟩)
 have fUp : n.up = true := hg4
 refine dc 4 (aS ?_ ?_)<;>intro h<;>try simp at h
 ·have fU : ¬ a4f n r g := by (rintro ⟨m1, m2, m3, m4, m5, m6, m7, m8⟩; omega)
  refine dv 36 ?_
  (rw [a1o fK fU]; exact ⟨_, _, rfl, a3h (n := n) rfl rfl rfl (.cl rfl .nil)⟩)
 refine dc 6 (aS ?_ ?_)<;>intro h<;>try simp at h
 ·have fU : ¬ a4f n r g := by (rintro ⟨m1, m2, m3, m4, m5, m6, m7, m8⟩; omega)
  refine dv 30 ?_
  (rw [a1o fK fU]; exact ⟨_, _, rfl, a3h (n := n) rfl rfl rfl (.cl rfl .nil)⟩)
 refine dv 3 ?_
 refine a0m (.int .i64 (n.g + 1)) rfl rfl rfl (a7p rfl rfl (by omega) (by omega)) ?_
 refine dv 0 ?_
 refine x0x rfl rfl rfl (z1z ..) (dc 3 (aS ?_ ?_))<;>intro h<;>try simp at h
 ·have fU : ¬ a4f n r g := by (rintro ⟨m1, m2, m3, m4, m5, m6, m7, m8⟩; omega)
  refine dv 22 ?_
  (rw [a1o fK fU]; exact ⟨_, _, rfl, a3h (n := n) rfl rfl rfl (.cl rfl .nil)⟩)
 refine dc 6 (aS ?_ ?_)<;>intro h<;>try simp at h
 ·have fU : ¬ a4f n r g := by (rintro ⟨m1, m2, m3, m4, m5, m6, m7, m8⟩; omega)
  refine dv 16 ?_
  (rw [a1o fK fU]; exact ⟨_, _, rfl, a3h (n := n) rfl rfl rfl (.cl rfl .nil)⟩)
 refine dv 1 ?_
 refine x0x rfl rfl rfl (b3u c n) (dc 4 (aS ?_ ?_))<;>intro h<;>try simp at h
 ·have fU : ¬ a4f n r g := by (rintro ⟨m1, m2, m3, m4, m5, m6, m7, m8⟩; omega)
  refine dv 10 ?_
  (rw [a1o fK fU]; exact ⟨_, _, rfl, a3h (n := n) rfl rfl rfl (.cl rfl .nil)⟩)
 refine dv 2 ?_
 refine x0x rfl rfl rfl (p1p ..) (dc 2 (aI ?_ ?_))<;>intro h<;>try simp at h
 ·have fU : ¬ a4f n r g := by (rintro ⟨m1, m2, m3, m4, m5, m6, m7, m8⟩; omega)
  refine dv 5 ?_
  (rw [a1o fK fU]; exact ⟨_, _, rfl, a3h (n := n) rfl rfl rfl (.cl rfl .nil)⟩)
 have fM : a4f n r g := ⟨fUp, by omega, by omega, by omega, by omega, by omega, by omega, by omega⟩
 obtain ⟨k, hk, hk3, hkn⟩ := e2f fS
 have hkl := fS.2.2.2.2.2.2.1
 obtain ⟨kn, hkv⟩ := gE n.known k
 have hKk : n.known.set n.id.toNat g = n.known.set k g := by rw [hkn]
 refine dv 13 fun K K' => ?_
 refine x4x (ι := Nat) (fun i γ1 => [(9, w7w c (a1t n g i)), (10, r9r c (a8d n g i)), (11, pI (i : Int))]) (fun i γ1 => [(13, ((0 + 1), .row 44 5 ((b1k g n.lanes i).map (q8q true)))), (3, ((γ1 3), .dead)), (4, ((γ1 4), .dead)), (5, ((γ1 5), .dead)), (6, ((γ1 6), .dead)), (7, ((γ1 7), .dead)), (8, ((γ1 8), .dead)), (9, ((γ1 9), .dead))]) (fun i => i ≤ n.lanes.length) (fun i => n.lanes.length - i) (a0f [2, 3, 6, 8] rfl) (a2k [0, 1, 2, 10, 11, 12, 14, 15, 16, 17, 18] rfl) 0 (by omega) [0, 0, 0, _, _, _, _, _, _, _] (Cov.cons' (t := 9) rfl (by rw [c0t]) (Cov.cons' (t := 10) rfl (by rw [c0u]) (x5x 11 rfl Cov.nil))) (HE.row rfl (by rw [b7d]) (HE.kill rfl (HE.kill rfl (HE.kill rfl (HE.kill rfl (HE.kill rfl (HE.kill rfl (HE.kill rfl HE.nil)))))))) rfl fun i γ1 hi => ?_
 refine dc 7 (fun K K' => aI ?_ ?_)<;>intro h<;>try simp at h
 ·obtain ⟨l, hp⟩ := gE n.lanes i
  have hkt := b5y fS g (i + 1)
  rw [b0h hp, List.length_append] at hkt
  have hot := b5z fS g (i + 1)
  rw [b0i hp, List.length_append] at hot
  have hlt2 : i < (b1k g n.lanes i).length := by rw [c8r _ _ (by omega)]; omega
  have hll := fL l (List.mem_of_getElem? hp)
  refine dv 10 fun K K' => ?_
  refine x0x rfl rfl rfl (b7r c l g hll) (dv 4 ?_)
  refine x3x (id := 3) s0s a6w rfl (dv 8 ?_)
  refine z0z (j := i) rfl rfl a5v rfl s0s rfl rfl hlt2 ?_
  refine w8w (el' := b1j g l) rfl rfl s0s rfl rfl rfl (b8x hp) rfl (a3p rfl) rfl rfl ?_
  refine dv 1 ?_
  refine v4v (id := 4) w2w rfl y9y rfl (dv 1 ?_)
  refine p2p (zs := (a1t n g i).map y3y) rfl rfl w2w rfl y9y rfl rfl rfl (w4w (fun _ => rfl) _) rfl (by (simp only [a3c, a1u, a2b, a2g, a5e, T56]; omega)) ?_
  refine dv 1 ?_
  refine a5x z9z (zs := (a1t n g i ++ b5x g l).map y3y) rfl rfl w2w rfl y9y rfl rfl rfl (w4w (fun _ => rfl) _) (a4l _ _ _) (by (simp only [a3c, a1u, a2b, a2g, a5e, T56]; omega)) (Le.ow_map _ (fun _ => rfl) (fun _ => rfl)) ?_
  refine dv 2 ?_
  refine v4v (id := 7) q5q rfl u1u rfl (dv 1 ?_)
  refine p2p (zs := (a8d n g i).map v8v) rfl rfl q5q rfl u1u rfl rfl rfl (w4w (fun _ => rfl) _) rfl (by (simp only [a3c, a1u, a2b, a2g, a5e, T141]; omega)) ?_
  refine dv 1 ?_
  refine a5x z9z (zs := (a8d n g i ++ b8d g l).map v8v) rfl rfl q5q rfl u1u rfl rfl rfl (w4w (fun _ => rfl) _) (a4l _ _ _) (by (simp only [a3c, a1u, a2b, a2g, a5e, T141]; omega)) (Le.ow_map _ (fun _ => rfl) (fun _ => rfl)) ?_
  refine dv 1 ?_
  refine c7o 9 rfl (.le rfl (Le.low_map (c := c) (l := a1t n g i ++ b5x g l) (f := y3y) fun _ => rfl) .nil) ?_
  refine c7o 10 rfl (.le rfl (Le.low_map (c := c) (l := a8d n g i ++ b8d g l) (f := v8v) fun _ => rfl) .nil) ?_
  refine dv 2 ?_
  refine u2u rfl rfl rfl (dv 1 ?_)
  exact ⟨i + 1, ⟨by omega, by omega⟩, [0, 0, 0, _, _, _, _, _, _, _], (Cov.cons' (t := 9) rfl (by rw [b0h hp]; rfl) (Cov.cons' (t := 10) rfl (by rw [b0i hp]; rfl) (Cov.cons' (t := 11) rfl (by rw [x6x (by omega) (by omega)]; rfl) Cov.nil))), y2y, (HE.row rfl (by rw [c0s hp]) (HE.kill rfl (HE.kill rfl (HE.kill rfl (HE.kill rfl (HE.kill rfl (HE.kill rfl (HE.kill rfl HE.nil)))))))), y1y, rfl⟩
 obtain rfl : i = n.lanes.length := by omega
 have hkt := b5y fS g n.lanes.length
 have hot := b5z fS g n.lanes.length
 have hkq : ∀ e ∈ w0w (a1t n g n.lanes.length), okE e = true := fun e he => c8s fS ((b2w _ _).1 he)
 have hqs := c0k (a1t n g n.lanes.length)
 refine dv 11 ?_
 refine z0z (j := k) rfl (by rw [← hk]; rfl) a0i rfl w1w rfl rfl (u3u hkv) ?_
 refine a6r (el' := g) rfl rfl w1w rfl rfl rfl hkv rfl (by omega) (.val rfl rfl .nil) rfl rfl ?_
 refine dv 1 ?_
 refine v4v (id := 10) w2w rfl y9y rfl (dv 4 ?_)
 refine x0x rfl rfl rfl (a1w c _ (by omega)) ?_
 refine dv 5 fun K K' => ?_
 refine x4x (ι := Nat) (fun j γ2 => [(15, pI (j : Int))]) (fun j γ2 => [(10, ((γ2 10), .row 56 7 ((((w0w (a1t n g n.lanes.length)).take j).filter (b2c (n.known.set k g))).map y3y))), (2, ((0 + 1), .box 65 [pI n.id, .pv (.bool n.up), pI n.inc, pI g, .ref 13 (0 + 1), .ref 10 (γ2 10), r9r true n.outs, pI n.led, pI n.version, .ref 14 (0 + 1), .ref 15 (0 + 1), pI n.round, pI n.low])), (11, ((γ2 11), .dead)), (12, ((γ2 12), .dead))]) (fun j => j ≤ (w0w (a1t n g n.lanes.length)).length) (fun j => (w0w (a1t n g n.lanes.length)).length - j) (a0f [3, 6, 8, 9, 10] rfl) (a2k [0, 1, 3, 4, 5, 6, 7, 8, 9, 13, 14, 15, 16, 17, 18] rfl) 0 (by omega) [0, 0, 0, 0, 0, 0, 0, 0, 0, 0, _, _, _] y2y (HE.row rfl (by rw [List.take_zero]; rfl) (HE.box rfl rfl (HE.kill rfl (HE.kill rfl HE.nil)))) rfl fun j γ2 hi => ?_
 refine dc 6 (fun K K' => aS ?_ ?_)<;>intro h<;>try simp at h
 ·obtain rfl : j = (w0w (a1t n g n.lanes.length)).length := by omega
  refine dv 3 ?_
  refine x0x rfl rfl rfl (a8u c _ (by omega)) ?_
  refine dv 3 fun K K' => ?_
  refine b1v 10 (xs' := (p3p n g).kept.map y3y) rfl (by simp only [p3p, hKk, c5d, List.take_length]) ?_
  refine b1v 13 (xs' := (p3p n g).lanes.map (q8q true)) rfl (by rw [c0r]; rfl) ?_
  refine b1v 15 (xs' := (p3p n g).known.map r5r) rfl (by simp only [p3p, hKk]) ?_
  refine b1t (b := c6p true (p3p n g).lanes) 2 4 rfl rfl rfl (.ref rfl (Le.ow_map _ (fun _ => rfl) (fun _ => rfl)) .nil) rfl rfl rfl rfl ?_
  refine b1t (b := w7w true (p3p n g).kept) 2 5 rfl rfl rfl (.ref rfl (Le.ow_map _ (fun _ => rfl) (fun _ => rfl)) .nil) rfl rfl rfl rfl ?_
  refine b1t (b := c6q true n.views) 2 9 rfl rfl rfl (.ref rfl (Le.ow_map _ (fun _ => rfl) (fun _ => rfl)) .nil) rfl rfl rfl rfl ?_
  refine b1t (b := a5d true (p3p n g).known) 2 10 rfl rfl rfl (.ref rfl (Le.ow_map _ (fun _ => rfl) (fun _ => rfl)) .nil) rfl rfl rfl rfl ?_
  refine dv 2 ?_
  refine x0x rfl rfl rfl (a1p true (p3p n g)) ?_
  refine dc 1 (aI ?_ ?_)<;>intro hc21<;>try simp at hc21
  ·have fX2 : ¬ w3w (p3p n g) := a4s (by simpa using hc21)
   refine dv 2 ?_
   refine rlM [16, 17, 18] [_, _, _] (z7z c n fb) rfl rfl rfl ?_
   refine dv 3 ?_
   (rw [c5e fK fM, c0x fX2]; exact ⟨_, _, rfl, a3h (n := n) rfl rfl rfl (.cl rfl .nil)⟩)
  have fK2 : w3w (p3p n g) := a4r.1 (by simpa using hc21)
  have fb2 := d0e fK2.1
  refine dv 3 ?_
  refine rlM [16, 17, 18] [_, _, _] (z7z true (p3p n g) fb2) rfl rfl rfl ?_
  refine dv 3 ?_
  (rw [c5e fK fM, c0w fK2]; exact ⟨_, _, rfl, a3h (n := p3p n g) rfl rfl rfl (.cl rfl .nil)⟩)
 obtain ⟨e, he⟩ := gE (w0w (a1t n g n.lanes.length)) j
 obtain ⟨k2, v, hk2, hv, hw⟩ := d2f (kn := n.known.set k g) (hkq e (List.mem_of_getElem? he)) (by rw [List.length_set]; exact hkl)
 have hfl : (((w0w (a1t n g n.lanes.length)).take j).filter (b2c (n.known.set k g))).length ≤ 1000000 := Nat.le_trans (List.length_filter_le _ _) (by rw [List.length_take]; omega)
 refine dv 16 fun K K' => ?_
 refine x0x rfl rfl rfl (a4y ..) ?_
 refine z0z (j := k2) rfl (by rw [← hk2]; rfl) a0i rfl w1w rfl rfl (u3u hv) ?_
 refine dc 2 (aS ?_ ?_)<;>intro h<;>try simp at h
 ·have hwf : ¬ b2c (n.known.set k g) e = true := by rw [hw]; simp; omega
  refine dv 3 ?_
  refine u2u rfl rfl rfl (dv 1 ?_)
  exact ⟨j + 1, ⟨by omega, by omega⟩, [0, 0, 0, 0, 0, 0, 0, 0, 0, 0, _, _, _], (Cov.cons' (t := 15) rfl (by rw [x6x (by omega) (by omega)]; rfl) Cov.nil), y2y, (HE.row rfl (by rw [q7q he]; rw [if_neg hwf, List.append_nil]) (HE.box rfl rfl (HE.kill rfl (HE.kill rfl HE.nil)))), y1y, rfl⟩
 have hwt : b2c (n.known.set k g) e = true := by rw [hw]; exact decide_eq_true (by omega)
 refine dv 7 ?_
 refine v7v (id := 11) w2w rfl y9y rfl rfl rfl rfl rfl rfl ?_
 refine v5v (zs := (((w0w (a1t n g n.lanes.length)).take j).filter (b2c (n.known.set k g)) ++ [e]).map y3y) rfl rfl w2w rfl y9y rfl rfl rfl rfl (by rfl) (p5p _ _ _) (by (simp only [a3c, a1u, a2b, a2g, a5e, T56]; omega)) ?_
 refine dv 4 ?_
 refine u2u rfl rfl rfl (dv 1 ?_)
 exact ⟨j + 1, ⟨by omega, by omega⟩, [0, 0, 0, 0, 0, 0, 0, 0, 0, 0, _, _, _], (Cov.cons' (t := 15) rfl (by rw [x6x (by omega) (by omega)]; rfl) Cov.nil), y2y, (HE.row rfl (by rw [q7q he]; rw [if_pos hwt]) (HE.box rfl rfl (HE.kill rfl (HE.kill rfl HE.nil)))), y1y, rfl⟩
end
section
theorem b2l (c : Bool) (n : Nd) (t : Nat) (ht : t < 3) (hk3 : n.known.length = 3) (hs : (r7r n).length ≤ 5000000) (hlen : n.lanes.length ≤ 1048576) : r0r Tryz.prog 135 [.agg (r4r c n), .pv (.int .i64 (t : Int))] (w7w true (a2p n (t : Int))) := by
 refine pX Tryz.f135 [w7w true (a2p n (t : Int))] 5 ?_
 obtain ⟨kn, hkn⟩ := gE n.known t
 rw [c8o hkn]
 refine dv 1 ?_
 refine x9x (id := 0) rfl rfl rfl (dv 3 ?_)
 refine rlM [4] [_] (b3t c n (by omega) hlen) rfl rfl rfl ?_
 refine dv 1 ?_
 refine q6q 5 rfl rfl (fun _ => rfl) ?_
 refine dv 1 ?_
 refine v4v (id := 1) w2w rfl y9y rfl (dv 5 fun K K' => ?_)
 refine x4x (ι := Nat) (fun j γ1 => [(6, .ref 1 (γ1 1)), (7, pI (j : Int))]) (fun j γ1 => [(1, ((γ1 1), .row 56 7 ((((r7r n).take j).filter (a6h (t : Int) kn)).map y3y))), (2, ((γ1 2), .dead)), (3, ((γ1 3), .dead))]) (fun j => j ≤ (r7r n).length) (fun j => (r7r n).length - j) (a0f [1, 2, 5] rfl) (a2k [0, 4] rfl) 0 (by omega) [0, _, _, _] y2y (HE.row rfl (by rw [List.take_zero]; rfl) (HE.kill rfl (HE.kill rfl HE.nil))) rfl fun j γ1 hi => ?_
 refine dc 6 (fun K K' => aS ?_ ?_)<;>intro h<;>try simp at h
 ·obtain rfl : j = (r7r n).length := by omega
  rw [List.take_length]
  refine dv 1 ?_
  refine q6q 6 rfl rfl (fun _ => rfl) ?_
  refine dv 2 ?_
  refine x0x rfl rfl rfl (a1w true ((r7r n).filter (a6h (t : Int) kn)) (Nat.le_trans (List.length_filter_le _ _) (by omega))) ?_
  refine dv 2 ?_
  refine x1x rfl rfl rfl
 obtain ⟨p, hp⟩ := gE (r7r n) j
 have hfl : (((r7r n).take j).filter (a6h (t : Int) kn)).length ≤ 5000000 := Nat.le_trans (List.length_filter_le _ _) (by rw [List.length_take]; omega)
 refine dv 9 fun K K' => ?_
 refine x0x rfl rfl rfl (a4y ..) (dc 3 (aS ?_ ?_))<;>intro hg5<;>try simp at hg5
 ·have hw : ¬ a6h (t : Int) kn p = true := by simp only [a6h, decide_eq_true_eq]; omega
  refine dv 12 ?_
  try have hw : ¬ a6h (t : Int) kn p = true := by simp only [a6h, decide_eq_true_eq]; omega
  refine dv 3 ?_
  refine u2u rfl rfl rfl (dv 1 ?_)
  exact ⟨j + 1, ⟨by omega, by omega⟩, [0, _, _, _], (x5x 6 rfl (Cov.cons' (t := 7) rfl (by rw [x6x (by omega) (by omega)]; rfl) Cov.nil)), y2y, (HE.row rfl (by rw [q7q hp]; rw [if_neg hw, List.append_nil]) (HE.kill rfl (HE.kill rfl HE.nil))), y1y, rfl⟩
 have hw1 : q0q p.to = (t : Int) := hg5
 refine dc 12 (aS ?_ ?_)<;>intro h<;>try simp at h
 ·try have hw : ¬ a6h (t : Int) kn p = true := by simp only [a6h, decide_eq_true_eq]; omega
  refine dv 3 ?_
  refine u2u rfl rfl rfl (dv 1 ?_)
  exact ⟨j + 1, ⟨by omega, by omega⟩, [0, _, _, _], (x5x 6 rfl (Cov.cons' (t := 7) rfl (by rw [x6x (by omega) (by omega)]; rfl) Cov.nil)), y2y, (HE.row rfl (by rw [q7q hp]; rw [if_neg hw, List.append_nil]) (HE.kill rfl (HE.kill rfl HE.nil))), y1y, rfl⟩
 have hw : a6h (t : Int) kn p = true := by simp only [a6h, decide_eq_true_eq]; omega
 refine dv 6 ?_
 refine v7v (id := 2) w2w rfl y9y rfl rfl rfl rfl rfl rfl ?_
 refine v5v (zs := (((r7r n).take j).filter (a6h (t : Int) kn) ++ [p]).map y3y) rfl rfl w2w rfl y9y rfl rfl rfl rfl (by rfl) (p5p _ _ _) (by (simp only [a3c, a1u, a2b, a2g, a5e, b8a, T56] at *; omega)) ?_
 refine dv 3 ?_
 refine u2u rfl rfl rfl (dv 1 ?_)
 exact ⟨j + 1, ⟨by omega, by omega⟩, [0, _, _, _], (x5x 6 rfl (Cov.cons' (t := 7) rfl (by rw [x6x (by omega) (by omega)]; rfl) Cov.nil)), y2y, (HE.row rfl (by rw [q7q hp]; rw [if_pos hw]) (HE.kill rfl (HE.kill rfl HE.nil))), y1y, rfl⟩
end
end Go.Proofs.YtlgknoapdbpojaaGreat.Am
