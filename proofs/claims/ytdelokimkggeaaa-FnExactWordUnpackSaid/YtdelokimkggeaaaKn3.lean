/- Part 3 of the texts that the proof of LawFnExactWordUnpack leans on, merged by program. -/
import Derived.Test.YtdelokimkggeaaaKn2
set_option linter.unusedVariables false
set_option linter.unusedSimpArgs false
set_option maxHeartbeats 4000000
set_option autoImplicit true
set_option relaxedAutoImplicit true
namespace Go.Proofs.Ytdelokimkggeaaa.Am
open Go Go.RowKit
section
theorem a7l (v : Int) : a1f Try.prog 69 [.pv (.int .i64 v)] (.pv (.bool (decide (0 ≤ v ∧ v ≤ 999)))) := by
 refine z5z x9x (fn := Try.f69) (by kernel_rfl) (by kernel_rfl) rfl (outs := [.pv (.bool (decide (0 ≤ v ∧ v ≤ 999)))]) (by rfl) (v2v rfl) 0 ?_
 refine x6x x9x (by rfl) ?_
 refine x2x rfl ?_
 refine x6x x9x (by rfl) ?_
 refine x0x rfl ?_
 refine z2z rfl rfl rfl (v4v ..) ?_
 refine x2x rfl ?_
 refine y4y ⟨.inr rfl, ?_⟩
 exact z0z rfl rfl rfl
theorem a7m (v : Int) : a1f Try.prog 87 [.pv (.int .i64 v)] (.pv (.bool (decide (0 ≤ v ∧ v ≤ 999)))) := by
 refine z5z x9x (fn := Try.f87) (by kernel_rfl) (by kernel_rfl) rfl (outs := [.pv (.bool (decide (0 ≤ v ∧ v ≤ 999)))]) (by rfl) (v2v rfl) 0 ?_
 refine x6x x9x (by rfl) ?_
 refine x2x rfl ?_
 refine x6x x9x (by rfl) ?_
 refine x0x rfl ?_
 refine z2z rfl rfl rfl (w6w ..) ?_
 refine x2x rfl ?_
 refine y4y ⟨.inr rfl, ?_⟩
 exact z0z rfl rfl rfl
theorem b1s (v : Int) : a1f Try.prog 82 [.pv (.int .i64 v)] (.pv (.bool (decide (0 ≤ v ∧ v ≤ 3)))) := by
 refine z5z x9x (fn := Try.f82) (by kernel_rfl) (by kernel_rfl) rfl (outs := [.pv (.bool (decide (0 ≤ v ∧ v ≤ 3)))]) (by rfl) (v2v rfl) 0 ?_
 refine x6x x9x (by rfl) ?_
 refine x2x rfl ?_
 refine x6x x9x (by rfl) ?_
 refine x0x rfl ?_
 refine z2z rfl rfl rfl (v4v ..) ?_
 refine x2x rfl ?_
 refine y4y ⟨.inr rfl, ?_⟩
 exact z0z rfl rfl rfl
theorem a9w (e : Ev) : a1f Try.prog 66 [.agg (s6s e)] (.pv (.bool (decide (a9o e)))) := by
 refine z5z x9x (fn := Try.f66) (by kernel_rfl) (by kernel_rfl) rfl (outs := [.pv (.bool (decide (a9o e)))]) (by rfl) (v2v rfl) 1 ?_
 refine x6x x9x (by rfl) ?_
 refine p6p (id := 0) rfl rfl rfl ?_
 refine x2x rfl ?_
 refine x6x x9x (by rfl) ?_
 refine x1x rfl u3u rfl rfl y3y rfl rfl ?_
 refine x3x rfl y3y rfl rfl ?_
 refine z2z rfl rfl rfl (v4v ..) ?_
 refine x0x rfl ?_
 refine a0l rfl rfl (fun hg1 => ?_) (fun hg1 => ?_)
 rotate_left
 ·try simp at hg1
  refine x5x rfl rfl ?_
  refine x5x rfl rfl ?_
  refine x8x rfl rfl ?_
  refine x0x rfl ?_
  refine x5x rfl rfl ?_
  refine x5x rfl rfl ?_
  refine x5x rfl rfl ?_
  refine x8x rfl rfl ?_
  refine x0x rfl ?_
  refine x5x rfl rfl ?_
  refine x5x rfl rfl ?_
  refine x5x rfl rfl ?_
  refine x8x rfl rfl ?_
  refine x0x rfl ?_
  refine x5x rfl rfl ?_
  refine x5x rfl rfl ?_
  refine x5x rfl rfl ?_
  refine x8x rfl rfl ?_
  refine x0x rfl ?_
  refine x5x rfl rfl ?_
  refine x5x rfl rfl ?_
  refine x5x rfl rfl ?_
  refine x8x rfl rfl ?_
  refine x0x rfl ?_
  refine x5x rfl rfl ?_
  refine x5x rfl rfl ?_
  refine x5x rfl rfl ?_
  refine x8x rfl rfl ?_
  refine x2x rfl ?_
  refine y4y ⟨.inr rfl, ?_⟩
  refine z0z rfl ?_ rfl
  exact kF (by unfold a9o; omega)
 try simp at hg1
 refine x1x rfl u3u rfl rfl y3y rfl rfl ?_
 refine z1z rfl rfl ?_
 refine x3x rfl y3y rfl rfl ?_
 refine z1z rfl rfl ?_
 refine z2z rfl rfl rfl (a6f ..) ?_
 refine z3z rfl rfl ?_
 refine x0x rfl ?_
 refine a0l rfl rfl (fun hg2 => ?_) (fun hg2 => ?_)
 rotate_left
 ·try simp at hg2
  refine x5x rfl rfl ?_
  refine x5x rfl rfl ?_
  refine x8x rfl rfl ?_
  refine x0x rfl ?_
  refine x5x rfl rfl ?_
  refine x5x rfl rfl ?_
  refine x5x rfl rfl ?_
  refine x8x rfl rfl ?_
  refine x0x rfl ?_
  refine x5x rfl rfl ?_
  refine x5x rfl rfl ?_
  refine x5x rfl rfl ?_
  refine x8x rfl rfl ?_
  refine x0x rfl ?_
  refine x5x rfl rfl ?_
  refine x5x rfl rfl ?_
  refine x5x rfl rfl ?_
  refine x8x rfl rfl ?_
  refine x0x rfl ?_
  refine x5x rfl rfl ?_
  refine x5x rfl rfl ?_
  refine x5x rfl rfl ?_
  refine x8x rfl rfl ?_
  refine x2x rfl ?_
  refine y4y ⟨.inr rfl, ?_⟩
  refine z0z rfl ?_ rfl
  exact kF (by unfold a9o; omega)
 try simp at hg2
 refine x1x rfl u3u rfl rfl y3y rfl rfl ?_
 refine z1z rfl rfl ?_
 refine x3x rfl y3y rfl rfl ?_
 refine z1z rfl rfl ?_
 refine z2z rfl rfl rfl (v4v ..) ?_
 refine z3z rfl rfl ?_
 refine x0x rfl ?_
 refine a0l rfl rfl (fun hg3 => ?_) (fun hg3 => ?_)
 rotate_left
 ·try simp at hg3
  refine x5x rfl rfl ?_
  refine x5x rfl rfl ?_
  refine x8x rfl rfl ?_
  refine x0x rfl ?_
  refine x5x rfl rfl ?_
  refine x5x rfl rfl ?_
  refine x5x rfl rfl ?_
  refine x8x rfl rfl ?_
  refine x0x rfl ?_
  refine x5x rfl rfl ?_
  refine x5x rfl rfl ?_
  refine x5x rfl rfl ?_
  refine x8x rfl rfl ?_
  refine x0x rfl ?_
  refine x5x rfl rfl ?_
  refine x5x rfl rfl ?_
  refine x5x rfl rfl ?_
  refine x8x rfl rfl ?_
  refine x2x rfl ?_
  refine y4y ⟨.inr rfl, ?_⟩
  refine z0z rfl ?_ rfl
  exact kF (by unfold a9o; omega)
 try simp at hg3
 refine x1x rfl u3u rfl rfl y3y rfl rfl ?_
 refine z1z rfl rfl ?_
 refine x3x rfl y3y rfl rfl ?_
 refine z1z rfl rfl ?_
 refine z2z rfl rfl rfl (v4v ..) ?_
 refine z3z rfl rfl ?_
 refine x0x rfl ?_
 refine a0l rfl rfl (fun hg4 => ?_) (fun hg4 => ?_)
 rotate_left
 ·try simp at hg4
  refine x5x rfl rfl ?_
  refine x5x rfl rfl ?_
  refine x8x rfl rfl ?_
  refine x0x rfl ?_
  refine x5x rfl rfl ?_
  refine x5x rfl rfl ?_
  refine x5x rfl rfl ?_
  refine x8x rfl rfl ?_
  refine x0x rfl ?_
  refine x5x rfl rfl ?_
  refine x5x rfl rfl ?_
  refine x5x rfl rfl ?_
  refine x8x rfl rfl ?_
  refine x2x rfl ?_
  refine y4y ⟨.inr rfl, ?_⟩
  refine z0z rfl ?_ rfl
  exact kF (by unfold a9o; omega)
 try simp at hg4
 refine x1x rfl u3u rfl rfl y3y rfl rfl ?_
 refine z1z rfl rfl ?_
 refine x3x rfl y3y rfl rfl ?_
 refine z1z rfl rfl ?_
 refine z2z rfl rfl rfl (v4v ..) ?_
 refine z3z rfl rfl ?_
 refine x0x rfl ?_
 refine a0l rfl rfl (fun hg5 => ?_) (fun hg5 => ?_)
 rotate_left
 ·try simp at hg5
  refine x5x rfl rfl ?_
  refine x5x rfl rfl ?_
  refine x8x rfl rfl ?_
  refine x0x rfl ?_
  refine x5x rfl rfl ?_
  refine x5x rfl rfl ?_
  refine x5x rfl rfl ?_
  refine x8x rfl rfl ?_
  refine x2x rfl ?_
  refine y4y ⟨.inr rfl, ?_⟩
  refine z0z rfl ?_ rfl
  exact kF (by unfold a9o; omega)
 try simp at hg5
 refine x1x rfl u3u rfl rfl y3y rfl rfl ?_
 refine z1z rfl rfl ?_
 refine x3x rfl y3y rfl rfl ?_
 refine z1z rfl rfl ?_
 refine z2z rfl rfl rfl (b1s ..) ?_
 refine z3z rfl rfl ?_
 refine x0x rfl ?_
 refine a0l rfl rfl (fun hg6 => ?_) (fun hg6 => ?_)
 rotate_left
 ·try simp at hg6
  refine x5x rfl rfl ?_
  refine x5x rfl rfl ?_
  refine x8x rfl rfl ?_
  refine x2x rfl ?_
  refine y4y ⟨.inr rfl, ?_⟩
  refine z0z rfl ?_ rfl
  exact kF (by unfold a9o; omega)
 try simp at hg6
 refine x1x rfl u3u rfl rfl y3y rfl rfl ?_
 refine z1z rfl rfl ?_
 refine x3x rfl y3y rfl rfl ?_
 refine z1z rfl rfl ?_
 refine z2z rfl rfl rfl (a7l ..) ?_
 refine z3z rfl rfl ?_
 refine x2x rfl ?_
 refine y4y ⟨.inr rfl, ?_⟩
 refine z0z rfl ?_ rfl
 exact congrArg (fun b : Bool => [AV.pv (.bool b)]) (decide_eq_decide.2 (by unfold a9o; omega))
theorem a7r (e : Ev) : a1f Try.prog 85 [.agg (s6s e)] (.pv (.bool (decide (a9o e)))) := by
 refine z5z x9x (fn := Try.f85) (by kernel_rfl) (by kernel_rfl) rfl (outs := [.pv (.bool (decide (a9o e)))]) (by rfl) (v2v rfl) 1 ?_
 refine x6x x9x (by rfl) ?_
 refine p6p (id := 0) rfl rfl rfl ?_
 refine x2x rfl ?_
 refine x6x x9x (by rfl) ?_
 refine x1x rfl u3u rfl rfl y3y rfl rfl ?_
 refine x3x rfl y3y rfl rfl ?_
 refine z2z rfl rfl rfl (w6w ..) ?_
 refine x0x rfl ?_
 refine a0l rfl rfl (fun hg1 => ?_) (fun hg1 => ?_)
 rotate_left
 ·try simp at hg1
  refine x5x rfl rfl ?_
  refine x5x rfl rfl ?_
  refine x8x rfl rfl ?_
  refine x0x rfl ?_
  refine x5x rfl rfl ?_
  refine x5x rfl rfl ?_
  refine x5x rfl rfl ?_
  refine x8x rfl rfl ?_
  refine x0x rfl ?_
  refine x5x rfl rfl ?_
  refine x5x rfl rfl ?_
  refine x5x rfl rfl ?_
  refine x8x rfl rfl ?_
  refine x0x rfl ?_
  refine x5x rfl rfl ?_
  refine x5x rfl rfl ?_
  refine x5x rfl rfl ?_
  refine x8x rfl rfl ?_
  refine x0x rfl ?_
  refine x5x rfl rfl ?_
  refine x5x rfl rfl ?_
  refine x5x rfl rfl ?_
  refine x8x rfl rfl ?_
  refine x0x rfl ?_
  refine x5x rfl rfl ?_
  refine x5x rfl rfl ?_
  refine x5x rfl rfl ?_
  refine x8x rfl rfl ?_
  refine x2x rfl ?_
  refine y4y ⟨.inr rfl, ?_⟩
  refine z0z rfl ?_ rfl
  exact kF (by unfold a9o; omega)
 try simp at hg1
 refine x1x rfl u3u rfl rfl y3y rfl rfl ?_
 refine z1z rfl rfl ?_
 refine x3x rfl y3y rfl rfl ?_
 refine z1z rfl rfl ?_
 refine z2z rfl rfl rfl (a6g ..) ?_
 refine z3z rfl rfl ?_
 refine x0x rfl ?_
 refine a0l rfl rfl (fun hg2 => ?_) (fun hg2 => ?_)
 rotate_left
 ·try simp at hg2
  refine x5x rfl rfl ?_
  refine x5x rfl rfl ?_
  refine x8x rfl rfl ?_
  refine x0x rfl ?_
  refine x5x rfl rfl ?_
  refine x5x rfl rfl ?_
  refine x5x rfl rfl ?_
  refine x8x rfl rfl ?_
  refine x0x rfl ?_
  refine x5x rfl rfl ?_
  refine x5x rfl rfl ?_
  refine x5x rfl rfl ?_
  refine x8x rfl rfl ?_
  refine x0x rfl ?_
  refine x5x rfl rfl ?_
  refine x5x rfl rfl ?_
  refine x5x rfl rfl ?_
  refine x8x rfl rfl ?_
  refine x0x rfl ?_
  refine x5x rfl rfl ?_
  refine x5x rfl rfl ?_
  refine x5x rfl rfl ?_
  refine x8x rfl rfl ?_
  refine x2x rfl ?_
  refine y4y ⟨.inr rfl, ?_⟩
  refine z0z rfl ?_ rfl
  exact kF (by unfold a9o; omega)
 try simp at hg2
 refine x1x rfl u3u rfl rfl y3y rfl rfl ?_
 refine z1z rfl rfl ?_
 refine x3x rfl y3y rfl rfl ?_
 refine z1z rfl rfl ?_
 refine z2z rfl rfl rfl (w6w ..) ?_
 refine z3z rfl rfl ?_
 refine x0x rfl ?_
 refine a0l rfl rfl (fun hg3 => ?_) (fun hg3 => ?_)
 rotate_left
 ·try simp at hg3
  refine x5x rfl rfl ?_
  refine x5x rfl rfl ?_
  refine x8x rfl rfl ?_
  refine x0x rfl ?_
  refine x5x rfl rfl ?_
  refine x5x rfl rfl ?_
  refine x5x rfl rfl ?_
  refine x8x rfl rfl ?_
  refine x0x rfl ?_
  refine x5x rfl rfl ?_
  refine x5x rfl rfl ?_
  refine x5x rfl rfl ?_
  refine x8x rfl rfl ?_
  refine x0x rfl ?_
  refine x5x rfl rfl ?_
  refine x5x rfl rfl ?_
  refine x5x rfl rfl ?_
  refine x8x rfl rfl ?_
  refine x2x rfl ?_
  refine y4y ⟨.inr rfl, ?_⟩
  refine z0z rfl ?_ rfl
  exact kF (by unfold a9o; omega)
 try simp at hg3
 refine x1x rfl u3u rfl rfl y3y rfl rfl ?_
 refine z1z rfl rfl ?_
 refine x3x rfl y3y rfl rfl ?_
 refine z1z rfl rfl ?_
 refine z2z rfl rfl rfl (w6w ..) ?_
 refine z3z rfl rfl ?_
 refine x0x rfl ?_
 refine a0l rfl rfl (fun hg4 => ?_) (fun hg4 => ?_)
 rotate_left
 ·try simp at hg4
  refine x5x rfl rfl ?_
  refine x5x rfl rfl ?_
  refine x8x rfl rfl ?_
  refine x0x rfl ?_
  refine x5x rfl rfl ?_
  refine x5x rfl rfl ?_
  refine x5x rfl rfl ?_
  refine x8x rfl rfl ?_
  refine x0x rfl ?_
  refine x5x rfl rfl ?_
  refine x5x rfl rfl ?_
  refine x5x rfl rfl ?_
  refine x8x rfl rfl ?_
  refine x2x rfl ?_
  refine y4y ⟨.inr rfl, ?_⟩
  refine z0z rfl ?_ rfl
  exact kF (by unfold a9o; omega)
 try simp at hg4
 refine x1x rfl u3u rfl rfl y3y rfl rfl ?_
 refine z1z rfl rfl ?_
 refine x3x rfl y3y rfl rfl ?_
 refine z1z rfl rfl ?_
 refine z2z rfl rfl rfl (w6w ..) ?_
 refine z3z rfl rfl ?_
 refine x0x rfl ?_
 refine a0l rfl rfl (fun hg5 => ?_) (fun hg5 => ?_)
 rotate_left
 ·try simp at hg5
  refine x5x rfl rfl ?_
  refine x5x rfl rfl ?_
  refine x8x rfl rfl ?_
  refine x0x rfl ?_
  refine x5x rfl rfl ?_
  refine x5x rfl rfl ?_
  refine x5x rfl rfl ?_
  refine x8x rfl rfl ?_
  refine x2x rfl ?_
  refine y4y ⟨.inr rfl, ?_⟩
  refine z0z rfl ?_ rfl
  exact kF (by unfold a9o; omega)
 try simp at hg5
 refine x1x rfl u3u rfl rfl y3y rfl rfl ?_
 refine z1z rfl rfl ?_
 refine x3x rfl y3y rfl rfl ?_
 refine z1z rfl rfl ?_
 refine z2z rfl rfl rfl (w6w ..) ?_
 refine z3z rfl rfl ?_
 refine x0x rfl ?_
 refine a0l rfl rfl (fun hg6 => ?_) (fun hg6 => ?_)
 rotate_left
 ·try simp at hg6
  refine x5x rfl rfl ?_
  refine x5x rfl rfl ?_
  refine x8x rfl rfl ?_
  refine x2x rfl ?_
  refine y4y ⟨.inr rfl, ?_⟩
  refine z0z rfl ?_ rfl
  exact kF (by unfold a9o; omega)
 try simp at hg6
 refine x1x rfl u3u rfl rfl y3y rfl rfl ?_
 refine z1z rfl rfl ?_
 refine x3x rfl y3y rfl rfl ?_
 refine z1z rfl rfl ?_
 refine z2z rfl rfl rfl (a7m ..) ?_
 refine z3z rfl rfl ?_
 refine x2x rfl ?_
 refine y4y ⟨.inr rfl, ?_⟩
 refine z0z rfl ?_ rfl
 exact congrArg (fun b : Bool => [AV.pv (.bool b)]) (decide_eq_decide.2 (by unfold a9o; omega))
theorem a7s (a b : Ev) : a1f Try.prog 79 [.agg (s6s a), .agg (s6s b)] (.pv (.bool (a6u a b))) := by
 refine z5z x9x (fn := Try.f79) (by kernel_rfl) (by kernel_rfl) rfl (outs := [.pv (.bool (a6u a b))]) (by rfl) (v2v rfl) 2 ?_
 refine x6x x9x (by rfl) ?_
 refine p6p (id := 0) rfl rfl rfl ?_
 refine p6p (id := 1) rfl rfl rfl ?_
 refine x2x rfl ?_
 refine x4x fun K1 hK1 => ?_
 refine y5y ?_
 refine x6x x9x (by rfl) ?_
 refine x1x rfl u3u rfl rfl y3y rfl rfl ?_
 refine x3x rfl y3y rfl rfl ?_
 refine x1x rfl u3u rfl rfl y3y rfl rfl ?_
 refine x3x rfl y3y rfl rfl ?_
 refine y6y rfl rfl rfl ?_
 refine x2x rfl ?_
 refine y0y rfl (fun hc2 => ?_) (fun hc2 => ?_)
 ·try simp at hc2
  refine x6x x9x (by rfl) ?_
  refine x1x rfl u3u rfl rfl y3y rfl rfl ?_
  refine x3x rfl y3y rfl rfl ?_
  refine x1x rfl u3u rfl rfl y3y rfl rfl ?_
  refine x3x rfl y3y rfl rfl ?_
  refine y6y rfl rfl rfl ?_
  refine x2x rfl ?_
  refine y4y ⟨.inr rfl, ?_⟩
  clear hK1 K1
  refine z0z rfl ?_ rfl
  rw [a3e]
  exact congrArg (fun b : Bool => [AV.pv (.bool b)]) (decide_eq_decide.2 (by unfold b7y; omega))
 try simp at hc2
 refine x6x x9x (by rfl) ?_
 refine x1x rfl u3u rfl rfl y3y rfl rfl ?_
 refine x3x rfl y3y rfl rfl ?_
 refine x1x rfl u3u rfl rfl y3y rfl rfl ?_
 refine x3x rfl y3y rfl rfl ?_
 refine y6y rfl rfl rfl ?_
 refine x2x rfl ?_
 refine y0y rfl (fun hc3 => ?_) (fun hc3 => ?_)
 ·try simp at hc3
  refine x6x x9x (by rfl) ?_
  refine x1x rfl u3u rfl rfl y3y rfl rfl ?_
  refine x3x rfl y3y rfl rfl ?_
  refine x1x rfl u3u rfl rfl y3y rfl rfl ?_
  refine x3x rfl y3y rfl rfl ?_
  refine y6y rfl rfl rfl ?_
  refine x2x rfl ?_
  refine y4y ⟨.inr rfl, ?_⟩
  clear hK1 K1
  refine z0z rfl ?_ rfl
  rw [a3e]
  exact congrArg (fun b : Bool => [AV.pv (.bool b)]) (decide_eq_decide.2 (by unfold b7y; omega))
 try simp at hc3
 refine x6x x9x (by rfl) ?_
 refine x1x rfl u3u rfl rfl y3y rfl rfl ?_
 refine x3x rfl y3y rfl rfl ?_
 refine x1x rfl u3u rfl rfl y3y rfl rfl ?_
 refine x3x rfl y3y rfl rfl ?_
 refine y6y rfl rfl rfl ?_
 refine x2x rfl ?_
 refine y0y rfl (fun hc4 => ?_) (fun hc4 => ?_)
 ·try simp at hc4
  refine x6x x9x (by rfl) ?_
  refine x1x rfl u3u rfl rfl y3y rfl rfl ?_
  refine x3x rfl y3y rfl rfl ?_
  refine x1x rfl u3u rfl rfl y3y rfl rfl ?_
  refine x3x rfl y3y rfl rfl ?_
  refine y6y rfl rfl rfl ?_
  refine x2x rfl ?_
  refine y4y ⟨.inr rfl, ?_⟩
  clear hK1 K1
  refine z0z rfl ?_ rfl
  rw [a3e]
  exact congrArg (fun b : Bool => [AV.pv (.bool b)]) (decide_eq_decide.2 (by unfold b7y; omega))
 try simp at hc4
 refine x6x x9x (by rfl) ?_
 refine x1x rfl u3u rfl rfl y3y rfl rfl ?_
 refine x3x rfl y3y rfl rfl ?_
 refine x1x rfl u3u rfl rfl y3y rfl rfl ?_
 refine x3x rfl y3y rfl rfl ?_
 refine y6y rfl rfl rfl ?_
 refine x2x rfl ?_
 refine y0y rfl (fun hc5 => ?_) (fun hc5 => ?_)
 ·try simp at hc5
  refine x6x x9x (by rfl) ?_
  refine x1x rfl u3u rfl rfl y3y rfl rfl ?_
  refine x3x rfl y3y rfl rfl ?_
  refine x1x rfl u3u rfl rfl y3y rfl rfl ?_
  refine x3x rfl y3y rfl rfl ?_
  refine y6y rfl rfl rfl ?_
  refine x2x rfl ?_
  refine y4y ⟨.inr rfl, ?_⟩
  clear hK1 K1
  refine z0z rfl ?_ rfl
  rw [a3e]
  exact congrArg (fun b : Bool => [AV.pv (.bool b)]) (decide_eq_decide.2 (by unfold b7y; omega))
 try simp at hc5
 refine x6x x9x (by rfl) ?_
 refine x1x rfl u3u rfl rfl y3y rfl rfl ?_
 refine x3x rfl y3y rfl rfl ?_
 refine x1x rfl u3u rfl rfl y3y rfl rfl ?_
 refine x3x rfl y3y rfl rfl ?_
 refine y6y rfl rfl rfl ?_
 refine x2x rfl ?_
 refine y0y rfl (fun hc6 => ?_) (fun hc6 => ?_)
 ·try simp at hc6
  refine x6x x9x (by rfl) ?_
  refine x1x rfl u3u rfl rfl y3y rfl rfl ?_
  refine x3x rfl y3y rfl rfl ?_
  refine x1x rfl u3u rfl rfl y3y rfl rfl ?_
  refine x3x rfl y3y rfl rfl ?_
  refine y6y rfl rfl rfl ?_
  refine x2x rfl ?_
  refine y4y ⟨.inr rfl, ?_⟩
  clear hK1 K1
  refine z0z rfl ?_ rfl
  rw [a3e]
  exact congrArg (fun b : Bool => [AV.pv (.bool b)]) (decide_eq_decide.2 (by unfold b7y; omega))
 try simp at hc6
 refine x6x x9x (by rfl) ?_
 refine x1x rfl u3u rfl rfl y3y rfl rfl ?_
 refine x3x rfl y3y rfl rfl ?_
 refine x1x rfl u3u rfl rfl y3y rfl rfl ?_
 refine x3x rfl y3y rfl rfl ?_
 refine y6y rfl rfl rfl ?_
 refine x2x rfl ?_
 refine y0y rfl (fun hc7 => ?_) (fun hc7 => ?_)
 ·try simp at hc7
  refine x6x x9x (by rfl) ?_
  refine x1x rfl u3u rfl rfl y3y rfl rfl ?_
  refine x3x rfl y3y rfl rfl ?_
  refine x1x rfl u3u rfl rfl y3y rfl rfl ?_
  refine x3x rfl y3y rfl rfl ?_
  refine y6y rfl rfl rfl ?_
  refine x2x rfl ?_
  refine y4y ⟨.inr rfl, ?_⟩
  clear hK1 K1
  refine z0z rfl ?_ rfl
  rw [a3e]
  exact congrArg (fun b : Bool => [AV.pv (.bool b)]) (decide_eq_decide.2 (by unfold b7y; omega))
 try simp at hc7
 refine y1y ?_
 refine hK1 _ _ ?_
 clear hK1 K1
 refine x6x x9x (by rfl) ?_
 refine x1x rfl u3u rfl rfl y3y rfl rfl ?_
 refine x3x rfl y3y rfl rfl ?_
 refine x1x rfl u3u rfl rfl y3y rfl rfl ?_
 refine x3x rfl y3y rfl rfl ?_
 refine y6y rfl rfl rfl ?_
 refine x2x rfl ?_
 refine y4y ⟨.inr rfl, ?_⟩
 refine z0z rfl ?_ rfl
 rw [a3e]
 exact congrArg (fun b : Bool => [AV.pv (.bool b)]) (decide_eq_decide.2 (by unfold b7y; omega))
theorem a9x (a b : Ou) : a1f Try.prog 81 [.agg (a0n a), .agg (a0n b)] (.pv (.bool (b0h a b))) := by
 refine z5z x9x (fn := Try.f81) (by kernel_rfl) (by kernel_rfl) rfl (outs := [.pv (.bool (b0h a b))]) (by rfl) (v2v rfl) 2 ?_
 refine x6x x9x (by rfl) ?_
 refine p6p (id := 0) rfl rfl rfl ?_
 refine p6p (id := 1) rfl rfl rfl ?_
 refine x2x rfl ?_
 refine x4x fun K1 hK1 => ?_
 refine y5y ?_
 refine x6x x9x (by rfl) ?_
 refine x1x rfl u7u rfl rfl y3y rfl rfl ?_
 refine x3x rfl y3y rfl rfl ?_
 refine x1x rfl u7u rfl rfl y3y rfl rfl ?_
 refine x3x rfl y3y rfl rfl ?_
 refine y6y rfl rfl rfl ?_
 refine x2x rfl ?_
 refine y0y rfl (fun hc2 => ?_) (fun hc2 => ?_)
 ·try simp at hc2
  refine x6x x9x (by rfl) ?_
  refine x1x rfl u7u rfl rfl y3y rfl rfl ?_
  refine x3x rfl y3y rfl rfl ?_
  refine x1x rfl u7u rfl rfl y3y rfl rfl ?_
  refine x3x rfl y3y rfl rfl ?_
  refine y6y rfl rfl rfl ?_
  refine x2x rfl ?_
  refine y4y ⟨.inr rfl, ?_⟩
  clear hK1 K1
  refine z0z rfl ?_ rfl
  rw [a5y]
  exact congrArg (fun b : Bool => [AV.pv (.bool b)]) (decide_eq_decide.2 (by unfold b9q; omega))
 try simp at hc2
 refine x6x x9x (by rfl) ?_
 refine x1x rfl u7u rfl rfl y3y rfl rfl ?_
 refine x3x rfl y3y rfl rfl ?_
 refine x1x rfl u7u rfl rfl y3y rfl rfl ?_
 refine x3x rfl y3y rfl rfl ?_
 refine y6y rfl rfl rfl ?_
 refine x2x rfl ?_
 refine y0y rfl (fun hc3 => ?_) (fun hc3 => ?_)
 ·try simp at hc3
  refine x6x x9x (by rfl) ?_
  refine x1x rfl u7u rfl rfl y3y rfl rfl ?_
  refine x3x rfl y3y rfl rfl ?_
  refine x1x rfl u7u rfl rfl y3y rfl rfl ?_
  refine x3x rfl y3y rfl rfl ?_
  refine y6y rfl rfl rfl ?_
  refine x2x rfl ?_
  refine y4y ⟨.inr rfl, ?_⟩
  clear hK1 K1
  refine z0z rfl ?_ rfl
  rw [a5y]
  exact congrArg (fun b : Bool => [AV.pv (.bool b)]) (decide_eq_decide.2 (by unfold b9q; omega))
 try simp at hc3
 refine x6x x9x (by rfl) ?_
 refine x1x rfl u7u rfl rfl y3y rfl rfl ?_
 refine x3x rfl y3y rfl rfl ?_
 refine x1x rfl u7u rfl rfl y3y rfl rfl ?_
 refine x3x rfl y3y rfl rfl ?_
 refine y6y rfl rfl rfl ?_
 refine x2x rfl ?_
 refine y0y rfl (fun hc4 => ?_) (fun hc4 => ?_)
 ·try simp at hc4
  refine x6x x9x (by rfl) ?_
  refine x1x rfl u7u rfl rfl y3y rfl rfl ?_
  refine x3x rfl y3y rfl rfl ?_
  refine x1x rfl u7u rfl rfl y3y rfl rfl ?_
  refine x3x rfl y3y rfl rfl ?_
  refine y6y rfl rfl rfl ?_
  refine x2x rfl ?_
  refine y4y ⟨.inr rfl, ?_⟩
  clear hK1 K1
  refine z0z rfl ?_ rfl
  rw [a5y]
  exact congrArg (fun b : Bool => [AV.pv (.bool b)]) (decide_eq_decide.2 (by unfold b9q; omega))
 try simp at hc4
 refine x6x x9x (by rfl) ?_
 refine x1x rfl u7u rfl rfl y3y rfl rfl ?_
 refine x3x rfl y3y rfl rfl ?_
 refine x1x rfl u7u rfl rfl y3y rfl rfl ?_
 refine x3x rfl y3y rfl rfl ?_
 refine y6y rfl rfl rfl ?_
 refine x2x rfl ?_
 refine y0y rfl (fun hc5 => ?_) (fun hc5 => ?_)
 ·try simp at hc5
  refine x6x x9x (by rfl) ?_
  refine x1x rfl u7u rfl rfl y3y rfl rfl ?_
  refine x3x rfl y3y rfl rfl ?_
  refine x1x rfl u7u rfl rfl y3y rfl rfl ?_
  refine x3x rfl y3y rfl rfl ?_
  refine y6y rfl rfl rfl ?_
  refine x2x rfl ?_
  refine y4y ⟨.inr rfl, ?_⟩
  clear hK1 K1
  refine z0z rfl ?_ rfl
  rw [a5y]
  exact congrArg (fun b : Bool => [AV.pv (.bool b)]) (decide_eq_decide.2 (by unfold b9q; omega))
 try simp at hc5
 refine y1y ?_
 refine hK1 _ _ ?_
 clear hK1 K1
 refine x6x x9x (by rfl) ?_
 refine x1x rfl u7u rfl rfl y3y rfl rfl ?_
 refine x3x rfl y3y rfl rfl ?_
 refine x1x rfl u7u rfl rfl y3y rfl rfl ?_
 refine x3x rfl y3y rfl rfl ?_
 refine y6y rfl rfl rfl ?_
 refine x2x rfl ?_
 refine y4y ⟨.inr rfl, ?_⟩
 refine z0z rfl ?_ rfl
 rw [a5y]
 exact congrArg (fun b : Bool => [AV.pv (.bool b)]) (decide_eq_decide.2 (by unfold b9q; omega))
theorem a9y (a b : Ou) : a1f Try.prog 70 [.agg (a0n a), .agg (a0n b)] (.pv (.bool (b0h a b))) := by
 refine z5z x9x (fn := Try.f70) (by kernel_rfl) (by kernel_rfl) rfl (outs := [.pv (.bool (b0h a b))]) (by rfl) (v2v rfl) 4 ?_
 refine x6x x9x (by rfl) ?_
 refine p6p (id := 0) rfl rfl rfl ?_
 refine p6p (id := 1) rfl rfl rfl ?_
 refine x2x rfl ?_
 refine x6x x9x (by rfl) ?_
 refine x1x rfl u7u rfl rfl y3y rfl rfl ?_
 refine x3x rfl y3y rfl rfl ?_
 refine x1x rfl u7u rfl rfl y3y rfl rfl ?_
 refine x3x rfl y3y rfl rfl ?_
 refine x1x rfl u7u rfl rfl y3y rfl rfl ?_
 refine x3x rfl y3y rfl rfl ?_
 refine x1x rfl u7u rfl rfl y3y rfl rfl ?_
 refine x3x rfl y3y rfl rfl ?_
 refine x1x rfl u7u rfl rfl y3y rfl rfl ?_
 refine x3x rfl y3y rfl rfl ?_
 refine a5j x9x a7i rfl y3y b4v rfl (by simp only [pI, y3y, a6s, List.range, List.range.loop, List.map_cons, List.map_nil, a0z, p1p, AV.okc, AV.one, Value.oneCell', T3, T4, List.getElem?_cons_zero, List.getElem?_cons_succ, List.take_succ_cons, List.take_zero, List.drop_succ_cons, List.drop_zero, List.cons_append, List.nil_append, List.length_cons, List.length_nil, if_true, and_self, Nat.reduceAdd, Nat.reduceMul, Nat.reduceLeDiff]; rfl) ?_
 refine q0q (id := 2) a7i b4v rfl ?_
 refine v6v rfl rfl a7i rfl rfl rfl rfl ?_
 refine x6x x9x (by rfl) ?_
 refine x1x rfl u7u rfl rfl y3y rfl rfl ?_
 refine x3x rfl y3y rfl rfl ?_
 refine x1x rfl u7u rfl rfl y3y rfl rfl ?_
 refine x3x rfl y3y rfl rfl ?_
 refine x1x rfl u7u rfl rfl y3y rfl rfl ?_
 refine x3x rfl y3y rfl rfl ?_
 refine x1x rfl u7u rfl rfl y3y rfl rfl ?_
 refine x3x rfl y3y rfl rfl ?_
 refine x1x rfl u7u rfl rfl y3y rfl rfl ?_
 refine x3x rfl y3y rfl rfl ?_
 refine a5j x9x a7i rfl y3y b4v rfl (by simp only [pI, y3y, a6s, List.range, List.range.loop, List.map_cons, List.map_nil, a0z, p1p, AV.okc, AV.one, Value.oneCell', T3, T4, List.getElem?_cons_zero, List.getElem?_cons_succ, List.take_succ_cons, List.take_zero, List.drop_succ_cons, List.drop_zero, List.cons_append, List.nil_append, List.length_cons, List.length_nil, if_true, and_self, Nat.reduceAdd, Nat.reduceMul, Nat.reduceLeDiff]; rfl) ?_
 refine q0q (id := 3) a7i b4v rfl ?_
 refine v6v rfl rfl a7i rfl rfl rfl rfl ?_
 refine q5q x9x s9s (by rfl) ?_
 refine b4w x9x rfl a7i rfl y3y rfl ?_
 refine b4w x9x rfl a7i rfl y3y rfl ?_
 refine z6z [2, 3] [_, _] (a0t (ouL a) (ouL b) rfl (v2v rfl) 120) rfl rfl rfl (by decide) rfl rfl (by repeat (first | exact InH.nil | refine InH.cons rfl ?_)) (by (simp only [pI, y8y, y9y, w5w, gl, nx, w0w, Nat.beq]; rfl)) (by (simp only [pI, y8y, y9y, w5w, gl, nx, w0w, Nat.beq]; rfl)) ?_
 refine y6y rfl rfl rfl ?_
 refine x2x rfl ?_
 refine ⟨by kernel_rfl, ?_⟩
 refine y4y ⟨.inr rfl, ?_⟩
 refine z0z rfl ?_ rfl
 simp only [b0h, ← b1e (ouL a) (ouL b) rfl]
theorem a9d (c : Bool) (l : List Ev) (most : Int) : a1f Try.prog 34 [b2x c l, .pv (.int .i64 most)] (.pv (.bool (a7w okE a6u l most))) := by
 refine z5z x9x (fn := Try.f34) (by kernel_rfl) (by kernel_rfl) rfl (outs := [.pv (.bool (a7w okE a6u l most))]) (by rfl) (v2v rfl) 1 ?_
 refine q6q 0 rfl fun hlen => ?_
 refine x6x x9x (by rfl) ?_
 refine x2x rfl ?_
 refine x4x fun K1 hK1 => ?_
 refine x6x x9x (by rfl) ?_
 refine x0x rfl ?_
 refine u6u rfl w8w rfl ?_
 refine x0x rfl ?_
 refine y6y rfl rfl rfl ?_
 refine y0y rfl (fun hc2 => ?_) (fun hc2 => ?_)
 ·try simp at hc2
  refine x6x x9x (by rfl) ?_
  refine x2x rfl ?_
  refine y4y ⟨.inr rfl, ?_⟩
  clear hK1 K1
  refine z0z rfl ?_ rfl
  exact congrArg (fun b : Bool => [AV.pv (.bool b)]) (a5x (by omega)).symm
 try simp at hc2
 refine y1y ?_
 refine hK1 _ _ ?_
 clear hK1 K1
 refine x4x fun K3 hK3 => ?_
 refine x6x x9x (by rfl) ?_
 refine x0x rfl ?_
 refine u6u rfl w8w rfl ?_
 refine x0x rfl ?_
 refine y5y ?_
 refine v1v (ι := Nat) (fun i γ1 => [(13, .pv (.int .i64 (i : Int)))]) (fun i γ1 => [(0, ((γ1 0), .dead))]) (fun i => i ≤ l.length ∧ a7w okE a6u l most = a6y okE a6u (a7o l i) (l.drop i)) (fun i => l.length - i) (x7x 0 rfl (x7x 11 rfl (x7x 12 rfl Cov.nil))) HE.nil 0 ⟨by omega, b1g (by omega)⟩ [_] (x7x 13 rfl Cov.nil) (HE.kill rfl HE.nil) rfl fun i γ1 hi => ?_
 try dsimp only [List.cons_append, List.nil_append]
 obtain ⟨h1, h2⟩ := hi
 refine x6x x9x (by rfl) ?_
 refine y6y rfl rfl rfl ?_
 refine x4x fun K4 hK4 => ?_
 refine y0y rfl (fun hc5 => ?_) (fun hc5 => ?_)
 rotate_left
 ·try simp at hc5
  obtain rfl : i = l.length := by omega
  rw [List.drop_length] at h2
  refine v3v ?_
  refine hK3 _ _ ?_
  clear hK4 K4 hK3 K3
  refine x6x x9x (by rfl) ?_
  refine x2x rfl ?_
  refine y4y ⟨.inr rfl, ?_⟩
  refine z0z rfl ?_ rfl
  exact congrArg (fun b : Bool => [AV.pv (.bool b)]) h2.symm
 try simp at hc5
 obtain ⟨p, hp⟩ : ∃ p, l[i]? = some p := r5r (by omega)
 rw [a0w hp] at h2
 refine y1y ?_
 refine hK4 _ _ ?_
 clear hK4 K4
 refine x4x fun K6 hK6 => ?_
 refine y5y ?_
 refine x6x x9x (by rfl) ?_
 refine x0x rfl ?_
 refine z9z rfl rfl w8w rfl u3u rfl hp ?_
 refine p4p rfl u3u rfl rfl ?_
 refine q0q (id := 0) u3u b7h rfl ?_
 refine x2x rfl ?_
 refine v6v rfl rfl u3u rfl rfl rfl rfl ?_
 refine q5q x9x s9s (by rfl) ?_
 refine u2u rfl u3u rfl rfl rfl ?_
 refine z2z rfl rfl rfl (a9w ..) ?_
 refine q1q rfl ?_
 refine x0x rfl ?_
 refine a0l rfl rfl (fun hg7 => ?_) (fun hg7 => ?_)
 rotate_left
 ·try simp at hg7
  have hbad : okE p = false := by simpa [okE] using hg7
  refine x5x rfl rfl ?_
  refine x5x rfl rfl ?_
  refine p2p rfl rfl ?_
  refine p2p rfl rfl ?_
  refine p2p rfl rfl ?_
  refine p2p rfl rfl ?_
  refine p2p rfl rfl ?_
  refine p2p rfl rfl ?_
  refine p2p rfl rfl ?_
  refine p2p rfl rfl ?_
  refine x5x rfl rfl ?_
  refine z3z rfl rfl ?_
  refine ⟨by kernel_rfl, ?_⟩
  refine y0y rfl (fun hc11 => ?_) (fun hc11 => ?_)
  rotate_left
  ·simp at hc11
  try simp at hc11
  try have hlt := hc11
  refine x6x x9x (by rfl) ?_
  refine x2x rfl ?_
  refine y4y ⟨.inr rfl, ?_⟩
  clear hK6 K6 hK3 K3
  refine z0z rfl ?_ rfl
  exact congrArg (fun b : Bool => [AV.pv (.bool b)]) (h2.trans (a2c _ _ hbad)).symm
 try simp at hg7
 have hok : okE p = true := by simpa [okE] using hg7
 refine x0x rfl ?_
 refine z1z rfl rfl ?_
 refine y6y rfl rfl rfl ?_
 refine z1z rfl rfl ?_
 refine x0x rfl ?_
 refine a0l rfl rfl (fun hg8 => ?_) (fun hg8 => ?_)
 rotate_left
 ·try simp at hg8
  have hi0 : i = 0 := by omega
  have hlast : a7o l i = none := by rw [hi0]; rfl
  rw [hlast] at h2
  refine x5x rfl rfl ?_
  refine x5x rfl rfl ?_
  refine x5x rfl rfl ?_
  refine x5x rfl rfl ?_
  refine x5x rfl rfl ?_
  refine x5x rfl rfl ?_
  refine x5x rfl rfl ?_
  refine z1z rfl rfl ?_
  refine x8x rfl rfl ?_
  refine x8x rfl rfl ?_
  refine ⟨by kernel_rfl, ?_⟩
  refine y0y rfl (fun hc10 => ?_) (fun hc10 => ?_)
  ·simp at hc10
  try simp at hc10
  try have hlt := hc10
  refine y1y ?_
  refine hK6 _ _ ?_
  clear hK6 K6
  refine y2y x9x (by rfl) ?_
  refine v0v (b := 1) rfl rfl (by omega) ?_
  refine x0x rfl ?_
  exact ⟨i + 1, ⟨⟨by omega, by rw [h2]; show _ = a6y okE a6u l[i]? _; rw [hp]; exact a4q _ _ hok⟩, by omega⟩, [_], (x7x 13 rfl Cov.nil), (x7x 0 rfl (x7x 11 rfl (x7x 12 rfl Cov.nil))), (HE.kill rfl HE.nil), HE.nil, rfl⟩
 try simp at hg8
 have hi0 : 0 < i := by omega
 obtain ⟨b, hb⟩ : ∃ b, l[i - 1]? = some b := r5r (by omega)
 have hlast : a7o l i = some b := by obtain ⟨j, rfl⟩ : ∃ j, i = j + 1 := ⟨i - 1, by omega⟩; exact hb
 rw [hlast] at h2
 refine x0x rfl ?_
 refine z1z rfl rfl ?_
 refine x0x rfl ?_
 refine z1z rfl rfl ?_
 refine b0y (b := 1) rfl rfl (by omega) (by omega) ?_
 refine z1z rfl rfl ?_
 refine z9z rfl rfl w8w rfl u3u rfl hb ?_
 refine z1z rfl rfl ?_
 refine p4p rfl u3u rfl rfl ?_
 refine z1z rfl rfl ?_
 refine u2u rfl u3u rfl rfl rfl ?_
 refine z1z rfl rfl ?_
 refine z2z rfl rfl rfl (a7q ..) ?_
 refine z1z rfl rfl ?_
 refine q1q rfl ?_
 refine z1z rfl rfl ?_
 refine z3z rfl rfl ?_
 refine x8x rfl rfl ?_
 refine ⟨by kernel_rfl, ?_⟩
 refine y0y rfl (fun hc9 => ?_) (fun hc9 => ?_)
 rotate_left
 ·try simp at hc9
  try have hlt := hc9
  refine y1y ?_
  refine hK6 _ _ ?_
  clear hK6 K6
  refine y2y x9x (by rfl) ?_
  refine v0v (b := 1) rfl rfl (by omega) ?_
  refine x0x rfl ?_
  exact ⟨i + 1, ⟨⟨by omega, by rw [h2]; show _ = a6y okE a6u l[i]? _; rw [hp]; exact a5w _ _ hok hlt⟩, by omega⟩, [_], (x7x 13 rfl Cov.nil), (x7x 0 rfl (x7x 11 rfl (x7x 12 rfl Cov.nil))), (HE.kill rfl HE.nil), HE.nil, rfl⟩
 try simp at hc9
 try have hlt := hc9
 refine x6x x9x (by rfl) ?_
 refine x2x rfl ?_
 refine y4y ⟨.inr rfl, ?_⟩
 clear hK6 K6 hK3 K3
 refine z0z rfl ?_ rfl
 exact congrArg (fun b : Bool => [AV.pv (.bool b)]) (h2.trans (b1f _ _ hlt)).symm
theorem a9e (c : Bool) (l : List Ev) (most : Int) : a1f Try.prog 76 [b2x c l, .pv (.int .i64 most)] (.pv (.bool (a7w okE a6u l most))) := by
 refine z5z x9x (fn := Try.f76) (by kernel_rfl) (by kernel_rfl) rfl (outs := [.pv (.bool (a7w okE a6u l most))]) (by rfl) (v2v rfl) 0 ?_
 refine q6q 0 rfl fun hlen => ?_
 refine x6x x9x (by rfl) ?_
 refine x2x rfl ?_
 refine x4x fun K1 hK1 => ?_
 refine x6x x9x (by rfl) ?_
 refine x0x rfl ?_
 refine u6u rfl w8w rfl ?_
 refine x0x rfl ?_
 refine y6y rfl rfl rfl ?_
 refine y0y rfl (fun hc2 => ?_) (fun hc2 => ?_)
 ·try simp at hc2
  refine x6x x9x (by rfl) ?_
  refine x2x rfl ?_
  refine y4y ⟨.inr rfl, ?_⟩
  clear hK1 K1
  refine z0z rfl ?_ rfl
  exact congrArg (fun b : Bool => [AV.pv (.bool b)]) (a5x (by omega)).symm
 try simp at hc2
 refine y1y ?_
 refine hK1 _ _ ?_
 clear hK1 K1
 refine x4x fun K3 hK3 => ?_
 refine x6x x9x (by rfl) ?_
 refine x2x rfl ?_
 refine y5y ?_
 refine v1v (ι := Nat) (fun i γ1 => [(5, .pv (.int .i64 (i : Int)))]) (fun i γ1 => []) (fun i => i ≤ l.length ∧ a7w okE a6u l most = a6y okE a6u (a7o l i) (l.drop i)) (fun i => l.length - i) (x7x 0 rfl Cov.nil) HE.nil 0 ⟨by omega, b1g (by omega)⟩ [] (x7x 5 rfl Cov.nil) HE.nil rfl fun i γ1 hi => ?_
 try dsimp only [List.cons_append, List.nil_append]
 obtain ⟨h1, h2⟩ := hi
 refine x4x fun K4 hK4 => ?_
 refine x6x x9x (by rfl) ?_
 refine x0x rfl ?_
 refine x0x rfl ?_
 refine u6u rfl w8w rfl ?_
 refine y6y rfl rfl rfl ?_
 refine y0y rfl (fun hc5 => ?_) (fun hc5 => ?_)
 rotate_left
 ·try simp at hc5
  obtain rfl : i = l.length := by omega
  rw [List.drop_length] at h2
  refine v3v ?_
  refine hK3 _ _ ?_
  clear hK4 K4 hK3 K3
  refine x6x x9x (by rfl) ?_
  refine x2x rfl ?_
  refine y4y ⟨.inr rfl, ?_⟩
  refine z0z rfl ?_ rfl
  exact congrArg (fun b : Bool => [AV.pv (.bool b)]) h2.symm
 try simp at hc5
 obtain ⟨p, hp⟩ : ∃ p, l[i]? = some p := r5r (by omega)
 rw [a0w hp] at h2
 refine y1y ?_
 refine hK4 _ _ ?_
 clear hK4 K4
 refine x4x fun K6 hK6 => ?_
 refine y5y ?_
 refine q5q x9x s9s (by rfl) ?_
 refine x0x rfl ?_
 refine x0x rfl ?_
 refine z9z rfl rfl w8w rfl u3u rfl hp ?_
 refine p4p rfl u3u rfl rfl ?_
 refine z2z rfl rfl rfl (a7r ..) ?_
 refine q1q rfl ?_
 refine x0x rfl ?_
 refine a0l rfl rfl (fun hg7 => ?_) (fun hg7 => ?_)
 rotate_left
 ·try simp at hg7
  have hbad : okE p = false := by simpa [okE] using hg7
  refine x5x rfl rfl ?_
  refine x5x rfl rfl ?_
  refine p2p rfl rfl ?_
  refine p2p rfl rfl ?_
  refine p2p rfl rfl ?_
  refine p2p rfl rfl ?_
  refine p2p rfl rfl ?_
  refine p2p rfl rfl ?_
  refine p2p rfl rfl ?_
  refine p2p rfl rfl ?_
  refine p2p rfl rfl ?_
  refine p2p rfl rfl ?_
  refine p2p rfl rfl ?_
  refine x5x rfl rfl ?_
  refine z3z rfl rfl ?_
  refine ⟨by kernel_rfl, ?_⟩
  refine y0y rfl (fun hc11 => ?_) (fun hc11 => ?_)
  rotate_left
  ·simp at hc11
  try simp at hc11
  try have hlt := hc11
  refine x6x x9x (by rfl) ?_
  refine x2x rfl ?_
  refine y4y ⟨.inr rfl, ?_⟩
  clear hK6 K6 hK3 K3
  refine z0z rfl ?_ rfl
  exact congrArg (fun b : Bool => [AV.pv (.bool b)]) (h2.trans (a2c _ _ hbad)).symm
 try simp at hg7
 have hok : okE p = true := by simpa [okE] using hg7
 refine x0x rfl ?_
 refine z1z rfl rfl ?_
 refine y6y rfl rfl rfl ?_
 refine z1z rfl rfl ?_
 refine x0x rfl ?_
 refine a0l rfl rfl (fun hg8 => ?_) (fun hg8 => ?_)
 rotate_left
 ·try simp at hg8
  have hi0 : i = 0 := by omega
  have hlast : a7o l i = none := by rw [hi0]; rfl
  rw [hlast] at h2
  refine x5x rfl rfl ?_
  refine x5x rfl rfl ?_
  refine x5x rfl rfl ?_
  refine x5x rfl rfl ?_
  refine x5x rfl rfl ?_
  refine x5x rfl rfl ?_
  refine x5x rfl rfl ?_
  refine x5x rfl rfl ?_
  refine x5x rfl rfl ?_
  refine x5x rfl rfl ?_
  refine z1z rfl rfl ?_
  refine x8x rfl rfl ?_
  refine x8x rfl rfl ?_
  refine ⟨by kernel_rfl, ?_⟩
  refine y0y rfl (fun hc10 => ?_) (fun hc10 => ?_)
  ·simp at hc10
  try simp at hc10
  try have hlt := hc10
  refine y1y ?_
  refine hK6 _ _ ?_
  clear hK6 K6
  refine y2y x9x (by rfl) ?_
  refine x0x rfl ?_
  refine v0v (b := 1) rfl rfl (by omega) ?_
  refine x2x rfl ?_
  exact ⟨i + 1, ⟨⟨by omega, by rw [h2]; show _ = a6y okE a6u l[i]? _; rw [hp]; exact a4q _ _ hok⟩, by omega⟩, [], (x7x 5 rfl Cov.nil), (x7x 0 rfl Cov.nil), HE.nil, HE.nil, rfl⟩
 try simp at hg8
 have hi0 : 0 < i := by omega
 obtain ⟨b, hb⟩ : ∃ b, l[i - 1]? = some b := r5r (by omega)
 have hlast : a7o l i = some b := by obtain ⟨j, rfl⟩ : ∃ j, i = j + 1 := ⟨i - 1, by omega⟩; exact hb
 rw [hlast] at h2
 refine x0x rfl ?_
 refine z1z rfl rfl ?_
 refine x0x rfl ?_
 refine z1z rfl rfl ?_
 refine b0y (b := 1) rfl rfl (by omega) (by omega) ?_
 refine z1z rfl rfl ?_
 refine z9z rfl rfl w8w rfl u3u rfl hb ?_
 refine z1z rfl rfl ?_
 refine p4p rfl u3u rfl rfl ?_
 refine z1z rfl rfl ?_
 refine x0x rfl ?_
 refine z1z rfl rfl ?_
 refine x0x rfl ?_
 refine z1z rfl rfl ?_
 refine z9z rfl rfl w8w rfl u3u rfl hp ?_
 refine z1z rfl rfl ?_
 refine p4p rfl u3u rfl rfl ?_
 refine z1z rfl rfl ?_
 refine z2z rfl rfl rfl (a7s ..) ?_
 refine z1z rfl rfl ?_
 refine q1q rfl ?_
 refine z1z rfl rfl ?_
 refine z3z rfl rfl ?_
 refine x8x rfl rfl ?_
 refine ⟨by kernel_rfl, ?_⟩
 refine y0y rfl (fun hc9 => ?_) (fun hc9 => ?_)
 rotate_left
 ·try simp at hc9
  try have hlt := hc9
  refine y1y ?_
  refine hK6 _ _ ?_
  clear hK6 K6
  refine y2y x9x (by rfl) ?_
  refine x0x rfl ?_
  refine v0v (b := 1) rfl rfl (by omega) ?_
  refine x2x rfl ?_
  exact ⟨i + 1, ⟨⟨by omega, by rw [h2]; show _ = a6y okE a6u l[i]? _; rw [hp]; exact a5w _ _ hok hlt⟩, by omega⟩, [], (x7x 5 rfl Cov.nil), (x7x 0 rfl Cov.nil), HE.nil, HE.nil, rfl⟩
 try simp at hc9
 try have hlt := hc9
 refine x6x x9x (by rfl) ?_
 refine x2x rfl ?_
 refine y4y ⟨.inr rfl, ?_⟩
 clear hK6 K6 hK3 K3
 refine z0z rfl ?_ rfl
 exact congrArg (fun b : Bool => [AV.pv (.bool b)]) (h2.trans (b1f _ _ hlt)).symm
theorem b1t (c : Bool) (l : List Ou) (most : Int) : a1f Try.prog 35 [b2y c l, .pv (.int .i64 most)] (.pv (.bool (a7w okO b0h l most))) := by
 refine z5z x9x (fn := Try.f35) (by kernel_rfl) (by kernel_rfl) rfl (outs := [.pv (.bool (a7w okO b0h l most))]) (by rfl) (v2v rfl) 1 ?_
 refine q6q 0 rfl fun hlen => ?_
 refine x6x x9x (by rfl) ?_
 refine x2x rfl ?_
 refine x4x fun K1 hK1 => ?_
 refine x6x x9x (by rfl) ?_
 refine x0x rfl ?_
 refine u6u rfl w7w rfl ?_
 refine x0x rfl ?_
 refine y6y rfl rfl rfl ?_
 refine y0y rfl (fun hc2 => ?_) (fun hc2 => ?_)
 ·try simp at hc2
  refine x6x x9x (by rfl) ?_
  refine x2x rfl ?_
  refine y4y ⟨.inr rfl, ?_⟩
  clear hK1 K1
  refine z0z rfl ?_ rfl
  exact congrArg (fun b : Bool => [AV.pv (.bool b)]) (a5x (by omega)).symm
 try simp at hc2
 refine y1y ?_
 refine hK1 _ _ ?_
 clear hK1 K1
 refine x4x fun K3 hK3 => ?_
 refine x6x x9x (by rfl) ?_
 refine x0x rfl ?_
 refine u6u rfl w7w rfl ?_
 refine x0x rfl ?_
 refine y5y ?_
 refine v1v (ι := Nat) (fun i γ1 => [(14, .pv (.int .i64 (i : Int)))]) (fun i γ1 => [(0, ((γ1 0), .dead))]) (fun i => i ≤ l.length ∧ a7w okO b0h l most = a6y okO b0h (a7o l i) (l.drop i)) (fun i => l.length - i) (x7x 0 rfl (x7x 12 rfl (x7x 13 rfl Cov.nil))) HE.nil 0 ⟨by omega, b1g (by omega)⟩ [_] (x7x 14 rfl Cov.nil) (HE.kill rfl HE.nil) rfl fun i γ1 hi => ?_
 try dsimp only [List.cons_append, List.nil_append]
 obtain ⟨h1, h2⟩ := hi
 refine x6x x9x (by rfl) ?_
 refine y6y rfl rfl rfl ?_
 refine x4x fun K4 hK4 => ?_
 refine y0y rfl (fun hc5 => ?_) (fun hc5 => ?_)
 rotate_left
 ·try simp at hc5
  obtain rfl : i = l.length := by omega
  rw [List.drop_length] at h2
  refine v3v ?_
  refine hK3 _ _ ?_
  clear hK4 K4 hK3 K3
  refine x6x x9x (by rfl) ?_
  refine x2x rfl ?_
  refine y4y ⟨.inr rfl, ?_⟩
  refine z0z rfl ?_ rfl
  exact congrArg (fun b : Bool => [AV.pv (.bool b)]) h2.symm
 try simp at hc5
 obtain ⟨p, hp⟩ : ∃ p, l[i]? = some p := r5r (by omega)
 rw [a0w hp] at h2
 refine y1y ?_
 refine hK4 _ _ ?_
 clear hK4 K4
 refine x4x fun K6 hK6 => ?_
 refine y5y ?_
 refine x6x x9x (by rfl) ?_
 refine x0x rfl ?_
 refine z9z rfl rfl w7w rfl u7u rfl hp ?_
 refine p4p rfl u7u rfl rfl ?_
 refine q0q (id := 0) u7u b5z rfl ?_
 refine x2x rfl ?_
 refine v6v rfl rfl u7u rfl rfl rfl rfl ?_
 refine c1y (ι := Unit) (fun _i γ2 => [(7, .pv (.bool (okO p)))]) (fun _i γ2 => []) (fun _i => True) (x7x 0 rfl (x7x 5 rfl (x7x 6 rfl (x7x 12 rfl (x7x 13 rfl (x7x 14 rfl Cov.nil)))))) (u9u 0 rfl HE.nil) ?_ fun _i γ2 hi => ?_
 ·refine y2y x9x (by rfl) ?_
  refine x1x rfl u7u rfl rfl y3y rfl rfl ?_
  refine x3x rfl y3y rfl rfl ?_
  refine z2z rfl rfl rfl (v4v ..) ?_
  refine x0x rfl ?_
  refine a0l rfl rfl (fun hg7 => ?_) (fun hg7 => ?_)
  rotate_left
  ·try simp at hg7
   refine x5x rfl rfl ?_
   refine x5x rfl rfl ?_
   refine x8x rfl rfl ?_
   refine x0x rfl ?_
   refine x5x rfl rfl ?_
   refine x5x rfl rfl ?_
   refine x5x rfl rfl ?_
   refine x8x rfl rfl ?_
   refine x0x rfl ?_
   refine x5x rfl rfl ?_
   refine x5x rfl rfl ?_
   refine x5x rfl rfl ?_
   refine x8x rfl rfl ?_
   refine x0x rfl ?_
   refine x5x rfl rfl ?_
   refine x5x rfl rfl ?_
   refine x5x rfl rfl ?_
   refine x8x rfl rfl ?_
   refine x2x rfl ?_
   exact ⟨(), trivial, [], (Cov.cons' (t := 7) rfl (by exact congrArg (fun b : Bool => AV.pv (.bool b)) (decide_eq_false (by unfold b4j; omega)).symm) Cov.nil), (x7x 0 rfl (x7x 5 rfl (x7x 6 rfl (x7x 12 rfl (x7x 13 rfl (x7x 14 rfl Cov.nil)))))), HE.nil, (u9u 0 rfl HE.nil), rfl⟩
  try simp at hg7
  refine x1x rfl u7u rfl rfl y3y rfl rfl ?_
  refine z1z rfl rfl ?_
  refine x3x rfl y3y rfl rfl ?_
  refine z1z rfl rfl ?_
  refine z2z rfl rfl rfl (a6f ..) ?_
  refine z3z rfl rfl ?_
  refine x0x rfl ?_
  refine a0l rfl rfl (fun hg8 => ?_) (fun hg8 => ?_)
  rotate_left
  ·try simp at hg8
   refine x5x rfl rfl ?_
   refine x5x rfl rfl ?_
   refine x8x rfl rfl ?_
   refine x0x rfl ?_
   refine x5x rfl rfl ?_
   refine x5x rfl rfl ?_
   refine x5x rfl rfl ?_
   refine x8x rfl rfl ?_
   refine x0x rfl ?_
   refine x5x rfl rfl ?_
   refine x5x rfl rfl ?_
   refine x5x rfl rfl ?_
   refine x8x rfl rfl ?_
   refine x2x rfl ?_
   exact ⟨(), trivial, [], (Cov.cons' (t := 7) rfl (by exact congrArg (fun b : Bool => AV.pv (.bool b)) (decide_eq_false (by unfold b4j; omega)).symm) Cov.nil), (x7x 0 rfl (x7x 5 rfl (x7x 6 rfl (x7x 12 rfl (x7x 13 rfl (x7x 14 rfl Cov.nil)))))), HE.nil, (u9u 0 rfl HE.nil), rfl⟩
  try simp at hg8
  refine x1x rfl u7u rfl rfl y3y rfl rfl ?_
  refine z1z rfl rfl ?_
  refine x3x rfl y3y rfl rfl ?_
  refine z1z rfl rfl ?_
  refine z2z rfl rfl rfl (v4v ..) ?_
  refine z3z rfl rfl ?_
  refine x0x rfl ?_
  refine a0l rfl rfl (fun hg9 => ?_) (fun hg9 => ?_)
  rotate_left
  ·try simp at hg9
   refine x5x rfl rfl ?_
   refine x5x rfl rfl ?_
   refine x8x rfl rfl ?_
   refine x0x rfl ?_
   refine x5x rfl rfl ?_
   refine x5x rfl rfl ?_
   refine x5x rfl rfl ?_
   refine x8x rfl rfl ?_
   refine x2x rfl ?_
   exact ⟨(), trivial, [], (Cov.cons' (t := 7) rfl (by exact congrArg (fun b : Bool => AV.pv (.bool b)) (decide_eq_false (by unfold b4j; omega)).symm) Cov.nil), (x7x 0 rfl (x7x 5 rfl (x7x 6 rfl (x7x 12 rfl (x7x 13 rfl (x7x 14 rfl Cov.nil)))))), HE.nil, (u9u 0 rfl HE.nil), rfl⟩
  try simp at hg9
  refine x1x rfl u7u rfl rfl y3y rfl rfl ?_
  refine z1z rfl rfl ?_
  refine x3x rfl y3y rfl rfl ?_
  refine z1z rfl rfl ?_
  refine z2z rfl rfl rfl (v4v ..) ?_
  refine z3z rfl rfl ?_
  refine x0x rfl ?_
  refine a0l rfl rfl (fun hg10 => ?_) (fun hg10 => ?_)
  rotate_left
  ·try simp at hg10
   refine x5x rfl rfl ?_
   refine x5x rfl rfl ?_
   refine x8x rfl rfl ?_
   refine x2x rfl ?_
   exact ⟨(), trivial, [], (Cov.cons' (t := 7) rfl (by exact congrArg (fun b : Bool => AV.pv (.bool b)) (decide_eq_false (by unfold b4j; omega)).symm) Cov.nil), (x7x 0 rfl (x7x 5 rfl (x7x 6 rfl (x7x 12 rfl (x7x 13 rfl (x7x 14 rfl Cov.nil)))))), HE.nil, (u9u 0 rfl HE.nil), rfl⟩
  try simp at hg10
  refine x1x rfl u7u rfl rfl y3y rfl rfl ?_
  refine z1z rfl rfl ?_
  refine x3x rfl y3y rfl rfl ?_
  refine z1z rfl rfl ?_
  refine z2z rfl rfl rfl (a7l ..) ?_
  refine z3z rfl rfl ?_
  refine x2x rfl ?_
  exact ⟨(), trivial, [], (Cov.cons' (t := 7) rfl (by exact congrArg (fun b : Bool => AV.pv (.bool b)) (decide_eq_decide.2 (by unfold b4j; omega))) Cov.nil), (x7x 0 rfl (x7x 5 rfl (x7x 6 rfl (x7x 12 rfl (x7x 13 rfl (x7x 14 rfl Cov.nil)))))), HE.nil, (u9u 0 rfl HE.nil), rfl⟩
 ·try dsimp only [List.cons_append, List.nil_append]
  refine q5q x9x s9s (by rfl) ?_
  refine x0x rfl ?_
  refine q1q rfl ?_
  refine x0x rfl ?_
  refine a0l rfl rfl (fun hg11 => ?_) (fun hg11 => ?_)
  rotate_left
  ·try simp at hg11
   have hbad : okO p = false := by simpa [okO] using hg11
   refine x5x rfl rfl ?_
   refine x5x rfl rfl ?_
   refine p2p rfl rfl ?_
   refine p2p rfl rfl ?_
   refine p2p rfl rfl ?_
   refine p2p rfl rfl ?_
   refine p2p rfl rfl ?_
   refine p2p rfl rfl ?_
   refine p2p rfl rfl ?_
   refine p2p rfl rfl ?_
   refine x5x rfl rfl ?_
   refine z3z rfl rfl ?_
   refine ⟨by kernel_rfl, ?_⟩
   refine y0y rfl (fun hc15 => ?_) (fun hc15 => ?_)
   rotate_left
   ·simp at hc15
   try simp at hc15
   try have hlt := hc15
   refine x6x x9x (by rfl) ?_
   refine x2x rfl ?_
   refine y4y ⟨.inr rfl, ?_⟩
   clear hK6 K6 hK3 K3
   refine z0z rfl ?_ rfl
   exact congrArg (fun b : Bool => [AV.pv (.bool b)]) (h2.trans (a2c _ _ hbad)).symm
  try simp at hg11
  have hok : okO p = true := by simpa [okO] using hg11
  refine x0x rfl ?_
  refine z1z rfl rfl ?_
  refine y6y rfl rfl rfl ?_
  refine z1z rfl rfl ?_
  refine x0x rfl ?_
  refine a0l rfl rfl (fun hg12 => ?_) (fun hg12 => ?_)
  rotate_left
  ·try simp at hg12
   have hi0 : i = 0 := by omega
   have hlast : a7o l i = none := by rw [hi0]; rfl
   rw [hlast] at h2
   refine x5x rfl rfl ?_
   refine x5x rfl rfl ?_
   refine x5x rfl rfl ?_
   refine x5x rfl rfl ?_
   refine x5x rfl rfl ?_
   refine x5x rfl rfl ?_
   refine x5x rfl rfl ?_
   refine z1z rfl rfl ?_
   refine x8x rfl rfl ?_
   refine x8x rfl rfl ?_
   refine ⟨by kernel_rfl, ?_⟩
   refine y0y rfl (fun hc14 => ?_) (fun hc14 => ?_)
   ·simp at hc14
   try simp at hc14
   try have hlt := hc14
   refine y1y ?_
   refine hK6 _ _ ?_
   clear hK6 K6
   refine y2y x9x (by rfl) ?_
   refine v0v (b := 1) rfl rfl (by omega) ?_
   refine x0x rfl ?_
   exact ⟨i + 1, ⟨⟨by omega, by rw [h2]; show _ = a6y okO b0h l[i]? _; rw [hp]; exact a4q _ _ hok⟩, by omega⟩, [_], (x7x 14 rfl Cov.nil), (x7x 0 rfl (x7x 12 rfl (x7x 13 rfl Cov.nil))), (HE.kill rfl HE.nil), HE.nil, rfl⟩
  try simp at hg12
  have hi0 : 0 < i := by omega
  obtain ⟨b, hb⟩ : ∃ b, l[i - 1]? = some b := r5r (by omega)
  have hlast : a7o l i = some b := by obtain ⟨j, rfl⟩ : ∃ j, i = j + 1 := ⟨i - 1, by omega⟩; exact hb
  rw [hlast] at h2
  refine x0x rfl ?_
  refine z1z rfl rfl ?_
  refine x0x rfl ?_
  refine z1z rfl rfl ?_
  refine b0y (b := 1) rfl rfl (by omega) (by omega) ?_
  refine z1z rfl rfl ?_
  refine z9z rfl rfl w7w rfl u7u rfl hb ?_
  refine z1z rfl rfl ?_
  refine p4p rfl u7u rfl rfl ?_
  refine z1z rfl rfl ?_
  refine u2u rfl u7u rfl rfl rfl ?_
  refine z1z rfl rfl ?_
  refine z2z rfl rfl rfl (a9y ..) ?_
  refine z1z rfl rfl ?_
  refine q1q rfl ?_
  refine z1z rfl rfl ?_
  refine z3z rfl rfl ?_
  refine x8x rfl rfl ?_
  refine ⟨by kernel_rfl, ?_⟩
  refine y0y rfl (fun hc13 => ?_) (fun hc13 => ?_)
  rotate_left
  ·try simp at hc13
   try have hlt := hc13
   refine y1y ?_
   refine hK6 _ _ ?_
   clear hK6 K6
   refine y2y x9x (by rfl) ?_
   refine v0v (b := 1) rfl rfl (by omega) ?_
   refine x0x rfl ?_
   exact ⟨i + 1, ⟨⟨by omega, by rw [h2]; show _ = a6y okO b0h l[i]? _; rw [hp]; exact a5w _ _ hok hlt⟩, by omega⟩, [_], (x7x 14 rfl Cov.nil), (x7x 0 rfl (x7x 12 rfl (x7x 13 rfl Cov.nil))), (HE.kill rfl HE.nil), HE.nil, rfl⟩
  try simp at hc13
  try have hlt := hc13
  refine x6x x9x (by rfl) ?_
  refine x2x rfl ?_
  refine y4y ⟨.inr rfl, ?_⟩
  clear hK6 K6 hK3 K3
  refine z0z rfl ?_ rfl
  exact congrArg (fun b : Bool => [AV.pv (.bool b)]) (h2.trans (b1f _ _ hlt)).symm
theorem b1u (c : Bool) (l : List Ou) (most : Int) : a1f Try.prog 78 [b2y c l, .pv (.int .i64 most)] (.pv (.bool (a7w okO b0h l most))) := by
 refine z5z x9x (fn := Try.f78) (by kernel_rfl) (by kernel_rfl) rfl (outs := [.pv (.bool (a7w okO b0h l most))]) (by rfl) (v2v rfl) 1 ?_
 refine q6q 0 rfl fun hlen => ?_
 refine x6x x9x (by rfl) ?_
 refine x2x rfl ?_
 refine x4x fun K1 hK1 => ?_
 refine x6x x9x (by rfl) ?_
 refine x0x rfl ?_
 refine u6u rfl w7w rfl ?_
 refine x0x rfl ?_
 refine y6y rfl rfl rfl ?_
 refine y0y rfl (fun hc2 => ?_) (fun hc2 => ?_)
 ·try simp at hc2
  refine x6x x9x (by rfl) ?_
  refine x2x rfl ?_
  refine y4y ⟨.inr rfl, ?_⟩
  clear hK1 K1
  refine z0z rfl ?_ rfl
  exact congrArg (fun b : Bool => [AV.pv (.bool b)]) (a5x (by omega)).symm
 try simp at hc2
 refine y1y ?_
 refine hK1 _ _ ?_
 clear hK1 K1
 refine x4x fun K3 hK3 => ?_
 refine x6x x9x (by rfl) ?_
 refine x2x rfl ?_
 refine y5y ?_
 refine v1v (ι := Nat) (fun i γ1 => [(5, .pv (.int .i64 (i : Int)))]) (fun i γ1 => [(0, ((γ1 0), .dead))]) (fun i => i ≤ l.length ∧ a7w okO b0h l most = a6y okO b0h (a7o l i) (l.drop i)) (fun i => l.length - i) (x7x 0 rfl Cov.nil) HE.nil 0 ⟨by omega, b1g (by omega)⟩ [_] (x7x 5 rfl Cov.nil) (HE.kill rfl HE.nil) rfl fun i γ1 hi => ?_
 try dsimp only [List.cons_append, List.nil_append]
 obtain ⟨h1, h2⟩ := hi
 refine x4x fun K4 hK4 => ?_
 refine x6x x9x (by rfl) ?_
 refine x0x rfl ?_
 refine x0x rfl ?_
 refine u6u rfl w7w rfl ?_
 refine y6y rfl rfl rfl ?_
 refine y0y rfl (fun hc5 => ?_) (fun hc5 => ?_)
 rotate_left
 ·try simp at hc5
  obtain rfl : i = l.length := by omega
  rw [List.drop_length] at h2
  refine v3v ?_
  refine hK3 _ _ ?_
  clear hK4 K4 hK3 K3
  refine x6x x9x (by rfl) ?_
  refine x2x rfl ?_
  refine y4y ⟨.inr rfl, ?_⟩
  refine z0z rfl ?_ rfl
  exact congrArg (fun b : Bool => [AV.pv (.bool b)]) h2.symm
 try simp at hc5
 obtain ⟨p, hp⟩ : ∃ p, l[i]? = some p := r5r (by omega)
 rw [a0w hp] at h2
 refine y1y ?_
 refine hK4 _ _ ?_
 clear hK4 K4
 refine x4x fun K6 hK6 => ?_
 refine y5y ?_
 refine x6x x9x (by rfl) ?_
 refine x0x rfl ?_
 refine x0x rfl ?_
 refine z9z rfl rfl w7w rfl u7u rfl hp ?_
 refine p4p rfl u7u rfl rfl ?_
 refine q0q (id := 0) u7u b5z rfl ?_
 refine v6v rfl rfl u7u rfl rfl rfl rfl ?_
 refine q5q x9x s9s (by rfl) ?_
 refine x1x rfl u7u rfl rfl y3y rfl rfl ?_
 refine x3x rfl y3y rfl rfl ?_
 refine z2z rfl rfl rfl (w6w ..) ?_
 refine q1q rfl ?_
 refine x0x rfl ?_
 refine a0l rfl rfl (fun hg7 => ?_) (fun hg7 => ?_)
 rotate_left
 ·try simp at hg7
  refine x5x rfl rfl ?_
  refine x5x rfl rfl ?_
  refine x5x rfl rfl ?_
  refine z3z rfl rfl ?_
  refine x0x rfl ?_
  refine x5x rfl rfl ?_
  refine x5x rfl rfl ?_
  refine x5x rfl rfl ?_
  refine x5x rfl rfl ?_
  refine z3z rfl rfl ?_
  refine x0x rfl ?_
  refine x5x rfl rfl ?_
  refine x5x rfl rfl ?_
  refine x5x rfl rfl ?_
  refine x5x rfl rfl ?_
  refine z3z rfl rfl ?_
  refine x0x rfl ?_
  refine x5x rfl rfl ?_
  refine x5x rfl rfl ?_
  refine x5x rfl rfl ?_
  refine x5x rfl rfl ?_
  refine z3z rfl rfl ?_
  refine x0x rfl ?_
  refine x5x rfl rfl ?_
  refine x5x rfl rfl ?_
  refine x5x rfl rfl ?_
  refine p2p rfl rfl ?_
  refine p2p rfl rfl ?_
  refine p2p rfl rfl ?_
  refine p2p rfl rfl ?_
  refine p2p rfl rfl ?_
  refine p2p rfl rfl ?_
  refine p2p rfl rfl ?_
  refine p2p rfl rfl ?_
  refine x5x rfl rfl ?_
  refine z3z rfl rfl ?_
  refine ⟨by kernel_rfl, ?_⟩
  refine y0y rfl (fun hc19 => ?_) (fun hc19 => ?_)
  rotate_left
  ·simp at hc19
  try simp at hc19
  try have hlt := hc19
  refine x6x x9x (by rfl) ?_
  refine x2x rfl ?_
  refine y4y ⟨.inr rfl, ?_⟩
  clear hK6 K6 hK3 K3
  refine z0z rfl ?_ rfl
  exact congrArg (fun b : Bool => [AV.pv (.bool b)]) (h2.trans (a2c _ _ (decide_eq_false (by unfold b4j; omega)))).symm
 try simp at hg7
 refine x1x rfl u7u rfl rfl y3y rfl rfl ?_
 refine z1z rfl rfl ?_
 refine x3x rfl y3y rfl rfl ?_
 refine z1z rfl rfl ?_
 refine z2z rfl rfl rfl (a6g ..) ?_
 refine z1z rfl rfl ?_
 refine q1q rfl ?_
 refine x8x rfl rfl ?_
 refine x0x rfl ?_
 refine a0l rfl rfl (fun hg8 => ?_) (fun hg8 => ?_)
 rotate_left
 ·try simp at hg8
  refine x5x rfl rfl ?_
  refine x5x rfl rfl ?_
  refine x5x rfl rfl ?_
  refine z3z rfl rfl ?_
  refine x0x rfl ?_
  refine x5x rfl rfl ?_
  refine x5x rfl rfl ?_
  refine x5x rfl rfl ?_
  refine x5x rfl rfl ?_
  refine z3z rfl rfl ?_
  refine x0x rfl ?_
  refine x5x rfl rfl ?_
  refine x5x rfl rfl ?_
  refine x5x rfl rfl ?_
  refine x5x rfl rfl ?_
  refine z3z rfl rfl ?_
  refine x0x rfl ?_
  refine x5x rfl rfl ?_
  refine x5x rfl rfl ?_
  refine x5x rfl rfl ?_
  refine p2p rfl rfl ?_
  refine p2p rfl rfl ?_
  refine p2p rfl rfl ?_
  refine p2p rfl rfl ?_
  refine p2p rfl rfl ?_
  refine p2p rfl rfl ?_
  refine p2p rfl rfl ?_
  refine p2p rfl rfl ?_
  refine x5x rfl rfl ?_
  refine z3z rfl rfl ?_
  refine ⟨by kernel_rfl, ?_⟩
  refine y0y rfl (fun hc18 => ?_) (fun hc18 => ?_)
  rotate_left
  ·simp at hc18
  try simp at hc18
  try have hlt := hc18
  refine x6x x9x (by rfl) ?_
  refine x2x rfl ?_
  refine y4y ⟨.inr rfl, ?_⟩
  clear hK6 K6 hK3 K3
  refine z0z rfl ?_ rfl
  exact congrArg (fun b : Bool => [AV.pv (.bool b)]) (h2.trans (a2c _ _ (decide_eq_false (by unfold b4j; omega)))).symm
 try simp at hg8
 refine x1x rfl u7u rfl rfl y3y rfl rfl ?_
 refine z1z rfl rfl ?_
 refine x3x rfl y3y rfl rfl ?_
 refine z1z rfl rfl ?_
 refine z2z rfl rfl rfl (w6w ..) ?_
 refine z1z rfl rfl ?_
 refine q1q rfl ?_
 refine x8x rfl rfl ?_
 refine x0x rfl ?_
 refine a0l rfl rfl (fun hg9 => ?_) (fun hg9 => ?_)
 rotate_left
 ·try simp at hg9
  refine x5x rfl rfl ?_
  refine x5x rfl rfl ?_
  refine x5x rfl rfl ?_
  refine z3z rfl rfl ?_
  refine x0x rfl ?_
  refine x5x rfl rfl ?_
  refine x5x rfl rfl ?_
  refine x5x rfl rfl ?_
  refine x5x rfl rfl ?_
  refine z3z rfl rfl ?_
  refine x0x rfl ?_
  refine x5x rfl rfl ?_
  refine x5x rfl rfl ?_
  refine x5x rfl rfl ?_
  refine p2p rfl rfl ?_
  refine p2p rfl rfl ?_
  refine p2p rfl rfl ?_
  refine p2p rfl rfl ?_
  refine p2p rfl rfl ?_
  refine p2p rfl rfl ?_
  refine p2p rfl rfl ?_
  refine p2p rfl rfl ?_
  refine x5x rfl rfl ?_
  refine z3z rfl rfl ?_
  refine ⟨by kernel_rfl, ?_⟩
  refine y0y rfl (fun hc17 => ?_) (fun hc17 => ?_)
  rotate_left
  ·simp at hc17
  try simp at hc17
  try have hlt := hc17
  refine x6x x9x (by rfl) ?_
  refine x2x rfl ?_
  refine y4y ⟨.inr rfl, ?_⟩
  clear hK6 K6 hK3 K3
  refine z0z rfl ?_ rfl
  exact congrArg (fun b : Bool => [AV.pv (.bool b)]) (h2.trans (a2c _ _ (decide_eq_false (by unfold b4j; omega)))).symm
 try simp at hg9
 refine x1x rfl u7u rfl rfl y3y rfl rfl ?_
 refine z1z rfl rfl ?_
 refine x3x rfl y3y rfl rfl ?_
 refine z1z rfl rfl ?_
 refine z2z rfl rfl rfl (w6w ..) ?_
 refine z1z rfl rfl ?_
 refine q1q rfl ?_
 refine x8x rfl rfl ?_
 refine x0x rfl ?_
 refine a0l rfl rfl (fun hg10 => ?_) (fun hg10 => ?_)
 rotate_left
 ·try simp at hg10
  refine x5x rfl rfl ?_
  refine x5x rfl rfl ?_
  refine x5x rfl rfl ?_
  refine z3z rfl rfl ?_
  refine x0x rfl ?_
  refine x5x rfl rfl ?_
  refine x5x rfl rfl ?_
  refine x5x rfl rfl ?_
  refine p2p rfl rfl ?_
  refine p2p rfl rfl ?_
  refine p2p rfl rfl ?_
  refine p2p rfl rfl ?_
  refine p2p rfl rfl ?_
  refine p2p rfl rfl ?_
  refine p2p rfl rfl ?_
  refine p2p rfl rfl ?_
  refine x5x rfl rfl ?_
  refine z3z rfl rfl ?_
  refine ⟨by kernel_rfl, ?_⟩
  refine y0y rfl (fun hc16 => ?_) (fun hc16 => ?_)
  rotate_left
  ·simp at hc16
  try simp at hc16
  try have hlt := hc16
  refine x6x x9x (by rfl) ?_
  refine x2x rfl ?_
  refine y4y ⟨.inr rfl, ?_⟩
  clear hK6 K6 hK3 K3
  refine z0z rfl ?_ rfl
  exact congrArg (fun b : Bool => [AV.pv (.bool b)]) (h2.trans (a2c _ _ (decide_eq_false (by unfold b4j; omega)))).symm
 try simp at hg10
 refine x1x rfl u7u rfl rfl y3y rfl rfl ?_
 refine z1z rfl rfl ?_
 refine x3x rfl y3y rfl rfl ?_
 refine z1z rfl rfl ?_
 refine z2z rfl rfl rfl (a7m ..) ?_
 refine z1z rfl rfl ?_
 refine q1q rfl ?_
 refine x8x rfl rfl ?_
 refine x0x rfl ?_
 refine a0l rfl rfl (fun hg11 => ?_) (fun hg11 => ?_)
 rotate_left
 ·try simp at hg11
  refine x5x rfl rfl ?_
  refine x5x rfl rfl ?_
  refine p2p rfl rfl ?_
  refine p2p rfl rfl ?_
  refine p2p rfl rfl ?_
  refine p2p rfl rfl ?_
  refine p2p rfl rfl ?_
  refine p2p rfl rfl ?_
  refine p2p rfl rfl ?_
  refine p2p rfl rfl ?_
  refine x5x rfl rfl ?_
  refine z3z rfl rfl ?_
  refine ⟨by kernel_rfl, ?_⟩
  refine y0y rfl (fun hc15 => ?_) (fun hc15 => ?_)
  rotate_left
  ·simp at hc15
  try simp at hc15
  try have hlt := hc15
  refine x6x x9x (by rfl) ?_
  refine x2x rfl ?_
  refine y4y ⟨.inr rfl, ?_⟩
  clear hK6 K6 hK3 K3
  refine z0z rfl ?_ rfl
  exact congrArg (fun b : Bool => [AV.pv (.bool b)]) (h2.trans (a2c _ _ (decide_eq_false (by unfold b4j; omega)))).symm
 try simp at hg11
 have hok : okO p = true := decide_eq_true (by unfold b4j; omega)
 refine x0x rfl ?_
 refine z1z rfl rfl ?_
 refine y6y rfl rfl rfl ?_
 refine z1z rfl rfl ?_
 refine x0x rfl ?_
 refine a0l rfl rfl (fun hg12 => ?_) (fun hg12 => ?_)
 rotate_left
 ·try simp at hg12
  have hi0 : i = 0 := by omega
  have hlast : a7o l i = none := by rw [hi0]; rfl
  rw [hlast] at h2
  refine x5x rfl rfl ?_
  refine x5x rfl rfl ?_
  refine x5x rfl rfl ?_
  refine x5x rfl rfl ?_
  refine x5x rfl rfl ?_
  refine x5x rfl rfl ?_
  refine x5x rfl rfl ?_
  refine z1z rfl rfl ?_
  refine x8x rfl rfl ?_
  refine x8x rfl rfl ?_
  refine ⟨by kernel_rfl, ?_⟩
  refine y0y rfl (fun hc14 => ?_) (fun hc14 => ?_)
  ·simp at hc14
  try simp at hc14
  try have hlt := hc14
  refine y1y ?_
  refine hK6 _ _ ?_
  clear hK6 K6
  refine y2y x9x (by rfl) ?_
  refine x0x rfl ?_
  refine v0v (b := 1) rfl rfl (by omega) ?_
  refine x2x rfl ?_
  exact ⟨i + 1, ⟨⟨by omega, by rw [h2]; show _ = a6y okO b0h l[i]? _; rw [hp]; exact a4q _ _ hok⟩, by omega⟩, [_], (x7x 5 rfl Cov.nil), (x7x 0 rfl Cov.nil), (HE.kill rfl HE.nil), HE.nil, rfl⟩
 try simp at hg12
 have hi0 : 0 < i := by omega
 obtain ⟨b, hb⟩ : ∃ b, l[i - 1]? = some b := r5r (by omega)
 have hlast : a7o l i = some b := by obtain ⟨j, rfl⟩ : ∃ j, i = j + 1 := ⟨i - 1, by omega⟩; exact hb
 rw [hlast] at h2
 refine x0x rfl ?_
 refine z1z rfl rfl ?_
 refine x0x rfl ?_
 refine z1z rfl rfl ?_
 refine b0y (b := 1) rfl rfl (by omega) (by omega) ?_
 refine z1z rfl rfl ?_
 refine z9z rfl rfl w7w rfl u7u rfl hb ?_
 refine z1z rfl rfl ?_
 refine p4p rfl u7u rfl rfl ?_
 refine z1z rfl rfl ?_
 refine u2u rfl u7u rfl rfl rfl ?_
 refine z1z rfl rfl ?_
 refine z2z rfl rfl rfl (a9x ..) ?_
 refine z1z rfl rfl ?_
 refine q1q rfl ?_
 refine z1z rfl rfl ?_
 refine z3z rfl rfl ?_
 refine x8x rfl rfl ?_
 refine ⟨by kernel_rfl, ?_⟩
 refine y0y rfl (fun hc13 => ?_) (fun hc13 => ?_)
 rotate_left
 ·try simp at hc13
  try have hlt := hc13
  refine y1y ?_
  refine hK6 _ _ ?_
  clear hK6 K6
  refine y2y x9x (by rfl) ?_
  refine x0x rfl ?_
  refine v0v (b := 1) rfl rfl (by omega) ?_
  refine x2x rfl ?_
  exact ⟨i + 1, ⟨⟨by omega, by rw [h2]; show _ = a6y okO b0h l[i]? _; rw [hp]; exact a5w _ _ hok hlt⟩, by omega⟩, [_], (x7x 5 rfl Cov.nil), (x7x 0 rfl Cov.nil), (HE.kill rfl HE.nil), HE.nil, rfl⟩
 try simp at hc13
 try have hlt := hc13
 refine x6x x9x (by rfl) ?_
 refine x2x rfl ?_
 refine y4y ⟨.inr rfl, ?_⟩
 clear hK6 K6 hK3 K3
 refine z0z rfl ?_ rfl
 exact congrArg (fun b : Bool => [AV.pv (.bool b)]) (h2.trans (b1f _ _ hlt)).symm
end
section
theorem a5b (c : Bool) (l : List Int) : a1f Try.prog 75 [s7s c l] (.pv (.bool (decide (a3l l)))) := by
 refine z5z x9x (fn := Try.f75) (by kernel_rfl) (by kernel_rfl) rfl (outs := [.pv (.bool (decide (a3l l)))]) (by rfl) (v2v rfl) 0 ?_
 refine q6q 0 rfl fun hlen => ?_
 refine x6x x9x (by rfl) ?_
 refine x2x rfl ?_
 refine x4x fun K1 hK1 => ?_
 refine x6x x9x (by rfl) ?_
 refine x0x rfl ?_
 refine u6u rfl u5u rfl ?_
 refine y6y rfl rfl rfl ?_
 refine x0x rfl ?_
 refine a0l rfl rfl (fun hg2 => ?_) (fun hg2 => ?_)
 rotate_left
 ·try simp at hg2
  refine x5x rfl rfl ?_
  refine x5x rfl rfl ?_
  refine x8x rfl rfl ?_
  refine y0y rfl (fun hc9 => ?_) (fun hc9 => ?_)
  ·simp at hc9
  try simp at hc9
  have hL : l.length = 0 ∨ l.length = 3 := by (simp_all; done)
  refine y1y ?_
  refine hK1 _ _ ?_
  clear hK1 K1
  refine x4x fun K10 hK10 => ?_
  refine x6x x9x (by rfl) ?_
  refine x2x rfl ?_
  refine y5y ?_
  refine v1v (ι := Nat) (fun i γ2 => [(3, .pv (.int .i64 (i : Int)))]) (fun i γ2 => []) (fun i => i ≤ l.length ∧ c2e l (fun _ v => 0 ≤ v ∧ v ≤ 9999) i) (fun i => l.length - i) (x7x 0 rfl Cov.nil) HE.nil 0 ⟨by omega, a8u⟩ [] (x7x 3 rfl Cov.nil) HE.nil rfl fun i γ2 hi => ?_
  try dsimp only [List.cons_append, List.nil_append]
  obtain ⟨h1, h2⟩ := hi
  refine x4x fun K11 hK11 => ?_
  refine x6x x9x (by rfl) ?_
  refine x0x rfl ?_
  refine x0x rfl ?_
  refine u6u rfl u5u rfl ?_
  refine y6y rfl rfl rfl ?_
  refine y0y rfl (fun hc12 => ?_) (fun hc12 => ?_)
  rotate_left
  ·try simp at hc12
   have hall := b1h h2 (by omega)
   refine v3v ?_
   refine hK10 _ _ ?_
   clear hK11 K11 hK10 K10
   refine x6x x9x (by rfl) ?_
   refine x2x rfl ?_
   refine y4y ⟨.inr rfl, ?_⟩
   refine z0z rfl ?_ rfl
   exact kT ⟨hL, fun v hv => by obtain ⟨i, hi⟩ := List.getElem?_of_mem hv; exact hall i v hi⟩
  try simp at hc12
  obtain ⟨v, hv⟩ : ∃ v, l[i]? = some v := r5r (by omega)
  refine y1y ?_
  refine hK11 _ _ ?_
  clear hK11 K11
  refine x4x fun K13 hK13 => ?_
  refine y5y ?_
  refine q5q x9x s9s (by rfl) ?_
  refine x0x rfl ?_
  refine x0x rfl ?_
  refine z9z rfl rfl u5u rfl y3y rfl hv ?_
  refine y7y rfl y3y rfl ?_
  refine z2z rfl rfl rfl (a0x ..) ?_
  refine z2z rfl rfl rfl (w6w ..) ?_
  refine q1q rfl ?_
  refine ⟨by kernel_rfl, ?_⟩
  refine y0y rfl (fun hc14 => ?_) (fun hc14 => ?_)
  rotate_left
  ·try simp at hc14
   have hb : 0 ≤ v ∧ v ≤ 9999 := by omega
   refine y1y ?_
   refine hK13 _ _ ?_
   clear hK13 K13
   refine y2y x9x (by rfl) ?_
   refine x0x rfl ?_
   refine v0v (b := 1) rfl rfl (by omega) ?_
   refine x2x rfl ?_
   exact ⟨i + 1, ⟨⟨by omega, a8v h2 hv hb⟩, by omega⟩, [], (x7x 3 rfl Cov.nil), (x7x 0 rfl Cov.nil), HE.nil, HE.nil, rfl⟩
  try simp at hc14
  have hX2 : ¬ (0 ≤ v ∧ v ≤ 9999) := by omega
  refine x6x x9x (by rfl) ?_
  refine x2x rfl ?_
  refine y4y ⟨.inr rfl, ?_⟩
  clear hK13 K13 hK10 K10
  refine z0z rfl ?_ rfl
  exact kF (fun h => hX2 (h.2 v (List.mem_of_getElem? hv)))
 try simp at hg2
 refine x0x rfl ?_
 refine z1z rfl rfl ?_
 refine u6u rfl u5u rfl ?_
 refine z1z rfl rfl ?_
 refine y6y rfl rfl rfl ?_
 refine z3z rfl rfl ?_
 refine y0y rfl (fun hc3 => ?_) (fun hc3 => ?_)
 ·try simp at hc3
  have hX : ¬ (l.length = 0 ∨ l.length = 3) := by (rintro (h | h); exact absurd (List.length_eq_zero_iff.1 h) ‹_›; omega)
  refine x6x x9x (by rfl) ?_
  refine x2x rfl ?_
  refine y4y ⟨.inr rfl, ?_⟩
  clear hK1 K1
  refine z0z rfl ?_ rfl
  exact kF (fun h => hX h.1)
 try simp at hc3
 have hL : l.length = 0 ∨ l.length = 3 := by omega
 refine y1y ?_
 refine hK1 _ _ ?_
 clear hK1 K1
 refine x4x fun K4 hK4 => ?_
 refine x6x x9x (by rfl) ?_
 refine x2x rfl ?_
 refine y5y ?_
 refine v1v (ι := Nat) (fun i γ1 => [(3, .pv (.int .i64 (i : Int)))]) (fun i γ1 => []) (fun i => i ≤ l.length ∧ c2e l (fun _ v => 0 ≤ v ∧ v ≤ 9999) i) (fun i => l.length - i) (x7x 0 rfl Cov.nil) HE.nil 0 ⟨by omega, a8u⟩ [] (x7x 3 rfl Cov.nil) HE.nil rfl fun i γ1 hi => ?_
 try dsimp only [List.cons_append, List.nil_append]
 obtain ⟨h1, h2⟩ := hi
 refine x4x fun K5 hK5 => ?_
 refine x6x x9x (by rfl) ?_
 refine x0x rfl ?_
 refine x0x rfl ?_
 refine u6u rfl u5u rfl ?_
 refine y6y rfl rfl rfl ?_
 refine y0y rfl (fun hc6 => ?_) (fun hc6 => ?_)
 rotate_left
 ·try simp at hc6
  have hall := b1h h2 (by omega)
  refine v3v ?_
  refine hK4 _ _ ?_
  clear hK5 K5 hK4 K4
  refine x6x x9x (by rfl) ?_
  refine x2x rfl ?_
  refine y4y ⟨.inr rfl, ?_⟩
  refine z0z rfl ?_ rfl
  exact kT ⟨hL, fun v hv => by obtain ⟨i, hi⟩ := List.getElem?_of_mem hv; exact hall i v hi⟩
 try simp at hc6
 obtain ⟨v, hv⟩ : ∃ v, l[i]? = some v := r5r (by omega)
 refine y1y ?_
 refine hK5 _ _ ?_
 clear hK5 K5
 refine x4x fun K7 hK7 => ?_
 refine y5y ?_
 refine q5q x9x s9s (by rfl) ?_
 refine x0x rfl ?_
 refine x0x rfl ?_
 refine z9z rfl rfl u5u rfl y3y rfl hv ?_
 refine y7y rfl y3y rfl ?_
 refine z2z rfl rfl rfl (a0x ..) ?_
 refine z2z rfl rfl rfl (w6w ..) ?_
 refine q1q rfl ?_
 refine ⟨by kernel_rfl, ?_⟩
 refine y0y rfl (fun hc8 => ?_) (fun hc8 => ?_)
 rotate_left
 ·try simp at hc8
  have hb : 0 ≤ v ∧ v ≤ 9999 := by omega
  refine y1y ?_
  refine hK7 _ _ ?_
  clear hK7 K7
  refine y2y x9x (by rfl) ?_
  refine x0x rfl ?_
  refine v0v (b := 1) rfl rfl (by omega) ?_
  refine x2x rfl ?_
  exact ⟨i + 1, ⟨⟨by omega, a8v h2 hv hb⟩, by omega⟩, [], (x7x 3 rfl Cov.nil), (x7x 0 rfl Cov.nil), HE.nil, HE.nil, rfl⟩
 try simp at hc8
 have hX2 : ¬ (0 ≤ v ∧ v ≤ 9999) := by omega
 refine x6x x9x (by rfl) ?_
 refine x2x rfl ?_
 refine y4y ⟨.inr rfl, ?_⟩
 clear hK7 K7 hK4 K4
 refine z0z rfl ?_ rfl
 exact kF (fun h => hX2 (h.2 v (List.mem_of_getElem? hv)))
theorem b1v (c : Bool) (w : Wo) : a1f Try.prog 49 [.agg (a5z c w)] (.pv (.bool (decide (a0c w)))) := by
 refine z5z x9x (fn := Try.f49) (by kernel_rfl) (by kernel_rfl) rfl (outs := [.pv (.bool (decide (a0c w)))]) (by rfl) (v2v rfl) 1 ?_
 refine x6x x9x (by rfl) ?_
 refine p6p (id := 0) rfl rfl rfl ?_
 refine x2x rfl ?_
 refine q5q x9x s9s (by rfl) ?_
 refine x1x rfl z7z rfl rfl y3y rfl rfl ?_
 refine x3x rfl y3y rfl rfl ?_
 refine z2z rfl rfl rfl (w6w ..) ?_
 refine x0x rfl ?_
 refine a0l rfl rfl (fun hg1 => ?_) (fun hg1 => ?_)
 rotate_left
 ·try simp at hg1
  have hX : ¬ q2q w := by unfold q2q; omega
  refine x5x rfl rfl ?_
  refine x5x rfl rfl ?_
  refine x8x rfl rfl ?_
  refine x0x rfl ?_
  refine x5x rfl rfl ?_
  refine x5x rfl rfl ?_
  refine x5x rfl rfl ?_
  refine x8x rfl rfl ?_
  refine x0x rfl ?_
  refine x5x rfl rfl ?_
  refine x5x rfl rfl ?_
  refine x5x rfl rfl ?_
  refine x5x rfl rfl ?_
  refine x8x rfl rfl ?_
  refine x0x rfl ?_
  refine x5x rfl rfl ?_
  refine x5x rfl rfl ?_
  refine x5x rfl rfl ?_
  refine x5x rfl rfl ?_
  refine x8x rfl rfl ?_
  refine x0x rfl ?_
  refine x5x rfl rfl ?_
  refine x5x rfl rfl ?_
  refine x5x rfl rfl ?_
  refine x5x rfl rfl ?_
  refine x8x rfl rfl ?_
  refine x0x rfl ?_
  refine x5x rfl rfl ?_
  refine x5x rfl rfl ?_
  refine x5x rfl rfl ?_
  refine x8x rfl rfl ?_
  refine x0x rfl ?_
  refine x5x rfl rfl ?_
  refine x5x rfl rfl ?_
  refine x5x rfl rfl ?_
  refine x8x rfl rfl ?_
  refine x0x rfl ?_
  refine x5x rfl rfl ?_
  refine x5x rfl rfl ?_
  refine x5x rfl rfl ?_
  refine x8x rfl rfl ?_
  refine x0x rfl ?_
  refine x5x rfl rfl ?_
  refine x5x rfl rfl ?_
  refine x5x rfl rfl ?_
  refine x5x rfl rfl ?_
  refine x8x rfl rfl ?_
  refine x0x rfl ?_
  refine x5x rfl rfl ?_
  refine x5x rfl rfl ?_
  refine x5x rfl rfl ?_
  refine x8x rfl rfl ?_
  refine x2x rfl ?_
  refine ⟨by kernel_rfl, ?_⟩
  refine y4y ⟨.inr rfl, ?_⟩
  refine z0z rfl ?_ rfl
  exact kF (fun h => hX h.1)
 try simp at hg1
 refine x1x rfl z7z rfl rfl y3y rfl rfl ?_
 refine z1z rfl rfl ?_
 refine x3x rfl y3y rfl rfl ?_
 refine z1z rfl rfl ?_
 refine z2z rfl rfl rfl (w6w ..) ?_
 refine z3z rfl rfl ?_
 refine x0x rfl ?_
 refine a0l rfl rfl (fun hg2 => ?_) (fun hg2 => ?_)
 rotate_left
 ·try simp at hg2
  have hX : ¬ q2q w := by unfold q2q; omega
  refine x5x rfl rfl ?_
  refine x5x rfl rfl ?_
  refine x8x rfl rfl ?_
  refine x0x rfl ?_
  refine x5x rfl rfl ?_
  refine x5x rfl rfl ?_
  refine x5x rfl rfl ?_
  refine x5x rfl rfl ?_
  refine x8x rfl rfl ?_
  refine x0x rfl ?_
  refine x5x rfl rfl ?_
  refine x5x rfl rfl ?_
  refine x5x rfl rfl ?_
  refine x5x rfl rfl ?_
  refine x8x rfl rfl ?_
  refine x0x rfl ?_
  refine x5x rfl rfl ?_
  refine x5x rfl rfl ?_
  refine x5x rfl rfl ?_
  refine x5x rfl rfl ?_
  refine x8x rfl rfl ?_
  refine x0x rfl ?_
  refine x5x rfl rfl ?_
  refine x5x rfl rfl ?_
  refine x5x rfl rfl ?_
  refine x8x rfl rfl ?_
  refine x0x rfl ?_
  refine x5x rfl rfl ?_
  refine x5x rfl rfl ?_
  refine x5x rfl rfl ?_
  refine x8x rfl rfl ?_
  refine x0x rfl ?_
  refine x5x rfl rfl ?_
  refine x5x rfl rfl ?_
  refine x5x rfl rfl ?_
  refine x8x rfl rfl ?_
  refine x0x rfl ?_
  refine x5x rfl rfl ?_
  refine x5x rfl rfl ?_
  refine x5x rfl rfl ?_
  refine x5x rfl rfl ?_
  refine x8x rfl rfl ?_
  refine x0x rfl ?_
  refine x5x rfl rfl ?_
  refine x5x rfl rfl ?_
  refine x5x rfl rfl ?_
  refine x8x rfl rfl ?_
  refine x2x rfl ?_
  refine ⟨by kernel_rfl, ?_⟩
  refine y4y ⟨.inr rfl, ?_⟩
  refine z0z rfl ?_ rfl
  exact kF (fun h => hX h.1)
 try simp at hg2
 refine x1x rfl z7z rfl rfl y3y rfl rfl ?_
 refine z1z rfl rfl ?_
 refine x3x rfl y3y rfl rfl ?_
 refine z1z rfl rfl ?_
 refine z2z rfl rfl rfl (w6w ..) ?_
 refine z3z rfl rfl ?_
 refine x0x rfl ?_
 refine a0l rfl rfl (fun hg3 => ?_) (fun hg3 => ?_)
 rotate_left
 ·try simp at hg3
  have hX : ¬ q2q w := by unfold q2q; omega
  refine x5x rfl rfl ?_
  refine x5x rfl rfl ?_
  refine x5x rfl rfl ?_
  refine x8x rfl rfl ?_
  refine x0x rfl ?_
  refine x5x rfl rfl ?_
  refine x5x rfl rfl ?_
  refine x5x rfl rfl ?_
  refine x5x rfl rfl ?_
  refine x8x rfl rfl ?_
  refine x0x rfl ?_
  refine x5x rfl rfl ?_
  refine x5x rfl rfl ?_
  refine x5x rfl rfl ?_
  refine x5x rfl rfl ?_
  refine x8x rfl rfl ?_
  refine x0x rfl ?_
  refine x5x rfl rfl ?_
  refine x5x rfl rfl ?_
  refine x5x rfl rfl ?_
  refine x8x rfl rfl ?_
  refine x0x rfl ?_
  refine x5x rfl rfl ?_
  refine x5x rfl rfl ?_
  refine x5x rfl rfl ?_
  refine x8x rfl rfl ?_
  refine x0x rfl ?_
  refine x5x rfl rfl ?_
  refine x5x rfl rfl ?_
  refine x5x rfl rfl ?_
  refine x8x rfl rfl ?_
  refine x0x rfl ?_
  refine x5x rfl rfl ?_
  refine x5x rfl rfl ?_
  refine x5x rfl rfl ?_
  refine x5x rfl rfl ?_
  refine x8x rfl rfl ?_
  refine x0x rfl ?_
  refine x5x rfl rfl ?_
  refine x5x rfl rfl ?_
  refine x5x rfl rfl ?_
  refine x8x rfl rfl ?_
  refine x2x rfl ?_
  refine ⟨by kernel_rfl, ?_⟩
  refine y4y ⟨.inr rfl, ?_⟩
  refine z0z rfl ?_ rfl
  exact kF (fun h => hX h.1)
 try simp at hg3
 refine x1x rfl z7z rfl rfl y3y rfl rfl ?_
 refine z1z rfl rfl ?_
 refine x3x rfl y3y rfl rfl ?_
 refine z1z rfl rfl ?_
 refine z2z rfl rfl rfl (a0x ..) ?_
 refine z1z rfl rfl ?_
 refine z2z rfl rfl rfl (w6w ..) ?_
 refine z3z rfl rfl ?_
 refine x0x rfl ?_
 refine a0l rfl rfl (fun hg4 => ?_) (fun hg4 => ?_)
 rotate_left
 ·try simp at hg4
  have hX : ¬ q2q w := by unfold q2q; omega
  refine x5x rfl rfl ?_
  refine x5x rfl rfl ?_
  refine x5x rfl rfl ?_
  refine x8x rfl rfl ?_
  refine x0x rfl ?_
  refine x5x rfl rfl ?_
  refine x5x rfl rfl ?_
  refine x5x rfl rfl ?_
  refine x5x rfl rfl ?_
  refine x8x rfl rfl ?_
  refine x0x rfl ?_
  refine x5x rfl rfl ?_
  refine x5x rfl rfl ?_
  refine x5x rfl rfl ?_
  refine x8x rfl rfl ?_
  refine x0x rfl ?_
  refine x5x rfl rfl ?_
  refine x5x rfl rfl ?_
  refine x5x rfl rfl ?_
  refine x8x rfl rfl ?_
  refine x0x rfl ?_
  refine x5x rfl rfl ?_
  refine x5x rfl rfl ?_
  refine x5x rfl rfl ?_
  refine x8x rfl rfl ?_
  refine x0x rfl ?_
  refine x5x rfl rfl ?_
  refine x5x rfl rfl ?_
  refine x5x rfl rfl ?_
  refine x5x rfl rfl ?_
  refine x8x rfl rfl ?_
  refine x0x rfl ?_
  refine x5x rfl rfl ?_
  refine x5x rfl rfl ?_
  refine x5x rfl rfl ?_
  refine x8x rfl rfl ?_
  refine x2x rfl ?_
  refine ⟨by kernel_rfl, ?_⟩
  refine y4y ⟨.inr rfl, ?_⟩
  refine z0z rfl ?_ rfl
  exact kF (fun h => hX h.1)
 try simp at hg4
 refine x1x rfl z7z rfl rfl y3y rfl rfl ?_
 refine z1z rfl rfl ?_
 refine x3x rfl y3y rfl rfl ?_
 refine z1z rfl rfl ?_
 refine z2z rfl rfl rfl (a0x ..) ?_
 refine z1z rfl rfl ?_
 refine z2z rfl rfl rfl (w6w ..) ?_
 refine z3z rfl rfl ?_
 refine x0x rfl ?_
 refine a0l rfl rfl (fun hg5 => ?_) (fun hg5 => ?_)
 rotate_left
 ·try simp at hg5
  have hX : ¬ q2q w := by unfold q2q; omega
  refine x5x rfl rfl ?_
  refine x5x rfl rfl ?_
  refine x5x rfl rfl ?_
  refine x8x rfl rfl ?_
  refine x0x rfl ?_
  refine x5x rfl rfl ?_
  refine x5x rfl rfl ?_
  refine x5x rfl rfl ?_
  refine x8x rfl rfl ?_
  refine x0x rfl ?_
  refine x5x rfl rfl ?_
  refine x5x rfl rfl ?_
  refine x5x rfl rfl ?_
  refine x8x rfl rfl ?_
  refine x0x rfl ?_
  refine x5x rfl rfl ?_
  refine x5x rfl rfl ?_
  refine x5x rfl rfl ?_
  refine x8x rfl rfl ?_
  refine x0x rfl ?_
  refine x5x rfl rfl ?_
  refine x5x rfl rfl ?_
  refine x5x rfl rfl ?_
  refine x5x rfl rfl ?_
  refine x8x rfl rfl ?_
  refine x0x rfl ?_
  refine x5x rfl rfl ?_
  refine x5x rfl rfl ?_
  refine x5x rfl rfl ?_
  refine x8x rfl rfl ?_
  refine x2x rfl ?_
  refine ⟨by kernel_rfl, ?_⟩
  refine y4y ⟨.inr rfl, ?_⟩
  refine z0z rfl ?_ rfl
  exact kF (fun h => hX h.1)
 try simp at hg5
 refine x1x rfl z7z rfl rfl y3y rfl rfl ?_
 refine z1z rfl rfl ?_
 refine x3x rfl y3y rfl rfl ?_
 refine z1z rfl rfl ?_
 refine z2z rfl rfl rfl (a0x ..) ?_
 refine z1z rfl rfl ?_
 refine z2z rfl rfl rfl (w6w ..) ?_
 refine z3z rfl rfl ?_
 refine x0x rfl ?_
 refine a0l rfl rfl (fun hg6 => ?_) (fun hg6 => ?_)
 rotate_left
 ·try simp at hg6
  have hX : ¬ q2q w := by unfold q2q; omega
  refine x5x rfl rfl ?_
  refine x5x rfl rfl ?_
  refine x8x rfl rfl ?_
  refine x0x rfl ?_
  refine x5x rfl rfl ?_
  refine x5x rfl rfl ?_
  refine x5x rfl rfl ?_
  refine x8x rfl rfl ?_
  refine x0x rfl ?_
  refine x5x rfl rfl ?_
  refine x5x rfl rfl ?_
  refine x5x rfl rfl ?_
  refine x8x rfl rfl ?_
  refine x0x rfl ?_
  refine x5x rfl rfl ?_
  refine x5x rfl rfl ?_
  refine x5x rfl rfl ?_
  refine x5x rfl rfl ?_
  refine x8x rfl rfl ?_
  refine x0x rfl ?_
  refine x5x rfl rfl ?_
  refine x5x rfl rfl ?_
  refine x5x rfl rfl ?_
  refine x8x rfl rfl ?_
  refine x2x rfl ?_
  refine ⟨by kernel_rfl, ?_⟩
  refine y4y ⟨.inr rfl, ?_⟩
  refine z0z rfl ?_ rfl
  exact kF (fun h => hX h.1)
 try simp at hg6
 refine x1x rfl z7z rfl rfl y3y rfl rfl ?_
 refine z1z rfl rfl ?_
 refine x3x rfl y3y rfl rfl ?_
 refine z1z rfl rfl ?_
 refine z2z rfl rfl rfl (w6w ..) ?_
 refine z3z rfl rfl ?_
 refine x0x rfl ?_
 refine a0l rfl rfl (fun hg7 => ?_) (fun hg7 => ?_)
 rotate_left
 ·try simp at hg7
  have hX : ¬ q2q w := by unfold q2q; omega
  refine x5x rfl rfl ?_
  refine x5x rfl rfl ?_
  refine x8x rfl rfl ?_
  refine x0x rfl ?_
  refine x5x rfl rfl ?_
  refine x5x rfl rfl ?_
  refine x5x rfl rfl ?_
  refine x8x rfl rfl ?_
  refine x0x rfl ?_
  refine x5x rfl rfl ?_
  refine x5x rfl rfl ?_
  refine x5x rfl rfl ?_
  refine x5x rfl rfl ?_
  refine x8x rfl rfl ?_
  refine x0x rfl ?_
  refine x5x rfl rfl ?_
  refine x5x rfl rfl ?_
  refine x5x rfl rfl ?_
  refine x8x rfl rfl ?_
  refine x2x rfl ?_
  refine ⟨by kernel_rfl, ?_⟩
  refine y4y ⟨.inr rfl, ?_⟩
  refine z0z rfl ?_ rfl
  exact kF (fun h => hX h.1)
 try simp at hg7
 have hN : q2q w := by unfold q2q; omega
 refine x1x rfl z7z rfl rfl u5u rfl rfl ?_
 refine z1z rfl rfl ?_
 refine x3x rfl u5u rfl rfl ?_
 refine z1z rfl rfl ?_
 refine z2z rfl rfl rfl (a5b ..) ?_
 refine z3z rfl rfl ?_
 refine x0x rfl ?_
 refine a0l rfl rfl (fun hg8 => ?_) (fun hg8 => ?_)
 rotate_left
 ·try simp at hg8
  have hX1 : ¬ a3l w.incs := by exact hg8
  refine x5x rfl rfl ?_
  refine x5x rfl rfl ?_
  refine x8x rfl rfl ?_
  refine x0x rfl ?_
  refine x5x rfl rfl ?_
  refine x5x rfl rfl ?_
  refine x5x rfl rfl ?_
  refine x5x rfl rfl ?_
  refine x8x rfl rfl ?_
  refine x0x rfl ?_
  refine x5x rfl rfl ?_
  refine x5x rfl rfl ?_
  refine x5x rfl rfl ?_
  refine x8x rfl rfl ?_
  refine x2x rfl ?_
  refine ⟨by kernel_rfl, ?_⟩
  refine y4y ⟨.inr rfl, ?_⟩
  refine z0z rfl ?_ rfl
  exact kF (fun h => hX1 h.2.1)
 try simp at hg8
 have hI : a3l w.incs := by exact hg8
 refine x1x rfl z7z rfl rfl u5u rfl rfl ?_
 refine z1z rfl rfl ?_
 refine x3x rfl u5u rfl rfl ?_
 refine z1z rfl rfl ?_
 refine z2z rfl rfl rfl (a5b ..) ?_
 refine z3z rfl rfl ?_
 refine x0x rfl ?_
 refine a0l rfl rfl (fun hg9 => ?_) (fun hg9 => ?_)
 rotate_left
 ·try simp at hg9
  have hX2 : ¬ a3l w.versions := by exact hg9
  refine x5x rfl rfl ?_
  refine x5x rfl rfl ?_
  refine x5x rfl rfl ?_
  refine x8x rfl rfl ?_
  refine x0x rfl ?_
  refine x5x rfl rfl ?_
  refine x5x rfl rfl ?_
  refine x5x rfl rfl ?_
  refine x8x rfl rfl ?_
  refine x2x rfl ?_
  refine ⟨by kernel_rfl, ?_⟩
  refine y4y ⟨.inr rfl, ?_⟩
  refine z0z rfl ?_ rfl
  exact kF (fun h => hX2 h.2.2.1)
 try simp at hg9
 have hV : a3l w.versions := by exact hg9
 refine x1x rfl z7z rfl rfl w8w rfl rfl ?_
 refine z1z rfl rfl ?_
 refine x3x rfl w8w rfl rfl ?_
 refine z1z rfl rfl ?_
 refine z2z rfl rfl rfl (b1r ..) ?_
 refine z1z rfl rfl ?_
 refine z2z rfl rfl rfl (a9e ..) ?_
 refine z3z rfl rfl ?_
 refine x0x rfl ?_
 refine a0l rfl rfl (fun hg10 => ?_) (fun hg10 => ?_)
 rotate_left
 ·try simp at hg10
  have hX3 : ¬ a7w okE a6u w.events 100 = true := by simpa using hg10
  refine x5x rfl rfl ?_
  refine x5x rfl rfl ?_
  refine x8x rfl rfl ?_
  refine x2x rfl ?_
  refine ⟨by kernel_rfl, ?_⟩
  refine y4y ⟨.inr rfl, ?_⟩
  refine z0z rfl ?_ rfl
  exact kF (fun h => hX3 h.2.2.2.1)
 try simp at hg10
 have hE : a7w okE a6u w.events 100 = true := by exact hg10
 refine x1x rfl z7z rfl rfl w7w rfl rfl ?_
 refine z1z rfl rfl ?_
 refine x3x rfl w7w rfl rfl ?_
 refine z1z rfl rfl ?_
 refine z2z rfl rfl rfl (b1u ..) ?_
 refine z3z rfl rfl ?_
 refine x2x rfl ?_
 refine ⟨by kernel_rfl, ?_⟩
 refine y4y ⟨.inr rfl, ?_⟩
 refine z0z rfl ?_ rfl
 exact congrArg (fun b : Bool => [AV.pv (.bool b)]) (Bool.eq_iff_iff.2 ⟨fun h => decide_eq_true ⟨hN, hI, hV, hE, h⟩, fun h => (of_decide_eq_true h).2.2.2.2⟩)
end
section
theorem s8s (l : List Nat) (v : Int) (hv : ok7 v) (hl : l.length ≤ 10000000) : Meth Try.prog 50 1 [] [.ref 0 0, .pv (.int .i64 v)] [(0, (0, .row 5 1 ((l).map a1l)))] (.ref 0 0) [(0, (0, .row 5 1 ((l ++ p3p v).map a1l)))] := by
 refine v8v x9x (fn := Try.f50) (by kernel_rfl) (by kernel_rfl) rfl (O0 := [.ref 0 0]) 1 4 (v2v rfl) (by rfl) (by repeat (first | exact BndH.nil | refine BndH.row (w3w fun _ => rfl) ?_)) (by repeat (first | exact BndH.nil | refine BndH.row (w3w fun _ => rfl) ?_)) (by rfl) fun γ => ?_
 show Ex Try.prog _ _ [(0, .ref 0 (γ 0)), (1, .pv (.int .i64 v))] [(0, ((γ 0), .row 5 1 ((l).map a1l))), (4, (0, .dead)), (3, (0, .dead)), (2, (0, .dead)), (1, (0, .dead))] _
 have hv1 := hv.1
 have hv2 := hv.2
 have hE : (p3p v).length ≤ 2 := a0e hv
 refine x6x x9x (by rfl) ?_
 refine x2x rfl ?_
 refine x6x x9x (by rfl) ?_
 refine x0x rfl ?_
 refine u0u (.int .i64 (((v + 1).toNat : Nat) : Int)) rfl rfl rfl (p8p rfl (by omega) (by omega) (by omega)) ?_
 refine x2x rfl ?_
 refine x4x fun K1 hK1 => ?_
 refine y5y ?_
 refine v1v (ι := List Nat × Nat) (fun p γ1 => [(0, .ref 0 (γ1 0)), (1, .pv (.int .i64 (p.2 : Int)))]) (fun p γ1 => [(0, ((γ1 0), .row 5 1 ((p.1).map a1l))), (1, ((γ1 1), .dead)), (2, ((γ1 2), .dead))]) (fun p => p.1 ++ b0k p.2 = l ++ p3p v ∧ p.2 ≤ 10000) (fun p => p.2) Cov.nil (u9u 3 rfl (u9u 4 rfl HE.nil)) (l, (v + 1).toNat) ⟨rfl, by show (v + 1).toNat ≤ 10000; omega⟩ [_, _, _] (x7x 0 rfl (x7x 1 rfl Cov.nil)) (HE.row rfl rfl (HE.kill rfl (HE.kill rfl HE.nil))) rfl fun p γ1 hi => ?_
 try dsimp only [List.cons_append, List.nil_append]
 obtain ⟨l', q⟩ := p
 obtain ⟨h1, h2⟩ := hi
 dsimp only at h1 h2 ⊢
 have hL := congrArg List.length h1
 rw [List.length_append, List.length_append] at hL
 refine x4x fun K2 hK2 => ?_
 refine x6x x9x (by rfl) ?_
 refine x0x rfl ?_
 refine y6y rfl rfl rfl ?_
 refine y0y rfl (fun hc3 => ?_) (fun hc3 => ?_)
 rotate_left
 ·try simp at hc3
  refine v3v ?_
  refine hK1 _ _ ?_
  clear hK2 K2 hK1 K1
  refine x6x x9x (by rfl) ?_
  refine x0x rfl ?_
  refine x0x rfl ?_
  refine r8r (((q : Nat) : Int)) rfl y3y a1c rfl rfl (b6h (by omega) (by omega)) ?_
  refine a2l (id := 3) w4w rfl a1c rfl rfl rfl rfl rfl ?_
  refine a0g (zs := (l' ++ [q]).map a1l) rfl rfl w4w rfl a1c rfl rfl rfl rfl (by rfl) (a4o _ _ _) (by (simp only [List.length_map, List.length_append, List.length_cons, List.length_nil, List.length_take, T5]; omega)) ?_
  refine x2x rfl ?_
  refine y4y ?_
  exact ⟨.inr rfl, [_], rfl, rfl, (HE.row rfl (by rw [← h1, a3u (by omega)]) HE.nil)⟩
 try simp at hc3
 refine y1y ?_
 refine hK2 _ _ ?_
 clear hK2 K2
 refine y5y ?_
 refine x6x x9x (by rfl) ?_
 refine x0x rfl ?_
 refine x0x rfl ?_
 refine b0z (b := 128) rfl rfl (by omega) ?_
 refine v0v (a := 128) rfl rfl (by omega) ?_
 refine r8r (((128 + q % 128 : Nat) : Int)) rfl y3y a1c rfl rfl (b6h (by omega) (by omega)) ?_
 refine a2l (id := 1) w4w rfl a1c rfl rfl rfl rfl rfl ?_
 refine a0g (zs := (l' ++ [128 + q % 128]).map a1l) rfl rfl w4w rfl a1c rfl rfl rfl rfl (by rfl) (a4o _ _ _) (by (simp only [List.length_map, List.length_append, List.length_cons, List.length_nil, List.length_take, T5]; omega)) ?_
 refine x2x rfl ?_
 refine y2y x9x (by rfl) ?_
 refine x0x rfl ?_
 refine c1x (b := 128) rfl rfl (by omega) (by omega) ?_
 refine x2x rfl ?_
 exact ⟨(l' ++ [128 + q % 128], q / 128), ⟨⟨by rw [a5l (by omega)] at h1; rw [← h1, List.append_assoc]; rfl, by show q / 128 ≤ 10000; omega⟩, (by show q / 128 < q; omega)⟩, [_, _, _], (x7x 0 rfl (x7x 1 rfl Cov.nil)), Cov.nil, (HE.row rfl rfl (HE.kill rfl (HE.kill rfl HE.nil))), (u9u 3 rfl (u9u 4 rfl HE.nil)), rfl⟩
theorem a5c (c : Bool) (b : List Nat) (l : List Int) (hv : ∀ v ∈ l, ok7 v) (hl : l.length ≤ 9999) (hb : b.length ≤ 1000000) : Meth Try.prog 51 1 [] [.ref 0 0, s7s c l] [(0, (0, .row 5 1 ((b).map a1l)))] (.ref 0 0) [(0, (0, .row 5 1 ((b ++ p3p (l.length : Int) ++ u8u l).map a1l)))] := by
 refine v8v x9x (fn := Try.f51) (by kernel_rfl) (by kernel_rfl) rfl (O0 := [.ref 0 0]) 1 0 (v2v rfl) (by rfl) (by repeat (first | exact BndH.nil | refine BndH.row (w3w fun _ => rfl) ?_)) (by repeat (first | exact BndH.nil | refine BndH.row (w3w fun _ => rfl) ?_)) (by rfl) fun γ => ?_
 show Ex Try.prog _ _ [(0, .ref 0 (γ 0)), (1, s7s c l)] [(0, ((γ 0), .row 5 1 ((b).map a1l)))] _
 have hE : (p3p (l.length : Int)).length ≤ 2 := a0e ⟨by omega, by omega⟩
 refine x6x x9x (by rfl) ?_
 refine x2x rfl ?_
 refine x6x x9x (by rfl) ?_
 refine x0x rfl ?_
 refine x0x rfl ?_
 refine u6u rfl u5u rfl ?_
 refine z6z [0] [_] (s8s b (l.length : Int) ⟨by omega, by omega⟩ (by omega)) rfl rfl rfl (by decide) rfl rfl (by repeat (first | exact InH.nil | refine InH.cons rfl ?_)) (by (simp only [pI, y8y, y9y, w5w, gl, nx, w0w, Nat.beq]; rfl)) (by (simp only [pI, y8y, y9y, w5w, gl, nx, w0w, Nat.beq]; rfl)) ?_
 refine x2x rfl ?_
 refine x4x fun K1 hK1 => ?_
 refine x6x x9x (by rfl) ?_
 refine x2x rfl ?_
 refine y5y ?_
 refine v1v (ι := Nat) (fun i γ1 => [(0, .ref 0 (γ1 0)), (5, .pv (.int .i64 (i : Int)))]) (fun i γ1 => [(0, ((γ1 0), .row 5 1 ((b ++ p3p (l.length : Int) ++ u8u (l.take i)).map a1l)))]) (fun i => i ≤ l.length) (fun i => l.length - i) (x7x 1 rfl Cov.nil) HE.nil 0 (by omega) [_] (x7x 0 rfl (x7x 5 rfl Cov.nil)) (HE.row rfl (by rw [List.take_zero, show u8u [] = [] from rfl, List.append_nil]) HE.nil) rfl fun i γ1 hi => ?_
 try dsimp only [List.cons_append, List.nil_append]
 refine x4x fun K2 hK2 => ?_
 refine x6x x9x (by rfl) ?_
 refine x0x rfl ?_
 refine x0x rfl ?_
 refine u6u rfl u5u rfl ?_
 refine y6y rfl rfl rfl ?_
 refine y0y rfl (fun hc3 => ?_) (fun hc3 => ?_)
 rotate_left
 ·try simp at hc3
  obtain rfl : i = l.length := by omega
  rw [List.take_length]
  refine v3v ?_
  refine hK1 _ _ ?_
  clear hK2 K2 hK1 K1
  refine x6x x9x (by rfl) ?_
  refine x0x rfl ?_
  refine x2x rfl ?_
  refine y4y ?_
  exact ⟨.inr rfl, [_], rfl, rfl, (HE.row rfl rfl HE.nil)⟩
 try simp at hc3
 obtain ⟨x, hx⟩ : ∃ x, l[i]? = some x := r5r (by omega)
 have hT := s0s (l := l.take i) (fun v h => hv v (List.mem_of_mem_take h))
 rw [List.length_take] at hT
 refine y1y ?_
 refine hK2 _ _ ?_
 clear hK2 K2
 refine x4x fun K4 hK4 => ?_
 refine y5y ?_
 refine y2y x9x (by rfl) ?_
 refine x0x rfl ?_
 refine x0x rfl ?_
 refine x0x rfl ?_
 refine z9z rfl rfl u5u rfl y3y rfl hx ?_
 refine y7y rfl y3y rfl ?_
 refine z6z [0] [_] (s8s (b ++ p3p (l.length : Int) ++ u8u (l.take i)) x (hv x (List.mem_of_getElem? hx)) (by (simp only [List.length_append, List.length_take]; omega))) rfl rfl rfl (by decide) rfl rfl (by repeat (first | exact InH.nil | refine InH.cons rfl ?_)) (by (simp only [pI, y8y, y9y, w5w, gl, nx, w0w, Nat.beq]; rfl)) (by (simp only [pI, y8y, y9y, w5w, gl, nx, w0w, Nat.beq]; rfl)) ?_
 refine x2x rfl ?_
 refine hK4 _ _ ?_
 clear hK4 K4
 refine y2y x9x (by rfl) ?_
 refine x0x rfl ?_
 refine a0r rfl rfl rfl ?_
 refine x2x rfl ?_
 exact ⟨i + 1, ⟨by omega, by omega⟩, [_], (x7x 0 rfl (Cov.cons' (t := 5) rfl (by rw [v9v (by omega) (by omega)]; rfl) Cov.nil)), (x7x 1 rfl Cov.nil), (HE.row rfl (by rw [s3s hx, a2r, List.append_assoc (b ++ p3p (l.length : Int))]) HE.nil), HE.nil, rfl⟩
theorem a9f (e : Ev) : a1f Try.prog 52 [.agg (s6s e)] (s7s true (evN e)) := by
 refine z5z x9x (fn := Try.f52) (by kernel_rfl) (by kernel_rfl) rfl (outs := [s7s true (evN e)]) (by rfl) (v2v rfl) 2 ?_
 refine x6x x9x (by rfl) ?_
 refine p6p (id := 0) rfl rfl rfl ?_
 refine x2x rfl ?_
 refine x6x x9x (by rfl) ?_
 refine x1x rfl u3u rfl rfl y3y rfl rfl ?_
 refine x3x rfl y3y rfl rfl ?_
 refine x1x rfl u3u rfl rfl y3y rfl rfl ?_
 refine x3x rfl y3y rfl rfl ?_
 refine x1x rfl u3u rfl rfl y3y rfl rfl ?_
 refine x3x rfl y3y rfl rfl ?_
 refine x1x rfl u3u rfl rfl y3y rfl rfl ?_
 refine x3x rfl y3y rfl rfl ?_
 refine x1x rfl u3u rfl rfl y3y rfl rfl ?_
 refine x3x rfl y3y rfl rfl ?_
 refine x1x rfl u3u rfl rfl y3y rfl rfl ?_
 refine x3x rfl y3y rfl rfl ?_
 refine x1x rfl u3u rfl rfl y3y rfl rfl ?_
 refine x3x rfl y3y rfl rfl ?_
 refine q4q (id := 1) u5u rfl y3y rfl rfl rfl rfl (.val rfl rfl (.val rfl rfl (.val rfl rfl (.val rfl rfl (.val rfl rfl (.val rfl rfl (.val rfl rfl .nil))))))) rfl (v2v rfl) (v2v rfl) (v2v rfl) rfl rfl ?_
 refine x2x rfl ?_
 refine y4y ⟨.inr rfl, ?_⟩
 exact ⟨_, _, rfl, .ref rfl (Le.ow_map (f := a3p) (evN e) (fun _ => rfl) (fun _ => rfl)) .nil⟩
theorem b1w (o : Ou) : a1f Try.prog 53 [.agg (a0n o)] (s7s true (ouL o)) := by
 refine z5z x9x (fn := Try.f53) (by kernel_rfl) (by kernel_rfl) rfl (outs := [s7s true (ouL o)]) (by rfl) (v2v rfl) 2 ?_
 refine x6x x9x (by rfl) ?_
 refine p6p (id := 0) rfl rfl rfl ?_
 refine x2x rfl ?_
 refine x6x x9x (by rfl) ?_
 refine x1x rfl u7u rfl rfl y3y rfl rfl ?_
 refine x3x rfl y3y rfl rfl ?_
 refine x1x rfl u7u rfl rfl y3y rfl rfl ?_
 refine x3x rfl y3y rfl rfl ?_
 refine x1x rfl u7u rfl rfl y3y rfl rfl ?_
 refine x3x rfl y3y rfl rfl ?_
 refine x1x rfl u7u rfl rfl y3y rfl rfl ?_
 refine x3x rfl y3y rfl rfl ?_
 refine x1x rfl u7u rfl rfl y3y rfl rfl ?_
 refine x3x rfl y3y rfl rfl ?_
 refine q4q (id := 1) u5u rfl y3y rfl rfl rfl rfl (.val rfl rfl (.val rfl rfl (.val rfl rfl (.val rfl rfl (.val rfl rfl .nil))))) rfl (v2v rfl) (v2v rfl) (v2v rfl) rfl rfl ?_
 refine x2x rfl ?_
 refine y4y ⟨.inr rfl, ?_⟩
 exact ⟨_, _, rfl, .ref rfl (Le.ow_map (f := a3p) (ouL o) (fun _ => rfl) (fun _ => rfl)) .nil⟩
theorem a9g (c : Bool) (w : Wo) : a1f Try.prog 18 [.agg (a5z c w)] (v7v true (a7p w)) := by
 refine z5z x9x (fn := Try.f18) (by kernel_rfl) (by kernel_rfl) rfl (outs := [v7v true (a7p w)]) (by rfl) (v2v rfl) 3 ?_
 refine x6x x9x (by rfl) ?_
 refine p6p (id := 0) rfl rfl rfl ?_
 refine x2x rfl ?_
 refine x6x x9x (by rfl) ?_
 refine b2m (id := 1) w4w rfl a1c rfl ?_
 refine x2x rfl ?_
 refine x4x fun K1 hK1 => ?_
 refine x6x x9x (by rfl) ?_
 refine u2u rfl z7z rfl rfl rfl ?_
 refine z2z rfl rfl rfl (b1v ..) ?_
 refine q1q rfl ?_
 refine y0y rfl (fun hc2 => ?_) (fun hc2 => ?_)
 ·try simp at hc2
  have hX : ¬ a0c w := by simpa using hc2
  refine x6x x9x (by rfl) ?_
  refine x0x rfl ?_
  refine x2x rfl ?_
  refine y4y ⟨.inr rfl, ?_⟩
  clear hK1 K1
  (rw [b1l hX]; exact ⟨_, _, rfl, .ref rfl (Le.ow_map (f := a1l) [] (fun _ => rfl) (fun _ => rfl)) .nil⟩)
 try simp at hc2
 have hW : a0c w := by simpa using hc2
 have k1 := a3j hW.2.1
 have k2 := a3j hW.2.2.1
 have k3 := (a0o hW.2.2.2.1).1
 have k4 := (a0o hW.2.2.2.2).1
 have b1 := s0s (a1v hW)
 have b0 : (r9r w).length = 7 := rfl
 have b2 : (p3p (w.incs.length : Int)).length ≤ 2 := a0e ⟨by omega, by omega⟩
 have b3 : (p3p (w.versions.length : Int)).length ≤ 2 := a0e ⟨by omega, by omega⟩
 have b4 : (p3p (w.events.length : Int)).length ≤ 2 := a0e ⟨by omega, by omega⟩
 have b5 : (p3p (w.outs.length : Int)).length ≤ 2 := a0e ⟨by omega, by omega⟩
 have b6 := s0s (a1o hW.2.1)
 have b7 := s0s (a1o hW.2.2.1)
 have b8 := a3w (a1m hW)
 have b9 := a3x (a1n hW)
 refine y1y ?_
 refine hK1 _ _ ?_
 clear hK1 K1
 refine x6x x9x (by rfl) ?_
 refine x1x rfl z7z rfl rfl y3y rfl rfl ?_
 refine x3x rfl y3y rfl rfl ?_
 refine x1x rfl z7z rfl rfl y3y rfl rfl ?_
 refine x3x rfl y3y rfl rfl ?_
 refine x1x rfl z7z rfl rfl y3y rfl rfl ?_
 refine x3x rfl y3y rfl rfl ?_
 refine x1x rfl z7z rfl rfl y3y rfl rfl ?_
 refine x3x rfl y3y rfl rfl ?_
 refine x1x rfl z7z rfl rfl y3y rfl rfl ?_
 refine x3x rfl y3y rfl rfl ?_
 refine x1x rfl z7z rfl rfl y3y rfl rfl ?_
 refine x3x rfl y3y rfl rfl ?_
 refine x1x rfl z7z rfl rfl y3y rfl rfl ?_
 refine x3x rfl y3y rfl rfl ?_
 refine q4q (id := 2) u5u rfl y3y rfl rfl rfl rfl (.val rfl rfl (.val rfl rfl (.val rfl rfl (.val rfl rfl (.val rfl rfl (.val rfl rfl (.val rfl rfl .nil))))))) rfl (v2v rfl) (v2v rfl) (v2v rfl) rfl rfl ?_
 refine x2x rfl ?_
 refine x4x fun K3 hK3 => ?_
 refine x6x x9x (by rfl) ?_
 refine x2x rfl ?_
 refine y5y ?_
 refine v1v (ι := Nat) (fun i γ1 => [(3, .ref 1 (γ1 1)), (5, .pv (.int .i64 (i : Int)))]) (fun i γ1 => [(1, ((γ1 1), .row 5 1 ((u8u ((r9r w).take i)).map a1l)))]) (fun i => i ≤ 7) (fun i => 7 - i) (x7x 1 rfl (x7x 4 rfl Cov.nil)) (u9u 0 rfl (u9u 2 rfl HE.nil)) 0 (by omega) [0, _] (x7x 3 rfl (x7x 5 rfl Cov.nil)) (HE.row rfl (by rw [List.take_zero]; rfl) HE.nil) rfl fun i γ1 hi => ?_
 try dsimp only [List.cons_append, List.nil_append]
 refine x4x fun K4 hK4 => ?_
 refine x6x x9x (by rfl) ?_
 refine x0x rfl ?_
 refine x0x rfl ?_
 refine a5h (n := 7) rfl u5u rfl rfl rfl ?_
 refine y6y rfl rfl rfl ?_
 refine y0y rfl (fun hc5 => ?_) (fun hc5 => ?_)
 ·try simp at hc5
  obtain ⟨x, hx⟩ : ∃ x, (r9r w)[i]? = some x := ⟨_, List.getElem?_eq_getElem (by show i < 7; omega)⟩
  have hT := s0s (l := (r9r w).take i) (fun v h => a1v hW v (List.mem_of_mem_take h))
  rw [List.length_take] at hT
  refine y1y ?_
  refine hK4 _ _ ?_
  clear hK4 K4
  refine x4x fun K6 hK6 => ?_
  refine y5y ?_
  refine y2y x9x (by rfl) ?_
  refine x0x rfl ?_
  refine x0x rfl ?_
  refine x0x rfl ?_
  refine a1e (f := a3p) (l := r9r w) (j := i) rfl rfl u5u rfl y3y rfl rfl (by show i < 7; omega) ?_
  refine a0i (f := a3p) (l := r9r w) rfl y3y rfl hx rfl ?_
  refine z6z [1] [_] (s8s (u8u ((r9r w).take i)) x (a1v hW x (List.mem_of_getElem? hx)) (by omega)) rfl rfl rfl (by decide) rfl rfl (by repeat (first | exact InH.nil | refine InH.cons rfl ?_)) (by (simp only [pI, y8y, y9y, w5w, gl, nx, w0w, Nat.beq]; rfl)) (by (simp only [pI, y8y, y9y, w5w, gl, nx, w0w, Nat.beq]; rfl)) ?_
  refine x2x rfl ?_
  refine hK6 _ _ ?_
  clear hK6 K6
  refine y2y x9x (by rfl) ?_
  refine x0x rfl ?_
  refine a0r rfl rfl rfl ?_
  refine x2x rfl ?_
  exact ⟨i + 1, ⟨by omega, by omega⟩, [0, _], (x7x 3 rfl (Cov.cons' (t := 5) rfl (by rw [v9v (by omega) (by omega)]; rfl) Cov.nil)), (x7x 1 rfl (x7x 4 rfl Cov.nil)), (HE.row rfl (by rw [s3s hx, a2r]) HE.nil), (u9u 0 rfl (u9u 2 rfl HE.nil)), rfl⟩
 try simp at hc5
 obtain rfl : i = 7 := by omega
 rw [show (r9r w).take 7 = r9r w from rfl]
 refine v3v ?_
 refine hK3 _ _ ?_
 clear hK4 K4 hK3 K3
 refine q5q x9x s9s (by rfl) ?_
 refine x0x rfl ?_
 refine x1x rfl z7z rfl rfl u5u rfl rfl ?_
 refine x3x rfl u5u rfl rfl ?_
 refine z6z [1] [_] (a5c c (u8u (r9r w)) w.incs (a1o hW.2.1) (by omega) (by omega)) rfl rfl rfl (by decide) rfl rfl (by repeat (first | exact InH.nil | refine InH.cons rfl ?_)) (by (simp only [pI, y8y, y9y, w5w, gl, nx, w0w, Nat.beq]; rfl)) (by (simp only [pI, y8y, y9y, w5w, gl, nx, w0w, Nat.beq]; rfl)) ?_
 refine x1x rfl z7z rfl rfl u5u rfl rfl ?_
 refine x3x rfl u5u rfl rfl ?_
 refine z6z [1] [_] (a5c c (u8u (r9r w) ++ p3p (w.incs.length : Int) ++ u8u w.incs) w.versions (a1o hW.2.2.1) (by omega) (by (simp only [List.length_append, List.length_take]; omega))) rfl rfl rfl (by decide) rfl rfl (by repeat (first | exact InH.nil | refine InH.cons rfl ?_)) (by (simp only [pI, y8y, y9y, w5w, gl, nx, w0w, Nat.beq]; rfl)) (by (simp only [pI, y8y, y9y, w5w, gl, nx, w0w, Nat.beq]; rfl)) ?_
 refine x2x rfl ?_
 refine ⟨by kernel_rfl, ?_⟩
 refine x6x x9x (by rfl) ?_
 refine x0x rfl ?_
 refine x1x rfl z7z rfl rfl w8w rfl rfl ?_
 refine x3x rfl w8w rfl rfl ?_
 refine u6u rfl w8w rfl ?_
 refine z6z [1] [_] (s8s (u8u (r9r w) ++ p3p (w.incs.length : Int) ++ u8u w.incs ++ p3p (w.versions.length : Int) ++ u8u w.versions) (w.events.length : Int) ⟨by omega, by omega⟩ (by (simp only [List.length_append, List.length_take]; omega))) rfl rfl rfl (by decide) rfl rfl (by repeat (first | exact InH.nil | refine InH.cons rfl ?_)) (by (simp only [pI, y8y, y9y, w5w, gl, nx, w0w, Nat.beq]; rfl)) (by (simp only [pI, y8y, y9y, w5w, gl, nx, w0w, Nat.beq]; rfl)) ?_
 refine x2x rfl ?_
 refine x4x fun K7 hK7 => ?_
 refine x6x x9x (by rfl) ?_
 refine x2x rfl ?_
 refine y5y ?_
 refine v1v (ι := Nat) (fun i γ2 => [(3, .ref 1 (γ2 1)), (6, .pv (.int .i64 (i : Int)))]) (fun i γ2 => [(1, ((γ2 1), .row 5 1 ((u8u (r9r w) ++ p3p (w.incs.length : Int) ++ u8u w.incs ++ p3p (w.versions.length : Int) ++ u8u w.versions ++ p3p (w.events.length : Int) ++ r3r (w.events.take i)).map a1l)))]) (fun i => i ≤ w.events.length) (fun i => w.events.length - i) (x7x 1 rfl Cov.nil) (u9u 0 rfl (u9u 2 rfl HE.nil)) 0 (by omega) [0, _] (x7x 3 rfl (x7x 6 rfl Cov.nil)) (HE.row rfl (by rw [List.take_zero, show r3r [] = [] from rfl, List.append_nil]) HE.nil) rfl fun i γ2 hi => ?_
 try dsimp only [List.cons_append, List.nil_append]
 refine x4x fun K8 hK8 => ?_
 refine x6x x9x (by rfl) ?_
 refine x0x rfl ?_
 refine x1x rfl z7z rfl rfl w8w rfl rfl ?_
 refine x3x rfl w8w rfl rfl ?_
 refine u6u rfl w8w rfl ?_
 refine y6y rfl rfl rfl ?_
 refine y0y rfl (fun hc9 => ?_) (fun hc9 => ?_)
 ·try simp at hc9
  obtain ⟨e, he⟩ : ∃ e, w.events[i]? = some e := r5r (by omega)
  have hT := a3w (l := w.events.take i) (fun v h => a1m hW v (List.mem_of_mem_take h))
  rw [List.length_take] at hT
  refine y1y ?_
  refine hK8 _ _ ?_
  clear hK8 K8
  refine x4x fun K10 hK10 => ?_
  refine y5y ?_
  refine x6x x9x (by rfl) ?_
  refine x1x rfl z7z rfl rfl w8w rfl rfl ?_
  refine x3x rfl w8w rfl rfl ?_
  refine x0x rfl ?_
  refine z9z rfl rfl w8w rfl u3u rfl he ?_
  refine y7y (out := .agg (s6s e)) rfl u3u rfl ?_
  refine z2z rfl rfl rfl (a9f e) ?_
  refine x2x rfl ?_
  refine x6x x9x (by rfl) ?_
  refine x2x rfl ?_
  refine y5y ?_
  refine v1v (ι := Nat) (fun k γ3 => [(3, .ref 1 (γ3 1)), (8, .pv (.int .i64 (k : Int)))]) (fun k γ3 => [(1, ((γ3 1), .row 5 1 ((u8u (r9r w) ++ p3p (w.incs.length : Int) ++ u8u w.incs ++ p3p (w.versions.length : Int) ++ u8u w.versions ++ p3p (w.events.length : Int) ++ r3r (w.events.take i) ++ u8u ((evN e).take k)).map a1l)))]) (fun k => k ≤ 7) (fun k => 7 - k) (x7x 1 rfl (x7x 6 rfl (x7x 7 rfl Cov.nil))) (u9u 0 rfl (u9u 2 rfl HE.nil)) 0 (by omega) [0, _] (x7x 3 rfl (x7x 8 rfl Cov.nil)) (HE.row rfl (by rw [List.take_zero, show u8u [] = [] from rfl, List.append_nil]) HE.nil) rfl fun k γ3 hi => ?_
  try dsimp only [List.cons_append, List.nil_append]
  refine x4x fun K11 hK11 => ?_
  refine x6x x9x (by rfl) ?_
  refine x0x rfl ?_
  refine x0x rfl ?_
  refine u6u rfl u5u rfl ?_
  refine y6y rfl rfl rfl ?_
  refine y0y rfl (fun hc12 => ?_) (fun hc12 => ?_)
  rotate_left
  ·try simp at hc12
   have hk7 : (evN e).length = 7 := rfl
   obtain rfl : k = 7 := by omega
   rw [show (evN e).take 7 = evN e from rfl]
   refine v3v ?_
   refine hK10 _ _ ?_
   clear hK11 K11 hK10 K10
   refine y2y x9x (by rfl) ?_
   refine x0x rfl ?_
   refine a0r rfl rfl rfl ?_
   refine x2x rfl ?_
   exact ⟨i + 1, ⟨by omega, by omega⟩, [0, _], (x7x 3 rfl (Cov.cons' (t := 6) rfl (by rw [v9v (by omega) (by omega)]; rfl) Cov.nil)), (x7x 1 rfl Cov.nil), (HE.row rfl (by rw [s3s he, b0m, List.append_assoc (u8u (r9r w) ++ p3p (w.incs.length : Int) ++ u8u w.incs ++ p3p (w.versions.length : Int) ++ u8u w.versions ++ p3p (w.events.length : Int))]) HE.nil), (u9u 0 rfl (u9u 2 rfl HE.nil)), rfl⟩
  try simp at hc12
  have hU7 : (evN e).length = 7 := rfl
  obtain ⟨x, hx⟩ : ∃ x, (evN e)[k]? = some x := ⟨_, List.getElem?_eq_getElem (by show k < 7; omega)⟩
  have hU := s0s (l := (evN e).take k) (fun v h => a1m hW e (List.mem_of_getElem? he) v (List.mem_of_mem_take h))
  rw [List.length_take] at hU
  refine y1y ?_
  refine hK11 _ _ ?_
  clear hK11 K11
  refine x4x fun K13 hK13 => ?_
  refine y5y ?_
  refine y2y x9x (by rfl) ?_
  refine x0x rfl ?_
  refine x0x rfl ?_
  refine x0x rfl ?_
  refine z9z rfl rfl u5u rfl y3y rfl hx ?_
  refine y7y rfl y3y rfl ?_
  refine z6z [1] [_] (s8s (u8u (r9r w) ++ p3p (w.incs.length : Int) ++ u8u w.incs ++ p3p (w.versions.length : Int) ++ u8u w.versions ++ p3p (w.events.length : Int) ++ r3r (w.events.take i) ++ u8u ((evN e).take k)) x (a1m hW e (List.mem_of_getElem? he) x (List.mem_of_getElem? hx)) (by (simp only [List.length_append, List.length_take]; omega))) rfl rfl rfl (by decide) rfl rfl (by repeat (first | exact InH.nil | refine InH.cons rfl ?_)) (by (simp only [pI, y8y, y9y, w5w, gl, nx, w0w, Nat.beq]; rfl)) (by (simp only [pI, y8y, y9y, w5w, gl, nx, w0w, Nat.beq]; rfl)) ?_
  refine x2x rfl ?_
  refine hK13 _ _ ?_
  clear hK13 K13
  refine y2y x9x (by rfl) ?_
  refine x0x rfl ?_
  refine a0r rfl rfl rfl ?_
  refine x2x rfl ?_
  exact ⟨k + 1, ⟨by omega, by omega⟩, [0, _], (x7x 3 rfl (Cov.cons' (t := 8) rfl (by rw [v9v (by omega) (by omega)]; rfl) Cov.nil)), (x7x 1 rfl (x7x 6 rfl (x7x 7 rfl Cov.nil))), (HE.row rfl (by rw [s3s hx, a2r, List.append_assoc (u8u (r9r w) ++ p3p (w.incs.length : Int) ++ u8u w.incs ++ p3p (w.versions.length : Int) ++ u8u w.versions ++ p3p (w.events.length : Int) ++ r3r (w.events.take i))]) HE.nil), (u9u 0 rfl (u9u 2 rfl HE.nil)), rfl⟩
 try simp at hc9
 obtain rfl : i = w.events.length := by omega
 rw [List.take_length]
 refine v3v ?_
 refine hK7 _ _ ?_
 clear hK8 K8 hK7 K7
 refine x6x x9x (by rfl) ?_
 refine x0x rfl ?_
 refine x1x rfl z7z rfl rfl w7w rfl rfl ?_
 refine x3x rfl w7w rfl rfl ?_
 refine u6u rfl w7w rfl ?_
 refine z6z [1] [_] (s8s (u8u (r9r w) ++ p3p (w.incs.length : Int) ++ u8u w.incs ++ p3p (w.versions.length : Int) ++ u8u w.versions ++ p3p (w.events.length : Int) ++ r3r w.events) (w.outs.length : Int) ⟨by omega, by omega⟩ (by (simp only [List.length_append, List.length_take]; omega))) rfl rfl rfl (by decide) rfl rfl (by repeat (first | exact InH.nil | refine InH.cons rfl ?_)) (by (simp only [pI, y8y, y9y, w5w, gl, nx, w0w, Nat.beq]; rfl)) (by (simp only [pI, y8y, y9y, w5w, gl, nx, w0w, Nat.beq]; rfl)) ?_
 refine x2x rfl ?_
 refine x4x fun K14 hK14 => ?_
 refine x6x x9x (by rfl) ?_
 refine x2x rfl ?_
 refine y5y ?_
 refine v1v (ι := Nat) (fun i γ4 => [(3, .ref 1 (γ4 1)), (9, .pv (.int .i64 (i : Int)))]) (fun i γ4 => [(1, ((γ4 1), .row 5 1 ((u8u (r9r w) ++ p3p (w.incs.length : Int) ++ u8u w.incs ++ p3p (w.versions.length : Int) ++ u8u w.versions ++ p3p (w.events.length : Int) ++ r3r w.events ++ p3p (w.outs.length : Int) ++ r6r (w.outs.take i)).map a1l)))]) (fun i => i ≤ w.outs.length) (fun i => w.outs.length - i) (x7x 1 rfl Cov.nil) (u9u 0 rfl (u9u 2 rfl HE.nil)) 0 (by omega) [0, _] (x7x 3 rfl (x7x 9 rfl Cov.nil)) (HE.row rfl (by rw [List.take_zero, show r6r [] = [] from rfl, List.append_nil]) HE.nil) rfl fun i γ4 hi => ?_
 try dsimp only [List.cons_append, List.nil_append]
 refine x4x fun K15 hK15 => ?_
 refine x6x x9x (by rfl) ?_
 refine x0x rfl ?_
 refine x1x rfl z7z rfl rfl w7w rfl rfl ?_
 refine x3x rfl w7w rfl rfl ?_
 refine u6u rfl w7w rfl ?_
 refine y6y rfl rfl rfl ?_
 refine y0y rfl (fun hc16 => ?_) (fun hc16 => ?_)
 rotate_left
 ·try simp at hc16
  obtain rfl : i = w.outs.length := by omega
  rw [List.take_length]
  refine v3v ?_
  refine hK14 _ _ ?_
  clear hK15 K15 hK14 K14
  refine x6x x9x (by rfl) ?_
  refine x0x rfl ?_
  refine x2x rfl ?_
  refine y4y ⟨.inr rfl, ?_⟩
  (rw [b1k hW]; exact ⟨_, _, rfl, .ref rfl (Le.ow_map (f := a1l) _ (fun _ => rfl) (fun _ => rfl)) .nil⟩)
 try simp at hc16
 obtain ⟨o, ho⟩ : ∃ o, w.outs[i]? = some o := r5r (by omega)
 have hT := a3x (l := w.outs.take i) (fun v h => a1n hW v (List.mem_of_mem_take h))
 rw [List.length_take] at hT
 refine y1y ?_
 refine hK15 _ _ ?_
 clear hK15 K15
 refine x4x fun K17 hK17 => ?_
 refine y5y ?_
 refine x6x x9x (by rfl) ?_
 refine x1x rfl z7z rfl rfl w7w rfl rfl ?_
 refine x3x rfl w7w rfl rfl ?_
 refine x0x rfl ?_
 refine z9z rfl rfl w7w rfl u7u rfl ho ?_
 refine y7y (out := .agg (a0n o)) rfl u7u rfl ?_
 refine z2z rfl rfl rfl (b1w o) ?_
 refine x2x rfl ?_
 refine x6x x9x (by rfl) ?_
 refine x2x rfl ?_
 refine y5y ?_
 refine v1v (ι := Nat) (fun k γ5 => [(3, .ref 1 (γ5 1)), (11, .pv (.int .i64 (k : Int)))]) (fun k γ5 => [(1, ((γ5 1), .row 5 1 ((u8u (r9r w) ++ p3p (w.incs.length : Int) ++ u8u w.incs ++ p3p (w.versions.length : Int) ++ u8u w.versions ++ p3p (w.events.length : Int) ++ r3r w.events ++ p3p (w.outs.length : Int) ++ r6r (w.outs.take i) ++ u8u ((ouL o).take k)).map a1l)))]) (fun k => k ≤ 5) (fun k => 5 - k) (x7x 1 rfl (x7x 9 rfl (x7x 10 rfl Cov.nil))) (u9u 0 rfl (u9u 2 rfl HE.nil)) 0 (by omega) [0, _] (x7x 3 rfl (x7x 11 rfl Cov.nil)) (HE.row rfl (by rw [List.take_zero, show u8u [] = [] from rfl, List.append_nil]) HE.nil) rfl fun k γ5 hi => ?_
 try dsimp only [List.cons_append, List.nil_append]
 refine x4x fun K18 hK18 => ?_
 refine x6x x9x (by rfl) ?_
 refine x0x rfl ?_
 refine x0x rfl ?_
 refine u6u rfl u5u rfl ?_
 refine y6y rfl rfl rfl ?_
 refine y0y rfl (fun hc19 => ?_) (fun hc19 => ?_)
 rotate_left
 ·try simp at hc19
  have hk5 : (ouL o).length = 5 := rfl
  obtain rfl : k = 5 := by omega
  rw [show (ouL o).take 5 = ouL o from rfl]
  refine v3v ?_
  refine hK17 _ _ ?_
  clear hK18 K18 hK17 K17
  refine y2y x9x (by rfl) ?_
  refine x0x rfl ?_
  refine a0r rfl rfl rfl ?_
  refine x2x rfl ?_
  exact ⟨i + 1, ⟨by omega, by omega⟩, [0, _], (x7x 3 rfl (Cov.cons' (t := 9) rfl (by rw [v9v (by omega) (by omega)]; rfl) Cov.nil)), (x7x 1 rfl Cov.nil), (HE.row rfl (by rw [s3s ho, b0n, List.append_assoc (u8u (r9r w) ++ p3p (w.incs.length : Int) ++ u8u w.incs ++ p3p (w.versions.length : Int) ++ u8u w.versions ++ p3p (w.events.length : Int) ++ r3r w.events ++ p3p (w.outs.length : Int))]) HE.nil), (u9u 0 rfl (u9u 2 rfl HE.nil)), rfl⟩
 try simp at hc19
 have hU5 : (ouL o).length = 5 := rfl
 obtain ⟨x, hx⟩ : ∃ x, (ouL o)[k]? = some x := ⟨_, List.getElem?_eq_getElem (by show k < 5; omega)⟩
 have hU := s0s (l := (ouL o).take k) (fun v h => a1n hW o (List.mem_of_getElem? ho) v (List.mem_of_mem_take h))
 rw [List.length_take] at hU
 refine y1y ?_
 refine hK18 _ _ ?_
 clear hK18 K18
 refine x4x fun K20 hK20 => ?_
 refine y5y ?_
 refine y2y x9x (by rfl) ?_
 refine x0x rfl ?_
 refine x0x rfl ?_
 refine x0x rfl ?_
 refine z9z rfl rfl u5u rfl y3y rfl hx ?_
 refine y7y rfl y3y rfl ?_
 refine z6z [1] [_] (s8s (u8u (r9r w) ++ p3p (w.incs.length : Int) ++ u8u w.incs ++ p3p (w.versions.length : Int) ++ u8u w.versions ++ p3p (w.events.length : Int) ++ r3r w.events ++ p3p (w.outs.length : Int) ++ r6r (w.outs.take i) ++ u8u ((ouL o).take k)) x (a1n hW o (List.mem_of_getElem? ho) x (List.mem_of_getElem? hx)) (by (simp only [List.length_append, List.length_take]; omega))) rfl rfl rfl (by decide) rfl rfl (by repeat (first | exact InH.nil | refine InH.cons rfl ?_)) (by (simp only [pI, y8y, y9y, w5w, gl, nx, w0w, Nat.beq]; rfl)) (by (simp only [pI, y8y, y9y, w5w, gl, nx, w0w, Nat.beq]; rfl)) ?_
 refine x2x rfl ?_
 refine hK20 _ _ ?_
 clear hK20 K20
 refine y2y x9x (by rfl) ?_
 refine x0x rfl ?_
 refine a0r rfl rfl rfl ?_
 refine x2x rfl ?_
 exact ⟨k + 1, ⟨by omega, by omega⟩, [0, _], (x7x 3 rfl (Cov.cons' (t := 11) rfl (by rw [v9v (by omega) (by omega)]; rfl) Cov.nil)), (x7x 1 rfl (x7x 9 rfl (x7x 10 rfl Cov.nil))), (HE.row rfl (by rw [s3s hx, a2r, List.append_assoc (u8u (r9r w) ++ p3p (w.incs.length : Int) ++ u8u w.incs ++ p3p (w.versions.length : Int) ++ u8u w.versions ++ p3p (w.events.length : Int) ++ r3r w.events ++ p3p (w.outs.length : Int) ++ r6r (w.outs.take i))]) HE.nil), (u9u 0 rfl (u9u 2 rfl HE.nil)), rfl⟩
end
section
theorem p7p (c : Bool) (bs : List Nat) (hbs : ∀ b ∈ bs, b < 256) (hbl : bs.length ≤ 100000000) (r : Rd7) (hr : r.at' ≤ bs.length) : Meth Try.prog 60 1 [0] [.ptr 0 0 0] [(0, (0, .box 44 [v7v c bs, pI ((r.at' : Nat) : Int), .pv (.bool r.bad)]))] (.pv (.int .i64 (a0v bs r).1)) [(0, (0, .box 44 [v7v c bs, pI (((a0v bs r).2.at' : Nat) : Int), .pv (.bool (a0v bs r).2.bad)]))] := by
 refine v8v x9x (fn := Try.f60) (by kernel_rfl) (by kernel_rfl) rfl (O0 := [.pv (.int .i64 (a0v bs r).1)]) 1 0 (v2v rfl) (by rfl) (by repeat (first | exact BndH.nil | refine BndH.box rfl ?_)) (by repeat (first | exact BndH.nil | refine BndH.box rfl ?_)) (by rfl) fun γ => ?_
 show Ex Try.prog _ _ [(0, .ptr 0 (γ 0) 0)] [(0, ((γ 0), .box 44 [v7v c bs, pI ((r.at' : Nat) : Int), .pv (.bool r.bad)]))] _
 obtain ⟨p, bad⟩ := r
 have hr' : p ≤ bs.length := hr
 obtain ⟨F, hF⟩ : ∃ F, a0v bs ⟨p, bad⟩ = F := ⟨_, rfl⟩
 rw [hF]
 unfold a0v at hF
 dsimp only at hF ⊢
 refine x6x x9x (by rfl) ?_
 refine x2x rfl ?_
 refine x6x x9x (by rfl) ?_
 refine x2x rfl ?_
 refine x6x x9x (by rfl) ?_
 refine x2x rfl ?_
 refine x4x fun K1 hK1 => ?_
 refine x6x x9x (by rfl) ?_
 refine x2x rfl ?_
 refine y5y ?_
 refine a2p 4 ?_
 refine w2w fun K2 hK2 => ?_
 refine x4x fun K3 hK3 => ?_
 refine x6x x9x (by rfl) ?_
 refine x0x rfl ?_
 refine y6y rfl rfl rfl ?_
 refine y0y rfl (fun hc4 => ?_) (fun hc4 => ?_)
 rotate_left
 ·simp at hc4
 try simp at hc4
 refine y1y ?_
 refine hK3 _ _ ?_
 clear hK3 K3
 refine x4x fun K5 hK5 => ?_
 refine y5y ?_
 refine x4x fun K6 hK6 => ?_
 refine q5q x9x s9s (by rfl) ?_
 refine x0x rfl ?_
 refine u1u rfl rfl ?_
 refine x1x rfl a0k rfl rfl y3y rfl rfl ?_
 refine x3x rfl y3y rfl rfl ?_
 refine x0x rfl ?_
 refine u1u rfl rfl ?_
 refine x1x rfl a0k rfl rfl w4w rfl rfl ?_
 refine x3x rfl w4w rfl rfl ?_
 refine u6u rfl w4w rfl ?_
 refine y6y rfl rfl rfl ?_
 refine ⟨by kernel_rfl, ?_⟩
 refine y0y rfl (fun hc7 => ?_) (fun hc7 => ?_)
 ·try simp at hc7
  rw [b1m (by omega), Bool.or_true] at hF
  subst hF
  refine x6x x9x (by rfl) ?_
  refine x0x rfl ?_
  refine u1u rfl rfl ?_
  refine x1x rfl a0k rfl rfl a6q rfl rfl ?_
  refine u4u rfl rfl a6q rfl rfl rfl rfl rfl (by simp only [a3i]; rfl) ?_
  refine x6x x9x (by rfl) ?_
  refine x2x rfl ?_
  refine y4y ?_
  exact ⟨.inr rfl, [γ 0], rfl, rfl, HE.box rfl rfl HE.nil⟩
 try simp at hc7
 refine y1y ?_
 refine hK6 _ _ ?_
 clear hK6 K6
 refine q5q x9x s9s (by rfl) ?_
 refine x0x rfl ?_
 refine u1u rfl rfl ?_
 refine x1x rfl a0k rfl rfl w4w rfl rfl ?_
 refine x3x rfl w4w rfl rfl ?_
 refine x0x rfl ?_
 refine u1u rfl rfl ?_
 refine x1x rfl a0k rfl rfl y3y rfl rfl ?_
 refine x3x rfl y3y rfl rfl ?_
 obtain ⟨b0, hb0⟩ : ∃ b, bs[p]? = some b := r5r (by omega)
 have hl0 := hbs b0 (List.mem_of_getElem? hb0)
 refine z9z rfl rfl w4w rfl a1c rfl hb0 ?_
 refine y7y rfl a1c rfl ?_
 refine b1a rfl a1c y3y rfl rfl (by omega) ?_
 refine x2x rfl ?_
 refine ⟨by kernel_rfl, ?_⟩
 refine x6x x9x (by rfl) ?_
 refine x0x rfl ?_
 refine x0x rfl ?_
 refine u1u rfl rfl ?_
 refine x1x rfl a0k rfl rfl y3y rfl rfl ?_
 refine x3x rfl y3y rfl rfl ?_
 refine v0v (b := 1) rfl rfl (by omega) ?_
 refine u1u rfl rfl ?_
 refine x1x rfl a0k rfl rfl y3y rfl rfl ?_
 refine u4u rfl rfl y3y rfl rfl rfl rfl rfl (by simp only [a3i]; rfl) ?_
 refine x6x x9x (by rfl) ?_
 refine x0x rfl ?_
 refine x0x rfl ?_
 refine b0z (b := 128) rfl rfl (by omega) ?_
 refine x0x rfl ?_
 refine u0u (.int .i64 ((b0 % 128 * (1) : Nat) : Int)) rfl rfl rfl (p8p rfl (by omega) (by omega) (by omega)) ?_
 refine u0u (.int .i64 ((0 + b0 % 128 * (1) : Nat) : Int)) rfl rfl rfl (p8p rfl (by omega) (by omega) (by omega)) ?_
 refine x2x rfl ?_
 refine x6x x9x (by rfl) ?_
 refine x0x rfl ?_
 refine u0u (.int .i64 ((1 * 128 : Nat) : Int)) rfl rfl rfl (p8p rfl (by omega) (by omega) (by omega)) ?_
 refine x2x rfl ?_
 refine x6x x9x (by rfl) ?_
 refine x0x rfl ?_
 refine y6y rfl rfl rfl ?_
 refine y0y rfl (fun hc8 => ?_) (fun hc8 => ?_)
 ·try simp at hc8
  rw [b8f hb0 (by omega), Bool.or_false] at hF
  subst hF
  refine x6x x9x (by rfl) ?_
  refine x0x rfl ?_
  refine u0u (.int .i64 (((0 + b0 % 128 * (1) : Nat) : Int) - 1)) rfl rfl rfl (p8p rfl (by omega) (by omega) (by omega)) ?_
  refine x2x rfl ?_
  refine y4y ?_
  exact ⟨.inr rfl, [γ 0], rfl, rfl, HE.box rfl rfl HE.nil⟩
 try simp at hc8
 rw [b8g hb0 (by omega)] at hF
 refine y1y ?_
 refine hK5 _ _ ?_
 clear hK5 K5
 refine y2y x9x (by rfl) ?_
 refine x0x rfl ?_
 refine u0u (.int .i64 1) rfl rfl rfl (p8p rfl (by omega) (by omega) (by omega)) ?_
 refine x2x rfl ?_
 refine hK2 _ _ ?_
 clear hK2 K2
 refine w2w fun K9 hK9 => ?_
 refine x4x fun K10 hK10 => ?_
 refine x6x x9x (by rfl) ?_
 refine x0x rfl ?_
 refine y6y rfl rfl rfl ?_
 refine y0y rfl (fun hc11 => ?_) (fun hc11 => ?_)
 rotate_left
 ·simp at hc11
 try simp at hc11
 refine y1y ?_
 refine hK10 _ _ ?_
 clear hK10 K10
 refine x4x fun K12 hK12 => ?_
 refine y5y ?_
 refine x4x fun K13 hK13 => ?_
 refine q5q x9x s9s (by rfl) ?_
 refine x0x rfl ?_
 refine u1u rfl rfl ?_
 refine x1x rfl a0k rfl rfl y3y rfl rfl ?_
 refine x3x rfl y3y rfl rfl ?_
 refine x0x rfl ?_
 refine u1u rfl rfl ?_
 refine x1x rfl a0k rfl rfl w4w rfl rfl ?_
 refine x3x rfl w4w rfl rfl ?_
 refine u6u rfl w4w rfl ?_
 refine y6y rfl rfl rfl ?_
 refine ⟨by kernel_rfl, ?_⟩
 refine y0y rfl (fun hc14 => ?_) (fun hc14 => ?_)
 ·try simp at hc14
  rw [b1m (by omega), Bool.or_true] at hF
  subst hF
  refine x6x x9x (by rfl) ?_
  refine x0x rfl ?_
  refine u1u rfl rfl ?_
  refine x1x rfl a0k rfl rfl a6q rfl rfl ?_
  refine u4u rfl rfl a6q rfl rfl rfl rfl rfl (by simp only [a3i]; rfl) ?_
  refine x6x x9x (by rfl) ?_
  refine x2x rfl ?_
  refine y4y ?_
  exact ⟨.inr rfl, [γ 0], rfl, rfl, HE.box rfl rfl HE.nil⟩
 try simp at hc14
 refine y1y ?_
 refine hK13 _ _ ?_
 clear hK13 K13
 refine q5q x9x s9s (by rfl) ?_
 refine x0x rfl ?_
 refine u1u rfl rfl ?_
 refine x1x rfl a0k rfl rfl w4w rfl rfl ?_
 refine x3x rfl w4w rfl rfl ?_
 refine x0x rfl ?_
 refine u1u rfl rfl ?_
 refine x1x rfl a0k rfl rfl y3y rfl rfl ?_
 refine x3x rfl y3y rfl rfl ?_
 obtain ⟨b1, hb1⟩ : ∃ b, bs[p + 1]? = some b := r5r (by omega)
 have hl1 := hbs b1 (List.mem_of_getElem? hb1)
 refine z9z rfl rfl w4w rfl a1c rfl hb1 ?_
 refine y7y rfl a1c rfl ?_
 refine b1a rfl a1c y3y rfl rfl (by omega) ?_
 refine x2x rfl ?_
 refine ⟨by kernel_rfl, ?_⟩
 refine x6x x9x (by rfl) ?_
 refine x0x rfl ?_
 refine x0x rfl ?_
 refine u1u rfl rfl ?_
 refine x1x rfl a0k rfl rfl y3y rfl rfl ?_
 refine x3x rfl y3y rfl rfl ?_
 refine v0v (b := 1) rfl rfl (by omega) ?_
 refine u1u rfl rfl ?_
 refine x1x rfl a0k rfl rfl y3y rfl rfl ?_
 refine u4u rfl rfl y3y rfl rfl rfl rfl rfl (by simp only [a3i]; rfl) ?_
 refine x6x x9x (by rfl) ?_
 refine x0x rfl ?_
 refine x0x rfl ?_
 refine b0z (b := 128) rfl rfl (by omega) ?_
 refine x0x rfl ?_
 refine u0u (.int .i64 ((b1 % 128 * (1 * 128) : Nat) : Int)) rfl rfl rfl (p8p rfl (by omega) (by omega) (by omega)) ?_
 refine u0u (.int .i64 ((0 + b0 % 128 * (1) + b1 % 128 * (1 * 128) : Nat) : Int)) rfl rfl rfl (p8p rfl (by omega) (by omega) (by omega)) ?_
 refine x2x rfl ?_
 refine x6x x9x (by rfl) ?_
 refine x0x rfl ?_
 refine u0u (.int .i64 ((1 * 128 * 128 : Nat) : Int)) rfl rfl rfl (p8p rfl (by omega) (by omega) (by omega)) ?_
 refine x2x rfl ?_
 refine x6x x9x (by rfl) ?_
 refine x0x rfl ?_
 refine y6y rfl rfl rfl ?_
 refine y0y rfl (fun hc15 => ?_) (fun hc15 => ?_)
 ·try simp at hc15
  rw [b8f hb1 (by omega), Bool.or_false] at hF
  subst hF
  refine x6x x9x (by rfl) ?_
  refine x0x rfl ?_
  refine u0u (.int .i64 (((0 + b0 % 128 * (1) + b1 % 128 * (1 * 128) : Nat) : Int) - 1)) rfl rfl rfl (p8p rfl (by omega) (by omega) (by omega)) ?_
  refine x2x rfl ?_
  refine y4y ?_
  exact ⟨.inr rfl, [γ 0], rfl, rfl, HE.box rfl rfl HE.nil⟩
 try simp at hc15
 rw [b8g hb1 (by omega)] at hF
 refine y1y ?_
 refine hK12 _ _ ?_
 clear hK12 K12
 refine y2y x9x (by rfl) ?_
 refine x0x rfl ?_
 refine u0u (.int .i64 2) rfl rfl rfl (p8p rfl (by omega) (by omega) (by omega)) ?_
 refine x2x rfl ?_
 refine hK9 _ _ ?_
 clear hK9 K9
 refine w2w fun K16 hK16 => ?_
 refine x4x fun K17 hK17 => ?_
 refine x6x x9x (by rfl) ?_
 refine x0x rfl ?_
 refine y6y rfl rfl rfl ?_
 refine y0y rfl (fun hc18 => ?_) (fun hc18 => ?_)
 rotate_left
 ·simp at hc18
 try simp at hc18
 refine y1y ?_
 refine hK17 _ _ ?_
 clear hK17 K17
 refine x4x fun K19 hK19 => ?_
 refine y5y ?_
 refine x4x fun K20 hK20 => ?_
 refine q5q x9x s9s (by rfl) ?_
 refine x0x rfl ?_
 refine u1u rfl rfl ?_
 refine x1x rfl a0k rfl rfl y3y rfl rfl ?_
 refine x3x rfl y3y rfl rfl ?_
 refine x0x rfl ?_
 refine u1u rfl rfl ?_
 refine x1x rfl a0k rfl rfl w4w rfl rfl ?_
 refine x3x rfl w4w rfl rfl ?_
 refine u6u rfl w4w rfl ?_
 refine y6y rfl rfl rfl ?_
 refine ⟨by kernel_rfl, ?_⟩
 refine y0y rfl (fun hc21 => ?_) (fun hc21 => ?_)
 ·try simp at hc21
  rw [b1m (by omega), Bool.or_true] at hF
  subst hF
  refine x6x x9x (by rfl) ?_
  refine x0x rfl ?_
  refine u1u rfl rfl ?_
  refine x1x rfl a0k rfl rfl a6q rfl rfl ?_
  refine u4u rfl rfl a6q rfl rfl rfl rfl rfl (by simp only [a3i]; rfl) ?_
  refine x6x x9x (by rfl) ?_
  refine x2x rfl ?_
  refine y4y ?_
  exact ⟨.inr rfl, [γ 0], rfl, rfl, HE.box rfl rfl HE.nil⟩
 try simp at hc21
 refine y1y ?_
 refine hK20 _ _ ?_
 clear hK20 K20
 refine q5q x9x s9s (by rfl) ?_
 refine x0x rfl ?_
 refine u1u rfl rfl ?_
 refine x1x rfl a0k rfl rfl w4w rfl rfl ?_
 refine x3x rfl w4w rfl rfl ?_
 refine x0x rfl ?_
 refine u1u rfl rfl ?_
 refine x1x rfl a0k rfl rfl y3y rfl rfl ?_
 refine x3x rfl y3y rfl rfl ?_
 obtain ⟨b2, hb2⟩ : ∃ b, bs[p + 1 + 1]? = some b := r5r (by omega)
 have hl2 := hbs b2 (List.mem_of_getElem? hb2)
 refine z9z rfl rfl w4w rfl a1c rfl hb2 ?_
 refine y7y rfl a1c rfl ?_
 refine b1a rfl a1c y3y rfl rfl (by omega) ?_
 refine x2x rfl ?_
 refine ⟨by kernel_rfl, ?_⟩
 refine x6x x9x (by rfl) ?_
 refine x0x rfl ?_
 refine x0x rfl ?_
 refine u1u rfl rfl ?_
 refine x1x rfl a0k rfl rfl y3y rfl rfl ?_
 refine x3x rfl y3y rfl rfl ?_
 refine v0v (b := 1) rfl rfl (by omega) ?_
 refine u1u rfl rfl ?_
 refine x1x rfl a0k rfl rfl y3y rfl rfl ?_
 refine u4u rfl rfl y3y rfl rfl rfl rfl rfl (by simp only [a3i]; rfl) ?_
 refine x6x x9x (by rfl) ?_
 refine x0x rfl ?_
 refine x0x rfl ?_
 refine b0z (b := 128) rfl rfl (by omega) ?_
 refine x0x rfl ?_
 refine u0u (.int .i64 ((b2 % 128 * (1 * 128 * 128) : Nat) : Int)) rfl rfl rfl (p8p rfl (by omega) (by omega) (by omega)) ?_
 refine u0u (.int .i64 ((0 + b0 % 128 * (1) + b1 % 128 * (1 * 128) + b2 % 128 * (1 * 128 * 128) : Nat) : Int)) rfl rfl rfl (p8p rfl (by omega) (by omega) (by omega)) ?_
 refine x2x rfl ?_
 refine x6x x9x (by rfl) ?_
 refine x0x rfl ?_
 refine u0u (.int .i64 ((1 * 128 * 128 * 128 : Nat) : Int)) rfl rfl rfl (p8p rfl (by omega) (by omega) (by omega)) ?_
 refine x2x rfl ?_
 refine x6x x9x (by rfl) ?_
 refine x0x rfl ?_
 refine y6y rfl rfl rfl ?_
 refine y0y rfl (fun hc22 => ?_) (fun hc22 => ?_)
 ·try simp at hc22
  rw [b8f hb2 (by omega), Bool.or_false] at hF
  subst hF
  refine x6x x9x (by rfl) ?_
  refine x0x rfl ?_
  refine u0u (.int .i64 (((0 + b0 % 128 * (1) + b1 % 128 * (1 * 128) + b2 % 128 * (1 * 128 * 128) : Nat) : Int) - 1)) rfl rfl rfl (p8p rfl (by omega) (by omega) (by omega)) ?_
  refine x2x rfl ?_
  refine y4y ?_
  exact ⟨.inr rfl, [γ 0], rfl, rfl, HE.box rfl rfl HE.nil⟩
 try simp at hc22
 rw [b8g hb2 (by omega)] at hF
 refine y1y ?_
 refine hK19 _ _ ?_
 clear hK19 K19
 refine y2y x9x (by rfl) ?_
 refine x0x rfl ?_
 refine u0u (.int .i64 3) rfl rfl rfl (p8p rfl (by omega) (by omega) (by omega)) ?_
 refine x2x rfl ?_
 refine hK16 _ _ ?_
 clear hK16 K16
 refine w2w fun K23 hK23 => ?_
 refine x4x fun K24 hK24 => ?_
 refine x6x x9x (by rfl) ?_
 refine x0x rfl ?_
 refine y6y rfl rfl rfl ?_
 refine y0y rfl (fun hc25 => ?_) (fun hc25 => ?_)
 ·simp at hc25
 try simp at hc25
 rw [show ∀ v m p, snF bs 0 v m p = (0, ⟨p, true⟩) from fun _ _ _ => rfl, Bool.or_true] at hF
 subst hF
 refine v3v ?_
 refine hK1 _ _ ?_
 clear hK24 K24 hK23 K23 hK1 K1
 refine x6x x9x (by rfl) ?_
 refine x0x rfl ?_
 refine u1u rfl rfl ?_
 refine x1x rfl a0k rfl rfl a6q rfl rfl ?_
 refine u4u rfl rfl a6q rfl rfl rfl rfl rfl (by simp only [a3i]; rfl) ?_
 refine x6x x9x (by rfl) ?_
 refine x2x rfl ?_
 refine y4y ?_
 exact ⟨.inr rfl, [γ 0], rfl, rfl, HE.box rfl rfl HE.nil⟩
theorem p5p (c : Bool) (bs : List Nat) (hbs : ∀ b ∈ bs, b < 256) (hbl : bs.length ≤ 100000000) (r : Rd7) (hr : r.at' ≤ bs.length) (n : Int) (hn : n ≤ 2097152) : Meth Try.prog 59 1 [0] [.ptr 0 0 0, .pv (.int .i64 n)] [(0, (0, .box 44 [v7v c bs, pI ((r.at' : Nat) : Int), .pv (.bool r.bad)]))] (s7s true (a0j bs n.toNat r).1) [(0, (0, .box 44 [v7v c bs, pI (((a0j bs n.toNat r).2.at' : Nat) : Int), .pv (.bool (a0j bs n.toNat r).2.bad)]))] := by
 refine v8v x9x (fn := Try.f59) (by kernel_rfl) (by kernel_rfl) rfl (O0 := [s7s true (a0j bs n.toNat r).1]) 1 3 (v2v rfl) (by rfl) (by repeat (first | exact BndH.nil | refine BndH.box rfl ?_)) (by repeat (first | exact BndH.nil | refine BndH.box rfl ?_)) (by rfl) fun γ => ?_
 show Ex Try.prog _ _ [(0, .ptr 0 (γ 0) 0), (1, .pv (.int .i64 n))] [(0, ((γ 0), .box 44 [v7v c bs, pI ((r.at' : Nat) : Int), .pv (.bool r.bad)])), (3, (0, .dead)), (2, (0, .dead)), (1, (0, .dead))] _
 obtain ⟨F, hF⟩ : ∃ F, a0j bs n.toNat r = F := ⟨_, rfl⟩
 rw [hF]
 refine x6x x9x (by rfl) ?_
 refine x2x rfl ?_
 refine x6x x9x (by rfl) ?_
 refine b2m (id := 1) u5u rfl y3y rfl ?_
 refine x2x rfl ?_
 refine x4x fun K1 hK1 => ?_
 refine x6x x9x (by rfl) ?_
 refine x2x rfl ?_
 refine y5y ?_
 refine v1v (ι := List Int × Nat × Rd7) (fun p γ1 => [(5, .ref 1 (γ1 1)), (6, .pv (.int .i64 (p.2.1 : Int)))]) (fun p γ1 => [(1, ((γ1 1), .row 3 1 ((p.1).map a3p))), (0, ((γ 0), .box 44 [v7v c bs, pI ((p.2.2.at' : Nat) : Int), .pv (.bool p.2.2.bad)])), (2, ((γ1 2), .dead)), (3, ((γ1 3), .dead))]) (fun p => p.2.1 ≤ n.toNat ∧ p.1.length = p.2.1 ∧ p.2.2.at' ≤ bs.length ∧ p.1 ++ (a0j bs (n.toNat - p.2.1) p.2.2).1 = F.1 ∧ (a0j bs (n.toNat - p.2.1) p.2.2).2 = F.2) (fun p => n.toNat - p.2.1) (x7x 0 rfl (x7x 1 rfl Cov.nil)) HE.nil ([], 0, r) ⟨Nat.zero_le _, rfl, hr, by rw [← hF]; rfl, by rw [← hF]; rfl⟩ [0, _, _, _] (x7x 5 rfl (x7x 6 rfl Cov.nil)) (HE.row rfl rfl (HE.box rfl rfl (HE.kill rfl (HE.kill rfl HE.nil)))) rfl fun p γ1 hi => ?_
 try dsimp only [List.cons_append, List.nil_append]
 obtain ⟨l, i, q⟩ := p
 obtain ⟨h1, h2, h3, h4, h5⟩ := hi
 dsimp only at h1 h2 h3 h4 h5 ⊢
 refine x4x fun K2 hK2 => ?_
 refine x6x x9x (by rfl) ?_
 refine x0x rfl ?_
 refine x0x rfl ?_
 refine y6y rfl rfl rfl ?_
 refine x0x rfl ?_
 refine a0l rfl rfl (fun hg3 => ?_) (fun hg3 => ?_)
 rotate_left
 ·try simp at hg3
  refine x5x rfl rfl ?_
  refine x5x rfl rfl ?_
  refine x5x rfl rfl ?_
  refine x5x rfl rfl ?_
  refine x8x rfl rfl ?_
  refine y0y rfl (fun hc6 => ?_) (fun hc6 => ?_)
  ·simp at hc6
  try simp at hc6
  have hS : a0j bs (n.toNat - i) q = ([], q) := b5h (by (left; omega))
  rw [hS] at h4 h5
  rw [List.append_nil] at h4
  obtain ⟨F1, F2⟩ := F
  dsimp only at h4 h5
  subst h4 h5
  refine v3v ?_
  refine hK1 _ _ ?_
  clear hK2 K2 hK1 K1
  refine b7v (f := a3p) 5 rfl rfl (fun _ => rfl) ?_
  refine x6x x9x (by rfl) ?_
  refine x0x rfl ?_
  refine x2x rfl ?_
  refine y4y ?_
  exact ⟨.inr rfl, [γ 0], rfl, rfl, HE.box rfl rfl HE.nil⟩
 try simp at hg3
 refine x0x rfl ?_
 refine z1z rfl rfl ?_
 refine u1u rfl rfl ?_
 refine z1z rfl rfl ?_
 refine x1x rfl a0k rfl rfl a6q rfl rfl ?_
 refine z1z rfl rfl ?_
 refine x3x rfl a6q rfl rfl ?_
 refine z1z rfl rfl ?_
 refine q1q rfl ?_
 refine z3z rfl rfl ?_
 refine y0y rfl (fun hc4 => ?_) (fun hc4 => ?_)
 rotate_left
 ·try simp at hc4
  have hS : a0j bs (n.toNat - i) q = ([], q) := b5h (by (right; simp_all; done))
  rw [hS] at h4 h5
  rw [List.append_nil] at h4
  obtain ⟨F1, F2⟩ := F
  dsimp only at h4 h5
  subst h4 h5
  refine v3v ?_
  refine hK1 _ _ ?_
  clear hK2 K2 hK1 K1
  refine b7v (f := a3p) 5 rfl rfl (fun _ => rfl) ?_
  refine x6x x9x (by rfl) ?_
  refine x0x rfl ?_
  refine x2x rfl ?_
  refine y4y ?_
  exact ⟨.inr rfl, [γ 0], rfl, rfl, HE.box rfl rfl HE.nil⟩
 try simp at hc4
 have hS : a0j bs (n.toNat - i) q = ((a0v bs q).1 :: (a0j bs (n.toNat - (i + 1)) (a0v bs q).2).1, (a0j bs (n.toNat - (i + 1)) (a0v bs q).2).2) := by rw [show n.toNat - i = (n.toNat - (i + 1)) + 1 by omega]; exact b8j (by simp_all)
 refine y1y ?_
 refine hK2 _ _ ?_
 clear hK2 K2
 refine x4x fun K5 hK5 => ?_
 refine y5y ?_
 refine y2y x9x (by rfl) ?_
 refine x0x rfl ?_
 refine x0x rfl ?_
 refine z6z [0] [_] (p7p c bs hbs hbl q h3) rfl rfl rfl (by decide) rfl rfl (by repeat (first | exact InH.nil | refine InH.cons rfl ?_)) (by (simp only [pI, y8y, y9y, w5w, gl, nx, w0w, Nat.beq]; rfl)) (by (simp only [pI, y8y, y9y, w5w, gl, nx, w0w, Nat.beq]; rfl)) ?_
 refine a2l (id := 2) u5u rfl y3y rfl rfl rfl rfl rfl ?_
 refine a0g (zs := (l ++ [(a0v bs q).1]).map a3p) rfl rfl u5u rfl y3y rfl rfl rfl rfl (by rfl) (a4o _ _ _) (by (simp only [List.length_map, List.length_append, List.length_cons, List.length_nil, List.length_take, T3]; omega)) ?_
 refine x2x rfl ?_
 refine hK5 _ _ ?_
 clear hK5 K5
 refine y2y x9x (by rfl) ?_
 refine x0x rfl ?_
 refine a0r rfl rfl rfl ?_
 refine x2x rfl ?_
 exact ⟨(l ++ [(a0v bs q).1], i + 1, (a0v bs q).2), ⟨⟨by show i + 1 ≤ n.toNat; omega, by show (l ++ [_]).length = i + 1; rw [List.length_append, h2]; rfl, a3g h3, by show (l ++ [_]) ++ (a0j bs (n.toNat - (i + 1)) _).1 = F.1; rw [hS] at h4; rw [← h4, List.append_assoc]; rfl, by show (a0j bs (n.toNat - (i + 1)) _).2 = F.2; rw [hS] at h5; exact h5⟩, (by show n.toNat - (i + 1) < n.toNat - i; omega)⟩, [0, _, _, _], (x7x 5 rfl (Cov.cons' (t := 6) rfl (by rw [v9v (by omega) (by omega)]; rfl) Cov.nil)), (x7x 0 rfl (x7x 1 rfl Cov.nil)), (HE.row rfl rfl (HE.box rfl rfl (HE.kill rfl (HE.kill rfl HE.nil)))), HE.nil, rfl⟩
theorem a4c (c : Bool) (bs : List Nat) (hbs : ∀ b ∈ bs, b < 256) (hbl : bs.length ≤ 100000000)  : Meth Try.prog 21 1 [0] [.ptr 0 0 0] [(0, (0, .box 44 [v7v c bs, pI ((0 : Nat) : Int), .pv (.bool false)]))] (.agg (a5z true (sW bs).1)) [(0, (0, .box 44 [v7v c bs, pI (((sW bs).2.at' : Nat) : Int), .pv (.bool (sW bs).2.bad)]))] := by
 refine v8v x9x (fn := Try.f21) (by kernel_rfl) (by kernel_rfl) rfl (O0 := [.agg (a5z true (sW bs).1)]) 1 8 (v2v rfl) (by rfl) (by repeat (first | exact BndH.nil | refine BndH.box rfl ?_)) (by repeat (first | exact BndH.nil | refine BndH.box rfl ?_)) (by rfl) fun γ => ?_
 show Ex Try.prog _ _ [(0, .ptr 0 (γ 0) 0)] [(0, ((γ 0), .box 44 [v7v c bs, pI ((0 : Nat) : Int), .pv (.bool false)])), (8, (0, .dead)), (7, (0, .dead)), (6, (0, .dead)), (5, (0, .dead)), (4, (0, .dead)), (3, (0, .dead)), (2, (0, .dead)), (1, (0, .dead))] _
 refine x6x x9x (by rfl) ?_
 refine q0q (id := 1) z7z a3b rfl ?_
 refine x6x x9x (by rfl) ?_
 refine x0x rfl ?_
 refine z6z [0] [_] (p5p c bs hbs hbl ⟨0, false⟩ (Nat.zero_le _) 7 (by omega)) rfl rfl rfl (by decide) rfl rfl (by repeat (first | exact InH.nil | refine InH.cons rfl ?_)) (by rfl) (by (simp only [pI, y8y, y9y, w5w, gl, nx, w0w, Nat.beq]; rfl)) ?_
 refine x2x rfl ?_
 obtain ⟨H, hH⟩ : ∃ H, sH bs = H := ⟨_, rfl⟩
 rw [show a0j bs (7 : Int).toNat ⟨0, false⟩ = H from hH]
 have hv : H.2.at' ≤ bs.length := by rw [← hH]; exact a5m (n := 7) (r := ⟨0, false⟩) (Nat.zero_le _)
 refine x4x fun K1 hK1 => ?_
 refine x6x x9x (by rfl) ?_
 refine x0x rfl ?_
 refine u1u rfl rfl ?_
 refine x1x rfl a0k rfl rfl a6q rfl rfl ?_
 refine x3x rfl a6q rfl rfl ?_
 refine y0y rfl (fun hc2 => ?_) (fun hc2 => ?_)
 ·try simp at hc2
  have hW : sW bs = (wo0, H.2) := by unfold sW; rw [hH]; exact if_pos hc2
  refine x6x x9x (by rfl) ?_
  refine r7r z7z rfl a3b rfl (by simp only [pI, y3y, T3, u5u, T24, w8w, T25, w7w, T26, a0z, p1p, AV.okc, AV.one, Value.oneCell', List.map_cons, List.map_nil, List.getElem?_cons_zero, List.getElem?_cons_succ, List.take_succ_cons, List.take_zero, List.drop_succ_cons, List.drop_zero, List.cons_append, List.nil_append, List.length_cons, List.length_nil, if_true, and_self, Nat.reduceAdd, Nat.reduceLeDiff]; rfl) ?_
  refine v6v rfl rfl z7z rfl rfl rfl rfl ?_
  refine b4y 1 rfl (.same (.same (.same (.same (.same (.same (.same (.le (b := s7s true []) rfl .nil rfl (.le (b := s7s true []) rfl .nil rfl (.le (b := b2x true []) rfl .nil rfl (.le (b := b2y true []) rfl .nil rfl (LeCs.refl _)))))))))))) ?_
  rw [hW]
  refine y4y ?_
  exact ⟨.inr rfl, [γ 0], rfl, rfl, HE.box rfl rfl HE.nil⟩
 try simp at hc2
 have hb : H.2.bad = false := by simpa using hc2
 have hl7 := a6d (n := 7) (r := ⟨0, false⟩) (by rw [show a0j bs 7 ⟨0, false⟩ = H from hH]; exact hb)
 rw [show a0j bs 7 ⟨0, false⟩ = H from hH] at hl7
 obtain ⟨h0, h1, h2, h3, h4, h5, h6, hL7⟩ := c5v hl7
 rw [hL7]
 refine y1y ?_
 refine hK1 _ _ ?_
 clear hK1 K1
 refine q5q x9x s9s (by rfl) ?_
 refine x0x rfl ?_
 refine z9z rfl rfl u5u rfl y3y rfl (show ([h0, h1, h2, h3, h4, h5, h6] : List Int)[0]? = some h0 from rfl) ?_
 refine y7y rfl y3y rfl ?_
 refine x0x rfl ?_
 refine z9z rfl rfl u5u rfl y3y rfl (show ([h0, h1, h2, h3, h4, h5, h6] : List Int)[1]? = some h1 from rfl) ?_
 refine y7y rfl y3y rfl ?_
 refine x0x rfl ?_
 refine z9z rfl rfl u5u rfl y3y rfl (show ([h0, h1, h2, h3, h4, h5, h6] : List Int)[2]? = some h2 from rfl) ?_
 refine y7y rfl y3y rfl ?_
 refine x0x rfl ?_
 refine z9z rfl rfl u5u rfl y3y rfl (show ([h0, h1, h2, h3, h4, h5, h6] : List Int)[3]? = some h3 from rfl) ?_
 refine y7y rfl y3y rfl ?_
 refine x0x rfl ?_
 refine z9z rfl rfl u5u rfl y3y rfl (show ([h0, h1, h2, h3, h4, h5, h6] : List Int)[4]? = some h4 from rfl) ?_
 refine y7y rfl y3y rfl ?_
 refine x0x rfl ?_
 refine z9z rfl rfl u5u rfl y3y rfl (show ([h0, h1, h2, h3, h4, h5, h6] : List Int)[5]? = some h5 from rfl) ?_
 refine y7y rfl y3y rfl ?_
 refine x0x rfl ?_
 refine z9z rfl rfl u5u rfl y3y rfl (show ([h0, h1, h2, h3, h4, h5, h6] : List Int)[6]? = some h6 from rfl) ?_
 refine y7y rfl y3y rfl ?_
 refine r7r z7z rfl a3b rfl (by simp only [pI, y3y, T3, u5u, T24, w8w, T25, w7w, T26, a0z, p1p, AV.okc, AV.one, Value.oneCell', List.map_cons, List.map_nil, List.getElem?_cons_zero, List.getElem?_cons_succ, List.take_succ_cons, List.take_zero, List.drop_succ_cons, List.drop_zero, List.cons_append, List.nil_append, List.length_cons, List.length_nil, if_true, and_self, Nat.reduceAdd, Nat.reduceLeDiff]; rfl) ?_
 refine q0q (id := 2) z7z a3b rfl ?_
 refine v6v rfl rfl z7z rfl rfl rfl rfl ?_
 refine ⟨by kernel_rfl, ?_⟩
 refine x6x x9x (by rfl) ?_
 refine x0x rfl ?_
 refine x0x rfl ?_
 refine z6z [0] [_] (p7p c bs hbs hbl H.2 hv) rfl rfl rfl (by decide) rfl rfl (by repeat (first | exact InH.nil | refine InH.cons rfl ?_)) (by (simp only [pI, y8y, y9y, w5w, gl, nx, w0w, Nat.beq]; rfl)) (by (simp only [pI, y8y, y9y, w5w, gl, nx, w0w, Nat.beq]; rfl)) ?_
 refine z6z [0] [_] (p5p c bs hbs hbl (a0v bs H.2).2 (a3g hv) (a0v bs H.2).1 (a3v bs H.2).2) rfl rfl rfl (by decide) rfl rfl (by repeat (first | exact InH.nil | refine InH.cons rfl ?_)) (by rfl) (by (simp only [pI, y8y, y9y, w5w, gl, nx, w0w, Nat.beq]; rfl)) ?_
 refine x1x rfl z7z rfl rfl u5u rfl rfl ?_
 refine u4u rfl rfl u5u rfl rfl rfl rfl rfl (by simp only [a3i]; rfl) ?_
 obtain ⟨A, hA⟩ : ∃ A, sA bs = A := ⟨_, rfl⟩
 rw [show a0j bs (a0v bs H.2).1.toNat (a0v bs H.2).2 = A from by rw [← hA, ← hH]; rfl]
 have hvA : A.2.at' ≤ bs.length := by rw [← hA, show sA bs = b6f bs H.2 from by rw [← hH]; rfl]; exact a5m (a3g hv)
 refine x6x x9x (by rfl) ?_
 refine x0x rfl ?_
 refine x0x rfl ?_
 refine z6z [0] [_] (p7p c bs hbs hbl A.2 hvA) rfl rfl rfl (by decide) rfl rfl (by repeat (first | exact InH.nil | refine InH.cons rfl ?_)) (by (simp only [pI, y8y, y9y, w5w, gl, nx, w0w, Nat.beq]; rfl)) (by (simp only [pI, y8y, y9y, w5w, gl, nx, w0w, Nat.beq]; rfl)) ?_
 refine z6z [0] [_] (p5p c bs hbs hbl (a0v bs A.2).2 (a3g hvA) (a0v bs A.2).1 (a3v bs A.2).2) rfl rfl rfl (by decide) rfl rfl (by repeat (first | exact InH.nil | refine InH.cons rfl ?_)) (by rfl) (by (simp only [pI, y8y, y9y, w5w, gl, nx, w0w, Nat.beq]; rfl)) ?_
 refine x1x rfl z7z rfl rfl u5u rfl rfl ?_
 refine u4u rfl rfl u5u rfl rfl rfl rfl rfl (by simp only [a3i]; rfl) ?_
 obtain ⟨B, hB⟩ : ∃ B, sB bs = B := ⟨_, rfl⟩
 rw [show a0j bs (a0v bs A.2).1.toNat (a0v bs A.2).2 = B from by rw [← hB, ← hA]; rfl]
 have hv0 : B.2.at' ≤ bs.length := by rw [← hB, show sB bs = b6f bs A.2 from by rw [← hA]; rfl]; exact a5m (a3g hvA)
 refine x4x fun K3 hK3 => ?_
 refine x6x x9x (by rfl) ?_
 refine x0x rfl ?_
 refine z6z [0] [_] (p7p c bs hbs hbl B.2 hv0) rfl rfl rfl (by decide) rfl rfl (by repeat (first | exact InH.nil | refine InH.cons rfl ?_)) (by (simp only [pI, y8y, y9y, w5w, gl, nx, w0w, Nat.beq]; rfl)) (by (simp only [pI, y8y, y9y, w5w, gl, nx, w0w, Nat.beq]; rfl)) ?_
 refine x2x rfl ?_
 obtain ⟨F0, hF0⟩ : ∃ F, sE bs = F := ⟨_, rfl⟩
 rw [show sE bs = a7x bs (a0v bs B.2).1.toNat (a0v bs B.2).2 from by rw [← hB]; rfl] at hF0
 refine y5y ?_
 refine q7q 2 9 7 81 7 rfl rfl rfl rfl rfl ?_
 refine v1v (ι := List Ev × Int × Rd7) (fun p γ1 => [(5, .pv (.int .i64 p.2.1))]) (fun p γ1 => [(7, ((γ1 7), .row 81 7 (p.1.map s6s))), (0, ((γ 0), .box 44 [v7v c bs, pI ((p.2.2.at' : Nat) : Int), .pv (.bool p.2.2.bad)])), (2, ((0 + 1), .box 28 [pI h0, pI h1, pI h2, pI h3, pI h4, pI h5, pI h6, s7s true A.1, s7s true B.1, .ref 7 (γ1 7), .pv (.slice none 0 0)])), (3, ((γ1 3), .dead)), (4, ((γ1 4), .dead))]) (fun p => p.2.1 ≤ 2097152 ∧ (p.1.length : Int) + p.2.1 ≤ 2097152 ∧ p.1.length ≤ 2097152 ∧ p.2.2.at' ≤ bs.length ∧ p.1 ++ (a7x bs p.2.1.toNat p.2.2).1 = F0.1 ∧ (a7x bs p.2.1.toNat p.2.2).2 = F0.2) (fun p => p.2.1.toNat) (x7x 0 rfl (x7x 2 rfl (x7x 4 rfl Cov.nil))) (u9u 1 rfl (u9u 5 rfl (u9u 6 rfl (u9u 8 rfl HE.nil)))) ([], (a0v bs B.2).1, (a0v bs B.2).2) ⟨(a3v bs B.2).2, by have := (a3v bs B.2).2; show ((0 : Nat) : Int) + (a0v bs B.2).1 ≤ 2097152; omega, Nat.zero_le _, a3g hv0, by rw [← hF0] <;> rfl, by rw [← hF0] <;> rfl⟩ [0, 0, 0, _, _, 0, 0, _] (x7x 5 rfl Cov.nil) (HE.row rfl (by rfl) (HE.box rfl rfl (HE.box rfl rfl (HE.kill rfl (HE.kill rfl HE.nil))))) rfl fun p γ1 hi => ?_
 try dsimp only [List.cons_append, List.nil_append]
 obtain ⟨l, n, q⟩ := p
 obtain ⟨g1, g2, g3, g4, g5, g6⟩ := hi
 dsimp only at g1 g2 g3 g4 g5 g6 ⊢
 refine x4x fun K4 hK4 => ?_
 refine x6x x9x (by rfl) ?_
 refine x0x rfl ?_
 refine y6y rfl rfl rfl ?_
 refine x0x rfl ?_
 refine a0l rfl rfl (fun hg5 => ?_) (fun hg5 => ?_)
 rotate_left
 ·try simp at hg5
  refine x5x rfl rfl ?_
  refine x5x rfl rfl ?_
  refine x5x rfl rfl ?_
  refine x5x rfl rfl ?_
  refine x8x rfl rfl ?_
  refine y0y rfl (fun hc16 => ?_) (fun hc16 => ?_)
  ·simp at hc16
  try simp at hc16
  have hS : a7x bs n.toNat q = ([], q) := b1o (by (left; omega))
  rw [hS, List.append_nil] at g5
  rw [hS] at g6
  obtain ⟨E, hE⟩ : ∃ E, sE bs = E := ⟨_, rfl⟩
  have hEF : E = F0 := by rw [← hE, ← hF0, ← hB]; rfl
  subst hEF
  obtain rfl : l = E.1 := g5
  obtain rfl : q = E.2 := g6
  have hv1 := g4
  refine v3v ?_
  refine hK3 _ _ ?_
  clear hK4 K4 hK3 K3
  refine x4x fun K17 hK17 => ?_
  refine a6t (b := b2x true E.1) 2 9 rfl rfl rfl (.ref rfl (Le.ow_map _ (fun _ => rfl) (fun _ => rfl)) .nil) rfl rfl rfl rfl ?_
  refine x6x x9x (by rfl) ?_
  refine x0x rfl ?_
  refine z6z [0] [_] (p7p c bs hbs hbl E.2 hv1) rfl rfl rfl (by decide) rfl rfl (by repeat (first | exact InH.nil | refine InH.cons rfl ?_)) (by (simp only [pI, y8y, y9y, w5w, gl, nx, w0w, Nat.beq]; rfl)) (by (simp only [pI, y8y, y9y, w5w, gl, nx, w0w, Nat.beq]; rfl)) ?_
  refine x2x rfl ?_
  obtain ⟨F1, hF1⟩ : ∃ F, sO bs = F := ⟨_, rfl⟩
  rw [show sO bs = a4x bs (a0v bs E.2).1.toNat (a0v bs E.2).2 from by rw [← hE]; rfl] at hF1
  refine y5y ?_
  refine q7q 2 10 8 84 5 rfl rfl rfl rfl rfl ?_
  refine v1v (ι := List Ou × Int × Rd7) (fun p γ3 => [(7, .pv (.int .i64 p.2.1))]) (fun p γ3 => [(8, ((γ3 8), .row 84 5 (p.1.map a0n))), (0, ((γ 0), .box 44 [v7v c bs, pI ((p.2.2.at' : Nat) : Int), .pv (.bool p.2.2.bad)])), (2, ((0 + 1), .box 28 [pI h0, pI h1, pI h2, pI h3, pI h4, pI h5, pI h6, s7s true A.1, s7s true B.1, b2x true E.1, .ref 8 (γ3 8)])), (5, ((γ3 5), .dead)), (6, ((γ3 6), .dead))]) (fun p => p.2.1 ≤ 2097152 ∧ (p.1.length : Int) + p.2.1 ≤ 2097152 ∧ p.1.length ≤ 2097152 ∧ p.2.2.at' ≤ bs.length ∧ p.1 ++ (a4x bs p.2.1.toNat p.2.2).1 = F1.1 ∧ (a4x bs p.2.1.toNat p.2.2).2 = F1.2) (fun p => p.2.1.toNat) (x7x 0 rfl (x7x 2 rfl (x7x 4 rfl Cov.nil))) (u9u 1 rfl (u9u 3 rfl (u9u 4 rfl (u9u 7 rfl HE.nil)))) ([], (a0v bs E.2).1, (a0v bs E.2).2) ⟨(a3v bs E.2).2, by have := (a3v bs E.2).2; show ((0 : Nat) : Int) + (a0v bs E.2).1 ≤ 2097152; omega, Nat.zero_le _, a3g hv1, by rw [← hF1] <;> rfl, by rw [← hF1] <;> rfl⟩ [0, 0, 0, 0, 0, _, _, 0, _] (x7x 7 rfl Cov.nil) (HE.row rfl (by rfl) (HE.box rfl rfl (HE.box rfl rfl (HE.kill rfl (HE.kill rfl HE.nil))))) rfl fun p γ3 hi => ?_
  try dsimp only [List.cons_append, List.nil_append]
  obtain ⟨l, n, q⟩ := p
  obtain ⟨g1, g2, g3, g4, g5, g6⟩ := hi
  dsimp only at g1 g2 g3 g4 g5 g6 ⊢
  refine x4x fun K18 hK18 => ?_
  refine x6x x9x (by rfl) ?_
  refine x0x rfl ?_
  refine y6y rfl rfl rfl ?_
  refine x0x rfl ?_
  refine a0l rfl rfl (fun hg19 => ?_) (fun hg19 => ?_)
  rotate_left
  ·try simp at hg19
   refine x5x rfl rfl ?_
   refine x5x rfl rfl ?_
   refine x5x rfl rfl ?_
   refine x5x rfl rfl ?_
   refine x8x rfl rfl ?_
   refine y0y rfl (fun hc23 => ?_) (fun hc23 => ?_)
   ·simp at hc23
   try simp at hc23
   have hS : a4x bs n.toNat q = ([], q) := a4s (by (left; omega))
   rw [hS, List.append_nil] at g5
   rw [hS] at g6
   obtain ⟨O, hO⟩ : ∃ O, sO bs = O := ⟨_, rfl⟩
   have hOF : O = F1 := by rw [← hO, ← hF1, ← hE]; rfl
   subst hOF
   obtain rfl : l = O.1 := g5
   obtain rfl : q = O.2 := g6
   have hW : sW bs = (b5f H.1 A.1 B.1 E.1 O.1, O.2) := by unfold sW; rw [hH, hA, hB, hE, hO, if_neg (by simp [hb])]
   rw [hL7] at hW
   refine v3v ?_
   refine hK17 _ _ ?_
   clear hK18 K18 hK17 K17
   refine a6t (b := b2y true O.1) 2 10 rfl rfl rfl (.ref rfl (Le.ow_map _ (fun _ => rfl) (fun _ => rfl)) .nil) rfl rfl rfl rfl ?_
   refine x6x x9x (by rfl) ?_
   refine u2u rfl z7z rfl rfl rfl ?_
   refine v6v rfl rfl z7z rfl rfl rfl rfl ?_
   rw [hW]
   refine y4y ?_
   exact ⟨.inr rfl, [γ 0], rfl, rfl, HE.box rfl rfl HE.nil⟩
  try simp at hg19
  refine x0x rfl ?_
  refine z1z rfl rfl ?_
  refine u1u rfl rfl ?_
  refine z1z rfl rfl ?_
  refine x1x rfl a0k rfl rfl a6q rfl rfl ?_
  refine z1z rfl rfl ?_
  refine x3x rfl a6q rfl rfl ?_
  refine z1z rfl rfl ?_
  refine q1q rfl ?_
  refine z3z rfl rfl ?_
  refine y0y rfl (fun hc20 => ?_) (fun hc20 => ?_)
  rotate_left
  ·try simp at hc20
   have hS : a4x bs n.toNat q = ([], q) := a4s (by (right; simp_all; done))
   rw [hS, List.append_nil] at g5
   rw [hS] at g6
   obtain ⟨O, hO⟩ : ∃ O, sO bs = O := ⟨_, rfl⟩
   have hOF : O = F1 := by rw [← hO, ← hF1, ← hE]; rfl
   subst hOF
   obtain rfl : l = O.1 := g5
   obtain rfl : q = O.2 := g6
   have hW : sW bs = (b5f H.1 A.1 B.1 E.1 O.1, O.2) := by unfold sW; rw [hH, hA, hB, hE, hO, if_neg (by simp [hb])]
   rw [hL7] at hW
   refine v3v ?_
   refine hK17 _ _ ?_
   clear hK18 K18 hK17 K17
   refine a6t (b := b2y true O.1) 2 10 rfl rfl rfl (.ref rfl (Le.ow_map _ (fun _ => rfl) (fun _ => rfl)) .nil) rfl rfl rfl rfl ?_
   refine x6x x9x (by rfl) ?_
   refine u2u rfl z7z rfl rfl rfl ?_
   refine v6v rfl rfl z7z rfl rfl rfl rfl ?_
   rw [hW]
   refine y4y ?_
   exact ⟨.inr rfl, [γ 0], rfl, rfl, HE.box rfl rfl HE.nil⟩
  try simp at hc20
  obtain ⟨k, hk⟩ : ∃ k, n.toNat = k + 1 := ⟨n.toNat - 1, by omega⟩
  have hq : ¬ q.bad = true := by simp_all
  rw [hk] at g5 g6
  refine y1y ?_
  refine hK18 _ _ ?_
  clear hK18 K18
  refine x4x fun K21 hK21 => ?_
  refine y5y ?_
  refine x6x x9x (by rfl) ?_
  refine x0x rfl ?_
  refine z6z [0] [_] (p5p c bs hbs hbl q g4 5 (by omega)) rfl rfl rfl (by decide) rfl rfl (by repeat (first | exact InH.nil | refine InH.cons rfl ?_)) (by rfl) (by (simp only [pI, y8y, y9y, w5w, gl, nx, w0w, Nat.beq]; rfl)) ?_
  refine x2x rfl ?_
  obtain ⟨G, hG⟩ : ∃ G, a0j bs 5 q = G := ⟨_, rfl⟩
  rw [show a0j bs (5 : Int).toNat q = G from hG]
  have hvG : G.2.at' ≤ bs.length := by rw [← hG]; exact a5m g4
  refine x6x x9x (by rfl) ?_
  refine x0x rfl ?_
  refine u1u rfl rfl ?_
  refine x1x rfl a0k rfl rfl a6q rfl rfl ?_
  refine x3x rfl a6q rfl rfl ?_
  refine q1q rfl ?_
  refine y0y rfl (fun hc22 => ?_) (fun hc22 => ?_)
  rotate_left
  ·try simp at hc22
   have hGb : G.2.bad = true := by simp_all
   rw [b5i hq (by rw [hG]; exact hGb), hG] at g5 g6
   have hN : (n - 1) ≤ 2097152 ∧ (l.length : Int) + (n - 1) ≤ 2097152 ∧ l.length ≤ 2097152 ∧ G.2.at' ≤ bs.length ∧ l ++ (a4x bs (n - 1).toNat G.2).1 = F1.1 ∧ (a4x bs (n - 1).toNat G.2).2 = F1.2 := by rw [a4s (.inr hGb)]; exact ⟨by omega, by omega, g3, hvG, g5, g6⟩
   refine y1y ?_
   refine hK21 _ _ ?_
   clear hK21 K21
   refine y2y x9x (by rfl) ?_
   refine x0x rfl ?_
   refine u0u (.int .i64 (n - 1)) rfl rfl rfl (p8p rfl (by omega) (by omega) (by omega)) ?_
   refine x2x rfl ?_
   exact ⟨(_, n - 1, _), ⟨(by exact hN), (by show (n - 1).toNat < n.toNat; omega)⟩, [0, 0, 0, 0, 0, _, _, 0, _], (x7x 7 rfl Cov.nil), (x7x 0 rfl (x7x 2 rfl (x7x 4 rfl Cov.nil))), (HE.row rfl (by rfl) (HE.box rfl rfl (HE.box rfl rfl (HE.kill rfl (HE.kill rfl HE.nil))))), (u9u 1 rfl (u9u 3 rfl (u9u 4 rfl (u9u 7 rfl HE.nil)))), rfl⟩
  try simp at hc22
  have hGb : ¬ G.2.bad = true := by simp_all
  have hl5 := a6d (n := 5) (r := q) (by rw [hG]; simpa using hGb)
  rw [hG] at hl5
  rw [b3h hq (by rw [hG]; exact hGb), hG] at g5 g6
  have hN : (n - 1) ≤ 2097152 ∧ ((l ++ [b3m G.1]).length : Int) + (n - 1) ≤ 2097152 ∧ (l ++ [b3m G.1]).length ≤ 2097152 ∧ G.2.at' ≤ bs.length ∧ (l ++ [b3m G.1]) ++ (a4x bs (n - 1).toNat G.2).1 = F1.1 ∧ (a4x bs (n - 1).toNat G.2).2 = F1.2 := by rw [show (n - 1).toNat = k by omega]; refine ⟨by omega, by rw [List.length_append, List.length_cons, List.length_nil]; omega, by rw [List.length_append, List.length_cons, List.length_nil]; omega, hvG, ?_, g6⟩; rw [← g5, List.append_assoc]; rfl
  obtain ⟨a0, a1, a2, a3, a4, hL⟩ := c5w hl5
  rw [show s7s true G.1 = s7s true [a0, a1, a2, a3, a4] from by rw [hL]]
  refine a1p x9x s9s (by rfl) ?_
  refine x1x rfl z7z rfl rfl w7w rfl rfl ?_
  refine x3x rfl w7w rfl rfl ?_
  refine x0x rfl ?_
  refine z9z rfl rfl u5u rfl y3y rfl (show ([a0, a1, a2, a3, a4] : List Int)[0]? = some a0 from rfl) ?_
  refine y7y rfl y3y rfl ?_
  refine x0x rfl ?_
  refine z9z rfl rfl u5u rfl y3y rfl (show ([a0, a1, a2, a3, a4] : List Int)[1]? = some a1 from rfl) ?_
  refine y7y rfl y3y rfl ?_
  refine x0x rfl ?_
  refine z9z rfl rfl u5u rfl y3y rfl (show ([a0, a1, a2, a3, a4] : List Int)[2]? = some a2 from rfl) ?_
  refine y7y rfl y3y rfl ?_
  refine x0x rfl ?_
  refine z9z rfl rfl u5u rfl y3y rfl (show ([a0, a1, a2, a3, a4] : List Int)[3]? = some a3 from rfl) ?_
  refine y7y rfl y3y rfl ?_
  refine x0x rfl ?_
  refine z9z rfl rfl u5u rfl y3y rfl (show ([a0, a1, a2, a3, a4] : List Int)[4]? = some a4 from rfl) ?_
  refine y7y rfl y3y rfl ?_
  refine r7r u7u rfl b5z rfl (by simp only [pI, a0z, p1p, AV.okc, AV.one, T3, T4, List.getElem?_cons_zero, List.getElem?_cons_succ, List.take_succ_cons, List.take_zero, List.drop_succ_cons, List.drop_zero, List.cons_append, List.nil_append, List.length_cons, List.length_nil, if_true, and_self, Nat.reduceAdd, Nat.reduceLeDiff]; rfl) ?_
  refine a2k (id := 5) w7w rfl u7u rfl rfl rfl rfl rfl rfl ?_
  refine a0g (zs := (l ++ [b3m G.1]).map a0n) rfl rfl w7w rfl u7u rfl rfl rfl rfl (by rfl) (by rw [hL, List.map_append]; rfl) (by (simp only [List.length_map, List.length_append, List.length_cons, List.length_nil, List.length_take, T84]; omega)) ?_
  refine x1x rfl z7z rfl rfl w7w rfl rfl ?_
  refine u4u rfl rfl w7w rfl rfl rfl rfl rfl (by simp only [a3i]; rfl) ?_
  refine ⟨by kernel_rfl, ?_⟩
  refine hK21 _ _ ?_
  clear hK21 K21
  refine y2y x9x (by rfl) ?_
  refine x0x rfl ?_
  refine u0u (.int .i64 (n - 1)) rfl rfl rfl (p8p rfl (by omega) (by omega) (by omega)) ?_
  refine x2x rfl ?_
  exact ⟨(_, n - 1, _), ⟨(by exact hN), (by show (n - 1).toNat < n.toNat; omega)⟩, [0, 0, 0, 0, 0, _, _, 0, _], (x7x 7 rfl Cov.nil), (x7x 0 rfl (x7x 2 rfl (x7x 4 rfl Cov.nil))), (HE.row rfl (by rfl) (HE.box rfl rfl (HE.box rfl rfl (HE.kill rfl (HE.kill rfl HE.nil))))), (u9u 1 rfl (u9u 3 rfl (u9u 4 rfl (u9u 7 rfl HE.nil)))), rfl⟩
 try simp at hg5
 refine x0x rfl ?_
 refine z1z rfl rfl ?_
 refine u1u rfl rfl ?_
 refine z1z rfl rfl ?_
 refine x1x rfl a0k rfl rfl a6q rfl rfl ?_
 refine z1z rfl rfl ?_
 refine x3x rfl a6q rfl rfl ?_
 refine z1z rfl rfl ?_
 refine q1q rfl ?_
 refine z3z rfl rfl ?_
 refine y0y rfl (fun hc6 => ?_) (fun hc6 => ?_)
 ·try simp at hc6
  obtain ⟨k, hk⟩ : ∃ k, n.toNat = k + 1 := ⟨n.toNat - 1, by omega⟩
  have hq : ¬ q.bad = true := by simp_all
  rw [hk] at g5 g6
  refine y1y ?_
  refine hK4 _ _ ?_
  clear hK4 K4
  refine x4x fun K7 hK7 => ?_
  refine y5y ?_
  refine x6x x9x (by rfl) ?_
  refine x0x rfl ?_
  refine z6z [0] [_] (p5p c bs hbs hbl q g4 7 (by omega)) rfl rfl rfl (by decide) rfl rfl (by repeat (first | exact InH.nil | refine InH.cons rfl ?_)) (by rfl) (by (simp only [pI, y8y, y9y, w5w, gl, nx, w0w, Nat.beq]; rfl)) ?_
  refine x2x rfl ?_
  obtain ⟨G, hG⟩ : ∃ G, a0j bs 7 q = G := ⟨_, rfl⟩
  rw [show a0j bs (7 : Int).toNat q = G from hG]
  have hvG : G.2.at' ≤ bs.length := by rw [← hG]; exact a5m g4
  refine x6x x9x (by rfl) ?_
  refine x0x rfl ?_
  refine u1u rfl rfl ?_
  refine x1x rfl a0k rfl rfl a6q rfl rfl ?_
  refine x3x rfl a6q rfl rfl ?_
  refine q1q rfl ?_
  refine y0y rfl (fun hc8 => ?_) (fun hc8 => ?_)
  rotate_left
  ·try simp at hc8
   have hGb : G.2.bad = true := by simp_all
   rw [b9w hq (by rw [hG]; exact hGb), hG] at g5 g6
   have hN : (n - 1) ≤ 2097152 ∧ (l.length : Int) + (n - 1) ≤ 2097152 ∧ l.length ≤ 2097152 ∧ G.2.at' ≤ bs.length ∧ l ++ (a7x bs (n - 1).toNat G.2).1 = F0.1 ∧ (a7x bs (n - 1).toNat G.2).2 = F0.2 := by rw [b1o (.inr hGb)]; exact ⟨by omega, by omega, g3, hvG, g5, g6⟩
   refine y1y ?_
   refine hK7 _ _ ?_
   clear hK7 K7
   refine y2y x9x (by rfl) ?_
   refine x0x rfl ?_
   refine u0u (.int .i64 (n - 1)) rfl rfl rfl (p8p rfl (by omega) (by omega) (by omega)) ?_
   refine x2x rfl ?_
   exact ⟨(_, n - 1, _), ⟨(by exact hN), (by show (n - 1).toNat < n.toNat; omega)⟩, [0, 0, 0, _, _, 0, 0, _], (x7x 5 rfl Cov.nil), (x7x 0 rfl (x7x 2 rfl (x7x 4 rfl Cov.nil))), (HE.row rfl (by rfl) (HE.box rfl rfl (HE.box rfl rfl (HE.kill rfl (HE.kill rfl HE.nil))))), (u9u 1 rfl (u9u 5 rfl (u9u 6 rfl (u9u 8 rfl HE.nil)))), rfl⟩
  try simp at hc8
  have hGb : ¬ G.2.bad = true := by simp_all
  have hl5 := a6d (n := 7) (r := q) (by rw [hG]; simpa using hGb)
  rw [hG] at hl5
  rw [b8k hq (by rw [hG]; exact hGb), hG] at g5 g6
  have hN : (n - 1) ≤ 2097152 ∧ ((l ++ [b6e G.1]).length : Int) + (n - 1) ≤ 2097152 ∧ (l ++ [b6e G.1]).length ≤ 2097152 ∧ G.2.at' ≤ bs.length ∧ (l ++ [b6e G.1]) ++ (a7x bs (n - 1).toNat G.2).1 = F0.1 ∧ (a7x bs (n - 1).toNat G.2).2 = F0.2 := by rw [show (n - 1).toNat = k by omega]; refine ⟨by omega, by rw [List.length_append, List.length_cons, List.length_nil]; omega, by rw [List.length_append, List.length_cons, List.length_nil]; omega, hvG, ?_, g6⟩; rw [← g5, List.append_assoc]; rfl
  obtain ⟨a0, a1, a2, a3, a4, a5, a6, hL⟩ := c5v hl5
  rw [show s7s true G.1 = s7s true [a0, a1, a2, a3, a4, a5, a6] from by rw [hL]]
  refine a1p x9x s9s (by rfl) ?_
  refine x1x rfl z7z rfl rfl w8w rfl rfl ?_
  refine x3x rfl w8w rfl rfl ?_
  refine x0x rfl ?_
  refine z9z rfl rfl u5u rfl y3y rfl (show ([a0, a1, a2, a3, a4, a5, a6] : List Int)[0]? = some a0 from rfl) ?_
  refine y7y rfl y3y rfl ?_
  refine x0x rfl ?_
  refine z9z rfl rfl u5u rfl y3y rfl (show ([a0, a1, a2, a3, a4, a5, a6] : List Int)[1]? = some a1 from rfl) ?_
  refine y7y rfl y3y rfl ?_
  refine x0x rfl ?_
  refine z9z rfl rfl u5u rfl y3y rfl (show ([a0, a1, a2, a3, a4, a5, a6] : List Int)[2]? = some a2 from rfl) ?_
  refine y7y rfl y3y rfl ?_
  refine x0x rfl ?_
  refine z9z rfl rfl u5u rfl y3y rfl (show ([a0, a1, a2, a3, a4, a5, a6] : List Int)[3]? = some a3 from rfl) ?_
  refine y7y rfl y3y rfl ?_
  refine x0x rfl ?_
  refine z9z rfl rfl u5u rfl y3y rfl (show ([a0, a1, a2, a3, a4, a5, a6] : List Int)[4]? = some a4 from rfl) ?_
  refine y7y rfl y3y rfl ?_
  refine x0x rfl ?_
  refine z9z rfl rfl u5u rfl y3y rfl (show ([a0, a1, a2, a3, a4, a5, a6] : List Int)[5]? = some a5 from rfl) ?_
  refine y7y rfl y3y rfl ?_
  refine x0x rfl ?_
  refine z9z rfl rfl u5u rfl y3y rfl (show ([a0, a1, a2, a3, a4, a5, a6] : List Int)[6]? = some a6 from rfl) ?_
  refine y7y rfl y3y rfl ?_
  refine r7r u3u rfl b7h rfl (by simp only [pI, a0z, p1p, AV.okc, AV.one, T3, T4, List.getElem?_cons_zero, List.getElem?_cons_succ, List.take_succ_cons, List.take_zero, List.drop_succ_cons, List.drop_zero, List.cons_append, List.nil_append, List.length_cons, List.length_nil, if_true, and_self, Nat.reduceAdd, Nat.reduceLeDiff]; rfl) ?_
  refine a2k (id := 3) w8w rfl u3u rfl rfl rfl rfl rfl rfl ?_
  refine a0g (zs := (l ++ [b6e G.1]).map s6s) rfl rfl w8w rfl u3u rfl rfl rfl rfl (by rfl) (by rw [hL, List.map_append]; rfl) (by (simp only [List.length_map, List.length_append, List.length_cons, List.length_nil, List.length_take, T81]; omega)) ?_
  refine x1x rfl z7z rfl rfl w8w rfl rfl ?_
  refine u4u rfl rfl w8w rfl rfl rfl rfl rfl (by simp only [a3i]; rfl) ?_
  refine ⟨by kernel_rfl, ?_⟩
  refine hK7 _ _ ?_
  clear hK7 K7
  refine y2y x9x (by rfl) ?_
  refine x0x rfl ?_
  refine u0u (.int .i64 (n - 1)) rfl rfl rfl (p8p rfl (by omega) (by omega) (by omega)) ?_
  refine x2x rfl ?_
  exact ⟨(_, n - 1, _), ⟨(by exact hN), (by show (n - 1).toNat < n.toNat; omega)⟩, [0, 0, 0, _, _, 0, 0, _], (x7x 5 rfl Cov.nil), (x7x 0 rfl (x7x 2 rfl (x7x 4 rfl Cov.nil))), (HE.row rfl (by rfl) (HE.box rfl rfl (HE.box rfl rfl (HE.kill rfl (HE.kill rfl HE.nil))))), (u9u 1 rfl (u9u 5 rfl (u9u 6 rfl (u9u 8 rfl HE.nil)))), rfl⟩
 try simp at hc6
 have hS : a7x bs n.toNat q = ([], q) := b1o (by (right; simp_all; done))
 rw [hS, List.append_nil] at g5
 rw [hS] at g6
 obtain ⟨E, hE⟩ : ∃ E, sE bs = E := ⟨_, rfl⟩
 have hEF : E = F0 := by rw [← hE, ← hF0, ← hB]; rfl
 subst hEF
 obtain rfl : l = E.1 := g5
 obtain rfl : q = E.2 := g6
 have hv1 := g4
 refine v3v ?_
 refine hK3 _ _ ?_
 clear hK4 K4 hK3 K3
 refine x4x fun K9 hK9 => ?_
 refine a6t (b := b2x true E.1) 2 9 rfl rfl rfl (.ref rfl (Le.ow_map _ (fun _ => rfl) (fun _ => rfl)) .nil) rfl rfl rfl rfl ?_
 refine x6x x9x (by rfl) ?_
 refine x0x rfl ?_
 refine z6z [0] [_] (p7p c bs hbs hbl E.2 hv1) rfl rfl rfl (by decide) rfl rfl (by repeat (first | exact InH.nil | refine InH.cons rfl ?_)) (by (simp only [pI, y8y, y9y, w5w, gl, nx, w0w, Nat.beq]; rfl)) (by (simp only [pI, y8y, y9y, w5w, gl, nx, w0w, Nat.beq]; rfl)) ?_
 refine x2x rfl ?_
 obtain ⟨F1, hF1⟩ : ∃ F, sO bs = F := ⟨_, rfl⟩
 rw [show sO bs = a4x bs (a0v bs E.2).1.toNat (a0v bs E.2).2 from by rw [← hE]; rfl] at hF1
 refine y5y ?_
 refine q7q 2 10 8 84 5 rfl rfl rfl rfl rfl ?_
 refine v1v (ι := List Ou × Int × Rd7) (fun p γ2 => [(7, .pv (.int .i64 p.2.1))]) (fun p γ2 => [(8, ((γ2 8), .row 84 5 (p.1.map a0n))), (0, ((γ 0), .box 44 [v7v c bs, pI ((p.2.2.at' : Nat) : Int), .pv (.bool p.2.2.bad)])), (2, ((0 + 1), .box 28 [pI h0, pI h1, pI h2, pI h3, pI h4, pI h5, pI h6, s7s true A.1, s7s true B.1, b2x true E.1, .ref 8 (γ2 8)])), (5, ((γ2 5), .dead)), (6, ((γ2 6), .dead))]) (fun p => p.2.1 ≤ 2097152 ∧ (p.1.length : Int) + p.2.1 ≤ 2097152 ∧ p.1.length ≤ 2097152 ∧ p.2.2.at' ≤ bs.length ∧ p.1 ++ (a4x bs p.2.1.toNat p.2.2).1 = F1.1 ∧ (a4x bs p.2.1.toNat p.2.2).2 = F1.2) (fun p => p.2.1.toNat) (x7x 0 rfl (x7x 2 rfl (x7x 4 rfl Cov.nil))) (u9u 1 rfl (u9u 3 rfl (u9u 4 rfl (u9u 7 rfl HE.nil)))) ([], (a0v bs E.2).1, (a0v bs E.2).2) ⟨(a3v bs E.2).2, by have := (a3v bs E.2).2; show ((0 : Nat) : Int) + (a0v bs E.2).1 ≤ 2097152; omega, Nat.zero_le _, a3g hv1, by rw [← hF1] <;> rfl, by rw [← hF1] <;> rfl⟩ [0, 0, 0, 0, 0, _, _, 0, _] (x7x 7 rfl Cov.nil) (HE.row rfl (by rfl) (HE.box rfl rfl (HE.box rfl rfl (HE.kill rfl (HE.kill rfl HE.nil))))) rfl fun p γ2 hi => ?_
 try dsimp only [List.cons_append, List.nil_append]
 obtain ⟨l, n, q⟩ := p
 obtain ⟨g1, g2, g3, g4, g5, g6⟩ := hi
 dsimp only at g1 g2 g3 g4 g5 g6 ⊢
 refine x4x fun K10 hK10 => ?_
 refine x6x x9x (by rfl) ?_
 refine x0x rfl ?_
 refine y6y rfl rfl rfl ?_
 refine x0x rfl ?_
 refine a0l rfl rfl (fun hg11 => ?_) (fun hg11 => ?_)
 rotate_left
 ·try simp at hg11
  refine x5x rfl rfl ?_
  refine x5x rfl rfl ?_
  refine x5x rfl rfl ?_
  refine x5x rfl rfl ?_
  refine x8x rfl rfl ?_
  refine y0y rfl (fun hc15 => ?_) (fun hc15 => ?_)
  ·simp at hc15
  try simp at hc15
  have hS : a4x bs n.toNat q = ([], q) := a4s (by (left; omega))
  rw [hS, List.append_nil] at g5
  rw [hS] at g6
  obtain ⟨O, hO⟩ : ∃ O, sO bs = O := ⟨_, rfl⟩
  have hOF : O = F1 := by rw [← hO, ← hF1, ← hE]; rfl
  subst hOF
  obtain rfl : l = O.1 := g5
  obtain rfl : q = O.2 := g6
  have hW : sW bs = (b5f H.1 A.1 B.1 E.1 O.1, O.2) := by unfold sW; rw [hH, hA, hB, hE, hO, if_neg (by simp [hb])]
  rw [hL7] at hW
  refine v3v ?_
  refine hK9 _ _ ?_
  clear hK10 K10 hK9 K9
  refine a6t (b := b2y true O.1) 2 10 rfl rfl rfl (.ref rfl (Le.ow_map _ (fun _ => rfl) (fun _ => rfl)) .nil) rfl rfl rfl rfl ?_
  refine x6x x9x (by rfl) ?_
  refine u2u rfl z7z rfl rfl rfl ?_
  refine v6v rfl rfl z7z rfl rfl rfl rfl ?_
  rw [hW]
  refine y4y ?_
  exact ⟨.inr rfl, [γ 0], rfl, rfl, HE.box rfl rfl HE.nil⟩
 try simp at hg11
 refine x0x rfl ?_
 refine z1z rfl rfl ?_
 refine u1u rfl rfl ?_
 refine z1z rfl rfl ?_
 refine x1x rfl a0k rfl rfl a6q rfl rfl ?_
 refine z1z rfl rfl ?_
 refine x3x rfl a6q rfl rfl ?_
 refine z1z rfl rfl ?_
 refine q1q rfl ?_
 refine z3z rfl rfl ?_
 refine y0y rfl (fun hc12 => ?_) (fun hc12 => ?_)
 rotate_left
 ·try simp at hc12
  have hS : a4x bs n.toNat q = ([], q) := a4s (by (right; simp_all; done))
  rw [hS, List.append_nil] at g5
  rw [hS] at g6
  obtain ⟨O, hO⟩ : ∃ O, sO bs = O := ⟨_, rfl⟩
  have hOF : O = F1 := by rw [← hO, ← hF1, ← hE]; rfl
  subst hOF
  obtain rfl : l = O.1 := g5
  obtain rfl : q = O.2 := g6
  have hW : sW bs = (b5f H.1 A.1 B.1 E.1 O.1, O.2) := by unfold sW; rw [hH, hA, hB, hE, hO, if_neg (by simp [hb])]
  rw [hL7] at hW
  refine v3v ?_
  refine hK9 _ _ ?_
  clear hK10 K10 hK9 K9
  refine a6t (b := b2y true O.1) 2 10 rfl rfl rfl (.ref rfl (Le.ow_map _ (fun _ => rfl) (fun _ => rfl)) .nil) rfl rfl rfl rfl ?_
  refine x6x x9x (by rfl) ?_
  refine u2u rfl z7z rfl rfl rfl ?_
  refine v6v rfl rfl z7z rfl rfl rfl rfl ?_
  rw [hW]
  refine y4y ?_
  exact ⟨.inr rfl, [γ 0], rfl, rfl, HE.box rfl rfl HE.nil⟩
 try simp at hc12
 obtain ⟨k, hk⟩ : ∃ k, n.toNat = k + 1 := ⟨n.toNat - 1, by omega⟩
 have hq : ¬ q.bad = true := by simp_all
 rw [hk] at g5 g6
 refine y1y ?_
 refine hK10 _ _ ?_
 clear hK10 K10
 refine x4x fun K13 hK13 => ?_
 refine y5y ?_
 refine x6x x9x (by rfl) ?_
 refine x0x rfl ?_
 refine z6z [0] [_] (p5p c bs hbs hbl q g4 5 (by omega)) rfl rfl rfl (by decide) rfl rfl (by repeat (first | exact InH.nil | refine InH.cons rfl ?_)) (by rfl) (by (simp only [pI, y8y, y9y, w5w, gl, nx, w0w, Nat.beq]; rfl)) ?_
 refine x2x rfl ?_
 obtain ⟨G, hG⟩ : ∃ G, a0j bs 5 q = G := ⟨_, rfl⟩
 rw [show a0j bs (5 : Int).toNat q = G from hG]
 have hvG : G.2.at' ≤ bs.length := by rw [← hG]; exact a5m g4
 refine x6x x9x (by rfl) ?_
 refine x0x rfl ?_
 refine u1u rfl rfl ?_
 refine x1x rfl a0k rfl rfl a6q rfl rfl ?_
 refine x3x rfl a6q rfl rfl ?_
 refine q1q rfl ?_
 refine y0y rfl (fun hc14 => ?_) (fun hc14 => ?_)
 rotate_left
 ·try simp at hc14
  have hGb : G.2.bad = true := by simp_all
  rw [b5i hq (by rw [hG]; exact hGb), hG] at g5 g6
  have hN : (n - 1) ≤ 2097152 ∧ (l.length : Int) + (n - 1) ≤ 2097152 ∧ l.length ≤ 2097152 ∧ G.2.at' ≤ bs.length ∧ l ++ (a4x bs (n - 1).toNat G.2).1 = F1.1 ∧ (a4x bs (n - 1).toNat G.2).2 = F1.2 := by rw [a4s (.inr hGb)]; exact ⟨by omega, by omega, g3, hvG, g5, g6⟩
  refine y1y ?_
  refine hK13 _ _ ?_
  clear hK13 K13
  refine y2y x9x (by rfl) ?_
  refine x0x rfl ?_
  refine u0u (.int .i64 (n - 1)) rfl rfl rfl (p8p rfl (by omega) (by omega) (by omega)) ?_
  refine x2x rfl ?_
  exact ⟨(_, n - 1, _), ⟨(by exact hN), (by show (n - 1).toNat < n.toNat; omega)⟩, [0, 0, 0, 0, 0, _, _, 0, _], (x7x 7 rfl Cov.nil), (x7x 0 rfl (x7x 2 rfl (x7x 4 rfl Cov.nil))), (HE.row rfl (by rfl) (HE.box rfl rfl (HE.box rfl rfl (HE.kill rfl (HE.kill rfl HE.nil))))), (u9u 1 rfl (u9u 3 rfl (u9u 4 rfl (u9u 7 rfl HE.nil)))), rfl⟩
 try simp at hc14
 have hGb : ¬ G.2.bad = true := by simp_all
 have hl5 := a6d (n := 5) (r := q) (by rw [hG]; simpa using hGb)
 rw [hG] at hl5
 rw [b3h hq (by rw [hG]; exact hGb), hG] at g5 g6
 have hN : (n - 1) ≤ 2097152 ∧ ((l ++ [b3m G.1]).length : Int) + (n - 1) ≤ 2097152 ∧ (l ++ [b3m G.1]).length ≤ 2097152 ∧ G.2.at' ≤ bs.length ∧ (l ++ [b3m G.1]) ++ (a4x bs (n - 1).toNat G.2).1 = F1.1 ∧ (a4x bs (n - 1).toNat G.2).2 = F1.2 := by rw [show (n - 1).toNat = k by omega]; refine ⟨by omega, by rw [List.length_append, List.length_cons, List.length_nil]; omega, by rw [List.length_append, List.length_cons, List.length_nil]; omega, hvG, ?_, g6⟩; rw [← g5, List.append_assoc]; rfl
 obtain ⟨a0, a1, a2, a3, a4, hL⟩ := c5w hl5
 rw [show s7s true G.1 = s7s true [a0, a1, a2, a3, a4] from by rw [hL]]
 refine a1p x9x s9s (by rfl) ?_
 refine x1x rfl z7z rfl rfl w7w rfl rfl ?_
 refine x3x rfl w7w rfl rfl ?_
 refine x0x rfl ?_
 refine z9z rfl rfl u5u rfl y3y rfl (show ([a0, a1, a2, a3, a4] : List Int)[0]? = some a0 from rfl) ?_
 refine y7y rfl y3y rfl ?_
 refine x0x rfl ?_
 refine z9z rfl rfl u5u rfl y3y rfl (show ([a0, a1, a2, a3, a4] : List Int)[1]? = some a1 from rfl) ?_
 refine y7y rfl y3y rfl ?_
 refine x0x rfl ?_
 refine z9z rfl rfl u5u rfl y3y rfl (show ([a0, a1, a2, a3, a4] : List Int)[2]? = some a2 from rfl) ?_
 refine y7y rfl y3y rfl ?_
 refine x0x rfl ?_
 refine z9z rfl rfl u5u rfl y3y rfl (show ([a0, a1, a2, a3, a4] : List Int)[3]? = some a3 from rfl) ?_
 refine y7y rfl y3y rfl ?_
 refine x0x rfl ?_
 refine z9z rfl rfl u5u rfl y3y rfl (show ([a0, a1, a2, a3, a4] : List Int)[4]? = some a4 from rfl) ?_
 refine y7y rfl y3y rfl ?_
 refine r7r u7u rfl b5z rfl (by simp only [pI, a0z, p1p, AV.okc, AV.one, T3, T4, List.getElem?_cons_zero, List.getElem?_cons_succ, List.take_succ_cons, List.take_zero, List.drop_succ_cons, List.drop_zero, List.cons_append, List.nil_append, List.length_cons, List.length_nil, if_true, and_self, Nat.reduceAdd, Nat.reduceLeDiff]; rfl) ?_
 refine a2k (id := 5) w7w rfl u7u rfl rfl rfl rfl rfl rfl ?_
 refine a0g (zs := (l ++ [b3m G.1]).map a0n) rfl rfl w7w rfl u7u rfl rfl rfl rfl (by rfl) (by rw [hL, List.map_append]; rfl) (by (simp only [List.length_map, List.length_append, List.length_cons, List.length_nil, List.length_take, T84]; omega)) ?_
 refine x1x rfl z7z rfl rfl w7w rfl rfl ?_
 refine u4u rfl rfl w7w rfl rfl rfl rfl rfl (by simp only [a3i]; rfl) ?_
 refine ⟨by kernel_rfl, ?_⟩
 refine hK13 _ _ ?_
 clear hK13 K13
 refine y2y x9x (by rfl) ?_
 refine x0x rfl ?_
 refine u0u (.int .i64 (n - 1)) rfl rfl rfl (p8p rfl (by omega) (by omega) (by omega)) ?_
 refine x2x rfl ?_
 exact ⟨(_, n - 1, _), ⟨(by exact hN), (by show (n - 1).toNat < n.toNat; omega)⟩, [0, 0, 0, 0, 0, _, _, 0, _], (x7x 7 rfl Cov.nil), (x7x 0 rfl (x7x 2 rfl (x7x 4 rfl Cov.nil))), (HE.row rfl (by rfl) (HE.box rfl rfl (HE.box rfl rfl (HE.kill rfl (HE.kill rfl HE.nil))))), (u9u 1 rfl (u9u 3 rfl (u9u 4 rfl (u9u 7 rfl HE.nil)))), rfl⟩
end
section
theorem a7c (c : Bool) (bs : List Nat) (hbs : ∀ b ∈ bs, b < 256) (hbl : bs.length ≤ 100000000) : a1f Try.prog 6 [v7v c bs] (.tup [.agg (a5z true (q8q bs).1), .pv (.bool (q8q bs).2)]) := by
 refine z5z x9x (fn := Try.f6) (by kernel_rfl) (by kernel_rfl) rfl (outs := [.agg (a5z true (q8q bs).1), .pv (.bool (q8q bs).2)]) (by rfl) (v2v rfl) 3 ?_
 refine x6x x9x (by rfl) ?_
 refine q0q (id := 0) z7z a3b rfl ?_
 refine x2x rfl ?_
 refine x6x x9x (by rfl) ?_
 refine x0x rfl ?_
 refine r7r a0k rfl c4i rfl (by simp only [pI, y3y, T3, a6q, T4, w4w, T22, a0z, p1p, AV.okc, AV.one, Value.oneCell', List.map_cons, List.map_nil, List.getElem?_cons_zero, List.getElem?_cons_succ, List.take_succ_cons, List.take_zero, List.drop_succ_cons, List.drop_zero, List.cons_append, List.nil_append, List.length_cons, List.length_nil, if_true, and_self, Nat.reduceAdd, Nat.reduceLeDiff]; rfl) ?_
 refine p6p (id := 1) rfl rfl rfl ?_
 refine x2x rfl ?_
 refine x6x x9x (by rfl) ?_
 refine x0x rfl ?_
 refine z6z [1] [_] (a4c c bs hbs hbl) rfl rfl rfl (by decide) rfl rfl (by repeat (first | exact InH.nil | refine InH.cons rfl ?_)) (by (simp only [pI, y8y, y9y, w5w, gl, nx, w0w, Nat.beq]; rfl)) (by (simp only [pI, y8y, y9y, w5w, gl, nx, w0w, Nat.beq]; rfl)) ?_
 refine q0q (id := 2) z7z a3b rfl ?_
 refine v6v rfl rfl z7z rfl rfl rfl rfl ?_
 refine x4x fun K1 hK1 => ?_
 refine q5q x9x s9s (by rfl) ?_
 refine x0x rfl ?_
 refine u1u rfl rfl ?_
 refine x1x rfl a0k rfl rfl a6q rfl rfl ?_
 refine x3x rfl a6q rfl rfl ?_
 refine x0x rfl ?_
 refine a0l rfl rfl (fun hg2 => ?_) (fun hg2 => ?_)
 rotate_left
 ·try simp at hg2
  have hX : ¬ a9u bs := fun q => by have q1 := q.1; simp [q1] at hg2
  refine x5x rfl rfl ?_
  refine x5x rfl rfl ?_
  refine z3z rfl rfl ?_
  refine x0x rfl ?_
  refine x5x rfl rfl ?_
  refine x5x rfl rfl ?_
  refine x5x rfl rfl ?_
  refine x5x rfl rfl ?_
  refine x5x rfl rfl ?_
  refine x5x rfl rfl ?_
  refine z3z rfl rfl ?_
  refine ⟨by kernel_rfl, ?_⟩
  refine y0y rfl (fun hc6 => ?_) (fun hc6 => ?_)
  rotate_left
  ·simp at hc6
  try simp at hc6
  try have hX : ¬ a9u bs := fun q => by have q1 := q.2.2; simp [q1] at hc6
  refine x6x x9x (by rfl) ?_
  refine r7r z7z rfl a3b rfl (by simp only [pI, y3y, T3, u5u, T24, w8w, T25, w7w, T26, a0z, p1p, AV.okc, AV.one, Value.oneCell', List.map_cons, List.map_nil, List.getElem?_cons_zero, List.getElem?_cons_succ, List.take_succ_cons, List.take_zero, List.drop_succ_cons, List.drop_zero, List.cons_append, List.nil_append, List.length_cons, List.length_nil, if_true, and_self, Nat.reduceAdd, Nat.reduceLeDiff]; rfl) ?_
  refine v6v rfl rfl z7z rfl rfl rfl rfl ?_
  refine x2x rfl ?_
  refine b4y 0 rfl (.same (.same (.same (.same (.same (.same (.same (.le (b := s7s true []) rfl .nil rfl (.le (b := s7s true []) rfl .nil rfl (.le (b := b2x true []) rfl .nil rfl (.le (b := b2y true []) rfl .nil rfl (LeCs.refl _)))))))))))) ?_
  rw [show q8q bs = (wo0, false) from if_neg hX]
  refine y4y ⟨.inr rfl, ?_⟩
  clear hK1 K1
  exact ⟨_, _, rfl, .agg rfl (.cl rfl (.cl rfl (.cl rfl (.cl rfl (.cl rfl (.cl rfl (.cl rfl (.cl rfl (.cl rfl (.cl rfl (.cl rfl .nil))))))))))) (.cl rfl .nil)⟩
 try simp at hg2
 have hb : (sW bs).2.bad = false := by simpa using hg2
 refine x0x rfl ?_
 refine z1z rfl rfl ?_
 refine u6u rfl w4w rfl ?_
 refine z1z rfl rfl ?_
 refine y6y rfl rfl rfl ?_
 refine x8x rfl rfl ?_
 refine x0x rfl ?_
 refine a0l rfl rfl (fun hg3 => ?_) (fun hg3 => ?_)
 rotate_left
 ·try simp at hg3
  try have hX : ¬ a9u bs := fun q => q.2.1 (by simpa using hg3)
  refine x5x rfl rfl ?_
  refine x5x rfl rfl ?_
  refine x5x rfl rfl ?_
  refine x5x rfl rfl ?_
  refine x5x rfl rfl ?_
  refine z3z rfl rfl ?_
  refine ⟨by kernel_rfl, ?_⟩
  refine y0y rfl (fun hc5 => ?_) (fun hc5 => ?_)
  rotate_left
  ·simp at hc5
  try simp at hc5
  try have hX : ¬ a9u bs := fun q => by have q1 := q.2.2; simp [q1] at hc5
  refine x6x x9x (by rfl) ?_
  refine r7r z7z rfl a3b rfl (by simp only [pI, y3y, T3, u5u, T24, w8w, T25, w7w, T26, a0z, p1p, AV.okc, AV.one, Value.oneCell', List.map_cons, List.map_nil, List.getElem?_cons_zero, List.getElem?_cons_succ, List.take_succ_cons, List.take_zero, List.drop_succ_cons, List.drop_zero, List.cons_append, List.nil_append, List.length_cons, List.length_nil, if_true, and_self, Nat.reduceAdd, Nat.reduceLeDiff]; rfl) ?_
  refine v6v rfl rfl z7z rfl rfl rfl rfl ?_
  refine x2x rfl ?_
  refine b4y 0 rfl (.same (.same (.same (.same (.same (.same (.same (.le (b := s7s true []) rfl .nil rfl (.le (b := s7s true []) rfl .nil rfl (.le (b := b2x true []) rfl .nil rfl (.le (b := b2y true []) rfl .nil rfl (LeCs.refl _)))))))))))) ?_
  rw [show q8q bs = (wo0, false) from if_neg hX]
  refine y4y ⟨.inr rfl, ?_⟩
  clear hK1 K1
  exact ⟨_, _, rfl, .agg rfl (.cl rfl (.cl rfl (.cl rfl (.cl rfl (.cl rfl (.cl rfl (.cl rfl (.cl rfl (.cl rfl (.cl rfl (.cl rfl .nil))))))))))) (.cl rfl .nil)⟩
 try simp at hg3
 have hne : bs ≠ [] := fun e => by simp [e] at hg3
 refine u2u rfl z7z rfl rfl rfl ?_
 refine z1z rfl rfl ?_
 refine z2z rfl rfl rfl (a9g true (sW bs).1) ?_
 refine z1z rfl rfl ?_
 refine c0p x9x rfl w4w rfl a1c rfl c5h rfl ?_
 refine z1z rfl rfl ?_
 refine x0x rfl ?_
 refine z1z rfl rfl ?_
 refine c0p x9x rfl w4w rfl a1c rfl c5h rfl ?_
 refine z1z rfl rfl ?_
 refine u0u (.bool (!(decide (a7p (sW bs).1 = bs)))) rfl rfl rfl (congrArg (fun b => Value.bool (!b)) (b8c (b6g _) hbs)) ?_
 refine x8x rfl rfl ?_
 refine ⟨by kernel_rfl, ?_⟩
 refine y0y rfl (fun hc4 => ?_) (fun hc4 => ?_)
 ·try simp at hc4
  try have hX : ¬ a9u bs := fun q => by have q1 := q.2.2; simp [q1] at hc4
  refine x6x x9x (by rfl) ?_
  refine r7r z7z rfl a3b rfl (by simp only [pI, y3y, T3, u5u, T24, w8w, T25, w7w, T26, a0z, p1p, AV.okc, AV.one, Value.oneCell', List.map_cons, List.map_nil, List.getElem?_cons_zero, List.getElem?_cons_succ, List.take_succ_cons, List.take_zero, List.drop_succ_cons, List.drop_zero, List.cons_append, List.nil_append, List.length_cons, List.length_nil, if_true, and_self, Nat.reduceAdd, Nat.reduceLeDiff]; rfl) ?_
  refine v6v rfl rfl z7z rfl rfl rfl rfl ?_
  refine x2x rfl ?_
  refine b4y 0 rfl (.same (.same (.same (.same (.same (.same (.same (.le (b := s7s true []) rfl .nil rfl (.le (b := s7s true []) rfl .nil rfl (.le (b := b2x true []) rfl .nil rfl (.le (b := b2y true []) rfl .nil rfl (LeCs.refl _)))))))))))) ?_
  rw [show q8q bs = (wo0, false) from if_neg hX]
  refine y4y ⟨.inr rfl, ?_⟩
  clear hK1 K1
  exact ⟨_, _, rfl, .agg rfl (.cl rfl (.cl rfl (.cl rfl (.cl rfl (.cl rfl (.cl rfl (.cl rfl (.cl rfl (.cl rfl (.cl rfl (.cl rfl .nil))))))))))) (.cl rfl .nil)⟩
 try simp at hc4
 have hG : a9u bs := ⟨hb, hne, by simpa using hc4⟩
 refine y1y ?_
 refine hK1 _ _ ?_
 clear hK1 K1
 refine x6x x9x (by rfl) ?_
 refine u2u rfl z7z rfl rfl rfl ?_
 refine v6v rfl rfl z7z rfl rfl rfl rfl ?_
 refine x2x rfl ?_
 rw [show q8q bs = ((sW bs).1, true) from if_pos hG]
 refine y4y ⟨.inr rfl, ?_⟩
 exact ⟨_, _, rfl, .agg rfl (.cl rfl (.cl rfl (.cl rfl (.cl rfl (.cl rfl (.cl rfl (.cl rfl (.cl rfl (.cl rfl (.cl rfl (.cl rfl .nil))))))))))) (.cl rfl .nil)⟩
end
section
set_option maxRecDepth 100000
set_option maxHeartbeats 4000000
open Go Go.RowKit Go.Extern.Stop Go.Stop Go.Extern
abbrev c5x : Array Value → Sem Value := Extern.ReflectliteType.method fun t => do Extern.Rtype.noPackHeld "Comparable" t; pure (.bool (← typeInfo t).comparable)
theorem b9y (v : Value) (w : World) : (Extern.ReflectliteType.typeOf #[.iface 58 v]).run Try.prog w = .ok (.iface 109 (.agg #[.pointer (some ⟨0, 58, none⟩)])) w := by kernel_rfl
theorem b3k (w : World) : (c5x #[.agg #[.pointer (some ⟨0, 58, none⟩)]]).run Try.prog w = .ok (.bool true) w := by kernel_rfl
theorem a6i (v : Value) (w : World) : (Go.method 256 109 v "Comparable").run Try.prog w = .ok (111, v) w := by kernel_rfl
theorem c3x : (Try.prog.info? 58).map (·.comparable) = some true := by kernel_rfl
theorem c5b (v : Value) (xT : TypeId) (w : World) : (Instr.typeAssert (.iface 58 v) xT 111 true).run Try.prog w = .ok (.tuple #[.nilIface, .bool false]) w := run_typeAssert_lacksB Try.underlying111 (by kernel_rfl) (by kernel_rfl) v xT w
theorem c5d (v : Value) (xT : TypeId) (w : World) : (Instr.typeAssert (.iface 58 v) xT 114 true).run Try.prog w = .ok (.tuple #[.nilIface, .bool false]) w := run_typeAssert_lacksB Try.underlying114 (by kernel_rfl) (by kernel_rfl) v xT w
theorem c5e (v : Value) (xT : TypeId) (w : World) : (Instr.typeAssert (.iface 58 v) xT 116 true).run Try.prog w = .ok (.tuple #[.nilIface, .bool false]) w := run_typeAssert_lacksB Try.underlying116 (by kernel_rfl) (by kernel_rfl) v xT w
theorem c5f (v : Value) (xT : TypeId) (w : World) : (Instr.typeAssert (.iface 107 v) xT 111 true).run Try.prog w = .ok (.tuple #[.nilIface, .bool false]) w := run_typeAssert_lacksB Try.underlying111 (by kernel_rfl) (by kernel_rfl) v xT w
theorem c3y (v : Value) (xT : TypeId) (w : World) : (Instr.typeAssert (.iface 107 v) xT 114 true).run Try.prog w = .ok (.tuple #[.iface 107 v, .bool true]) w := run_typeAssert_hasB Try.underlying114 (by kernel_rfl) v xT w
theorem b8p (v : Value) (w : World) : (Go.method 256 107 v "Unwrap").run Try.prog w = .ok (107, v) w := by kernel_rfl
theorem c6f (a b : Int) (w : World) : (binOp .eql 48 (.iface 58 (.int .i64 a)) (.iface 58 (.int .i64 b))).run Try.prog w = .ok (.bool (a == b)) w := by
 obtain ⟨i, hi, hcmp⟩ := Option.map_eq_some_iff.1 c3x
 have h : ∀ d : Nat, (Op.equalIn (d + 2) 48 (.iface 58 (.int .i64 a)) (.iface 58 (.int .i64 b))).run Try.prog w = .ok (a == b) w := fun d => by
  simp [Op.equalIn, run_underlying Try.underlying48, typeInfo, hi, hcmp, run_underlying Try.underlying58]
 simp only [binOp]
 simp [Op.equal, Op.maxDepth, h 9998]
theorem is0 (f : Int) (w : World) : Calls Try.prog 26 #[.nilIface, .iface 58 (.int .i64 f)] w fun e w' => e = .returned (.bool false) ∧ Grew w w' [] := by
 have hn := run_eql_iface_nil_left (P := Try.prog) w 58 (.int .i64 f) Try.underlying48
 go_enter Try.func26, Try.ntmps26
 go_wp2
 go_ret
 exact ⟨rfl, Grew.rfl' _⟩
theorem is1 (p f g : Int) (w : World) : Calls Try.prog 26 #[.iface 107 (.agg #[.int .i64 p, .iface 58 (.int .i64 g)]), .iface 58 (.int .i64 f)] w fun e w' => e = .returned (.bool (g == f)) ∧ Grew w w' [] := by
 have h8 := @run_callFunc_extern Try.prog 64 _ Extern.ReflectliteType.typeOf Try.func64 (by kernel_rfl) (by kernel_rfl) (by kernel_rfl) (by kernel_rfl)
 have h32 := @run_callFunc_extern Try.prog 111 _ c5x Try.func111 (by kernel_rfl) (by kernel_rfl) (by kernel_rfl) (by kernel_rfl)
 have tT := b9y
 have cT := b3k
 have mR := a6i
 have nP := c5b
 have uP := c5d
 have vP := c5e
 have nL := c5f
 have uL := c3y
 have mU := b8p
 have heq := c6f g f
 have hty := run_eql_iface_types (P := Try.prog) 107 58 (.agg #[.int .i64 p, .iface 58 (.int .i64 g)]) (.int .i64 f) Try.underlying48 (by decide) w
 cases hgf : g == f
 ·rw [hgf] at heq
  go_enter Try.func26, Try.ntmps26
  go_wp2
  refine wp_loop_rounds 2 ?_
  rw [rounds_succ]
  go_wp2
  rw [rounds_succ]
  go_wp2
  go_ret
  exact ⟨rfl, Grew.alloc _ _⟩
 ·rw [hgf] at heq
  go_enter Try.func26, Try.ntmps26
  go_wp2
  refine wp_loop_rounds 2 ?_
  rw [rounds_succ]
  go_wp2
  rw [rounds_succ]
  go_wp2
  go_ret
  exact ⟨rfl, Grew.alloc _ _⟩
def isF : Option (Nat × Nat) → Nat → Bool
 | none, _ => false
 | some (_, g), f => (g : Int) == (f : Int)
theorem b9z {e : Option (Nat × Nat)} (hk : ∀ p f, e = some (p, f) → f = 1 ∨ f = 2) (h1 : isF e 1 = false) (h2 : isF e 2 = false) : e = none := by
 cases e with
 | none => rfl
 | some q =>
  obtain ⟨p, g⟩ := q
  rcases hk p g rfl with rfl | rfl
  ·simp [isF] at h1
  ·simp [isF] at h2
theorem a9h (e : Option (Nat × Nat)) (f : Nat) : a1f Try.prog 26 [.pv (a6m e), .pv (.iface 58 (.int .i64 (f : Int)))] (.pv (.bool (isF e f))) := by
 cases e with
 | none => exact a6b (fn := Try.f26) (by kernel_rfl) (by kernel_rfl) rfl [.nilIface, .iface 58 (.int .i64 (f : Int))] (.bool false) (is0 f)
 | some q => obtain ⟨p, g⟩ := q; exact a6b (fn := Try.f26) (by kernel_rfl) (by kernel_rfl) rfl [.iface 107 (.agg #[.int .i64 (p : Int), .iface 58 (.int .i64 (g : Int))]), .iface 58 (.int .i64 (f : Int))] (.bool _) (is1 p f g)
end
section
theorem s5s (l : List Nat) (v : Int) (hv : ok7 v) (hl : l.length ≤ 10000000) : Meth Try.prog 37 2 [0] [.ptr 0 0 0, .pv (.int .i64 v)] [(0, (0, .box 67 [.ref 1 0])), (1, (0, .row 5 1 ((l).map a1l)))] (.tup []) [(0, (0, .box 67 [.ref 1 0])), (1, (0, .row 5 1 ((l ++ p3p v).map a1l)))] := by
 refine v8v x9x (fn := Try.f37) (by kernel_rfl) (by kernel_rfl) rfl (O0 := []) 2 4 (v2v rfl) (by rfl) (by repeat (first | exact BndH.nil | refine BndH.box rfl ?_ | refine BndH.row (w3w fun _ => rfl) ?_)) (by repeat (first | exact BndH.nil | refine BndH.box rfl ?_ | refine BndH.row (w3w fun _ => rfl) ?_)) (by rfl) fun γ => ?_
 show Ex Try.prog _ _ [(0, .ptr 0 (γ 0) 0), (1, .pv (.int .i64 v))] [(0, ((γ 0), .box 67 [.ref 1 (γ 1)])), (1, ((γ 1), .row 5 1 ((l).map a1l))), (5, (0, .dead)), (4, (0, .dead)), (3, (0, .dead)), (2, (0, .dead))] _
 have hv1 := hv.1
 have hv2 := hv.2
 have hE : (p3p v).length ≤ 2 := a0e hv
 refine x6x x9x (by rfl) ?_
 refine x0x rfl ?_
 refine u0u (.int .i64 (((v + 1).toNat : Nat) : Int)) rfl rfl rfl (p8p rfl (by omega) (by omega) (by omega)) ?_
 refine r8r ((((v + 1).toNat : Nat) : Int)) rfl y3y a6r rfl rfl (b1q (by omega) (by omega)) ?_
 refine x2x rfl ?_
 refine x4x fun K1 hK1 => ?_
 refine y5y ?_
 refine v1v (ι := List Nat × Nat) (fun p γ1 => [(4, .pv (.int .u64 (p.2 : Int)))]) (fun p γ1 => [(1, ((γ1 1), .row 5 1 ((p.1).map a1l))), (0, ((γ 0), .box 67 [.ref 1 (γ1 1)])), (2, ((γ1 2), .dead)), (3, ((γ1 3), .dead))]) (fun p => p.1 ++ b0k p.2 = l ++ p3p v ∧ p.2 ≤ 10000) (fun p => p.2) (x7x 0 rfl Cov.nil) (u9u 4 rfl (u9u 5 rfl HE.nil)) (l, (v + 1).toNat) ⟨rfl, by show (v + 1).toNat ≤ 10000; omega⟩ [0, _, _, _] (x7x 4 rfl Cov.nil) (HE.row rfl rfl (HE.box rfl rfl (HE.kill rfl (HE.kill rfl HE.nil)))) rfl fun p γ1 hi => ?_
 try dsimp only [List.cons_append, List.nil_append]
 obtain ⟨l', q⟩ := p
 obtain ⟨h1, h2⟩ := hi
 dsimp only at h1 h2 ⊢
 have hL := congrArg List.length h1
 rw [List.length_append, List.length_append] at hL
 refine x4x fun K2 hK2 => ?_
 refine x6x x9x (by rfl) ?_
 refine x0x rfl ?_
 refine y6y rfl rfl rfl ?_
 refine y0y rfl (fun hc3 => ?_) (fun hc3 => ?_)
 rotate_left
 ·try simp at hc3
  refine v3v ?_
  refine hK1 _ _ ?_
  clear hK2 K2 hK1 K1
  refine y2y x9x (by rfl) ?_
  refine x0x rfl ?_
  refine x0x rfl ?_
  refine u1u rfl rfl ?_
  refine x3x rfl b2l rfl rfl ?_
  refine x0x rfl ?_
  refine r8r (((q : Nat) : Int)) rfl a6r a1c rfl rfl (b6h (by omega) (by omega)) ?_
  refine a2l (id := 4) b2l rfl a1c rfl rfl rfl rfl rfl ?_
  refine a0g (zs := (l' ++ [q]).map a1l) rfl rfl w4w rfl a1c rfl rfl rfl rfl (by rfl) (a4o _ _ _) (by (simp only [List.length_map, List.length_append, List.length_cons, List.length_nil, List.length_take, T5]; omega)) ?_
  refine u1u rfl rfl ?_
  refine u4u rfl rfl b2l rfl rfl rfl rfl rfl (by simp only [a3i]; rfl) ?_
  exact ⟨.inl rfl, [γ 0, _], rfl, rfl, HE.box rfl rfl (HE.row rfl (by rw [← h1, a3u (by omega)]) HE.nil)⟩
 try simp at hc3
 refine y1y ?_
 refine hK2 _ _ ?_
 clear hK2 K2
 refine y5y ?_
 refine x6x x9x (by rfl) ?_
 refine x0x rfl ?_
 refine x0x rfl ?_
 refine u1u rfl rfl ?_
 refine x3x rfl b2l rfl rfl ?_
 refine x0x rfl ?_
 refine u0u (.int .u64 ((q % 128 : Nat) : Int)) rfl rfl rfl (c3u (by omega)) ?_
 refine r8r (((q % 128 : Nat) : Int)) rfl a6r a1c rfl rfl (b6h (by omega) (by omega)) ?_
 refine u0u (.int .u8 ((128 + q % 128 : Nat) : Int)) rfl rfl rfl (c5a (by omega)) ?_
 refine a2l (id := 2) b2l rfl a1c rfl rfl rfl rfl rfl ?_
 refine a0g (zs := (l' ++ [128 + q % 128]).map a1l) rfl rfl w4w rfl a1c rfl rfl rfl rfl (by rfl) (a4o _ _ _) (by (simp only [List.length_map, List.length_append, List.length_cons, List.length_nil, List.length_take, T5]; omega)) ?_
 refine u1u rfl rfl ?_
 refine u4u rfl rfl b2l rfl rfl rfl rfl rfl (by simp only [a3i]; rfl) ?_
 refine y2y x9x (by rfl) ?_
 refine x0x rfl ?_
 refine u0u (.int .u64 ((q / 128 : Nat) : Int)) rfl rfl rfl (c6e q) ?_
 refine x2x rfl ?_
 exact ⟨(l' ++ [128 + q % 128], q / 128), ⟨⟨by rw [a5l (by omega)] at h1; rw [← h1, List.append_assoc]; rfl, by show q / 128 ≤ 10000; omega⟩, (by show q / 128 < q; omega)⟩, [0, _, _, _], (x7x 4 rfl Cov.nil), (x7x 0 rfl Cov.nil), (HE.row rfl rfl (HE.box rfl rfl (HE.kill rfl (HE.kill rfl HE.nil)))), (u9u 4 rfl (u9u 5 rfl HE.nil)), rfl⟩
theorem s1s (c : Bool) (b : List Nat) (l : List Int) (hv : ∀ v ∈ l, ok7 v) (hl : l.length ≤ 9999) (hb : b.length ≤ 1000000) : Meth Try.prog 36 2 [0] [.ptr 0 0 0, s7s c l] [(0, (0, .box 67 [.ref 1 0])), (1, (0, .row 5 1 ((b).map a1l)))] (.tup []) [(0, (0, .box 67 [.ref 1 0])), (1, (0, .row 5 1 ((b ++ u8u l).map a1l)))] := by
 refine v8v x9x (fn := Try.f36) (by kernel_rfl) (by kernel_rfl) rfl (O0 := []) 2 0 (v2v rfl) (by rfl) (by repeat (first | exact BndH.nil | refine BndH.box rfl ?_ | refine BndH.row (w3w fun _ => rfl) ?_)) (by repeat (first | exact BndH.nil | refine BndH.box rfl ?_ | refine BndH.row (w3w fun _ => rfl) ?_)) (by rfl) fun γ => ?_
 show Ex Try.prog _ _ [(0, .ptr 0 (γ 0) 0), (1, s7s c l)] [(0, ((γ 0), .box 67 [.ref 1 (γ 1)])), (1, ((γ 1), .row 5 1 ((b).map a1l)))] _
 refine q6q 1 rfl fun hlen => ?_
 refine x6x x9x (by rfl) ?_
 refine x0x rfl ?_
 refine u6u rfl u5u rfl ?_
 refine x0x rfl ?_
 refine y5y ?_
 refine v1v (ι := Nat) (fun i γ1 => [(8, .pv (.int .i64 (i : Int)))]) (fun i γ1 => [(1, ((γ1 1), .row 5 1 ((b ++ u8u (l.take i)).map a1l))), (0, ((γ 0), .box 67 [.ref 1 (γ1 1)]))]) (fun i => i ≤ l.length) (fun i => l.length - i) (x7x 0 rfl (x7x 6 rfl (x7x 7 rfl Cov.nil))) HE.nil 0 (by omega) [0, _] (x7x 8 rfl Cov.nil) (HE.row rfl (by rw [List.take_zero, show u8u [] = [] from rfl, List.append_nil]) (HE.box rfl rfl HE.nil)) rfl fun i γ1 hi => ?_
 try dsimp only [List.cons_append, List.nil_append]
 refine x6x x9x (by rfl) ?_
 refine y6y rfl rfl rfl ?_
 refine x4x fun K1 hK1 => ?_
 refine y0y rfl (fun hc2 => ?_) (fun hc2 => ?_)
 rotate_left
 ·try simp at hc2
  obtain rfl : i = l.length := by omega
  rw [List.take_length]
  refine v3v ?_
  exact ⟨.inl rfl, [γ 0, _], rfl, rfl, HE.box rfl rfl (HE.row rfl rfl HE.nil)⟩
 try simp at hc2
 obtain ⟨x, hx⟩ : ∃ x, l[i]? = some x := r5r (by omega)
 have hT := s0s (l := l.take i) (fun v h => hv v (List.mem_of_mem_take h))
 rw [List.length_take] at hT
 refine y1y ?_
 refine hK1 _ _ ?_
 clear hK1 K1
 refine x4x fun K3 hK3 => ?_
 refine y5y ?_
 refine x6x x9x (by rfl) ?_
 refine z9z rfl rfl u5u rfl y3y rfl hx ?_
 refine y7y rfl y3y rfl ?_
 refine x2x rfl ?_
 refine y2y x9x (by rfl) ?_
 refine x0x rfl ?_
 refine x0x rfl ?_
 refine z6z [0, 1] [_, _] (s5s (b ++ u8u (l.take i)) x (hv x (List.mem_of_getElem? hx)) (by (simp only [List.length_append, List.length_take]; omega))) rfl rfl rfl (by decide) rfl rfl (by repeat (first | exact InH.nil | refine InH.cons rfl ?_)) (by (simp only [pI, y8y, y9y, w5w, gl, nx, w0w, Nat.beq]; rfl)) (by (simp only [pI, y8y, y9y, w5w, gl, nx, w0w, Nat.beq]; rfl)) ?_
 refine hK3 _ _ ?_
 clear hK3 K3
 refine y2y x9x (by rfl) ?_
 refine a0r rfl rfl rfl ?_
 refine x0x rfl ?_
 exact ⟨i + 1, ⟨by omega, by omega⟩, [0, _], (Cov.cons' (t := 8) rfl (by rw [v9v (by omega) (by omega)]; rfl) Cov.nil), (x7x 0 rfl (x7x 6 rfl (x7x 7 rfl Cov.nil))), (HE.row rfl (by rw [s3s hx, a2r, List.append_assoc]) (HE.box rfl rfl HE.nil)), HE.nil, rfl⟩
theorem a4y (c : Bool) (b : List Nat) (l : List Ev) (hv : ∀ e ∈ l, ∀ v ∈ evN e, ok7 v) (hl : l.length ≤ 100) (hb : b.length ≤ 100000) : Meth Try.prog 38 2 [0] [.ptr 0 0 0, b2x c l] [(0, (0, .box 67 [.ref 1 0])), (1, (0, .row 5 1 ((b).map a1l)))] (.tup []) [(0, (0, .box 67 [.ref 1 0])), (1, (0, .row 5 1 ((b ++ p3p (l.length : Int) ++ r3r l).map a1l)))] := by
 refine v8v x9x (fn := Try.f38) (by kernel_rfl) (by kernel_rfl) rfl (O0 := []) 2 3 (v2v rfl) (by rfl) (by repeat (first | exact BndH.nil | refine BndH.box rfl ?_ | refine BndH.row (w3w fun _ => rfl) ?_)) (by repeat (first | exact BndH.nil | refine BndH.box rfl ?_ | refine BndH.row (w3w fun _ => rfl) ?_)) (by rfl) fun γ => ?_
 show Ex Try.prog _ _ [(0, .ptr 0 (γ 0) 0), (1, b2x c l)] [(0, ((γ 0), .box 67 [.ref 1 (γ 1)])), (1, ((γ 1), .row 5 1 ((b).map a1l))), (4, (0, .dead)), (3, (0, .dead)), (2, (0, .dead))] _
 refine q6q 1 rfl fun hlen => ?_
 have hE : (p3p (l.length : Int)).length ≤ 2 := a0e ⟨by omega, by omega⟩
 refine x6x x9x (by rfl) ?_
 refine x0x rfl ?_
 refine x0x rfl ?_
 refine u6u rfl w8w rfl ?_
 refine z6z [0, 1] [_, _] (s5s (b) (l.length : Int) ⟨by omega, by omega⟩ (by omega)) rfl rfl rfl (by decide) rfl rfl (by repeat (first | exact InH.nil | refine InH.cons rfl ?_)) (by (simp only [pI, y8y, y9y, w5w, gl, nx, w0w, Nat.beq]; rfl)) (by (simp only [pI, y8y, y9y, w5w, gl, nx, w0w, Nat.beq]; rfl)) ?_
 refine x6x x9x (by rfl) ?_
 refine x0x rfl ?_
 refine u6u rfl w8w rfl ?_
 refine x0x rfl ?_
 refine y5y ?_
 refine v1v (ι := Nat) (fun i γ1 => [(13, .pv (.int .i64 (i : Int)))]) (fun i γ1 => [(1, ((γ1 1), .row 5 1 ((b ++ p3p (l.length : Int) ++ r3r (l.take i)).map a1l))), (0, ((γ 0), .box 67 [.ref 1 (γ1 1)])), (2, ((γ1 2), .dead)), (3, ((γ1 3), .dead)), (4, ((γ1 4), .dead))]) (fun i => i ≤ l.length) (fun i => l.length - i) (x7x 0 rfl (x7x 11 rfl (x7x 12 rfl Cov.nil))) HE.nil 0 (by omega) [0, _, _, _, _] (x7x 13 rfl Cov.nil) (HE.row rfl (by rw [List.take_zero, show r3r [] = [] from rfl, List.append_nil]) (HE.box rfl rfl (HE.kill rfl (HE.kill rfl (HE.kill rfl HE.nil))))) rfl fun i γ1 hi => ?_
 try dsimp only [List.cons_append, List.nil_append]
 refine x6x x9x (by rfl) ?_
 refine y6y rfl rfl rfl ?_
 refine x4x fun K1 hK1 => ?_
 refine y0y rfl (fun hc2 => ?_) (fun hc2 => ?_)
 rotate_left
 ·try simp at hc2
  obtain rfl : i = l.length := by omega
  rw [List.take_length]
  refine v3v ?_
  exact ⟨.inl rfl, [γ 0, _], rfl, rfl, HE.box rfl rfl (HE.row rfl rfl HE.nil)⟩
 try simp at hc2
 obtain ⟨x, hx⟩ : ∃ x, l[i]? = some x := r5r (by omega)
 have hT := a3w (l := l.take i) (fun v h => hv v (List.mem_of_mem_take h))
 rw [List.length_take] at hT
 have h7 : (evN x).length = 7 := rfl
 refine y1y ?_
 refine hK1 _ _ ?_
 clear hK1 K1
 refine x4x fun K3 hK3 => ?_
 refine y5y ?_
 refine x6x x9x (by rfl) ?_
 refine z9z rfl rfl w8w rfl u3u rfl hx ?_
 refine y7y (out := .agg (s6s x)) rfl u3u rfl ?_
 refine q0q (id := 2) u3u b7h rfl ?_
 refine v6v rfl rfl u3u rfl rfl rfl rfl ?_
 refine x6x x9x (by rfl) ?_
 refine u2u rfl u3u rfl rfl rfl ?_
 refine z2z rfl rfl rfl (a3z ..) ?_
 refine q0q (id := 3) a0u b9i rfl ?_
 refine v6v rfl rfl a0u rfl rfl rfl rfl ?_
 refine y2y x9x (by rfl) ?_
 refine x0x rfl ?_
 refine s2s x9x (j := 0) rfl rfl a0u rfl y3y (by decide) rfl ?_
 refine x3x rfl y3y rfl rfl ?_
 refine s2s x9x (j := 1) rfl rfl a0u rfl y3y (by decide) rfl ?_
 refine x3x rfl y3y rfl rfl ?_
 refine s2s x9x (j := 2) rfl rfl a0u rfl y3y (by decide) rfl ?_
 refine x3x rfl y3y rfl rfl ?_
 refine s2s x9x (j := 3) rfl rfl a0u rfl y3y (by decide) rfl ?_
 refine x3x rfl y3y rfl rfl ?_
 refine s2s x9x (j := 4) rfl rfl a0u rfl y3y (by decide) rfl ?_
 refine x3x rfl y3y rfl rfl ?_
 refine s2s x9x (j := 5) rfl rfl a0u rfl y3y (by decide) rfl ?_
 refine x3x rfl y3y rfl rfl ?_
 refine s2s x9x (j := 6) rfl rfl a0u rfl y3y (by decide) rfl ?_
 refine x3x rfl y3y rfl rfl ?_
 refine q4q (id := 4) u5u rfl y3y rfl rfl rfl rfl (.val rfl rfl (.val rfl rfl (.val rfl rfl (.val rfl rfl (.val rfl rfl (.val rfl rfl (.val rfl rfl .nil))))))) rfl (v2v rfl) (v2v rfl) (v2v rfl) rfl rfl ?_
 refine a5v [0, 1] [_, _] (s1s false (b ++ p3p (l.length : Int) ++ r3r (l.take i)) (evN x) (hv x (List.mem_of_getElem? hx)) (by omega) (by (simp only [List.length_append, List.length_take]; omega))) rfl rfl rfl (LendM.ptr (LendM.base (b1i (l := evN x) rfl .nil))) rfl (by decide) rfl rfl (by repeat (first | exact InH.nil | refine InH.cons rfl ?_)) (by (simp only [pI, y8y, y9y, w5w, gl, nx, w0w, Nat.beq]; rfl)) (by (simp only [pI, y8y, y9y, w5w, gl, nx, w0w, Nat.beq]; rfl)) rfl rfl (b2t rfl) (by exact .box (.cons (.ref _ _) rfl .nil) (.row (StrC.map b6i _) .nil)) (by exact .box (.cons (.ref _ _) rfl .nil) (.row (StrC.map b6i _) .nil)) ?_
 refine hK3 _ _ ?_
 clear hK3 K3
 refine y2y x9x (by rfl) ?_
 refine a0r rfl rfl rfl ?_
 refine x0x rfl ?_
 exact ⟨i + 1, ⟨by omega, by omega⟩, [0, _, _, _, _], (Cov.cons' (t := 13) rfl (by rw [v9v (by omega) (by omega)]; rfl) Cov.nil), (x7x 0 rfl (x7x 11 rfl (x7x 12 rfl Cov.nil))), (HE.row rfl (by rw [s3s hx, b0m, List.append_assoc (b ++ p3p (l.length : Int))]) (HE.box rfl rfl (HE.kill rfl (HE.kill rfl (HE.kill rfl HE.nil))))), HE.nil, rfl⟩
theorem a6j (c : Bool) (b : List Nat) (l : List Ou) (hv : ∀ e ∈ l, ∀ v ∈ ouL e, ok7 v) (hl : l.length ≤ 100) (hb : b.length ≤ 100000) : Meth Try.prog 39 2 [0] [.ptr 0 0 0, b2y c l] [(0, (0, .box 67 [.ref 1 0])), (1, (0, .row 5 1 ((b).map a1l)))] (.tup []) [(0, (0, .box 67 [.ref 1 0])), (1, (0, .row 5 1 ((b ++ p3p (l.length : Int) ++ r6r l).map a1l)))] := by
 refine v8v x9x (fn := Try.f39) (by kernel_rfl) (by kernel_rfl) rfl (O0 := []) 2 2 (v2v rfl) (by rfl) (by repeat (first | exact BndH.nil | refine BndH.box rfl ?_ | refine BndH.row (w3w fun _ => rfl) ?_)) (by repeat (first | exact BndH.nil | refine BndH.box rfl ?_ | refine BndH.row (w3w fun _ => rfl) ?_)) (by rfl) fun γ => ?_
 show Ex Try.prog _ _ [(0, .ptr 0 (γ 0) 0), (1, b2y c l)] [(0, ((γ 0), .box 67 [.ref 1 (γ 1)])), (1, ((γ 1), .row 5 1 ((b).map a1l))), (3, (0, .dead)), (2, (0, .dead))] _
 refine q6q 1 rfl fun hlen => ?_
 have hE : (p3p (l.length : Int)).length ≤ 2 := a0e ⟨by omega, by omega⟩
 refine x6x x9x (by rfl) ?_
 refine x0x rfl ?_
 refine x0x rfl ?_
 refine u6u rfl w7w rfl ?_
 refine z6z [0, 1] [_, _] (s5s (b) (l.length : Int) ⟨by omega, by omega⟩ (by omega)) rfl rfl rfl (by decide) rfl rfl (by repeat (first | exact InH.nil | refine InH.cons rfl ?_)) (by (simp only [pI, y8y, y9y, w5w, gl, nx, w0w, Nat.beq]; rfl)) (by (simp only [pI, y8y, y9y, w5w, gl, nx, w0w, Nat.beq]; rfl)) ?_
 refine x6x x9x (by rfl) ?_
 refine x0x rfl ?_
 refine u6u rfl w7w rfl ?_
 refine x0x rfl ?_
 refine y5y ?_
 refine v1v (ι := Nat) (fun i γ1 => [(12, .pv (.int .i64 (i : Int)))]) (fun i γ1 => [(1, ((γ1 1), .row 5 1 ((b ++ p3p (l.length : Int) ++ r6r (l.take i)).map a1l))), (0, ((γ 0), .box 67 [.ref 1 (γ1 1)])), (2, ((γ1 2), .dead)), (3, ((γ1 3), .dead))]) (fun i => i ≤ l.length) (fun i => l.length - i) (x7x 0 rfl (x7x 10 rfl (x7x 11 rfl Cov.nil))) HE.nil 0 (by omega) [0, _, _, _] (x7x 12 rfl Cov.nil) (HE.row rfl (by rw [List.take_zero, show r6r [] = [] from rfl, List.append_nil]) (HE.box rfl rfl (HE.kill rfl (HE.kill rfl HE.nil)))) rfl fun i γ1 hi => ?_
 try dsimp only [List.cons_append, List.nil_append]
 refine x6x x9x (by rfl) ?_
 refine y6y rfl rfl rfl ?_
 refine x4x fun K1 hK1 => ?_
 refine y0y rfl (fun hc2 => ?_) (fun hc2 => ?_)
 rotate_left
 ·try simp at hc2
  obtain rfl : i = l.length := by omega
  rw [List.take_length]
  refine v3v ?_
  exact ⟨.inl rfl, [γ 0, _], rfl, rfl, HE.box rfl rfl (HE.row rfl rfl HE.nil)⟩
 try simp at hc2
 obtain ⟨x, hx⟩ : ∃ x, l[i]? = some x := r5r (by omega)
 have hT := a3x (l := l.take i) (fun v h => hv v (List.mem_of_mem_take h))
 rw [List.length_take] at hT
 have h7 : (ouL x).length = 5 := rfl
 refine y1y ?_
 refine hK1 _ _ ?_
 clear hK1 K1
 refine x4x fun K3 hK3 => ?_
 refine y5y ?_
 refine x6x x9x (by rfl) ?_
 refine z9z rfl rfl w7w rfl u7u rfl hx ?_
 refine y7y (out := .agg (a0n x)) rfl u7u rfl ?_
 refine q0q (id := 2) u7u b5z rfl ?_
 refine v6v rfl rfl u7u rfl rfl rfl rfl ?_
 refine y2y x9x (by rfl) ?_
 refine x0x rfl ?_
 refine x1x rfl u7u rfl rfl y3y rfl rfl ?_
 refine x3x rfl y3y rfl rfl ?_
 refine x1x rfl u7u rfl rfl y3y rfl rfl ?_
 refine x3x rfl y3y rfl rfl ?_
 refine x1x rfl u7u rfl rfl y3y rfl rfl ?_
 refine x3x rfl y3y rfl rfl ?_
 refine x1x rfl u7u rfl rfl y3y rfl rfl ?_
 refine x3x rfl y3y rfl rfl ?_
 refine x1x rfl u7u rfl rfl y3y rfl rfl ?_
 refine x3x rfl y3y rfl rfl ?_
 refine q4q (id := 3) u5u rfl y3y rfl rfl rfl rfl (.val rfl rfl (.val rfl rfl (.val rfl rfl (.val rfl rfl (.val rfl rfl .nil))))) rfl (v2v rfl) (v2v rfl) (v2v rfl) rfl rfl ?_
 refine a5v [0, 1] [_, _] (s1s false (b ++ p3p (l.length : Int) ++ r6r (l.take i)) (ouL x) (hv x (List.mem_of_getElem? hx)) (by omega) (by (simp only [List.length_append, List.length_take]; omega))) rfl rfl rfl (LendM.ptr (LendM.base (b1i (l := ouL x) rfl .nil))) rfl (by decide) rfl rfl (by repeat (first | exact InH.nil | refine InH.cons rfl ?_)) (by (simp only [pI, y8y, y9y, w5w, gl, nx, w0w, Nat.beq]; rfl)) (by (simp only [pI, y8y, y9y, w5w, gl, nx, w0w, Nat.beq]; rfl)) rfl rfl (b2t rfl) (by exact .box (.cons (.ref _ _) rfl .nil) (.row (StrC.map b6i _) .nil)) (by exact .box (.cons (.ref _ _) rfl .nil) (.row (StrC.map b6i _) .nil)) ?_
 refine hK3 _ _ ?_
 clear hK3 K3
 refine y2y x9x (by rfl) ?_
 refine a0r rfl rfl rfl ?_
 refine x0x rfl ?_
 exact ⟨i + 1, ⟨by omega, by omega⟩, [0, _, _, _], (Cov.cons' (t := 12) rfl (by rw [v9v (by omega) (by omega)]; rfl) Cov.nil), (x7x 0 rfl (x7x 10 rfl (x7x 11 rfl Cov.nil))), (HE.row rfl (by rw [s3s hx, b0n, List.append_assoc (b ++ p3p (l.length : Int))]) (HE.box rfl rfl (HE.kill rfl (HE.kill rfl HE.nil)))), HE.nil, rfl⟩
end
section
theorem a4d (c : Bool) (l : List Int) : a1f Try.prog 33 [s7s c l] (.pv (.bool (decide (a3l l)))) := by
 refine z5z x9x (fn := Try.f33) (by kernel_rfl) (by kernel_rfl) rfl (outs := [.pv (.bool (decide (a3l l)))]) (by rfl) (v2v rfl) 0 ?_
 refine q6q 0 rfl fun hlen => ?_
 refine x6x x9x (by rfl) ?_
 refine x2x rfl ?_
 refine x4x fun K1 hK1 => ?_
 refine x6x x9x (by rfl) ?_
 refine x0x rfl ?_
 refine u6u rfl u5u rfl ?_
 refine x0x rfl ?_
 refine y5y ?_
 refine v1v (ι := Nat) (fun i γ1 => [(7, .pv (.int .i64 (i : Int)))]) (fun i γ1 => []) (fun i => i ≤ l.length ∧ c2e l (fun _ v => 0 ≤ v ∧ v ≤ 9999) i) (fun i => l.length - i) (x7x 0 rfl (x7x 5 rfl (x7x 6 rfl Cov.nil))) HE.nil 0 ⟨by omega, a8u⟩ [] (x7x 7 rfl Cov.nil) HE.nil rfl fun i γ1 hi => ?_
 try dsimp only [List.cons_append, List.nil_append]
 obtain ⟨h1, h2⟩ := hi
 refine x6x x9x (by rfl) ?_
 refine y6y rfl rfl rfl ?_
 refine x4x fun K2 hK2 => ?_
 refine y0y rfl (fun hc3 => ?_) (fun hc3 => ?_)
 ·try simp at hc3
  obtain ⟨v, hv⟩ : ∃ v, l[i]? = some v := r5r (by omega)
  refine y1y ?_
  refine hK2 _ _ ?_
  clear hK2 K2
  refine x4x fun K4 hK4 => ?_
  refine y5y ?_
  refine x6x x9x (by rfl) ?_
  refine z9z rfl rfl u5u rfl y3y rfl hv ?_
  refine y7y rfl y3y rfl ?_
  refine x2x rfl ?_
  refine x6x x9x (by rfl) ?_
  refine x0x rfl ?_
  refine z2z rfl rfl rfl (v4v ..) ?_
  refine q1q rfl ?_
  refine y0y rfl (fun hc5 => ?_) (fun hc5 => ?_)
  rotate_left
  ·try simp at hc5
   have hb : 0 ≤ v ∧ v ≤ 9999 := by omega
   refine y1y ?_
   refine hK4 _ _ ?_
   clear hK4 K4
   refine y2y x9x (by rfl) ?_
   refine a0r rfl rfl rfl ?_
   refine x0x rfl ?_
   exact ⟨i + 1, ⟨⟨by omega, a8v h2 hv hb⟩, by omega⟩, [], (Cov.cons' (t := 7) rfl (by rw [v9v (by omega) (by omega)]; rfl) Cov.nil), (x7x 0 rfl (x7x 5 rfl (x7x 6 rfl Cov.nil))), HE.nil, HE.nil, rfl⟩
  try simp at hc5
  have hX : ¬ (0 ≤ v ∧ v ≤ 9999) := by omega
  refine x6x x9x (by rfl) ?_
  refine x2x rfl ?_
  refine y4y ⟨.inr rfl, ?_⟩
  clear hK4 K4 hK1 K1
  refine z0z rfl ?_ rfl
  exact kF (fun h => hX (h.2 v (List.mem_of_getElem? hv)))
 try simp at hc3
 have hall := b1h h2 (by omega)
 have hin : ∀ v ∈ l, 0 ≤ v ∧ v ≤ 9999 := fun v hv => by obtain ⟨i, hi⟩ := List.getElem?_of_mem hv; exact hall i v hi
 refine v3v ?_
 refine hK1 _ _ ?_
 clear hK2 K2 hK1 K1
 refine x6x x9x (by rfl) ?_
 refine x0x rfl ?_
 refine u6u rfl u5u rfl ?_
 refine y6y rfl rfl rfl ?_
 refine x0x rfl ?_
 refine a0l rfl rfl (fun hg6 => ?_) (fun hg6 => ?_)
 rotate_left
 ·try simp at hg6
  refine x5x rfl rfl ?_
  refine x5x rfl rfl ?_
  refine z3z rfl rfl ?_
  refine x2x rfl ?_
  refine y4y ⟨.inr rfl, ?_⟩
  refine z0z rfl ?_ rfl
  exact kT ⟨.inl (by simp_all), hin⟩
 try simp at hg6
 refine x0x rfl ?_
 refine z1z rfl rfl ?_
 refine u6u rfl u5u rfl ?_
 refine z1z rfl rfl ?_
 refine y6y rfl rfl rfl ?_
 refine x8x rfl rfl ?_
 refine x2x rfl ?_
 refine y4y ⟨.inr rfl, ?_⟩
 refine z0z rfl ?_ rfl
 exact congrArg (fun b : Bool => [AV.pv (.bool b)]) (Bool.eq_iff_iff.2 ⟨fun h => decide_eq_true ⟨.inr (by simp at h; omega), hin⟩, fun h => by rcases (of_decide_eq_true h).1 with q | q; exact absurd (List.length_eq_zero_iff.1 q) (by assumption); simp; omega⟩)
theorem a6k (c : Bool) (w : Wo) : a1f Try.prog 9 [.agg (a5z c w)] (.pv (.bool (decide (a0c w)))) := by
 refine z5z x9x (fn := Try.f9) (by kernel_rfl) (by kernel_rfl) rfl (outs := [.pv (.bool (decide (a0c w)))]) (by rfl) (v2v rfl) 1 ?_
 refine x6x x9x (by rfl) ?_
 refine p6p (id := 0) rfl rfl rfl ?_
 refine x2x rfl ?_
 refine x6x x9x (by rfl) ?_
 refine x1x rfl z7z rfl rfl y3y rfl rfl ?_
 refine x3x rfl y3y rfl rfl ?_
 refine z2z rfl rfl rfl (v4v ..) ?_
 refine x0x rfl ?_
 refine a0l rfl rfl (fun hg1 => ?_) (fun hg1 => ?_)
 rotate_left
 ·try simp at hg1
  have hX : ¬ q2q w := by unfold q2q; omega
  refine x5x rfl rfl ?_
  refine x5x rfl rfl ?_
  refine x8x rfl rfl ?_
  refine x0x rfl ?_
  refine x5x rfl rfl ?_
  refine x5x rfl rfl ?_
  refine x5x rfl rfl ?_
  refine x8x rfl rfl ?_
  refine x0x rfl ?_
  refine x5x rfl rfl ?_
  refine x5x rfl rfl ?_
  refine x5x rfl rfl ?_
  refine x8x rfl rfl ?_
  refine x0x rfl ?_
  refine x5x rfl rfl ?_
  refine x5x rfl rfl ?_
  refine x5x rfl rfl ?_
  refine x8x rfl rfl ?_
  refine x0x rfl ?_
  refine x5x rfl rfl ?_
  refine x5x rfl rfl ?_
  refine x5x rfl rfl ?_
  refine x8x rfl rfl ?_
  refine x0x rfl ?_
  refine x5x rfl rfl ?_
  refine x5x rfl rfl ?_
  refine x5x rfl rfl ?_
  refine x8x rfl rfl ?_
  refine x0x rfl ?_
  refine x5x rfl rfl ?_
  refine x5x rfl rfl ?_
  refine x5x rfl rfl ?_
  refine x8x rfl rfl ?_
  refine x0x rfl ?_
  refine x5x rfl rfl ?_
  refine x5x rfl rfl ?_
  refine x5x rfl rfl ?_
  refine x8x rfl rfl ?_
  refine x0x rfl ?_
  refine x5x rfl rfl ?_
  refine x5x rfl rfl ?_
  refine x5x rfl rfl ?_
  refine x8x rfl rfl ?_
  refine x0x rfl ?_
  refine x5x rfl rfl ?_
  refine x5x rfl rfl ?_
  refine x5x rfl rfl ?_
  refine x8x rfl rfl ?_
  refine x2x rfl ?_
  refine y4y ⟨.inr rfl, ?_⟩
  refine z0z rfl ?_ rfl
  exact kF (fun h => hX h.1)
 try simp at hg1
 refine x1x rfl z7z rfl rfl y3y rfl rfl ?_
 refine z1z rfl rfl ?_
 refine x3x rfl y3y rfl rfl ?_
 refine z1z rfl rfl ?_
 refine z2z rfl rfl rfl (a6h ..) ?_
 refine z3z rfl rfl ?_
 refine x0x rfl ?_
 refine a0l rfl rfl (fun hg2 => ?_) (fun hg2 => ?_)
 rotate_left
 ·try simp at hg2
  have hX : ¬ q2q w := by unfold q2q; omega
  refine x5x rfl rfl ?_
  refine x5x rfl rfl ?_
  refine x8x rfl rfl ?_
  refine x0x rfl ?_
  refine x5x rfl rfl ?_
  refine x5x rfl rfl ?_
  refine x5x rfl rfl ?_
  refine x8x rfl rfl ?_
  refine x0x rfl ?_
  refine x5x rfl rfl ?_
  refine x5x rfl rfl ?_
  refine x5x rfl rfl ?_
  refine x8x rfl rfl ?_
  refine x0x rfl ?_
  refine x5x rfl rfl ?_
  refine x5x rfl rfl ?_
  refine x5x rfl rfl ?_
  refine x8x rfl rfl ?_
  refine x0x rfl ?_
  refine x5x rfl rfl ?_
  refine x5x rfl rfl ?_
  refine x5x rfl rfl ?_
  refine x8x rfl rfl ?_
  refine x0x rfl ?_
  refine x5x rfl rfl ?_
  refine x5x rfl rfl ?_
  refine x5x rfl rfl ?_
  refine x8x rfl rfl ?_
  refine x0x rfl ?_
  refine x5x rfl rfl ?_
  refine x5x rfl rfl ?_
  refine x5x rfl rfl ?_
  refine x8x rfl rfl ?_
  refine x0x rfl ?_
  refine x5x rfl rfl ?_
  refine x5x rfl rfl ?_
  refine x5x rfl rfl ?_
  refine x8x rfl rfl ?_
  refine x0x rfl ?_
  refine x5x rfl rfl ?_
  refine x5x rfl rfl ?_
  refine x5x rfl rfl ?_
  refine x8x rfl rfl ?_
  refine x2x rfl ?_
  refine y4y ⟨.inr rfl, ?_⟩
  refine z0z rfl ?_ rfl
  exact kF (fun h => hX h.1)
 try simp at hg2
 refine x1x rfl z7z rfl rfl y3y rfl rfl ?_
 refine z1z rfl rfl ?_
 refine x3x rfl y3y rfl rfl ?_
 refine z1z rfl rfl ?_
 refine z2z rfl rfl rfl (a6h ..) ?_
 refine z3z rfl rfl ?_
 refine x0x rfl ?_
 refine a0l rfl rfl (fun hg3 => ?_) (fun hg3 => ?_)
 rotate_left
 ·try simp at hg3
  have hX : ¬ q2q w := by unfold q2q; omega
  refine x5x rfl rfl ?_
  refine x5x rfl rfl ?_
  refine x8x rfl rfl ?_
  refine x0x rfl ?_
  refine x5x rfl rfl ?_
  refine x5x rfl rfl ?_
  refine x5x rfl rfl ?_
  refine x8x rfl rfl ?_
  refine x0x rfl ?_
  refine x5x rfl rfl ?_
  refine x5x rfl rfl ?_
  refine x5x rfl rfl ?_
  refine x8x rfl rfl ?_
  refine x0x rfl ?_
  refine x5x rfl rfl ?_
  refine x5x rfl rfl ?_
  refine x5x rfl rfl ?_
  refine x8x rfl rfl ?_
  refine x0x rfl ?_
  refine x5x rfl rfl ?_
  refine x5x rfl rfl ?_
  refine x5x rfl rfl ?_
  refine x8x rfl rfl ?_
  refine x0x rfl ?_
  refine x5x rfl rfl ?_
  refine x5x rfl rfl ?_
  refine x5x rfl rfl ?_
  refine x8x rfl rfl ?_
  refine x0x rfl ?_
  refine x5x rfl rfl ?_
  refine x5x rfl rfl ?_
  refine x5x rfl rfl ?_
  refine x8x rfl rfl ?_
  refine x0x rfl ?_
  refine x5x rfl rfl ?_
  refine x5x rfl rfl ?_
  refine x5x rfl rfl ?_
  refine x8x rfl rfl ?_
  refine x2x rfl ?_
  refine y4y ⟨.inr rfl, ?_⟩
  refine z0z rfl ?_ rfl
  exact kF (fun h => hX h.1)
 try simp at hg3
 refine x1x rfl z7z rfl rfl y3y rfl rfl ?_
 refine z1z rfl rfl ?_
 refine x3x rfl y3y rfl rfl ?_
 refine z1z rfl rfl ?_
 refine z2z rfl rfl rfl (v4v ..) ?_
 refine z3z rfl rfl ?_
 refine x0x rfl ?_
 refine a0l rfl rfl (fun hg4 => ?_) (fun hg4 => ?_)
 rotate_left
 ·try simp at hg4
  have hX : ¬ q2q w := by unfold q2q; omega
  refine x5x rfl rfl ?_
  refine x5x rfl rfl ?_
  refine x8x rfl rfl ?_
  refine x0x rfl ?_
  refine x5x rfl rfl ?_
  refine x5x rfl rfl ?_
  refine x5x rfl rfl ?_
  refine x8x rfl rfl ?_
  refine x0x rfl ?_
  refine x5x rfl rfl ?_
  refine x5x rfl rfl ?_
  refine x5x rfl rfl ?_
  refine x8x rfl rfl ?_
  refine x0x rfl ?_
  refine x5x rfl rfl ?_
  refine x5x rfl rfl ?_
  refine x5x rfl rfl ?_
  refine x8x rfl rfl ?_
  refine x0x rfl ?_
  refine x5x rfl rfl ?_
  refine x5x rfl rfl ?_
  refine x5x rfl rfl ?_
  refine x8x rfl rfl ?_
  refine x0x rfl ?_
  refine x5x rfl rfl ?_
  refine x5x rfl rfl ?_
  refine x5x rfl rfl ?_
  refine x8x rfl rfl ?_
  refine x0x rfl ?_
  refine x5x rfl rfl ?_
  refine x5x rfl rfl ?_
  refine x5x rfl rfl ?_
  refine x8x rfl rfl ?_
  refine x2x rfl ?_
  refine y4y ⟨.inr rfl, ?_⟩
  refine z0z rfl ?_ rfl
  exact kF (fun h => hX h.1)
 try simp at hg4
 refine x1x rfl z7z rfl rfl y3y rfl rfl ?_
 refine z1z rfl rfl ?_
 refine x3x rfl y3y rfl rfl ?_
 refine z1z rfl rfl ?_
 refine z2z rfl rfl rfl (v4v ..) ?_
 refine z3z rfl rfl ?_
 refine x0x rfl ?_
 refine a0l rfl rfl (fun hg5 => ?_) (fun hg5 => ?_)
 rotate_left
 ·try simp at hg5
  have hX : ¬ q2q w := by unfold q2q; omega
  refine x5x rfl rfl ?_
  refine x5x rfl rfl ?_
  refine x8x rfl rfl ?_
  refine x0x rfl ?_
  refine x5x rfl rfl ?_
  refine x5x rfl rfl ?_
  refine x5x rfl rfl ?_
  refine x8x rfl rfl ?_
  refine x0x rfl ?_
  refine x5x rfl rfl ?_
  refine x5x rfl rfl ?_
  refine x5x rfl rfl ?_
  refine x8x rfl rfl ?_
  refine x0x rfl ?_
  refine x5x rfl rfl ?_
  refine x5x rfl rfl ?_
  refine x5x rfl rfl ?_
  refine x8x rfl rfl ?_
  refine x0x rfl ?_
  refine x5x rfl rfl ?_
  refine x5x rfl rfl ?_
  refine x5x rfl rfl ?_
  refine x8x rfl rfl ?_
  refine x0x rfl ?_
  refine x5x rfl rfl ?_
  refine x5x rfl rfl ?_
  refine x5x rfl rfl ?_
  refine x8x rfl rfl ?_
  refine x2x rfl ?_
  refine y4y ⟨.inr rfl, ?_⟩
  refine z0z rfl ?_ rfl
  exact kF (fun h => hX h.1)
 try simp at hg5
 refine x1x rfl z7z rfl rfl y3y rfl rfl ?_
 refine z1z rfl rfl ?_
 refine x3x rfl y3y rfl rfl ?_
 refine z1z rfl rfl ?_
 refine z2z rfl rfl rfl (v4v ..) ?_
 refine z3z rfl rfl ?_
 refine x0x rfl ?_
 refine a0l rfl rfl (fun hg6 => ?_) (fun hg6 => ?_)
 rotate_left
 ·try simp at hg6
  have hX : ¬ q2q w := by unfold q2q; omega
  refine x5x rfl rfl ?_
  refine x5x rfl rfl ?_
  refine x8x rfl rfl ?_
  refine x0x rfl ?_
  refine x5x rfl rfl ?_
  refine x5x rfl rfl ?_
  refine x5x rfl rfl ?_
  refine x8x rfl rfl ?_
  refine x0x rfl ?_
  refine x5x rfl rfl ?_
  refine x5x rfl rfl ?_
  refine x5x rfl rfl ?_
  refine x8x rfl rfl ?_
  refine x0x rfl ?_
  refine x5x rfl rfl ?_
  refine x5x rfl rfl ?_
  refine x5x rfl rfl ?_
  refine x8x rfl rfl ?_
  refine x0x rfl ?_
  refine x5x rfl rfl ?_
  refine x5x rfl rfl ?_
  refine x5x rfl rfl ?_
  refine x8x rfl rfl ?_
  refine x2x rfl ?_
  refine y4y ⟨.inr rfl, ?_⟩
  refine z0z rfl ?_ rfl
  exact kF (fun h => hX h.1)
 try simp at hg6
 refine x1x rfl z7z rfl rfl y3y rfl rfl ?_
 refine z1z rfl rfl ?_
 refine x3x rfl y3y rfl rfl ?_
 refine z1z rfl rfl ?_
 refine z2z rfl rfl rfl (v4v ..) ?_
 refine z3z rfl rfl ?_
 refine x0x rfl ?_
 refine a0l rfl rfl (fun hg7 => ?_) (fun hg7 => ?_)
 rotate_left
 ·try simp at hg7
  have hX : ¬ q2q w := by unfold q2q; omega
  refine x5x rfl rfl ?_
  refine x5x rfl rfl ?_
  refine x8x rfl rfl ?_
  refine x0x rfl ?_
  refine x5x rfl rfl ?_
  refine x5x rfl rfl ?_
  refine x5x rfl rfl ?_
  refine x8x rfl rfl ?_
  refine x0x rfl ?_
  refine x5x rfl rfl ?_
  refine x5x rfl rfl ?_
  refine x5x rfl rfl ?_
  refine x8x rfl rfl ?_
  refine x0x rfl ?_
  refine x5x rfl rfl ?_
  refine x5x rfl rfl ?_
  refine x5x rfl rfl ?_
  refine x8x rfl rfl ?_
  refine x2x rfl ?_
  refine y4y ⟨.inr rfl, ?_⟩
  refine z0z rfl ?_ rfl
  exact kF (fun h => hX h.1)
 try simp at hg7
 have hN : q2q w := by unfold q2q; omega
 refine x1x rfl z7z rfl rfl u5u rfl rfl ?_
 refine z1z rfl rfl ?_
 refine x3x rfl u5u rfl rfl ?_
 refine z1z rfl rfl ?_
 refine z2z rfl rfl rfl (a4d ..) ?_
 refine z3z rfl rfl ?_
 refine x0x rfl ?_
 refine a0l rfl rfl (fun hg8 => ?_) (fun hg8 => ?_)
 rotate_left
 ·try simp at hg8
  have hX1 : ¬ a3l w.incs := by exact hg8
  refine x5x rfl rfl ?_
  refine x5x rfl rfl ?_
  refine x8x rfl rfl ?_
  refine x0x rfl ?_
  refine x5x rfl rfl ?_
  refine x5x rfl rfl ?_
  refine x5x rfl rfl ?_
  refine x8x rfl rfl ?_
  refine x0x rfl ?_
  refine x5x rfl rfl ?_
  refine x5x rfl rfl ?_
  refine x5x rfl rfl ?_
  refine x8x rfl rfl ?_
  refine x2x rfl ?_
  refine y4y ⟨.inr rfl, ?_⟩
  refine z0z rfl ?_ rfl
  exact kF (fun h => hX1 h.2.1)
 try simp at hg8
 have hI : a3l w.incs := by exact hg8
 refine x1x rfl z7z rfl rfl u5u rfl rfl ?_
 refine z1z rfl rfl ?_
 refine x3x rfl u5u rfl rfl ?_
 refine z1z rfl rfl ?_
 refine z2z rfl rfl rfl (a4d ..) ?_
 refine z3z rfl rfl ?_
 refine x0x rfl ?_
 refine a0l rfl rfl (fun hg9 => ?_) (fun hg9 => ?_)
 rotate_left
 ·try simp at hg9
  have hX2 : ¬ a3l w.versions := by exact hg9
  refine x5x rfl rfl ?_
  refine x5x rfl rfl ?_
  refine x8x rfl rfl ?_
  refine x0x rfl ?_
  refine x5x rfl rfl ?_
  refine x5x rfl rfl ?_
  refine x5x rfl rfl ?_
  refine x8x rfl rfl ?_
  refine x2x rfl ?_
  refine y4y ⟨.inr rfl, ?_⟩
  refine z0z rfl ?_ rfl
  exact kF (fun h => hX2 h.2.2.1)
 try simp at hg9
 have hV : a3l w.versions := by exact hg9
 refine x1x rfl z7z rfl rfl w8w rfl rfl ?_
 refine z1z rfl rfl ?_
 refine x3x rfl w8w rfl rfl ?_
 refine z1z rfl rfl ?_
 refine z2z rfl rfl rfl (a9d ..) ?_
 refine z3z rfl rfl ?_
 refine x0x rfl ?_
 refine a0l rfl rfl (fun hg10 => ?_) (fun hg10 => ?_)
 rotate_left
 ·try simp at hg10
  have hX3 : ¬ a7w okE a6u w.events 100 = true := by simpa using hg10
  refine x5x rfl rfl ?_
  refine x5x rfl rfl ?_
  refine x8x rfl rfl ?_
  refine x2x rfl ?_
  refine y4y ⟨.inr rfl, ?_⟩
  refine z0z rfl ?_ rfl
  exact kF (fun h => hX3 h.2.2.2.1)
 try simp at hg10
 have hE : a7w okE a6u w.events 100 = true := by exact hg10
 refine x1x rfl z7z rfl rfl w7w rfl rfl ?_
 refine z1z rfl rfl ?_
 refine x3x rfl w7w rfl rfl ?_
 refine z1z rfl rfl ?_
 refine z2z rfl rfl rfl (b1t ..) ?_
 refine z3z rfl rfl ?_
 refine x2x rfl ?_
 refine y4y ⟨.inr rfl, ?_⟩
 refine z0z rfl ?_ rfl
 exact congrArg (fun b : Bool => [AV.pv (.bool b)]) (Bool.eq_iff_iff.2 ⟨fun h => decide_eq_true ⟨hN, hI, hV, hE, h⟩, fun h => (of_decide_eq_true h).2.2.2.2⟩)
theorem a9i (c : Bool) (w : Wo) : a1f Try.prog 10 [.agg (a5z c w)] (v7v true (a7p w)) := by
 refine z5z x9x (fn := Try.f10) (by kernel_rfl) (by kernel_rfl) rfl (outs := [v7v true (a7p w)]) (by rfl) (v2v rfl) 4 ?_
 refine x6x x9x (by rfl) ?_
 refine p6p (id := 0) rfl rfl rfl ?_
 refine x2x rfl ?_
 refine x4x fun K1 hK1 => ?_
 refine x6x x9x (by rfl) ?_
 refine u2u rfl z7z rfl rfl rfl ?_
 refine z2z rfl rfl rfl (a6k ..) ?_
 refine q1q rfl ?_
 refine y0y rfl (fun hc2 => ?_) (fun hc2 => ?_)
 ·try simp at hc2
  have hX : ¬ a0c w := by simpa using hc2
  refine x6x x9x (by rfl) ?_
  refine x2x rfl ?_
  refine y4y ⟨.inr rfl, ?_⟩
  clear hK1 K1
  (rw [b1l hX]; exact ⟨_, _, rfl, .le rfl .nil .nil⟩)
 try simp at hc2
 have hW : a0c w := by simpa using hc2
 have k1 := a3j hW.2.1
 have k2 := a3j hW.2.2.1
 have k3 := (a0o hW.2.2.2.1).1
 have k4 := (a0o hW.2.2.2.2).1
 have b1 := s0s (a1v hW)
 have b0 : (r9r w).length = 7 := rfl
 have b2 : (p3p (w.incs.length : Int)).length ≤ 2 := a0e ⟨by omega, by omega⟩
 have b3 : (p3p (w.versions.length : Int)).length ≤ 2 := a0e ⟨by omega, by omega⟩
 have b4 : (p3p (w.events.length : Int)).length ≤ 2 := a0e ⟨by omega, by omega⟩
 have b5 : (p3p (w.outs.length : Int)).length ≤ 2 := a0e ⟨by omega, by omega⟩
 have b6 := s0s (a1o hW.2.1)
 have b7 := s0s (a1o hW.2.2.1)
 have b8 := a3w (a1m hW)
 have b9 := a3x (a1n hW)
 refine y1y ?_
 refine hK1 _ _ ?_
 clear hK1 K1
 refine x6x x9x (by rfl) ?_
 refine q0q (id := 1) b2l c4k rfl ?_
 refine q7q 1 0 3 5 1 rfl rfl rfl rfl rfl ?_
 refine x6x x9x (by rfl) ?_
 refine x1x rfl z7z rfl rfl y3y rfl rfl ?_
 refine x3x rfl y3y rfl rfl ?_
 refine x1x rfl z7z rfl rfl y3y rfl rfl ?_
 refine x3x rfl y3y rfl rfl ?_
 refine x1x rfl z7z rfl rfl y3y rfl rfl ?_
 refine x3x rfl y3y rfl rfl ?_
 refine x1x rfl z7z rfl rfl y3y rfl rfl ?_
 refine x3x rfl y3y rfl rfl ?_
 refine x1x rfl z7z rfl rfl y3y rfl rfl ?_
 refine x3x rfl y3y rfl rfl ?_
 refine x1x rfl z7z rfl rfl y3y rfl rfl ?_
 refine x3x rfl y3y rfl rfl ?_
 refine x1x rfl z7z rfl rfl y3y rfl rfl ?_
 refine x3x rfl y3y rfl rfl ?_
 refine q4q (id := 2) u5u rfl y3y rfl rfl rfl rfl (.val rfl rfl (.val rfl rfl (.val rfl rfl (.val rfl rfl (.val rfl rfl (.val rfl rfl (.val rfl rfl .nil))))))) rfl (v2v rfl) (v2v rfl) (v2v rfl) rfl rfl ?_
 refine a5v [1, 3] [_, _] (s1s false ([]) (r9r w) (a1v hW) (by omega) (by (simp; done))) rfl rfl rfl (LendM.ptr (LendM.base (b1i (l := r9r w) rfl .nil))) rfl (by decide) rfl rfl (by repeat (first | exact InH.nil | refine InH.cons rfl ?_)) (by (simp only [pI, y8y, y9y, w5w, gl, nx, w0w, Nat.beq]; rfl)) (by (simp only [pI, y8y, y9y, w5w, gl, nx, w0w, Nat.beq]; rfl)) rfl rfl (b2t rfl) (by exact .box (.cons (.ref _ _) rfl .nil) (.row (StrC.map b6i _) .nil)) (by exact .box (.cons (.ref _ _) rfl .nil) (.row (StrC.map b6i _) .nil)) ?_
 rw [show ([] : List Nat) ++ u8u (r9r w) = u8u (r9r w) from rfl]
 refine x6x x9x (by rfl) ?_
 refine x1x rfl z7z rfl rfl u5u rfl rfl ?_
 refine x3x rfl u5u rfl rfl ?_
 refine u6u rfl u5u rfl ?_
 refine z6z [1, 3] [_, _] (s5s (u8u (r9r w)) (w.incs.length : Int) ⟨by omega, by omega⟩ (by omega)) rfl rfl rfl (by decide) rfl rfl (by repeat (first | exact InH.nil | refine InH.cons rfl ?_)) (by (simp only [pI, y8y, y9y, w5w, gl, nx, w0w, Nat.beq]; rfl)) (by (simp only [pI, y8y, y9y, w5w, gl, nx, w0w, Nat.beq]; rfl)) ?_
 refine x6x x9x (by rfl) ?_
 refine x1x rfl z7z rfl rfl u5u rfl rfl ?_
 refine x3x rfl u5u rfl rfl ?_
 refine z6z [1, 3] [_, _] (s1s c (u8u (r9r w) ++ p3p (w.incs.length : Int)) w.incs (a1o hW.2.1) (by omega) (by (simp only [List.length_append, List.length_take]; omega))) rfl rfl rfl (by decide) rfl rfl (by repeat (first | exact InH.nil | refine InH.cons rfl ?_)) (by (simp only [pI, y8y, y9y, w5w, gl, nx, w0w, Nat.beq]; rfl)) (by (simp only [pI, y8y, y9y, w5w, gl, nx, w0w, Nat.beq]; rfl)) ?_
 refine x6x x9x (by rfl) ?_
 refine x1x rfl z7z rfl rfl u5u rfl rfl ?_
 refine x3x rfl u5u rfl rfl ?_
 refine u6u rfl u5u rfl ?_
 refine z6z [1, 3] [_, _] (s5s (u8u (r9r w) ++ p3p (w.incs.length : Int) ++ u8u w.incs) (w.versions.length : Int) ⟨by omega, by omega⟩ (by (simp only [List.length_append, List.length_take]; omega))) rfl rfl rfl (by decide) rfl rfl (by repeat (first | exact InH.nil | refine InH.cons rfl ?_)) (by (simp only [pI, y8y, y9y, w5w, gl, nx, w0w, Nat.beq]; rfl)) (by (simp only [pI, y8y, y9y, w5w, gl, nx, w0w, Nat.beq]; rfl)) ?_
 refine x6x x9x (by rfl) ?_
 refine x1x rfl z7z rfl rfl u5u rfl rfl ?_
 refine x3x rfl u5u rfl rfl ?_
 refine z6z [1, 3] [_, _] (s1s c (u8u (r9r w) ++ p3p (w.incs.length : Int) ++ u8u w.incs ++ p3p (w.versions.length : Int)) w.versions (a1o hW.2.2.1) (by omega) (by (simp only [List.length_append, List.length_take]; omega))) rfl rfl rfl (by decide) rfl rfl (by repeat (first | exact InH.nil | refine InH.cons rfl ?_)) (by (simp only [pI, y8y, y9y, w5w, gl, nx, w0w, Nat.beq]; rfl)) (by (simp only [pI, y8y, y9y, w5w, gl, nx, w0w, Nat.beq]; rfl)) ?_
 refine x6x x9x (by rfl) ?_
 refine x1x rfl z7z rfl rfl w8w rfl rfl ?_
 refine x3x rfl w8w rfl rfl ?_
 refine z6z [1, 3] [_, _] (a4y c (u8u (r9r w) ++ p3p (w.incs.length : Int) ++ u8u w.incs ++ p3p (w.versions.length : Int) ++ u8u w.versions) w.events (a1m hW) (by omega) (by (simp only [List.length_append, List.length_take]; omega))) rfl rfl rfl (by decide) rfl rfl (by repeat (first | exact InH.nil | refine InH.cons rfl ?_)) (by (simp only [pI, y8y, y9y, w5w, gl, nx, w0w, Nat.beq]; rfl)) (by (simp only [pI, y8y, y9y, w5w, gl, nx, w0w, Nat.beq]; rfl)) ?_
 refine x6x x9x (by rfl) ?_
 refine x1x rfl z7z rfl rfl w7w rfl rfl ?_
 refine x3x rfl w7w rfl rfl ?_
 refine z6z [1, 3] [_, _] (a6j c (u8u (r9r w) ++ p3p (w.incs.length : Int) ++ u8u w.incs ++ p3p (w.versions.length : Int) ++ u8u w.versions ++ p3p (w.events.length : Int) ++ r3r w.events) w.outs (a1n hW) (by omega) (by (simp only [List.length_append, List.length_take]; omega))) rfl rfl rfl (by decide) rfl rfl (by repeat (first | exact InH.nil | refine InH.cons rfl ?_)) (by (simp only [pI, y8y, y9y, w5w, gl, nx, w0w, Nat.beq]; rfl)) (by (simp only [pI, y8y, y9y, w5w, gl, nx, w0w, Nat.beq]; rfl)) ?_
 refine x6x x9x (by rfl) ?_
 refine x3x rfl b2l rfl rfl ?_
 refine x2x rfl ?_
 refine y4y ⟨.inr rfl, ?_⟩
 (rw [b1k hW]; exact ⟨_, _, rfl, .ref rfl (Le.ow_map (f := a1l) _ (fun _ => rfl) (fun _ => rfl)) .nil⟩)
end
section
theorem w1w (c : Bool) (bs : List Nat) (p f : Nat) : Meth Try.prog 61 1 [0] [.ptr 0 0 0, .pv (.int .i64 (f : Int))] [(0, (0, .box 50 [v7v c bs, pI ((p : Nat) : Int), .pv .nilIface]))] (.tup []) [(0, (0, .box 50 [v7v c bs, pI ((p : Nat) : Int), .pv (a6m (some (p, f)))]))] := by
 refine v8v x9x (fn := Try.f61) (by kernel_rfl) (by kernel_rfl) rfl (O0 := []) 1 0 (v2v rfl) (by rfl) (by repeat (first | exact BndH.nil | refine BndH.box rfl ?_)) (by repeat (first | exact BndH.nil | refine BndH.box rfl ?_)) (by rfl) fun γ => ?_
 show Ex Try.prog _ _ [(0, .ptr 0 (γ 0) 0), (1, .pv (.int .i64 (f : Int)))] [(0, ((γ 0), .box 50 [v7v c bs, pI ((p : Nat) : Int), .pv .nilIface]))] _
 refine x6x x9x (by rfl) ?_
 refine x0x rfl ?_
 refine u1u rfl rfl ?_
 refine x1x rfl r0r rfl rfl a1i rfl rfl ?_
 refine x3x rfl a1i rfl rfl ?_
 refine a7n rfl rfl (by intro a c h h'; cases h; cases h'; rfl) (.inl rfl) (a3f Try.underlying48 _) ?_
 refine y0y rfl (fun hc1 => ?_) (fun hc1 => ?_)
 rotate_left
 ·simp at hc1
 try simp at hc1
 refine y2y x9x (by rfl) ?_
 refine x0x rfl ?_
 refine x0x rfl ?_
 refine u1u rfl rfl ?_
 refine x1x rfl r0r rfl rfl y3y rfl rfl ?_
 refine x3x rfl y3y rfl rfl ?_
 refine x0x rfl ?_
 refine b8d x9x rfl c1o rfl ?_
 refine r7r c0j rfl c2x rfl (by simp only [pI, y3y, T3, a1i, T48, a0z, p1p, AV.okc, AV.one, Value.oneCell', List.map_cons, List.map_nil, List.getElem?_cons_zero, List.getElem?_cons_succ, List.take_succ_cons, List.take_zero, List.drop_succ_cons, List.drop_zero, List.cons_append, List.nil_append, List.length_cons, List.length_nil, if_true, and_self, Nat.reduceAdd, Nat.reduceLeDiff]; rfl) ?_
 refine c2j x9x [.int .i64 (p : Int), .iface 58 (.int .i64 (f : Int))] rfl c0j rfl ?_
 refine u1u rfl rfl ?_
 refine x1x rfl r0r rfl rfl a1i rfl rfl ?_
 refine u4u rfl rfl a1i rfl rfl rfl rfl rfl (by simp only [a3i]; rfl) ?_
 exact ⟨.inl rfl, [γ 0], rfl, rfl, HE.box rfl rfl HE.nil⟩
theorem a3m (c : Bool) (bs : List Nat) (p a b f : Nat) : Meth Try.prog 61 1 [0] [.ptr 0 0 0, .pv (.int .i64 (f : Int))] [(0, (0, .box 50 [v7v c bs, pI ((p : Nat) : Int), .pv (a6m (some (a, b)))]))] (.tup []) [(0, (0, .box 50 [v7v c bs, pI ((p : Nat) : Int), .pv (a6m (some (a, b)))]))] := by
 refine v8v x9x (fn := Try.f61) (by kernel_rfl) (by kernel_rfl) rfl (O0 := []) 1 0 (v2v rfl) (by rfl) (by repeat (first | exact BndH.nil | refine BndH.box rfl ?_)) (by repeat (first | exact BndH.nil | refine BndH.box rfl ?_)) (by rfl) fun γ => ?_
 show Ex Try.prog _ _ [(0, .ptr 0 (γ 0) 0), (1, .pv (.int .i64 (f : Int)))] [(0, ((γ 0), .box 50 [v7v c bs, pI ((p : Nat) : Int), .pv (a6m (some (a, b)))]))] _
 refine x6x x9x (by rfl) ?_
 refine x0x rfl ?_
 refine u1u rfl rfl ?_
 refine x1x rfl r0r rfl rfl a1i rfl rfl ?_
 refine x3x rfl a1i rfl rfl ?_
 refine a7n rfl rfl (by intro a c h h'; cases h; cases h'; rfl) (.inl rfl) (b5d Try.underlying48 _ _ _ _) ?_
 refine y0y rfl (fun hc1 => ?_) (fun hc1 => ?_)
 ·simp at hc1
 try simp at hc1
 refine y1y ?_
 exact ⟨.inl rfl, [γ 0], rfl, rfl, HE.box rfl rfl HE.nil⟩
theorem a4z (c : Bool) (bs : List Nat) (u : Up) (f : Nat) : Meth Try.prog 61 1 [0] [.ptr 0 0 0, .pv (.int .i64 (f : Int))] [(0, (0, .box 50 [v7v c bs, pI ((u.at' : Nat) : Int), .pv (a6m u.err)]))] (.tup []) [(0, (0, .box 50 [v7v c bs, pI (((a9t u f).at' : Nat) : Int), .pv (a6m (a9t u f).err)]))] := by
 obtain ⟨p, e⟩ := u
 cases e with
 | none => rw [show a9t ⟨p, none⟩ f = ⟨p, some (p, f)⟩ from if_pos rfl]; exact w1w c bs p f
 | some q => obtain ⟨a, b⟩ := q; rw [show a9t ⟨p, some (a, b)⟩ f = ⟨p, some (a, b)⟩ from if_neg (by simp)]; exact a3m c bs p a b f
theorem a4e (c : Bool) (bs : List Nat) (p a b : Nat) : Meth Try.prog 22 1 [0] [.ptr 0 0 0] [(0, (0, .box 50 [v7v c bs, pI ((p : Nat) : Int), .pv (a6m (some (a, b)))]))] (.pv (.int .i64 0)) [(0, (0, .box 50 [v7v c bs, pI ((p : Nat) : Int), .pv (a6m (some (a, b)))]))] := by
 refine v8v x9x (fn := Try.f22) (by kernel_rfl) (by kernel_rfl) rfl (O0 := [.pv (.int .i64 0)]) 1 0 (v2v rfl) (by rfl) (by repeat (first | exact BndH.nil | refine BndH.box rfl ?_)) (by repeat (first | exact BndH.nil | refine BndH.box rfl ?_)) (by rfl) fun γ => ?_
 show Ex Try.prog _ _ [(0, .ptr 0 (γ 0) 0)] [(0, ((γ 0), .box 50 [v7v c bs, pI ((p : Nat) : Int), .pv (a6m (some (a, b)))]))] _
 refine x6x x9x (by rfl) ?_
 refine x2x rfl ?_
 refine x6x x9x (by rfl) ?_
 refine x2x rfl ?_
 refine x4x fun K1 hK1 => ?_
 refine x6x x9x (by rfl) ?_
 refine x2x rfl ?_
 refine y5y ?_
 refine a2p 1 ?_
 refine w2w fun K2 hK2 => ?_
 refine x4x fun K3 hK3 => ?_
 refine x6x x9x (by rfl) ?_
 refine x0x rfl ?_
 refine u1u rfl rfl ?_
 refine x1x rfl r0r rfl rfl a1i rfl rfl ?_
 refine x3x rfl a1i rfl rfl ?_
 refine a7n rfl rfl (by intro a c h h'; cases h; cases h'; rfl) (.inl rfl) (b5d Try.underlying48 _ _ _ _) ?_
 refine y0y rfl (fun hc4 => ?_) (fun hc4 => ?_)
 ·simp at hc4
 try simp at hc4
 refine v3v ?_
 refine hK1 _ _ ?_
 clear hK3 K3 hK2 K2 hK1 K1
 refine x6x x9x (by rfl) ?_
 refine x2x rfl ?_
 refine y4y ?_
 exact ⟨.inr rfl, [γ 0], rfl, rfl, HE.box rfl rfl HE.nil⟩
set_option maxRecDepth 20000 in
theorem a4f (c : Bool) (bs : List Nat) (hbs : ∀ b ∈ bs, b < 256) (hbl : bs.length ≤ 100000000) (p : Nat) (hp : p ≤ bs.length) : Meth Try.prog 22 1 [0] [.ptr 0 0 0] [(0, (0, .box 50 [v7v c bs, pI ((p : Nat) : Int), .pv .nilIface]))] (.pv (.int .i64 (unF bs 5 0 1 p).1)) [(0, (0, .box 50 [v7v c bs, pI (((unF bs 5 0 1 p).2.at' : Nat) : Int), .pv (a6m (unF bs 5 0 1 p).2.err)]))] := by
 refine v8v x9x (fn := Try.f22) (by kernel_rfl) (by kernel_rfl) rfl (O0 := [.pv (.int .i64 (unF bs 5 0 1 p).1)]) 1 0 (v2v rfl) (by rfl) (by repeat (first | exact BndH.nil | refine BndH.box rfl ?_)) (by repeat (first | exact BndH.nil | refine BndH.box rfl ?_)) (by rfl) fun γ => ?_
 show Ex Try.prog _ _ [(0, .ptr 0 (γ 0) 0)] [(0, ((γ 0), .box 50 [v7v c bs, pI ((p : Nat) : Int), .pv .nilIface]))] _
 obtain ⟨F, hF⟩ : ∃ F, unF bs 5 0 1 p = F := ⟨_, rfl⟩
 rw [hF]
 refine x6x x9x (by rfl) ?_
 refine x2x rfl ?_
 refine x6x x9x (by rfl) ?_
 refine x2x rfl ?_
 refine x4x fun K1 hK1 => ?_
 refine x6x x9x (by rfl) ?_
 refine x2x rfl ?_
 refine y5y ?_
 refine a2p 6 ?_
 refine w2w fun K2 hK2 => ?_
 refine x4x fun K3 hK3 => ?_
 refine x6x x9x (by rfl) ?_
 refine x0x rfl ?_
 refine u1u rfl rfl ?_
 refine x1x rfl r0r rfl rfl a1i rfl rfl ?_
 refine x3x rfl a1i rfl rfl ?_
 refine a7n rfl rfl (by intro a c h h'; cases h; cases h'; rfl) (.inl rfl) (a3f Try.underlying48 _) ?_
 refine y0y rfl (fun hc4 => ?_) (fun hc4 => ?_)
 rotate_left
 ·simp at hc4
 try simp at hc4
 refine y1y ?_
 refine hK3 _ _ ?_
 clear hK3 K3
 refine x4x fun K5 hK5 => ?_
 refine y5y ?_
 refine x4x fun K6 hK6 => ?_
 refine y5y ?_
 refine q5q x9x s9s (by rfl) ?_
 refine x0x rfl ?_
 refine u1u rfl rfl ?_
 refine x1x rfl r0r rfl rfl y3y rfl rfl ?_
 refine x3x rfl y3y rfl rfl ?_
 refine x0x rfl ?_
 refine u1u rfl rfl ?_
 refine x1x rfl r0r rfl rfl w4w rfl rfl ?_
 refine x3x rfl w4w rfl rfl ?_
 refine u6u rfl w4w rfl ?_
 refine y6y rfl rfl rfl ?_
 refine x2x rfl ?_
 refine ⟨by kernel_rfl, ?_⟩
 refine y0y rfl (fun hc7 => ?_) (fun hc7 => ?_)
 ·try simp at hc7
  rw [a4r (by omega)] at hF
  subst hF
  refine x6x x9x (by rfl) ?_
  refine x0x rfl ?_
  refine z6z [0] [_] (w1w c bs (p) 1) rfl rfl rfl (by decide) rfl rfl (by repeat (first | exact InH.nil | refine InH.cons rfl ?_)) (by (simp only [pI, y8y, y9y, w5w, gl, nx, w0w, Nat.beq]; rfl)) (by (simp only [pI, y8y, y9y, w5w, gl, nx, w0w, Nat.beq]; rfl)) ?_
  refine x6x x9x (by rfl) ?_
  refine x2x rfl ?_
  refine y4y ?_
  exact ⟨.inr rfl, [γ 0], rfl, rfl, HE.box rfl rfl HE.nil⟩
 try simp at hc7
 refine x6x x9x (by rfl) ?_
 refine x0x rfl ?_
 refine y6y rfl rfl rfl ?_
 refine x2x rfl ?_
 refine y0y rfl (fun hc8 => ?_) (fun hc8 => ?_)
 ·simp at hc8
 try simp at hc8
 refine y1y ?_
 refine hK6 _ _ ?_
 clear hK6 K6
 refine q5q x9x s9s (by rfl) ?_
 refine x0x rfl ?_
 refine u1u rfl rfl ?_
 refine x1x rfl r0r rfl rfl w4w rfl rfl ?_
 refine x3x rfl w4w rfl rfl ?_
 refine x0x rfl ?_
 refine u1u rfl rfl ?_
 refine x1x rfl r0r rfl rfl y3y rfl rfl ?_
 refine x3x rfl y3y rfl rfl ?_
 obtain ⟨b0, hb0⟩ : ∃ b, bs[p]? = some b := r5r (by omega)
 have hl0 := hbs b0 (List.mem_of_getElem? hb0)
 refine z9z rfl rfl w4w rfl a1c rfl hb0 ?_
 refine y7y rfl a1c rfl ?_
 refine x2x rfl ?_
 refine ⟨by kernel_rfl, ?_⟩
 refine x6x x9x (by rfl) ?_
 refine x0x rfl ?_
 refine u1u rfl rfl ?_
 refine x1x rfl r0r rfl rfl y3y rfl rfl ?_
 refine x3x rfl y3y rfl rfl ?_
 refine v0v (b := 1) rfl rfl (by omega) ?_
 refine u1u rfl rfl ?_
 refine x1x rfl r0r rfl rfl y3y rfl rfl ?_
 refine u4u rfl rfl y3y rfl rfl rfl rfl rfl (by simp only [a3i]; rfl) ?_
 refine x6x x9x (by rfl) ?_
 refine x0x rfl ?_
 refine x0x rfl ?_
 refine u0u (.int .u8 ((b0 % 128 : Nat) : Int)) rfl rfl rfl (a9b (by omega)) ?_
 refine r8r (((b0 % 128 : Nat) : Int)) rfl a1c a6r rfl rfl (b1q (by omega) (by omega)) ?_
 refine x0x rfl ?_
 refine b2z (.int .u64 ((b0 % 128 * (1) : Nat) : Int)) rfl rfl (by omega) (c3v 0 (by decide) (by omega)) ?_
 refine u0u (.int .u64 ((0 + b0 % 128 * (1) : Nat) : Int)) rfl rfl rfl (orM (v := 0) 0 (by decide) (by omega) (by omega)) ?_
 refine x2x rfl ?_
 refine x6x x9x (by rfl) ?_
 refine x0x rfl ?_
 refine y6y rfl rfl rfl ?_
 refine y0y rfl (fun hc9 => ?_) (fun hc9 => ?_)
 ·try simp at hc9
  rw [b3f hb0 (by omega)] at hF
  subst hF
  refine x6x x9x (by rfl) ?_
  refine x0x rfl ?_
  refine r8r (((0 + b0 % 128 * (1) : Nat) : Int)) rfl a6r y3y rfl rfl (v9v (by omega) (by omega)) ?_
  refine u0u (.int .i64 (((0 + b0 % 128 * (1) : Nat) : Int) - 1)) rfl rfl rfl (p8p rfl (by omega) (by omega) (by omega)) ?_
  refine x2x rfl ?_
  refine y4y ?_
  exact ⟨.inr rfl, [γ 0], rfl, rfl, HE.box rfl rfl HE.nil⟩
 try simp at hc9
 rw [b3g hb0 (by omega)] at hF
 refine y1y ?_
 refine hK5 _ _ ?_
 clear hK5 K5
 refine y2y x9x (by rfl) ?_
 refine x0x rfl ?_
 refine u0u (.int .i64 7) rfl rfl rfl (p8p rfl (by omega) (by omega) (by omega)) ?_
 refine x2x rfl ?_
 refine hK2 _ _ ?_
 clear hK2 K2
 refine w2w fun K10 hK10 => ?_
 refine x4x fun K11 hK11 => ?_
 refine x6x x9x (by rfl) ?_
 refine x0x rfl ?_
 refine u1u rfl rfl ?_
 refine x1x rfl r0r rfl rfl a1i rfl rfl ?_
 refine x3x rfl a1i rfl rfl ?_
 refine a7n rfl rfl (by intro a c h h'; cases h; cases h'; rfl) (.inl rfl) (a3f Try.underlying48 _) ?_
 refine y0y rfl (fun hc12 => ?_) (fun hc12 => ?_)
 rotate_left
 ·simp at hc12
 try simp at hc12
 refine y1y ?_
 refine hK11 _ _ ?_
 clear hK11 K11
 refine x4x fun K13 hK13 => ?_
 refine y5y ?_
 refine x4x fun K14 hK14 => ?_
 refine y5y ?_
 refine q5q x9x s9s (by rfl) ?_
 refine x0x rfl ?_
 refine u1u rfl rfl ?_
 refine x1x rfl r0r rfl rfl y3y rfl rfl ?_
 refine x3x rfl y3y rfl rfl ?_
 refine x0x rfl ?_
 refine u1u rfl rfl ?_
 refine x1x rfl r0r rfl rfl w4w rfl rfl ?_
 refine x3x rfl w4w rfl rfl ?_
 refine u6u rfl w4w rfl ?_
 refine y6y rfl rfl rfl ?_
 refine x2x rfl ?_
 refine ⟨by kernel_rfl, ?_⟩
 refine y0y rfl (fun hc15 => ?_) (fun hc15 => ?_)
 ·try simp at hc15
  rw [a4r (by omega)] at hF
  subst hF
  refine x6x x9x (by rfl) ?_
  refine x0x rfl ?_
  refine z6z [0] [_] (w1w c bs (p + 1) 1) rfl rfl rfl (by decide) rfl rfl (by repeat (first | exact InH.nil | refine InH.cons rfl ?_)) (by (simp only [pI, y8y, y9y, w5w, gl, nx, w0w, Nat.beq]; rfl)) (by (simp only [pI, y8y, y9y, w5w, gl, nx, w0w, Nat.beq]; rfl)) ?_
  refine x6x x9x (by rfl) ?_
  refine x2x rfl ?_
  refine y4y ?_
  exact ⟨.inr rfl, [γ 0], rfl, rfl, HE.box rfl rfl HE.nil⟩
 try simp at hc15
 refine x6x x9x (by rfl) ?_
 refine x0x rfl ?_
 refine y6y rfl rfl rfl ?_
 refine x2x rfl ?_
 refine y0y rfl (fun hc16 => ?_) (fun hc16 => ?_)
 ·simp at hc16
 try simp at hc16
 refine y1y ?_
 refine hK14 _ _ ?_
 clear hK14 K14
 refine q5q x9x s9s (by rfl) ?_
 refine x0x rfl ?_
 refine u1u rfl rfl ?_
 refine x1x rfl r0r rfl rfl w4w rfl rfl ?_
 refine x3x rfl w4w rfl rfl ?_
 refine x0x rfl ?_
 refine u1u rfl rfl ?_
 refine x1x rfl r0r rfl rfl y3y rfl rfl ?_
 refine x3x rfl y3y rfl rfl ?_
 obtain ⟨b1, hb1⟩ : ∃ b, bs[p + 1]? = some b := r5r (by omega)
 have hl1 := hbs b1 (List.mem_of_getElem? hb1)
 refine z9z rfl rfl w4w rfl a1c rfl hb1 ?_
 refine y7y rfl a1c rfl ?_
 refine x2x rfl ?_
 refine ⟨by kernel_rfl, ?_⟩
 refine x6x x9x (by rfl) ?_
 refine x0x rfl ?_
 refine u1u rfl rfl ?_
 refine x1x rfl r0r rfl rfl y3y rfl rfl ?_
 refine x3x rfl y3y rfl rfl ?_
 refine v0v (b := 1) rfl rfl (by omega) ?_
 refine u1u rfl rfl ?_
 refine x1x rfl r0r rfl rfl y3y rfl rfl ?_
 refine u4u rfl rfl y3y rfl rfl rfl rfl rfl (by simp only [a3i]; rfl) ?_
 refine x6x x9x (by rfl) ?_
 refine x0x rfl ?_
 refine x0x rfl ?_
 refine u0u (.int .u8 ((b1 % 128 : Nat) : Int)) rfl rfl rfl (a9b (by omega)) ?_
 refine r8r (((b1 % 128 : Nat) : Int)) rfl a1c a6r rfl rfl (b1q (by omega) (by omega)) ?_
 refine x0x rfl ?_
 refine b2z (.int .u64 ((b1 % 128 * (1 * 128) : Nat) : Int)) rfl rfl (by omega) (c3v 7 (by decide) (by omega)) ?_
 refine u0u (.int .u64 ((0 + b0 % 128 * (1) + b1 % 128 * (1 * 128) : Nat) : Int)) rfl rfl rfl (orM (v := 0 + b0 % 128 * (1)) 7 (by decide) (by omega) (by omega)) ?_
 refine x2x rfl ?_
 refine x6x x9x (by rfl) ?_
 refine x0x rfl ?_
 refine y6y rfl rfl rfl ?_
 refine y0y rfl (fun hc17 => ?_) (fun hc17 => ?_)
 ·try simp at hc17
  rw [b3f hb1 (by omega)] at hF
  subst hF
  refine x6x x9x (by rfl) ?_
  refine x0x rfl ?_
  refine r8r (((0 + b0 % 128 * (1) + b1 % 128 * (1 * 128) : Nat) : Int)) rfl a6r y3y rfl rfl (v9v (by omega) (by omega)) ?_
  refine u0u (.int .i64 (((0 + b0 % 128 * (1) + b1 % 128 * (1 * 128) : Nat) : Int) - 1)) rfl rfl rfl (p8p rfl (by omega) (by omega) (by omega)) ?_
  refine x2x rfl ?_
  refine y4y ?_
  exact ⟨.inr rfl, [γ 0], rfl, rfl, HE.box rfl rfl HE.nil⟩
 try simp at hc17
 rw [b3g hb1 (by omega)] at hF
 refine y1y ?_
 refine hK13 _ _ ?_
 clear hK13 K13
 refine y2y x9x (by rfl) ?_
 refine x0x rfl ?_
 refine u0u (.int .i64 14) rfl rfl rfl (p8p rfl (by omega) (by omega) (by omega)) ?_
 refine x2x rfl ?_
 refine hK10 _ _ ?_
 clear hK10 K10
 refine w2w fun K18 hK18 => ?_
 refine x4x fun K19 hK19 => ?_
 refine x6x x9x (by rfl) ?_
 refine x0x rfl ?_
 refine u1u rfl rfl ?_
 refine x1x rfl r0r rfl rfl a1i rfl rfl ?_
 refine x3x rfl a1i rfl rfl ?_
 refine a7n rfl rfl (by intro a c h h'; cases h; cases h'; rfl) (.inl rfl) (a3f Try.underlying48 _) ?_
 refine y0y rfl (fun hc20 => ?_) (fun hc20 => ?_)
 rotate_left
 ·simp at hc20
 try simp at hc20
 refine y1y ?_
 refine hK19 _ _ ?_
 clear hK19 K19
 refine x4x fun K21 hK21 => ?_
 refine y5y ?_
 refine x4x fun K22 hK22 => ?_
 refine y5y ?_
 refine q5q x9x s9s (by rfl) ?_
 refine x0x rfl ?_
 refine u1u rfl rfl ?_
 refine x1x rfl r0r rfl rfl y3y rfl rfl ?_
 refine x3x rfl y3y rfl rfl ?_
 refine x0x rfl ?_
 refine u1u rfl rfl ?_
 refine x1x rfl r0r rfl rfl w4w rfl rfl ?_
 refine x3x rfl w4w rfl rfl ?_
 refine u6u rfl w4w rfl ?_
 refine y6y rfl rfl rfl ?_
 refine x2x rfl ?_
 refine ⟨by kernel_rfl, ?_⟩
 refine y0y rfl (fun hc23 => ?_) (fun hc23 => ?_)
 ·try simp at hc23
  rw [a4r (by omega)] at hF
  subst hF
  refine x6x x9x (by rfl) ?_
  refine x0x rfl ?_
  refine z6z [0] [_] (w1w c bs (p + 1 + 1) 1) rfl rfl rfl (by decide) rfl rfl (by repeat (first | exact InH.nil | refine InH.cons rfl ?_)) (by (simp only [pI, y8y, y9y, w5w, gl, nx, w0w, Nat.beq]; rfl)) (by (simp only [pI, y8y, y9y, w5w, gl, nx, w0w, Nat.beq]; rfl)) ?_
  refine x6x x9x (by rfl) ?_
  refine x2x rfl ?_
  refine y4y ?_
  exact ⟨.inr rfl, [γ 0], rfl, rfl, HE.box rfl rfl HE.nil⟩
 try simp at hc23
 refine x6x x9x (by rfl) ?_
 refine x0x rfl ?_
 refine y6y rfl rfl rfl ?_
 refine x2x rfl ?_
 refine y0y rfl (fun hc24 => ?_) (fun hc24 => ?_)
 ·simp at hc24
 try simp at hc24
 refine y1y ?_
 refine hK22 _ _ ?_
 clear hK22 K22
 refine q5q x9x s9s (by rfl) ?_
 refine x0x rfl ?_
 refine u1u rfl rfl ?_
 refine x1x rfl r0r rfl rfl w4w rfl rfl ?_
 refine x3x rfl w4w rfl rfl ?_
 refine x0x rfl ?_
 refine u1u rfl rfl ?_
 refine x1x rfl r0r rfl rfl y3y rfl rfl ?_
 refine x3x rfl y3y rfl rfl ?_
 obtain ⟨b2, hb2⟩ : ∃ b, bs[p + 1 + 1]? = some b := r5r (by omega)
 have hl2 := hbs b2 (List.mem_of_getElem? hb2)
 refine z9z rfl rfl w4w rfl a1c rfl hb2 ?_
 refine y7y rfl a1c rfl ?_
 refine x2x rfl ?_
 refine ⟨by kernel_rfl, ?_⟩
 refine x6x x9x (by rfl) ?_
 refine x0x rfl ?_
 refine u1u rfl rfl ?_
 refine x1x rfl r0r rfl rfl y3y rfl rfl ?_
 refine x3x rfl y3y rfl rfl ?_
 refine v0v (b := 1) rfl rfl (by omega) ?_
 refine u1u rfl rfl ?_
 refine x1x rfl r0r rfl rfl y3y rfl rfl ?_
 refine u4u rfl rfl y3y rfl rfl rfl rfl rfl (by simp only [a3i]; rfl) ?_
 refine x6x x9x (by rfl) ?_
 refine x0x rfl ?_
 refine x0x rfl ?_
 refine u0u (.int .u8 ((b2 % 128 : Nat) : Int)) rfl rfl rfl (a9b (by omega)) ?_
 refine r8r (((b2 % 128 : Nat) : Int)) rfl a1c a6r rfl rfl (b1q (by omega) (by omega)) ?_
 refine x0x rfl ?_
 refine b2z (.int .u64 ((b2 % 128 * (1 * 128 * 128) : Nat) : Int)) rfl rfl (by omega) (c3v 14 (by decide) (by omega)) ?_
 refine u0u (.int .u64 ((0 + b0 % 128 * (1) + b1 % 128 * (1 * 128) + b2 % 128 * (1 * 128 * 128) : Nat) : Int)) rfl rfl rfl (orM (v := 0 + b0 % 128 * (1) + b1 % 128 * (1 * 128)) 14 (by decide) (by omega) (by omega)) ?_
 refine x2x rfl ?_
 refine x6x x9x (by rfl) ?_
 refine x0x rfl ?_
 refine y6y rfl rfl rfl ?_
 refine y0y rfl (fun hc25 => ?_) (fun hc25 => ?_)
 ·try simp at hc25
  rw [b3f hb2 (by omega)] at hF
  subst hF
  refine x6x x9x (by rfl) ?_
  refine x0x rfl ?_
  refine r8r (((0 + b0 % 128 * (1) + b1 % 128 * (1 * 128) + b2 % 128 * (1 * 128 * 128) : Nat) : Int)) rfl a6r y3y rfl rfl (v9v (by omega) (by omega)) ?_
  refine u0u (.int .i64 (((0 + b0 % 128 * (1) + b1 % 128 * (1 * 128) + b2 % 128 * (1 * 128 * 128) : Nat) : Int) - 1)) rfl rfl rfl (p8p rfl (by omega) (by omega) (by omega)) ?_
  refine x2x rfl ?_
  refine y4y ?_
  exact ⟨.inr rfl, [γ 0], rfl, rfl, HE.box rfl rfl HE.nil⟩
 try simp at hc25
 rw [b3g hb2 (by omega)] at hF
 refine y1y ?_
 refine hK21 _ _ ?_
 clear hK21 K21
 refine y2y x9x (by rfl) ?_
 refine x0x rfl ?_
 refine u0u (.int .i64 21) rfl rfl rfl (p8p rfl (by omega) (by omega) (by omega)) ?_
 refine x2x rfl ?_
 refine hK18 _ _ ?_
 clear hK18 K18
 refine w2w fun K26 hK26 => ?_
 refine x4x fun K27 hK27 => ?_
 refine x6x x9x (by rfl) ?_
 refine x0x rfl ?_
 refine u1u rfl rfl ?_
 refine x1x rfl r0r rfl rfl a1i rfl rfl ?_
 refine x3x rfl a1i rfl rfl ?_
 refine a7n rfl rfl (by intro a c h h'; cases h; cases h'; rfl) (.inl rfl) (a3f Try.underlying48 _) ?_
 refine y0y rfl (fun hc28 => ?_) (fun hc28 => ?_)
 rotate_left
 ·simp at hc28
 try simp at hc28
 refine y1y ?_
 refine hK27 _ _ ?_
 clear hK27 K27
 refine x4x fun K29 hK29 => ?_
 refine y5y ?_
 refine x4x fun K30 hK30 => ?_
 refine y5y ?_
 refine q5q x9x s9s (by rfl) ?_
 refine x0x rfl ?_
 refine u1u rfl rfl ?_
 refine x1x rfl r0r rfl rfl y3y rfl rfl ?_
 refine x3x rfl y3y rfl rfl ?_
 refine x0x rfl ?_
 refine u1u rfl rfl ?_
 refine x1x rfl r0r rfl rfl w4w rfl rfl ?_
 refine x3x rfl w4w rfl rfl ?_
 refine u6u rfl w4w rfl ?_
 refine y6y rfl rfl rfl ?_
 refine x2x rfl ?_
 refine ⟨by kernel_rfl, ?_⟩
 refine y0y rfl (fun hc31 => ?_) (fun hc31 => ?_)
 ·try simp at hc31
  rw [a4r (by omega)] at hF
  subst hF
  refine x6x x9x (by rfl) ?_
  refine x0x rfl ?_
  refine z6z [0] [_] (w1w c bs (p + 1 + 1 + 1) 1) rfl rfl rfl (by decide) rfl rfl (by repeat (first | exact InH.nil | refine InH.cons rfl ?_)) (by (simp only [pI, y8y, y9y, w5w, gl, nx, w0w, Nat.beq]; rfl)) (by (simp only [pI, y8y, y9y, w5w, gl, nx, w0w, Nat.beq]; rfl)) ?_
  refine x6x x9x (by rfl) ?_
  refine x2x rfl ?_
  refine y4y ?_
  exact ⟨.inr rfl, [γ 0], rfl, rfl, HE.box rfl rfl HE.nil⟩
 try simp at hc31
 refine x6x x9x (by rfl) ?_
 refine x0x rfl ?_
 refine y6y rfl rfl rfl ?_
 refine x2x rfl ?_
 refine y0y rfl (fun hc32 => ?_) (fun hc32 => ?_)
 ·simp at hc32
 try simp at hc32
 refine y1y ?_
 refine hK30 _ _ ?_
 clear hK30 K30
 refine q5q x9x s9s (by rfl) ?_
 refine x0x rfl ?_
 refine u1u rfl rfl ?_
 refine x1x rfl r0r rfl rfl w4w rfl rfl ?_
 refine x3x rfl w4w rfl rfl ?_
 refine x0x rfl ?_
 refine u1u rfl rfl ?_
 refine x1x rfl r0r rfl rfl y3y rfl rfl ?_
 refine x3x rfl y3y rfl rfl ?_
 obtain ⟨b3, hb3⟩ : ∃ b, bs[p + 1 + 1 + 1]? = some b := r5r (by omega)
 have hl3 := hbs b3 (List.mem_of_getElem? hb3)
 refine z9z rfl rfl w4w rfl a1c rfl hb3 ?_
 refine y7y rfl a1c rfl ?_
 refine x2x rfl ?_
 refine ⟨by kernel_rfl, ?_⟩
 refine x6x x9x (by rfl) ?_
 refine x0x rfl ?_
 refine u1u rfl rfl ?_
 refine x1x rfl r0r rfl rfl y3y rfl rfl ?_
 refine x3x rfl y3y rfl rfl ?_
 refine v0v (b := 1) rfl rfl (by omega) ?_
 refine u1u rfl rfl ?_
 refine x1x rfl r0r rfl rfl y3y rfl rfl ?_
 refine u4u rfl rfl y3y rfl rfl rfl rfl rfl (by simp only [a3i]; rfl) ?_
 refine x6x x9x (by rfl) ?_
 refine x0x rfl ?_
 refine x0x rfl ?_
 refine u0u (.int .u8 ((b3 % 128 : Nat) : Int)) rfl rfl rfl (a9b (by omega)) ?_
 refine r8r (((b3 % 128 : Nat) : Int)) rfl a1c a6r rfl rfl (b1q (by omega) (by omega)) ?_
 refine x0x rfl ?_
 refine b2z (.int .u64 ((b3 % 128 * (1 * 128 * 128 * 128) : Nat) : Int)) rfl rfl (by omega) (c3v 21 (by decide) (by omega)) ?_
 refine u0u (.int .u64 ((0 + b0 % 128 * (1) + b1 % 128 * (1 * 128) + b2 % 128 * (1 * 128 * 128) + b3 % 128 * (1 * 128 * 128 * 128) : Nat) : Int)) rfl rfl rfl (orM (v := 0 + b0 % 128 * (1) + b1 % 128 * (1 * 128) + b2 % 128 * (1 * 128 * 128)) 21 (by decide) (by omega) (by omega)) ?_
 refine x2x rfl ?_
 refine x6x x9x (by rfl) ?_
 refine x0x rfl ?_
 refine y6y rfl rfl rfl ?_
 refine y0y rfl (fun hc33 => ?_) (fun hc33 => ?_)
 ·try simp at hc33
  rw [b3f hb3 (by omega)] at hF
  subst hF
  refine x6x x9x (by rfl) ?_
  refine x0x rfl ?_
  refine r8r (((0 + b0 % 128 * (1) + b1 % 128 * (1 * 128) + b2 % 128 * (1 * 128 * 128) + b3 % 128 * (1 * 128 * 128 * 128) : Nat) : Int)) rfl a6r y3y rfl rfl (v9v (by omega) (by omega)) ?_
  refine u0u (.int .i64 (((0 + b0 % 128 * (1) + b1 % 128 * (1 * 128) + b2 % 128 * (1 * 128 * 128) + b3 % 128 * (1 * 128 * 128 * 128) : Nat) : Int) - 1)) rfl rfl rfl (p8p rfl (by omega) (by omega) (by omega)) ?_
  refine x2x rfl ?_
  refine y4y ?_
  exact ⟨.inr rfl, [γ 0], rfl, rfl, HE.box rfl rfl HE.nil⟩
 try simp at hc33
 rw [b3g hb3 (by omega)] at hF
 refine y1y ?_
 refine hK29 _ _ ?_
 clear hK29 K29
 refine y2y x9x (by rfl) ?_
 refine x0x rfl ?_
 refine u0u (.int .i64 28) rfl rfl rfl (p8p rfl (by omega) (by omega) (by omega)) ?_
 refine x2x rfl ?_
 refine hK26 _ _ ?_
 clear hK26 K26
 refine w2w fun K34 hK34 => ?_
 refine x4x fun K35 hK35 => ?_
 refine x6x x9x (by rfl) ?_
 refine x0x rfl ?_
 refine u1u rfl rfl ?_
 refine x1x rfl r0r rfl rfl a1i rfl rfl ?_
 refine x3x rfl a1i rfl rfl ?_
 refine a7n rfl rfl (by intro a c h h'; cases h; cases h'; rfl) (.inl rfl) (a3f Try.underlying48 _) ?_
 refine y0y rfl (fun hc36 => ?_) (fun hc36 => ?_)
 rotate_left
 ·simp at hc36
 try simp at hc36
 refine y1y ?_
 refine hK35 _ _ ?_
 clear hK35 K35
 refine x4x fun K37 hK37 => ?_
 refine y5y ?_
 refine x4x fun K38 hK38 => ?_
 refine y5y ?_
 refine q5q x9x s9s (by rfl) ?_
 refine x0x rfl ?_
 refine u1u rfl rfl ?_
 refine x1x rfl r0r rfl rfl y3y rfl rfl ?_
 refine x3x rfl y3y rfl rfl ?_
 refine x0x rfl ?_
 refine u1u rfl rfl ?_
 refine x1x rfl r0r rfl rfl w4w rfl rfl ?_
 refine x3x rfl w4w rfl rfl ?_
 refine u6u rfl w4w rfl ?_
 refine y6y rfl rfl rfl ?_
 refine x2x rfl ?_
 refine ⟨by kernel_rfl, ?_⟩
 refine y0y rfl (fun hc39 => ?_) (fun hc39 => ?_)
 ·try simp at hc39
  rw [a4r (by omega)] at hF
  subst hF
  refine x6x x9x (by rfl) ?_
  refine x0x rfl ?_
  refine z6z [0] [_] (w1w c bs (p + 1 + 1 + 1 + 1) 1) rfl rfl rfl (by decide) rfl rfl (by repeat (first | exact InH.nil | refine InH.cons rfl ?_)) (by (simp only [pI, y8y, y9y, w5w, gl, nx, w0w, Nat.beq]; rfl)) (by (simp only [pI, y8y, y9y, w5w, gl, nx, w0w, Nat.beq]; rfl)) ?_
  refine x6x x9x (by rfl) ?_
  refine x2x rfl ?_
  refine y4y ?_
  exact ⟨.inr rfl, [γ 0], rfl, rfl, HE.box rfl rfl HE.nil⟩
 try simp at hc39
 refine x6x x9x (by rfl) ?_
 refine x0x rfl ?_
 refine y6y rfl rfl rfl ?_
 refine x2x rfl ?_
 refine y0y rfl (fun hc40 => ?_) (fun hc40 => ?_)
 ·simp at hc40
 try simp at hc40
 refine y1y ?_
 refine hK38 _ _ ?_
 clear hK38 K38
 refine q5q x9x s9s (by rfl) ?_
 refine x0x rfl ?_
 refine u1u rfl rfl ?_
 refine x1x rfl r0r rfl rfl w4w rfl rfl ?_
 refine x3x rfl w4w rfl rfl ?_
 refine x0x rfl ?_
 refine u1u rfl rfl ?_
 refine x1x rfl r0r rfl rfl y3y rfl rfl ?_
 refine x3x rfl y3y rfl rfl ?_
 obtain ⟨b4, hb4⟩ : ∃ b, bs[p + 1 + 1 + 1 + 1]? = some b := r5r (by omega)
 have hl4 := hbs b4 (List.mem_of_getElem? hb4)
 refine z9z rfl rfl w4w rfl a1c rfl hb4 ?_
 refine y7y rfl a1c rfl ?_
 refine x2x rfl ?_
 refine ⟨by kernel_rfl, ?_⟩
 refine x6x x9x (by rfl) ?_
 refine x0x rfl ?_
 refine u1u rfl rfl ?_
 refine x1x rfl r0r rfl rfl y3y rfl rfl ?_
 refine x3x rfl y3y rfl rfl ?_
 refine v0v (b := 1) rfl rfl (by omega) ?_
 refine u1u rfl rfl ?_
 refine x1x rfl r0r rfl rfl y3y rfl rfl ?_
 refine u4u rfl rfl y3y rfl rfl rfl rfl rfl (by simp only [a3i]; rfl) ?_
 refine x6x x9x (by rfl) ?_
 refine x0x rfl ?_
 refine x0x rfl ?_
 refine u0u (.int .u8 ((b4 % 128 : Nat) : Int)) rfl rfl rfl (a9b (by omega)) ?_
 refine r8r (((b4 % 128 : Nat) : Int)) rfl a1c a6r rfl rfl (b1q (by omega) (by omega)) ?_
 refine x0x rfl ?_
 refine b2z (.int .u64 ((b4 % 128 * (1 * 128 * 128 * 128 * 128) : Nat) : Int)) rfl rfl (by omega) (c3v 28 (by decide) (by omega)) ?_
 refine u0u (.int .u64 ((0 + b0 % 128 * (1) + b1 % 128 * (1 * 128) + b2 % 128 * (1 * 128 * 128) + b3 % 128 * (1 * 128 * 128 * 128) + b4 % 128 * (1 * 128 * 128 * 128 * 128) : Nat) : Int)) rfl rfl rfl (orM (v := 0 + b0 % 128 * (1) + b1 % 128 * (1 * 128) + b2 % 128 * (1 * 128 * 128) + b3 % 128 * (1 * 128 * 128 * 128)) 28 (by decide) (by omega) (by omega)) ?_
 refine x2x rfl ?_
 refine x6x x9x (by rfl) ?_
 refine x0x rfl ?_
 refine y6y rfl rfl rfl ?_
 refine y0y rfl (fun hc41 => ?_) (fun hc41 => ?_)
 ·try simp at hc41
  rw [b3f hb4 (by omega)] at hF
  subst hF
  refine x6x x9x (by rfl) ?_
  refine x0x rfl ?_
  refine r8r (((0 + b0 % 128 * (1) + b1 % 128 * (1 * 128) + b2 % 128 * (1 * 128 * 128) + b3 % 128 * (1 * 128 * 128 * 128) + b4 % 128 * (1 * 128 * 128 * 128 * 128) : Nat) : Int)) rfl a6r y3y rfl rfl (v9v (by omega) (by omega)) ?_
  refine u0u (.int .i64 (((0 + b0 % 128 * (1) + b1 % 128 * (1 * 128) + b2 % 128 * (1 * 128 * 128) + b3 % 128 * (1 * 128 * 128 * 128) + b4 % 128 * (1 * 128 * 128 * 128 * 128) : Nat) : Int) - 1)) rfl rfl rfl (p8p rfl (by omega) (by omega) (by omega)) ?_
  refine x2x rfl ?_
  refine y4y ?_
  exact ⟨.inr rfl, [γ 0], rfl, rfl, HE.box rfl rfl HE.nil⟩
 try simp at hc41
 rw [b3g hb4 (by omega)] at hF
 refine y1y ?_
 refine hK37 _ _ ?_
 clear hK37 K37
 refine y2y x9x (by rfl) ?_
 refine x0x rfl ?_
 refine u0u (.int .i64 35) rfl rfl rfl (p8p rfl (by omega) (by omega) (by omega)) ?_
 refine x2x rfl ?_
 refine hK34 _ _ ?_
 clear hK34 K34
 refine w2w fun K42 hK42 => ?_
 refine x4x fun K43 hK43 => ?_
 refine x6x x9x (by rfl) ?_
 refine x0x rfl ?_
 refine u1u rfl rfl ?_
 refine x1x rfl r0r rfl rfl a1i rfl rfl ?_
 refine x3x rfl a1i rfl rfl ?_
 refine a7n rfl rfl (by intro a c h h'; cases h; cases h'; rfl) (.inl rfl) (a3f Try.underlying48 _) ?_
 refine y0y rfl (fun hc44 => ?_) (fun hc44 => ?_)
 rotate_left
 ·simp at hc44
 try simp at hc44
 refine y1y ?_
 refine hK43 _ _ ?_
 clear hK43 K43
 refine x4x fun K45 hK45 => ?_
 refine y5y ?_
 refine x4x fun K46 hK46 => ?_
 refine y5y ?_
 refine q5q x9x s9s (by rfl) ?_
 refine x0x rfl ?_
 refine u1u rfl rfl ?_
 refine x1x rfl r0r rfl rfl y3y rfl rfl ?_
 refine x3x rfl y3y rfl rfl ?_
 refine x0x rfl ?_
 refine u1u rfl rfl ?_
 refine x1x rfl r0r rfl rfl w4w rfl rfl ?_
 refine x3x rfl w4w rfl rfl ?_
 refine u6u rfl w4w rfl ?_
 refine y6y rfl rfl rfl ?_
 refine x2x rfl ?_
 refine ⟨by kernel_rfl, ?_⟩
 refine y0y rfl (fun hc47 => ?_) (fun hc47 => ?_)
 ·try simp at hc47
  rw [a4r (by omega)] at hF
  subst hF
  refine x6x x9x (by rfl) ?_
  refine x0x rfl ?_
  refine z6z [0] [_] (w1w c bs (p + 1 + 1 + 1 + 1 + 1) 1) rfl rfl rfl (by decide) rfl rfl (by repeat (first | exact InH.nil | refine InH.cons rfl ?_)) (by (simp only [pI, y8y, y9y, w5w, gl, nx, w0w, Nat.beq]; rfl)) (by (simp only [pI, y8y, y9y, w5w, gl, nx, w0w, Nat.beq]; rfl)) ?_
  refine x6x x9x (by rfl) ?_
  refine x2x rfl ?_
  refine y4y ?_
  exact ⟨.inr rfl, [γ 0], rfl, rfl, HE.box rfl rfl HE.nil⟩
 try simp at hc47
 refine x6x x9x (by rfl) ?_
 refine x0x rfl ?_
 refine y6y rfl rfl rfl ?_
 refine x2x rfl ?_
 refine y0y rfl (fun hc48 => ?_) (fun hc48 => ?_)
 rotate_left
 ·simp at hc48
 try simp at hc48
 rw [b9u (by omega)] at hF
 subst hF
 refine x6x x9x (by rfl) ?_
 refine x0x rfl ?_
 refine z6z [0] [_] (w1w c bs (p + 1 + 1 + 1 + 1 + 1) 2) rfl rfl rfl (by decide) rfl rfl (by repeat (first | exact InH.nil | refine InH.cons rfl ?_)) (by (simp only [pI, y8y, y9y, w5w, gl, nx, w0w, Nat.beq]; rfl)) (by (simp only [pI, y8y, y9y, w5w, gl, nx, w0w, Nat.beq]; rfl)) ?_
 refine x6x x9x (by rfl) ?_
 refine x2x rfl ?_
 refine y4y ?_
 exact ⟨.inr rfl, [γ 0], rfl, rfl, HE.box rfl rfl HE.nil⟩
theorem z4z (c : Bool) (bs : List Nat) (hbs : ∀ b ∈ bs, b < 256) (hbl : bs.length ≤ 100000000) (u : Up) (hu : u.at' ≤ bs.length) : Meth Try.prog 22 1 [0] [.ptr 0 0 0] [(0, (0, .box 50 [v7v c bs, pI ((u.at' : Nat) : Int), .pv (a6m u.err)]))] (.pv (.int .i64 (a0q bs u).1)) [(0, (0, .box 50 [v7v c bs, pI (((a0q bs u).2.at' : Nat) : Int), .pv (a6m (a0q bs u).2.err)]))] := by
 obtain ⟨p, e⟩ := u
 cases e with
 | none => rw [show a0q bs ⟨p, none⟩ = unF bs 5 0 1 p from if_pos rfl]; exact a4f c bs hbs hbl p hu
 | some q => obtain ⟨a, b⟩ := q; rw [show a0q bs ⟨p, some (a, b)⟩ = (0, ⟨p, some (a, b)⟩) from if_neg (by simp)]; exact a4e c bs p a b
theorem a0h (c : Bool) (bs : List Nat) (hbs : ∀ b ∈ bs, b < 256) (hbl : bs.length ≤ 100000000) (u : Up) (hu : u.at' ≤ bs.length) (m : Int) : Meth Try.prog 62 1 [0] [.ptr 0 0 0, .pv (.int .i64 m)] [(0, (0, .box 50 [v7v c bs, pI ((u.at' : Nat) : Int), .pv (a6m u.err)]))] (.pv (.int .i64 (q9q bs m u).1)) [(0, (0, .box 50 [v7v c bs, pI (((q9q bs m u).2.at' : Nat) : Int), .pv (a6m (q9q bs m u).2.err)]))] := by
 refine v8v x9x (fn := Try.f62) (by kernel_rfl) (by kernel_rfl) rfl (O0 := [.pv (.int .i64 (q9q bs m u).1)]) 1 0 (v2v rfl) (by rfl) (by repeat (first | exact BndH.nil | refine BndH.box rfl ?_)) (by repeat (first | exact BndH.nil | refine BndH.box rfl ?_)) (by rfl) fun γ => ?_
 show Ex Try.prog _ _ [(0, .ptr 0 (γ 0) 0), (1, .pv (.int .i64 m))] [(0, ((γ 0), .box 50 [v7v c bs, pI ((u.at' : Nat) : Int), .pv (a6m u.err)]))] _
 obtain ⟨F, hF⟩ : ∃ F, q9q bs m u = F := ⟨_, rfl⟩
 rw [hF]
 unfold q9q at hF
 refine x6x x9x (by rfl) ?_
 refine x2x rfl ?_
 refine x6x x9x (by rfl) ?_
 refine x0x rfl ?_
 refine z6z [0] [_] (z4z c bs hbs hbl u hu) rfl rfl rfl (by decide) rfl rfl (by repeat (first | exact InH.nil | refine InH.cons rfl ?_)) (by (simp only [pI, y8y, y9y, w5w, gl, nx, w0w, Nat.beq]; rfl)) (by (simp only [pI, y8y, y9y, w5w, gl, nx, w0w, Nat.beq]; rfl)) ?_
 refine x2x rfl ?_
 refine x4x fun K1 hK1 => ?_
 refine x6x x9x (by rfl) ?_
 refine x0x rfl ?_
 refine x0x rfl ?_
 refine z2z rfl rfl rfl (v4v ..) ?_
 refine q1q rfl ?_
 refine y0y rfl (fun hc2 => ?_) (fun hc2 => ?_)
 ·try simp at hc2
  rw [if_neg (by (intro h; simp_all; omega))] at hF
  subst hF
  refine x6x x9x (by rfl) ?_
  refine x0x rfl ?_
  refine z6z [0] [_] (a4z c bs (a0q bs u).2 2) rfl rfl rfl (by decide) rfl rfl (by repeat (first | exact InH.nil | refine InH.cons rfl ?_)) (by (simp only [pI, y8y, y9y, w5w, gl, nx, w0w, Nat.beq]; rfl)) (by (simp only [pI, y8y, y9y, w5w, gl, nx, w0w, Nat.beq]; rfl)) ?_
  refine x6x x9x (by rfl) ?_
  refine x2x rfl ?_
  refine y4y ?_
  exact ⟨.inr rfl, [γ 0], rfl, rfl, HE.box rfl rfl HE.nil⟩
 try simp at hc2
 rw [if_pos (by simpa using hc2)] at hF
 subst hF
 refine y1y ?_
 refine hK1 _ _ ?_
 clear hK1 K1
 refine x6x x9x (by rfl) ?_
 refine x0x rfl ?_
 refine x2x rfl ?_
 refine y4y ?_
 exact ⟨.inr rfl, [γ 0], rfl, rfl, HE.box rfl rfl HE.nil⟩
end
section
theorem a2t (c c' : Bool) (l l' : List Nat) : a1f Try.prog 27 [v7v c l, v7v c' l'] (.pv (.bool (decide (l = l')))) := by
 refine z5z x9x (fn := Try.f27) (by kernel_rfl) (by kernel_rfl) rfl (outs := [.pv (.bool (decide (l = l')))]) (by rfl) (v2v rfl) 0 ?_
 refine q6q 0 rfl fun hlen => ?_
 refine x6x x9x (by rfl) ?_
 refine x2x rfl ?_
 refine x4x fun K1 hK1 => ?_
 refine x6x x9x (by rfl) ?_
 refine x0x rfl ?_
 refine u6u rfl w4w rfl ?_
 refine x0x rfl ?_
 refine u6u rfl w4w rfl ?_
 refine y6y rfl rfl rfl ?_
 refine y0y rfl (fun hc2 => ?_) (fun hc2 => ?_)
 ·try simp at hc2
  refine x6x x9x (by rfl) ?_
  refine x2x rfl ?_
  refine y4y ⟨.inr rfl, ?_⟩
  clear hK1 K1
  refine z0z rfl ?_ rfl
  exact c3p (by omega)
 try simp at hc2
 refine y1y ?_
 refine hK1 _ _ ?_
 clear hK1 K1
 refine x4x fun K3 hK3 => ?_
 refine x6x x9x (by rfl) ?_
 refine x0x rfl ?_
 refine u6u rfl w4w rfl ?_
 refine x0x rfl ?_
 refine y5y ?_
 refine v1v (ι := Nat) (fun i γ1 => [(13, .pv (.int .i64 (i : Int)))]) (fun i γ1 => []) (fun i => i ≤ l.length ∧ l.length = l'.length ∧ l.take i = l'.take i) (fun i => l.length - i) (x7x 0 rfl (x7x 1 rfl (x7x 12 rfl Cov.nil))) HE.nil 0 ⟨by omega, by omega, rfl⟩ [] (x7x 13 rfl Cov.nil) HE.nil rfl fun i γ1 hi => ?_
 try dsimp only [List.cons_append, List.nil_append]
 obtain ⟨h1, h2, h3⟩ := hi
 refine x6x x9x (by rfl) ?_
 refine y6y rfl rfl rfl ?_
 refine x4x fun K4 hK4 => ?_
 refine y0y rfl (fun hc5 => ?_) (fun hc5 => ?_)
 rotate_left
 ·try simp at hc5
  refine v3v ?_
  refine hK3 _ _ ?_
  clear hK4 K4 hK3 K3
  refine x6x x9x (by rfl) ?_
  refine x2x rfl ?_
  refine y4y ⟨.inr rfl, ?_⟩
  refine z0z rfl ?_ rfl
  exact eqT h3 (by omega) (by omega)
 try simp at hc5
 obtain ⟨x, hx⟩ : ∃ x, l[i]? = some x := r5r (by omega)
 obtain ⟨y, hy⟩ : ∃ y, l'[i]? = some y := r5r (by omega)
 refine y1y ?_
 refine hK4 _ _ ?_
 clear hK4 K4
 refine x4x fun K6 hK6 => ?_
 refine y5y ?_
 refine x6x x9x (by rfl) ?_
 refine x0x rfl ?_
 refine x2x rfl ?_
 refine q5q x9x s9s (by rfl) ?_
 refine x0x rfl ?_
 refine x0x rfl ?_
 refine z9z rfl rfl w4w rfl a1c rfl hx ?_
 refine y7y rfl a1c rfl ?_
 refine x0x rfl ?_
 refine x0x rfl ?_
 refine z9z rfl rfl w4w rfl a1c rfl hy ?_
 refine y7y rfl a1c rfl ?_
 refine y6y rfl rfl rfl ?_
 refine ⟨by kernel_rfl, ?_⟩
 refine y0y rfl (fun hc7 => ?_) (fun hc7 => ?_)
 rotate_left
 ·try simp at hc7
  have hxy : x = y := by omega
  refine y1y ?_
  refine hK6 _ _ ?_
  clear hK6 K6
  refine y2y x9x (by rfl) ?_
  refine v0v (b := 1) rfl rfl (by omega) ?_
  refine x0x rfl ?_
  exact ⟨i + 1, ⟨⟨by omega, h2, a3t h3 hx hy hxy⟩, by omega⟩, [], (x7x 13 rfl Cov.nil), (x7x 0 rfl (x7x 1 rfl (x7x 12 rfl Cov.nil))), HE.nil, HE.nil, rfl⟩
 try simp at hc7
 have hxy : ¬ x = y := by omega
 refine x6x x9x (by rfl) ?_
 refine x2x rfl ?_
 refine y4y ⟨.inr rfl, ?_⟩
 clear hK6 K6 hK3 K3
 refine z0z rfl ?_ rfl
 exact c3q hx hy hxy
theorem a9z (c c' : Bool) (l l' : List Nat) : a1f Try.prog 13 [v7v c l, v7v c' l'] (.pv (.bool (decide (l = l')))) := by
 refine z5z x9x (fn := Try.f13) (by kernel_rfl) (by kernel_rfl) rfl (outs := [.pv (.bool (decide (l = l')))]) (by rfl) (v2v rfl) 0 ?_
 refine q6q 0 rfl fun hlen => ?_
 refine x6x x9x (by rfl) ?_
 refine x2x rfl ?_
 refine x4x fun K1 hK1 => ?_
 refine x6x x9x (by rfl) ?_
 refine x0x rfl ?_
 refine u6u rfl w4w rfl ?_
 refine x0x rfl ?_
 refine u6u rfl w4w rfl ?_
 refine y6y rfl rfl rfl ?_
 refine y0y rfl (fun hc2 => ?_) (fun hc2 => ?_)
 ·try simp at hc2
  refine x6x x9x (by rfl) ?_
  refine x2x rfl ?_
  refine y4y ⟨.inr rfl, ?_⟩
  clear hK1 K1
  refine z0z rfl ?_ rfl
  exact c3p (by omega)
 try simp at hc2
 refine y1y ?_
 refine hK1 _ _ ?_
 clear hK1 K1
 refine x4x fun K3 hK3 => ?_
 refine x6x x9x (by rfl) ?_
 refine x2x rfl ?_
 refine y5y ?_
 refine v1v (ι := Nat) (fun i γ1 => [(5, .pv (.int .i64 (i : Int)))]) (fun i γ1 => []) (fun i => i ≤ l.length ∧ l.length = l'.length ∧ l.take i = l'.take i) (fun i => l.length - i) (x7x 0 rfl (x7x 1 rfl Cov.nil)) HE.nil 0 ⟨by omega, by omega, rfl⟩ [] (x7x 5 rfl Cov.nil) HE.nil rfl fun i γ1 hi => ?_
 try dsimp only [List.cons_append, List.nil_append]
 obtain ⟨h1, h2, h3⟩ := hi
 refine x4x fun K4 hK4 => ?_
 refine x6x x9x (by rfl) ?_
 refine x0x rfl ?_
 refine x0x rfl ?_
 refine u6u rfl w4w rfl ?_
 refine y6y rfl rfl rfl ?_
 refine y0y rfl (fun hc5 => ?_) (fun hc5 => ?_)
 rotate_left
 ·try simp at hc5
  refine v3v ?_
  refine hK3 _ _ ?_
  clear hK4 K4 hK3 K3
  refine x6x x9x (by rfl) ?_
  refine x2x rfl ?_
  refine y4y ⟨.inr rfl, ?_⟩
  refine z0z rfl ?_ rfl
  exact eqT h3 (by omega) (by omega)
 try simp at hc5
 refine y1y ?_
 refine hK4 _ _ ?_
 clear hK4 K4
 refine x4x fun K6 hK6 => ?_
 refine y5y ?_
 refine q5q x9x s9s (by rfl) ?_
 refine x0x rfl ?_
 refine x0x rfl ?_
 obtain ⟨x, hx⟩ : ∃ x, l[i]? = some x := r5r (by omega)
 refine z9z rfl rfl w4w rfl a1c rfl hx ?_
 refine y7y rfl a1c rfl ?_
 refine x0x rfl ?_
 refine x0x rfl ?_
 obtain ⟨y, hy⟩ : ∃ y, l'[i]? = some y := r5r (by omega)
 refine z9z rfl rfl w4w rfl a1c rfl hy ?_
 refine y7y rfl a1c rfl ?_
 refine y6y rfl rfl rfl ?_
 refine ⟨by kernel_rfl, ?_⟩
 refine y0y rfl (fun hc7 => ?_) (fun hc7 => ?_)
 rotate_left
 ·try simp at hc7
  refine y1y ?_
  refine hK6 _ _ ?_
  clear hK6 K6
  refine y2y x9x (by rfl) ?_
  refine x0x rfl ?_
  refine u0u (.int .i64 ((i + 1 : Nat) : Int)) rfl rfl rfl (p8p rfl (by omega) (by omega) (by have := hlen; omega)) ?_
  refine x2x rfl ?_
  exact ⟨i + 1, ⟨⟨by omega, h2, a3t h3 hx hy (by omega)⟩, by omega⟩, [], (x7x 5 rfl Cov.nil), (x7x 0 rfl (x7x 1 rfl Cov.nil)), HE.nil, HE.nil, rfl⟩
 try simp at hc7
 refine x6x x9x (by rfl) ?_
 refine x2x rfl ?_
 refine y4y ⟨.inr rfl, ?_⟩
 clear hK6 K6 hK3 K3
 refine z0z rfl ?_ rfl
 exact c3q hx hy (by omega)
end
section
theorem a1b (c : Bool) (bs : List Nat) (hbs : ∀ b ∈ bs, b < 256) (hbl : bs.length ≤ 100000000) (u : Up) (hu : u.at' ≤ bs.length) (m : Int) (hm0 : 0 ≤ m) (hm : m ≤ 1000) : Meth Try.prog 23 2 [0] [.ptr 0 0 0, .pv (.int .i64 m)] [(0, (0, .box 50 [v7v c bs, pI ((u.at' : Nat) : Int), .pv (a6m u.err)])), (1, (0, .dead))] (.ref 1 0) [(0, (0, .box 50 [v7v c bs, pI (((a8y bs m u).2.at' : Nat) : Int), .pv (a6m (a8y bs m u).2.err)])), (1, (0, .row 3 1 (((a8y bs m u).1).map a3p)))] := by
 refine v8v x9x (fn := Try.f23) (by kernel_rfl) (by kernel_rfl) rfl (O0 := [.ref 1 0]) 2 2 (v2v rfl) (by rfl) (by repeat (first | exact BndH.nil | refine BndH.dead ?_ | refine BndH.box rfl ?_)) (by repeat (first | exact BndH.nil | refine BndH.box rfl ?_ | refine BndH.row (w3w fun _ => rfl) ?_)) (by rfl) fun γ => ?_
 show Ex Try.prog _ _ [(0, .ptr 0 (γ 0) 0), (1, .pv (.int .i64 m))] [(0, ((γ 0), .box 50 [v7v c bs, pI ((u.at' : Nat) : Int), .pv (a6m u.err)])), (1, ((γ 1), .dead)), (3, (0, .dead)), (2, (0, .dead))] _
 obtain ⟨F, hF⟩ : ∃ F, a8y bs m u = F := ⟨_, rfl⟩
 rw [hF]
 unfold a8y at hF
 have hc := a8z bs u hm0
 have hca := a2q (m := m) hu
 refine x6x x9x (by rfl) ?_
 refine x2x rfl ?_
 refine x6x x9x (by rfl) ?_
 refine x2x rfl ?_
 refine x4x fun K1 hK1 => ?_
 refine x6x x9x (by rfl) ?_
 refine x0x rfl ?_
 refine x0x rfl ?_
 refine z6z [0] [_] (a0h c bs hbs hbl u hu m) rfl rfl rfl (by decide) rfl rfl (by repeat (first | exact InH.nil | refine InH.cons rfl ?_)) (by (simp only [pI, y8y, y9y, w5w, gl, nx, w0w, Nat.beq]; rfl)) (by (simp only [pI, y8y, y9y, w5w, gl, nx, w0w, Nat.beq]; rfl)) ?_
 refine x0x rfl ?_
 obtain ⟨C, hC⟩ : ∃ C, q9q bs m u = C := ⟨_, rfl⟩
 rw [hC] at hF hc hca ⊢
 refine y5y ?_
 refine a8r 5 1 3 1 rfl rfl ?_
 refine v1v (ι := List Int × Nat × Up) (fun p γ1 => [(5, .ref 1 (γ1 1)), (9, .pv (.int .i64 (p.2.1 : Int)))]) (fun p γ1 => [(1, ((γ1 1), .row 3 1 ((p.1).map a3p))), (2, ((γ1 2), .dead)), (3, ((γ1 3), .dead)), (0, ((γ 0), .box 50 [v7v c bs, pI ((p.2.2.at' : Nat) : Int), .pv (a6m p.2.2.err)]))]) (fun p => p.2.1 ≤ C.1.toNat ∧ p.1.length = p.2.1 ∧ p.2.2.at' ≤ bs.length ∧ p.1 ++ (a3q bs (C.1.toNat - p.2.1) p.2.2).1 = F.1 ∧ (a3q bs (C.1.toNat - p.2.1) p.2.2).2 = F.2) (fun p => C.1.toNat - p.2.1) (x7x 0 rfl (x7x 8 rfl Cov.nil)) HE.nil ([], 0, C.2) ⟨Nat.zero_le _, rfl, hca, by rw [← hF]; rfl, by rw [← hF]; rfl⟩ [0, _, _, _] (x7x 5 rfl (x7x 9 rfl Cov.nil)) (HE.row rfl rfl (HE.kill rfl (HE.kill rfl (HE.box rfl rfl HE.nil)))) rfl fun p γ1 hi => ?_
 try dsimp only [List.cons_append, List.nil_append]
 obtain ⟨l, i, q⟩ := p
 obtain ⟨h1, h2, h3, h4, h5⟩ := hi
 dsimp only at h1 h2 h3 h4 h5 ⊢
 refine x6x x9x (by rfl) ?_
 refine y6y rfl rfl rfl ?_
 refine x4x fun K2 hK2 => ?_
 refine y0y rfl (fun hc3 => ?_) (fun hc3 => ?_)
 rotate_left
 ·try simp at hc3
  rw [show C.1.toNat - i = 0 by omega] at h4 h5
  unfold a3q at h4 h5
  rw [List.append_nil] at h4
  obtain ⟨F1, F2⟩ := F
  dsimp only at h4 h5
  subst h4 h5
  refine v3v ?_
  refine hK1 _ _ ?_
  clear hK2 K2 hK1 K1
  refine x6x x9x (by rfl) ?_
  refine x0x rfl ?_
  refine x2x rfl ?_
  refine y4y ?_
  exact ⟨.inr rfl, [γ 0, _], rfl, rfl, HE.box rfl rfl (HE.row rfl rfl HE.nil)⟩
 try simp at hc3
 have hS : a3q bs (C.1.toNat - i) q = ((a0q bs q).1 :: (a3q bs (C.1.toNat - (i + 1)) (a0q bs q).2).1, (a3q bs (C.1.toNat - (i + 1)) (a0q bs q).2).2) := by rw [show C.1.toNat - i = (C.1.toNat - (i + 1)) + 1 by omega]; rfl
 refine y1y ?_
 refine hK2 _ _ ?_
 clear hK2 K2
 refine x4x fun K4 hK4 => ?_
 refine y5y ?_
 refine y2y x9x (by rfl) ?_
 refine x0x rfl ?_
 refine x0x rfl ?_
 refine z6z [0] [_] (z4z c bs hbs hbl q h3) rfl rfl rfl (by decide) rfl rfl (by repeat (first | exact InH.nil | refine InH.cons rfl ?_)) (by (simp only [pI, y8y, y9y, w5w, gl, nx, w0w, Nat.beq]; rfl)) (by (simp only [pI, y8y, y9y, w5w, gl, nx, w0w, Nat.beq]; rfl)) ?_
 refine a2l (id := 2) u5u rfl y3y rfl rfl rfl rfl rfl ?_
 refine a0g (zs := (l ++ [(a0q bs q).1]).map a3p) rfl rfl u5u rfl y3y rfl rfl rfl rfl (by rfl) (a4o _ _ _) (by (simp only [List.length_map, List.length_append, List.length_cons, List.length_nil, List.length_take, T3]; omega)) ?_
 refine x2x rfl ?_
 refine hK4 _ _ ?_
 clear hK4 K4
 refine y2y x9x (by rfl) ?_
 refine a0r rfl rfl rfl ?_
 refine x0x rfl ?_
 exact ⟨(l ++ [(a0q bs q).1], i + 1, (a0q bs q).2), ⟨⟨by show i + 1 ≤ C.1.toNat; omega, by show (l ++ [_]).length = i + 1; rw [List.length_append, h2]; rfl, r4r h3, by show (l ++ [_]) ++ (a3q bs (C.1.toNat - (i + 1)) _).1 = F.1; rw [hS] at h4; rw [← h4, List.append_assoc]; rfl, by show (a3q bs (C.1.toNat - (i + 1)) _).2 = F.2; rw [hS] at h5; exact h5⟩, (by show C.1.toNat - (i + 1) < C.1.toNat - i; omega)⟩, [0, _, _, _], (x7x 5 rfl (Cov.cons' (t := 9) rfl (by rw [v9v (by omega) (by omega)]; rfl) Cov.nil)), (x7x 0 rfl (x7x 8 rfl Cov.nil)), (HE.row rfl rfl (HE.kill rfl (HE.kill rfl (HE.box rfl rfl HE.nil)))), HE.nil, rfl⟩
set_option maxRecDepth 20000 in
theorem a2u (c : Bool) (bs : List Nat) (hbs : ∀ b ∈ bs, b < 256) (hbl : bs.length ≤ 100000000) (u : Up) (hu : u.at' ≤ bs.length) : Meth Try.prog 24 2 [0] [.ptr 0 0 0] [(0, (0, .box 50 [v7v c bs, pI ((u.at' : Nat) : Int), .pv (a6m u.err)])), (1, (0, .dead))] (.ref 1 0) [(0, (0, .box 50 [v7v c bs, pI (((c0r bs u).2.at' : Nat) : Int), .pv (a6m (c0r bs u).2.err)])), (1, (0, .row 81 7 (((c0r bs u).1).map s6s)))] := by
 refine v8v x9x (fn := Try.f24) (by kernel_rfl) (by kernel_rfl) rfl (O0 := [.ref 1 0]) 2 3 (v2v rfl) (by rfl) (by repeat (first | exact BndH.nil | refine BndH.dead ?_ | refine BndH.box rfl ?_)) (by repeat (first | exact BndH.nil | refine BndH.box rfl ?_ | refine BndH.row (w3w fun _ => rfl) ?_)) (by rfl) fun γ => ?_
 show Ex Try.prog _ _ [(0, .ptr 0 (γ 0) 0)] [(0, ((γ 0), .box 50 [v7v c bs, pI ((u.at' : Nat) : Int), .pv (a6m u.err)])), (1, ((γ 1), .dead)), (4, (0, .dead)), (3, (0, .dead)), (2, (0, .dead))] _
 obtain ⟨F, hF⟩ : ∃ F, c0r bs u = F := ⟨_, rfl⟩
 rw [hF]
 unfold c0r at hF
 have hc := a8z bs u (m := 100) (by omega)
 have hca := a2q (m := 100) hu
 refine x6x x9x (by rfl) ?_
 refine x2x rfl ?_
 refine x6x x9x (by rfl) ?_
 refine x2x rfl ?_
 refine x4x fun K1 hK1 => ?_
 refine x6x x9x (by rfl) ?_
 refine x0x rfl ?_
 refine z6z [0] [_] (a0h c bs hbs hbl u hu 100) rfl rfl rfl (by decide) rfl rfl (by repeat (first | exact InH.nil | refine InH.cons rfl ?_)) (by (simp only [pI, y8y, y9y, w5w, gl, nx, w0w, Nat.beq]; rfl)) (by (simp only [pI, y8y, y9y, w5w, gl, nx, w0w, Nat.beq]; rfl)) ?_
 refine x0x rfl ?_
 obtain ⟨C, hC⟩ : ∃ C, q9q bs 100 u = C := ⟨_, rfl⟩
 rw [hC] at hF hc hca ⊢
 refine y5y ?_
 refine a8r 3 1 81 7 rfl rfl ?_
 refine v1v (ι := List Ev × Nat × Up) (fun p γ1 => [(3, .ref 1 (γ1 1)), (8, .pv (.int .i64 (p.2.1 : Int)))]) (fun p γ1 => [(1, ((γ1 1), .row 81 7 (p.1.map s6s))), (2, ((γ1 2), .dead)), (3, ((γ1 3), .dead)), (4, ((γ1 4), .dead)), (0, ((γ 0), .box 50 [v7v c bs, pI ((p.2.2.at' : Nat) : Int), .pv (a6m p.2.2.err)]))]) (fun p => p.2.1 ≤ C.1.toNat ∧ p.1.length = p.2.1 ∧ p.2.2.at' ≤ bs.length ∧ p.1 ++ (b1y bs (C.1.toNat - p.2.1) p.2.2).1 = F.1 ∧ (b1y bs (C.1.toNat - p.2.1) p.2.2).2 = F.2) (fun p => C.1.toNat - p.2.1) (x7x 0 rfl (x7x 7 rfl Cov.nil)) HE.nil ([], 0, C.2) ⟨Nat.zero_le _, rfl, hca, by rw [← hF]; rfl, by rw [← hF]; rfl⟩ [0, _, _, _, _] (x7x 3 rfl (x7x 8 rfl Cov.nil)) (HE.row rfl rfl (HE.kill rfl (HE.kill rfl (HE.kill rfl (HE.box rfl rfl HE.nil))))) rfl fun p γ1 hi => ?_
 try dsimp only [List.cons_append, List.nil_append]
 obtain ⟨l, i, q⟩ := p
 obtain ⟨h1, h2, h3, h4, h5⟩ := hi
 dsimp only at h1 h2 h3 h4 h5 ⊢
 refine x6x x9x (by rfl) ?_
 refine y6y rfl rfl rfl ?_
 refine x4x fun K2 hK2 => ?_
 refine y0y rfl (fun hc3 => ?_) (fun hc3 => ?_)
 rotate_left
 ·try simp at hc3
  rw [show C.1.toNat - i = 0 by omega] at h4 h5
  unfold b1y at h4 h5
  rw [List.append_nil] at h4
  obtain ⟨F1, F2⟩ := F
  dsimp only at h4 h5
  subst h4 h5
  refine v3v ?_
  refine hK1 _ _ ?_
  clear hK2 K2 hK1 K1
  refine x6x x9x (by rfl) ?_
  refine x0x rfl ?_
  refine x2x rfl ?_
  refine y4y ?_
  exact ⟨.inr rfl, [γ 0, _], rfl, rfl, HE.box rfl rfl (HE.row rfl rfl HE.nil)⟩
 try simp at hc3
 refine y1y ?_
 refine hK2 _ _ ?_
 clear hK2 K2
 refine x4x fun K4 hK4 => ?_
 refine y5y ?_
 refine x6x x9x (by rfl) ?_
 refine q0q (id := 2) a0u b9i rfl ?_
 refine x4x fun K5 hK5 => ?_
 refine x6x x9x (by rfl) ?_
 refine x0x rfl ?_
 refine y5y ?_
 refine a2p 8 ?_
 refine w2w fun K6 hK6 => ?_
 refine x6x x9x (by rfl) ?_
 refine y6y rfl rfl rfl ?_
 refine x4x fun K7 hK7 => ?_
 refine y0y rfl (fun hc8 => ?_) (fun hc8 => ?_)
 rotate_left
 ·simp at hc8
 try simp at hc8
 refine y1y ?_
 refine hK7 _ _ ?_
 clear hK7 K7
 refine x4x fun K9 hK9 => ?_
 refine y5y ?_
 refine x6x x9x (by rfl) ?_
 refine x0x rfl ?_
 refine x2x rfl ?_
 refine y2y x9x (by rfl) ?_
 refine x0x rfl ?_
 refine x0x rfl ?_
 refine z6z [0] [_] (z4z c bs hbs hbl q h3) rfl rfl rfl (by decide) rfl rfl (by repeat (first | exact InH.nil | refine InH.cons rfl ?_)) (by (simp only [pI, y8y, y9y, w5w, gl, nx, w0w, Nat.beq]; rfl)) (by (simp only [pI, y8y, y9y, w5w, gl, nx, w0w, Nat.beq]; rfl)) ?_
 refine s2s x9x (j := 0) rfl rfl a0u rfl y3y (by decide) rfl ?_
 refine u4u rfl rfl y3y rfl rfl rfl rfl rfl (show _ = [pI (a0q bs q).1, pI 0, pI 0, pI 0, pI 0, pI 0, pI 0] from rfl) ?_
 obtain ⟨X0, hX0⟩ : ∃ X, a0q bs q = X := ⟨_, rfl⟩
 rw [hX0]
 have hx0 : X0.2.at' ≤ bs.length := by rw [← hX0]; exact r4r h3
 refine hK9 _ _ ?_
 clear hK9 K9
 refine y2y x9x (by rfl) ?_
 refine u0u (.int .i64 1) rfl rfl rfl (p8p rfl (by omega) (by omega) (by omega)) ?_
 refine x0x rfl ?_
 refine hK6 _ _ ?_
 clear hK6 K6
 refine w2w fun K10 hK10 => ?_
 refine x6x x9x (by rfl) ?_
 refine y6y rfl rfl rfl ?_
 refine x4x fun K11 hK11 => ?_
 refine y0y rfl (fun hc12 => ?_) (fun hc12 => ?_)
 rotate_left
 ·simp at hc12
 try simp at hc12
 refine y1y ?_
 refine hK11 _ _ ?_
 clear hK11 K11
 refine x4x fun K13 hK13 => ?_
 refine y5y ?_
 refine x6x x9x (by rfl) ?_
 refine x0x rfl ?_
 refine x2x rfl ?_
 refine y2y x9x (by rfl) ?_
 refine x0x rfl ?_
 refine x0x rfl ?_
 refine z6z [0] [_] (z4z c bs hbs hbl X0.2 hx0) rfl rfl rfl (by decide) rfl rfl (by repeat (first | exact InH.nil | refine InH.cons rfl ?_)) (by (simp only [pI, y8y, y9y, w5w, gl, nx, w0w, Nat.beq]; rfl)) (by (simp only [pI, y8y, y9y, w5w, gl, nx, w0w, Nat.beq]; rfl)) ?_
 refine s2s x9x (j := 1) rfl rfl a0u rfl y3y (by decide) rfl ?_
 refine u4u rfl rfl y3y rfl rfl rfl rfl rfl (show _ = [pI X0.1, pI (a0q bs X0.2).1, pI 0, pI 0, pI 0, pI 0, pI 0] from rfl) ?_
 obtain ⟨X1, hX1⟩ : ∃ X, a0q bs X0.2 = X := ⟨_, rfl⟩
 rw [hX1]
 have hx1 : X1.2.at' ≤ bs.length := by rw [← hX1]; exact r4r hx0
 refine hK13 _ _ ?_
 clear hK13 K13
 refine y2y x9x (by rfl) ?_
 refine u0u (.int .i64 2) rfl rfl rfl (p8p rfl (by omega) (by omega) (by omega)) ?_
 refine x0x rfl ?_
 refine hK10 _ _ ?_
 clear hK10 K10
 refine w2w fun K14 hK14 => ?_
 refine x6x x9x (by rfl) ?_
 refine y6y rfl rfl rfl ?_
 refine x4x fun K15 hK15 => ?_
 refine y0y rfl (fun hc16 => ?_) (fun hc16 => ?_)
 rotate_left
 ·simp at hc16
 try simp at hc16
 refine y1y ?_
 refine hK15 _ _ ?_
 clear hK15 K15
 refine x4x fun K17 hK17 => ?_
 refine y5y ?_
 refine x6x x9x (by rfl) ?_
 refine x0x rfl ?_
 refine x2x rfl ?_
 refine y2y x9x (by rfl) ?_
 refine x0x rfl ?_
 refine x0x rfl ?_
 refine z6z [0] [_] (z4z c bs hbs hbl X1.2 hx1) rfl rfl rfl (by decide) rfl rfl (by repeat (first | exact InH.nil | refine InH.cons rfl ?_)) (by (simp only [pI, y8y, y9y, w5w, gl, nx, w0w, Nat.beq]; rfl)) (by (simp only [pI, y8y, y9y, w5w, gl, nx, w0w, Nat.beq]; rfl)) ?_
 refine s2s x9x (j := 2) rfl rfl a0u rfl y3y (by decide) rfl ?_
 refine u4u rfl rfl y3y rfl rfl rfl rfl rfl (show _ = [pI X0.1, pI X1.1, pI (a0q bs X1.2).1, pI 0, pI 0, pI 0, pI 0] from rfl) ?_
 obtain ⟨X2, hX2⟩ : ∃ X, a0q bs X1.2 = X := ⟨_, rfl⟩
 rw [hX2]
 have hx2 : X2.2.at' ≤ bs.length := by rw [← hX2]; exact r4r hx1
 refine hK17 _ _ ?_
 clear hK17 K17
 refine y2y x9x (by rfl) ?_
 refine u0u (.int .i64 3) rfl rfl rfl (p8p rfl (by omega) (by omega) (by omega)) ?_
 refine x0x rfl ?_
 refine hK14 _ _ ?_
 clear hK14 K14
 refine w2w fun K18 hK18 => ?_
 refine x6x x9x (by rfl) ?_
 refine y6y rfl rfl rfl ?_
 refine x4x fun K19 hK19 => ?_
 refine y0y rfl (fun hc20 => ?_) (fun hc20 => ?_)
 rotate_left
 ·simp at hc20
 try simp at hc20
 refine y1y ?_
 refine hK19 _ _ ?_
 clear hK19 K19
 refine x4x fun K21 hK21 => ?_
 refine y5y ?_
 refine x6x x9x (by rfl) ?_
 refine x0x rfl ?_
 refine x2x rfl ?_
 refine y2y x9x (by rfl) ?_
 refine x0x rfl ?_
 refine x0x rfl ?_
 refine z6z [0] [_] (z4z c bs hbs hbl X2.2 hx2) rfl rfl rfl (by decide) rfl rfl (by repeat (first | exact InH.nil | refine InH.cons rfl ?_)) (by (simp only [pI, y8y, y9y, w5w, gl, nx, w0w, Nat.beq]; rfl)) (by (simp only [pI, y8y, y9y, w5w, gl, nx, w0w, Nat.beq]; rfl)) ?_
 refine s2s x9x (j := 3) rfl rfl a0u rfl y3y (by decide) rfl ?_
 refine u4u rfl rfl y3y rfl rfl rfl rfl rfl (show _ = [pI X0.1, pI X1.1, pI X2.1, pI (a0q bs X2.2).1, pI 0, pI 0, pI 0] from rfl) ?_
 obtain ⟨X3, hX3⟩ : ∃ X, a0q bs X2.2 = X := ⟨_, rfl⟩
 rw [hX3]
 have hx3 : X3.2.at' ≤ bs.length := by rw [← hX3]; exact r4r hx2
 refine hK21 _ _ ?_
 clear hK21 K21
 refine y2y x9x (by rfl) ?_
 refine u0u (.int .i64 4) rfl rfl rfl (p8p rfl (by omega) (by omega) (by omega)) ?_
 refine x0x rfl ?_
 refine hK18 _ _ ?_
 clear hK18 K18
 refine w2w fun K22 hK22 => ?_
 refine x6x x9x (by rfl) ?_
 refine y6y rfl rfl rfl ?_
 refine x4x fun K23 hK23 => ?_
 refine y0y rfl (fun hc24 => ?_) (fun hc24 => ?_)
 rotate_left
 ·simp at hc24
 try simp at hc24
 refine y1y ?_
 refine hK23 _ _ ?_
 clear hK23 K23
 refine x4x fun K25 hK25 => ?_
 refine y5y ?_
 refine x6x x9x (by rfl) ?_
 refine x0x rfl ?_
 refine x2x rfl ?_
 refine y2y x9x (by rfl) ?_
 refine x0x rfl ?_
 refine x0x rfl ?_
 refine z6z [0] [_] (z4z c bs hbs hbl X3.2 hx3) rfl rfl rfl (by decide) rfl rfl (by repeat (first | exact InH.nil | refine InH.cons rfl ?_)) (by (simp only [pI, y8y, y9y, w5w, gl, nx, w0w, Nat.beq]; rfl)) (by (simp only [pI, y8y, y9y, w5w, gl, nx, w0w, Nat.beq]; rfl)) ?_
 refine s2s x9x (j := 4) rfl rfl a0u rfl y3y (by decide) rfl ?_
 refine u4u rfl rfl y3y rfl rfl rfl rfl rfl (show _ = [pI X0.1, pI X1.1, pI X2.1, pI X3.1, pI (a0q bs X3.2).1, pI 0, pI 0] from rfl) ?_
 obtain ⟨X4, hX4⟩ : ∃ X, a0q bs X3.2 = X := ⟨_, rfl⟩
 rw [hX4]
 have hx4 : X4.2.at' ≤ bs.length := by rw [← hX4]; exact r4r hx3
 refine hK25 _ _ ?_
 clear hK25 K25
 refine y2y x9x (by rfl) ?_
 refine u0u (.int .i64 5) rfl rfl rfl (p8p rfl (by omega) (by omega) (by omega)) ?_
 refine x0x rfl ?_
 refine hK22 _ _ ?_
 clear hK22 K22
 refine w2w fun K26 hK26 => ?_
 refine x6x x9x (by rfl) ?_
 refine y6y rfl rfl rfl ?_
 refine x4x fun K27 hK27 => ?_
 refine y0y rfl (fun hc28 => ?_) (fun hc28 => ?_)
 rotate_left
 ·simp at hc28
 try simp at hc28
 refine y1y ?_
 refine hK27 _ _ ?_
 clear hK27 K27
 refine x4x fun K29 hK29 => ?_
 refine y5y ?_
 refine x6x x9x (by rfl) ?_
 refine x0x rfl ?_
 refine x2x rfl ?_
 refine y2y x9x (by rfl) ?_
 refine x0x rfl ?_
 refine x0x rfl ?_
 refine z6z [0] [_] (z4z c bs hbs hbl X4.2 hx4) rfl rfl rfl (by decide) rfl rfl (by repeat (first | exact InH.nil | refine InH.cons rfl ?_)) (by (simp only [pI, y8y, y9y, w5w, gl, nx, w0w, Nat.beq]; rfl)) (by (simp only [pI, y8y, y9y, w5w, gl, nx, w0w, Nat.beq]; rfl)) ?_
 refine s2s x9x (j := 5) rfl rfl a0u rfl y3y (by decide) rfl ?_
 refine u4u rfl rfl y3y rfl rfl rfl rfl rfl (show _ = [pI X0.1, pI X1.1, pI X2.1, pI X3.1, pI X4.1, pI (a0q bs X4.2).1, pI 0] from rfl) ?_
 obtain ⟨X5, hX5⟩ : ∃ X, a0q bs X4.2 = X := ⟨_, rfl⟩
 rw [hX5]
 have hx5 : X5.2.at' ≤ bs.length := by rw [← hX5]; exact r4r hx4
 refine hK29 _ _ ?_
 clear hK29 K29
 refine y2y x9x (by rfl) ?_
 refine u0u (.int .i64 6) rfl rfl rfl (p8p rfl (by omega) (by omega) (by omega)) ?_
 refine x0x rfl ?_
 refine hK26 _ _ ?_
 clear hK26 K26
 refine w2w fun K30 hK30 => ?_
 refine x6x x9x (by rfl) ?_
 refine y6y rfl rfl rfl ?_
 refine x4x fun K31 hK31 => ?_
 refine y0y rfl (fun hc32 => ?_) (fun hc32 => ?_)
 rotate_left
 ·simp at hc32
 try simp at hc32
 refine y1y ?_
 refine hK31 _ _ ?_
 clear hK31 K31
 refine x4x fun K33 hK33 => ?_
 refine y5y ?_
 refine x6x x9x (by rfl) ?_
 refine x0x rfl ?_
 refine x2x rfl ?_
 refine y2y x9x (by rfl) ?_
 refine x0x rfl ?_
 refine x0x rfl ?_
 refine z6z [0] [_] (z4z c bs hbs hbl X5.2 hx5) rfl rfl rfl (by decide) rfl rfl (by repeat (first | exact InH.nil | refine InH.cons rfl ?_)) (by (simp only [pI, y8y, y9y, w5w, gl, nx, w0w, Nat.beq]; rfl)) (by (simp only [pI, y8y, y9y, w5w, gl, nx, w0w, Nat.beq]; rfl)) ?_
 refine s2s x9x (j := 6) rfl rfl a0u rfl y3y (by decide) rfl ?_
 refine u4u rfl rfl y3y rfl rfl rfl rfl rfl (show _ = [pI X0.1, pI X1.1, pI X2.1, pI X3.1, pI X4.1, pI X5.1, pI (a0q bs X5.2).1] from rfl) ?_
 obtain ⟨X6, hX6⟩ : ∃ X, a0q bs X5.2 = X := ⟨_, rfl⟩
 rw [hX6]
 have hx6 : X6.2.at' ≤ bs.length := by rw [← hX6]; exact r4r hx5
 refine hK33 _ _ ?_
 clear hK33 K33
 refine y2y x9x (by rfl) ?_
 refine u0u (.int .i64 7) rfl rfl rfl (p8p rfl (by omega) (by omega) (by omega)) ?_
 refine x0x rfl ?_
 refine hK30 _ _ ?_
 clear hK30 K30
 refine w2w fun K34 hK34 => ?_
 refine x6x x9x (by rfl) ?_
 refine y6y rfl rfl rfl ?_
 refine x4x fun K35 hK35 => ?_
 refine y0y rfl (fun hc36 => ?_) (fun hc36 => ?_)
 ·simp at hc36
 try simp at hc36
 refine v3v ?_
 refine hK5 _ _ ?_
 clear hK35 K35 hK34 K34 hK5 K5
 refine y2y x9x (by rfl) ?_
 refine x0x rfl ?_
 refine u2u rfl a0u rfl rfl rfl ?_
 refine z2z rfl rfl rfl (a4b (b6e [X0.1, X1.1, X2.1, X3.1, X4.1, X5.1, X6.1])) ?_
 refine a2k (id := 3) w8w rfl u3u rfl rfl rfl rfl rfl rfl ?_
 have hQ : a3q bs 7 q = ([X0.1, X1.1, X2.1, X3.1, X4.1, X5.1, X6.1], X6.2) := by simp only [a3q, hX0, hX1, hX2, hX3, hX4, hX5, hX6]
 have hS : b1y bs (C.1.toNat - i) q = (b6e [X0.1, X1.1, X2.1, X3.1, X4.1, X5.1, X6.1] :: (b1y bs (C.1.toNat - (i + 1)) X6.2).1, (b1y bs (C.1.toNat - (i + 1)) X6.2).2) := by rw [show C.1.toNat - i = (C.1.toNat - (i + 1)) + 1 by omega]; show (b6e (a3q bs 7 q).1 :: (b1y bs _ (a3q bs 7 q).2).1, _) = _; rw [hQ]
 refine a0g (zs := (l ++ [b6e [X0.1, X1.1, X2.1, X3.1, X4.1, X5.1, X6.1]]).map s6s) rfl rfl w8w rfl u3u rfl rfl rfl rfl (by rfl) (by rw [List.map_append]; rfl) (by (simp only [List.length_map, List.length_append, List.length_cons, List.length_nil, List.length_take, T81]; omega)) ?_
 refine x2x rfl ?_
 refine hK4 _ _ ?_
 clear hK4 K4
 refine y2y x9x (by rfl) ?_
 refine a0r rfl rfl rfl ?_
 refine x0x rfl ?_
 exact ⟨(l ++ [b6e [X0.1, X1.1, X2.1, X3.1, X4.1, X5.1, X6.1]], i + 1, X6.2), ⟨⟨by show i + 1 ≤ C.1.toNat; omega, by show (l ++ [_]).length = i + 1; rw [List.length_append, h2]; rfl, hx6, by show (l ++ [_]) ++ (b1y bs (C.1.toNat - (i + 1)) _).1 = F.1; rw [hS] at h4; rw [← h4, List.append_assoc]; rfl, by show (b1y bs (C.1.toNat - (i + 1)) _).2 = F.2; rw [hS] at h5; exact h5⟩, (by show C.1.toNat - (i + 1) < C.1.toNat - i; omega)⟩, [0, _, _, _, _], (x7x 3 rfl (Cov.cons' (t := 8) rfl (by rw [v9v (by omega) (by omega)]; rfl) Cov.nil)), (x7x 0 rfl (x7x 7 rfl Cov.nil)), (HE.row rfl rfl (HE.kill rfl (HE.kill rfl (HE.kill rfl (HE.box rfl rfl HE.nil))))), HE.nil, rfl⟩
set_option maxRecDepth 20000 in
theorem a3n (c : Bool) (bs : List Nat) (hbs : ∀ b ∈ bs, b < 256) (hbl : bs.length ≤ 100000000) (u : Up) (hu : u.at' ≤ bs.length) : Meth Try.prog 25 2 [0] [.ptr 0 0 0] [(0, (0, .box 50 [v7v c bs, pI ((u.at' : Nat) : Int), .pv (a6m u.err)])), (1, (0, .dead))] (.ref 1 0) [(0, (0, .box 50 [v7v c bs, pI (((c0s bs u).2.at' : Nat) : Int), .pv (a6m (c0s bs u).2.err)])), (1, (0, .row 84 5 (((c0s bs u).1).map a0n)))] := by
 refine v8v x9x (fn := Try.f25) (by kernel_rfl) (by kernel_rfl) rfl (O0 := [.ref 1 0]) 2 4 (v2v rfl) (by rfl) (by repeat (first | exact BndH.nil | refine BndH.dead ?_ | refine BndH.box rfl ?_)) (by repeat (first | exact BndH.nil | refine BndH.box rfl ?_ | refine BndH.row (w3w fun _ => rfl) ?_)) (by rfl) fun γ => ?_
 show Ex Try.prog _ _ [(0, .ptr 0 (γ 0) 0)] [(0, ((γ 0), .box 50 [v7v c bs, pI ((u.at' : Nat) : Int), .pv (a6m u.err)])), (1, ((γ 1), .dead)), (5, (0, .dead)), (4, (0, .dead)), (3, (0, .dead)), (2, (0, .dead))] _
 obtain ⟨F, hF⟩ : ∃ F, c0s bs u = F := ⟨_, rfl⟩
 rw [hF]
 unfold c0s at hF
 have hc := a8z bs u (m := 96) (by omega)
 have hca := a2q (m := 96) hu
 refine x6x x9x (by rfl) ?_
 refine x2x rfl ?_
 refine x6x x9x (by rfl) ?_
 refine x2x rfl ?_
 refine x4x fun K1 hK1 => ?_
 refine x6x x9x (by rfl) ?_
 refine x0x rfl ?_
 refine z6z [0] [_] (a0h c bs hbs hbl u hu 96) rfl rfl rfl (by decide) rfl rfl (by repeat (first | exact InH.nil | refine InH.cons rfl ?_)) (by (simp only [pI, y8y, y9y, w5w, gl, nx, w0w, Nat.beq]; rfl)) (by (simp only [pI, y8y, y9y, w5w, gl, nx, w0w, Nat.beq]; rfl)) ?_
 refine x0x rfl ?_
 obtain ⟨C, hC⟩ : ∃ C, q9q bs 96 u = C := ⟨_, rfl⟩
 rw [hC] at hF hc hca ⊢
 refine y5y ?_
 refine a8r 3 1 84 5 rfl rfl ?_
 refine v1v (ι := List Ou × Nat × Up) (fun p γ1 => [(3, .ref 1 (γ1 1)), (9, .pv (.int .i64 (p.2.1 : Int)))]) (fun p γ1 => [(1, ((γ1 1), .row 84 5 (p.1.map a0n))), (2, ((γ1 2), .dead)), (3, ((γ1 3), .dead)), (4, ((γ1 4), .dead)), (5, ((γ1 5), .dead)), (0, ((γ 0), .box 50 [v7v c bs, pI ((p.2.2.at' : Nat) : Int), .pv (a6m p.2.2.err)]))]) (fun p => p.2.1 ≤ C.1.toNat ∧ p.1.length = p.2.1 ∧ p.2.2.at' ≤ bs.length ∧ p.1 ++ (b3e bs (C.1.toNat - p.2.1) p.2.2).1 = F.1 ∧ (b3e bs (C.1.toNat - p.2.1) p.2.2).2 = F.2) (fun p => C.1.toNat - p.2.1) (x7x 0 rfl (x7x 8 rfl Cov.nil)) HE.nil ([], 0, C.2) ⟨Nat.zero_le _, rfl, hca, by rw [← hF]; rfl, by rw [← hF]; rfl⟩ [0, _, _, _, _, _] (x7x 3 rfl (x7x 9 rfl Cov.nil)) (HE.row rfl rfl (HE.kill rfl (HE.kill rfl (HE.kill rfl (HE.kill rfl (HE.box rfl rfl HE.nil)))))) rfl fun p γ1 hi => ?_
 try dsimp only [List.cons_append, List.nil_append]
 obtain ⟨l, i, q⟩ := p
 obtain ⟨h1, h2, h3, h4, h5⟩ := hi
 dsimp only at h1 h2 h3 h4 h5 ⊢
 refine x6x x9x (by rfl) ?_
 refine y6y rfl rfl rfl ?_
 refine x4x fun K2 hK2 => ?_
 refine y0y rfl (fun hc3 => ?_) (fun hc3 => ?_)
 rotate_left
 ·try simp at hc3
  rw [show C.1.toNat - i = 0 by omega] at h4 h5
  unfold b3e at h4 h5
  rw [List.append_nil] at h4
  obtain ⟨F1, F2⟩ := F
  dsimp only at h4 h5
  subst h4 h5
  refine v3v ?_
  refine hK1 _ _ ?_
  clear hK2 K2 hK1 K1
  refine x6x x9x (by rfl) ?_
  refine x0x rfl ?_
  refine x2x rfl ?_
  refine y4y ?_
  exact ⟨.inr rfl, [γ 0, _], rfl, rfl, HE.box rfl rfl (HE.row rfl rfl HE.nil)⟩
 try simp at hc3
 refine y1y ?_
 refine hK2 _ _ ?_
 clear hK2 K2
 refine x4x fun K4 hK4 => ?_
 refine y5y ?_
 refine x6x x9x (by rfl) ?_
 refine q0q (id := 2) u7u b5z rfl ?_
 refine x4x fun K5 hK5 => ?_
 refine x6x x9x (by rfl) ?_
 refine x1x rfl u7u rfl rfl y3y rfl rfl ?_
 refine x1x rfl u7u rfl rfl y3y rfl rfl ?_
 refine x1x rfl u7u rfl rfl y3y rfl rfl ?_
 refine x1x rfl u7u rfl rfl y3y rfl rfl ?_
 refine x1x rfl u7u rfl rfl y3y rfl rfl ?_
 refine q4q (id := 3) a4w rfl a1j rfl rfl rfl rfl (.val rfl rfl (.val rfl rfl (.val rfl rfl (.val rfl rfl (.val rfl rfl .nil))))) rfl (v2v rfl) (v2v rfl) (v2v rfl) rfl rfl ?_
 refine a5h (n := 5) rfl a4w rfl rfl rfl ?_
 refine x0x rfl ?_
 refine y5y ?_
 refine a2p 6 ?_
 refine w2w fun K6 hK6 => ?_
 refine x6x x9x (by rfl) ?_
 refine y6y rfl rfl rfl ?_
 refine x4x fun K7 hK7 => ?_
 refine y0y rfl (fun hc8 => ?_) (fun hc8 => ?_)
 rotate_left
 ·simp at hc8
 try simp at hc8
 refine y1y ?_
 refine hK7 _ _ ?_
 clear hK7 K7
 refine x4x fun K9 hK9 => ?_
 refine y5y ?_
 refine x6x x9x (by rfl) ?_
 refine a1e (f := fun n : Nat => [AV.ptr 2 _ n]) (l := [0, 1, 2, 3, 4]) (j := 0) rfl rfl a4w rfl a1j rfl rfl (by decide) ?_
 refine a0i (f := fun n : Nat => [AV.ptr 2 _ n]) (l := [0, 1, 2, 3, 4]) rfl a1j rfl (show ([0, 1, 2, 3, 4] : List Nat)[0]? = some 0 from rfl) rfl ?_
 refine x2x rfl ?_
 refine y2y x9x (by rfl) ?_
 refine x0x rfl ?_
 refine x0x rfl ?_
 refine z6z [0] [_] (z4z c bs hbs hbl q h3) rfl rfl rfl (by decide) rfl rfl (by repeat (first | exact InH.nil | refine InH.cons rfl ?_)) (by (simp only [pI, y8y, y9y, w5w, gl, nx, w0w, Nat.beq]; rfl)) (by (simp only [pI, y8y, y9y, w5w, gl, nx, w0w, Nat.beq]; rfl)) ?_
 refine u1u rfl rfl ?_
 refine u4u rfl rfl y3y rfl rfl rfl rfl rfl (show _ = [pI (a0q bs q).1, pI 0, pI 0, pI 0, pI 0] from rfl) ?_
 obtain ⟨X0, hX0⟩ : ∃ X, a0q bs q = X := ⟨_, rfl⟩
 rw [hX0]
 have hx0 : X0.2.at' ≤ bs.length := by rw [← hX0]; exact r4r h3
 refine hK9 _ _ ?_
 clear hK9 K9
 refine y2y x9x (by rfl) ?_
 refine u0u (.int .i64 1) rfl rfl rfl (p8p rfl (by omega) (by omega) (by omega)) ?_
 refine x0x rfl ?_
 refine hK6 _ _ ?_
 clear hK6 K6
 refine w2w fun K10 hK10 => ?_
 refine x6x x9x (by rfl) ?_
 refine y6y rfl rfl rfl ?_
 refine x4x fun K11 hK11 => ?_
 refine y0y rfl (fun hc12 => ?_) (fun hc12 => ?_)
 rotate_left
 ·simp at hc12
 try simp at hc12
 refine y1y ?_
 refine hK11 _ _ ?_
 clear hK11 K11
 refine x4x fun K13 hK13 => ?_
 refine y5y ?_
 refine x6x x9x (by rfl) ?_
 refine a1e (f := fun n : Nat => [AV.ptr 2 _ n]) (l := [0, 1, 2, 3, 4]) (j := 1) rfl rfl a4w rfl a1j rfl rfl (by decide) ?_
 refine a0i (f := fun n : Nat => [AV.ptr 2 _ n]) (l := [0, 1, 2, 3, 4]) rfl a1j rfl (show ([0, 1, 2, 3, 4] : List Nat)[1]? = some 1 from rfl) rfl ?_
 refine x2x rfl ?_
 refine y2y x9x (by rfl) ?_
 refine x0x rfl ?_
 refine x0x rfl ?_
 refine z6z [0] [_] (z4z c bs hbs hbl X0.2 hx0) rfl rfl rfl (by decide) rfl rfl (by repeat (first | exact InH.nil | refine InH.cons rfl ?_)) (by (simp only [pI, y8y, y9y, w5w, gl, nx, w0w, Nat.beq]; rfl)) (by (simp only [pI, y8y, y9y, w5w, gl, nx, w0w, Nat.beq]; rfl)) ?_
 refine u1u rfl rfl ?_
 refine u4u rfl rfl y3y rfl rfl rfl rfl rfl (show _ = [pI X0.1, pI (a0q bs X0.2).1, pI 0, pI 0, pI 0] from rfl) ?_
 obtain ⟨X1, hX1⟩ : ∃ X, a0q bs X0.2 = X := ⟨_, rfl⟩
 rw [hX1]
 have hx1 : X1.2.at' ≤ bs.length := by rw [← hX1]; exact r4r hx0
 refine hK13 _ _ ?_
 clear hK13 K13
 refine y2y x9x (by rfl) ?_
 refine u0u (.int .i64 2) rfl rfl rfl (p8p rfl (by omega) (by omega) (by omega)) ?_
 refine x0x rfl ?_
 refine hK10 _ _ ?_
 clear hK10 K10
 refine w2w fun K14 hK14 => ?_
 refine x6x x9x (by rfl) ?_
 refine y6y rfl rfl rfl ?_
 refine x4x fun K15 hK15 => ?_
 refine y0y rfl (fun hc16 => ?_) (fun hc16 => ?_)
 rotate_left
 ·simp at hc16
 try simp at hc16
 refine y1y ?_
 refine hK15 _ _ ?_
 clear hK15 K15
 refine x4x fun K17 hK17 => ?_
 refine y5y ?_
 refine x6x x9x (by rfl) ?_
 refine a1e (f := fun n : Nat => [AV.ptr 2 _ n]) (l := [0, 1, 2, 3, 4]) (j := 2) rfl rfl a4w rfl a1j rfl rfl (by decide) ?_
 refine a0i (f := fun n : Nat => [AV.ptr 2 _ n]) (l := [0, 1, 2, 3, 4]) rfl a1j rfl (show ([0, 1, 2, 3, 4] : List Nat)[2]? = some 2 from rfl) rfl ?_
 refine x2x rfl ?_
 refine y2y x9x (by rfl) ?_
 refine x0x rfl ?_
 refine x0x rfl ?_
 refine z6z [0] [_] (z4z c bs hbs hbl X1.2 hx1) rfl rfl rfl (by decide) rfl rfl (by repeat (first | exact InH.nil | refine InH.cons rfl ?_)) (by (simp only [pI, y8y, y9y, w5w, gl, nx, w0w, Nat.beq]; rfl)) (by (simp only [pI, y8y, y9y, w5w, gl, nx, w0w, Nat.beq]; rfl)) ?_
 refine u1u rfl rfl ?_
 refine u4u rfl rfl y3y rfl rfl rfl rfl rfl (show _ = [pI X0.1, pI X1.1, pI (a0q bs X1.2).1, pI 0, pI 0] from rfl) ?_
 obtain ⟨X2, hX2⟩ : ∃ X, a0q bs X1.2 = X := ⟨_, rfl⟩
 rw [hX2]
 have hx2 : X2.2.at' ≤ bs.length := by rw [← hX2]; exact r4r hx1
 refine hK17 _ _ ?_
 clear hK17 K17
 refine y2y x9x (by rfl) ?_
 refine u0u (.int .i64 3) rfl rfl rfl (p8p rfl (by omega) (by omega) (by omega)) ?_
 refine x0x rfl ?_
 refine hK14 _ _ ?_
 clear hK14 K14
 refine w2w fun K18 hK18 => ?_
 refine x6x x9x (by rfl) ?_
 refine y6y rfl rfl rfl ?_
 refine x4x fun K19 hK19 => ?_
 refine y0y rfl (fun hc20 => ?_) (fun hc20 => ?_)
 rotate_left
 ·simp at hc20
 try simp at hc20
 refine y1y ?_
 refine hK19 _ _ ?_
 clear hK19 K19
 refine x4x fun K21 hK21 => ?_
 refine y5y ?_
 refine x6x x9x (by rfl) ?_
 refine a1e (f := fun n : Nat => [AV.ptr 2 _ n]) (l := [0, 1, 2, 3, 4]) (j := 3) rfl rfl a4w rfl a1j rfl rfl (by decide) ?_
 refine a0i (f := fun n : Nat => [AV.ptr 2 _ n]) (l := [0, 1, 2, 3, 4]) rfl a1j rfl (show ([0, 1, 2, 3, 4] : List Nat)[3]? = some 3 from rfl) rfl ?_
 refine x2x rfl ?_
 refine y2y x9x (by rfl) ?_
 refine x0x rfl ?_
 refine x0x rfl ?_
 refine z6z [0] [_] (z4z c bs hbs hbl X2.2 hx2) rfl rfl rfl (by decide) rfl rfl (by repeat (first | exact InH.nil | refine InH.cons rfl ?_)) (by (simp only [pI, y8y, y9y, w5w, gl, nx, w0w, Nat.beq]; rfl)) (by (simp only [pI, y8y, y9y, w5w, gl, nx, w0w, Nat.beq]; rfl)) ?_
 refine u1u rfl rfl ?_
 refine u4u rfl rfl y3y rfl rfl rfl rfl rfl (show _ = [pI X0.1, pI X1.1, pI X2.1, pI (a0q bs X2.2).1, pI 0] from rfl) ?_
 obtain ⟨X3, hX3⟩ : ∃ X, a0q bs X2.2 = X := ⟨_, rfl⟩
 rw [hX3]
 have hx3 : X3.2.at' ≤ bs.length := by rw [← hX3]; exact r4r hx2
 refine hK21 _ _ ?_
 clear hK21 K21
 refine y2y x9x (by rfl) ?_
 refine u0u (.int .i64 4) rfl rfl rfl (p8p rfl (by omega) (by omega) (by omega)) ?_
 refine x0x rfl ?_
 refine hK18 _ _ ?_
 clear hK18 K18
 refine w2w fun K22 hK22 => ?_
 refine x6x x9x (by rfl) ?_
 refine y6y rfl rfl rfl ?_
 refine x4x fun K23 hK23 => ?_
 refine y0y rfl (fun hc24 => ?_) (fun hc24 => ?_)
 rotate_left
 ·simp at hc24
 try simp at hc24
 refine y1y ?_
 refine hK23 _ _ ?_
 clear hK23 K23
 refine x4x fun K25 hK25 => ?_
 refine y5y ?_
 refine x6x x9x (by rfl) ?_
 refine a1e (f := fun n : Nat => [AV.ptr 2 _ n]) (l := [0, 1, 2, 3, 4]) (j := 4) rfl rfl a4w rfl a1j rfl rfl (by decide) ?_
 refine a0i (f := fun n : Nat => [AV.ptr 2 _ n]) (l := [0, 1, 2, 3, 4]) rfl a1j rfl (show ([0, 1, 2, 3, 4] : List Nat)[4]? = some 4 from rfl) rfl ?_
 refine x2x rfl ?_
 refine y2y x9x (by rfl) ?_
 refine x0x rfl ?_
 refine x0x rfl ?_
 refine z6z [0] [_] (z4z c bs hbs hbl X3.2 hx3) rfl rfl rfl (by decide) rfl rfl (by repeat (first | exact InH.nil | refine InH.cons rfl ?_)) (by (simp only [pI, y8y, y9y, w5w, gl, nx, w0w, Nat.beq]; rfl)) (by (simp only [pI, y8y, y9y, w5w, gl, nx, w0w, Nat.beq]; rfl)) ?_
 refine u1u rfl rfl ?_
 refine u4u rfl rfl y3y rfl rfl rfl rfl rfl (show _ = [pI X0.1, pI X1.1, pI X2.1, pI X3.1, pI (a0q bs X3.2).1] from rfl) ?_
 obtain ⟨X4, hX4⟩ : ∃ X, a0q bs X3.2 = X := ⟨_, rfl⟩
 rw [hX4]
 have hx4 : X4.2.at' ≤ bs.length := by rw [← hX4]; exact r4r hx3
 refine hK25 _ _ ?_
 clear hK25 K25
 refine y2y x9x (by rfl) ?_
 refine u0u (.int .i64 5) rfl rfl rfl (p8p rfl (by omega) (by omega) (by omega)) ?_
 refine x0x rfl ?_
 refine hK22 _ _ ?_
 clear hK22 K22
 refine w2w fun K26 hK26 => ?_
 refine x6x x9x (by rfl) ?_
 refine y6y rfl rfl rfl ?_
 refine x4x fun K27 hK27 => ?_
 refine y0y rfl (fun hc28 => ?_) (fun hc28 => ?_)
 ·simp at hc28
 try simp at hc28
 refine v3v ?_
 refine hK5 _ _ ?_
 clear hK27 K27 hK26 K26 hK5 K5
 refine y2y x9x (by rfl) ?_
 refine x0x rfl ?_
 refine u2u rfl u7u rfl rfl rfl ?_
 refine a2k (id := 4) w7w rfl u7u rfl rfl rfl rfl rfl rfl ?_
 have hQ : a3q bs 5 q = ([X0.1, X1.1, X2.1, X3.1, X4.1], X4.2) := by simp only [a3q, hX0, hX1, hX2, hX3, hX4]
 have hS : b3e bs (C.1.toNat - i) q = (b3m [X0.1, X1.1, X2.1, X3.1, X4.1] :: (b3e bs (C.1.toNat - (i + 1)) X4.2).1, (b3e bs (C.1.toNat - (i + 1)) X4.2).2) := by rw [show C.1.toNat - i = (C.1.toNat - (i + 1)) + 1 by omega]; show (b3m (a3q bs 5 q).1 :: (b3e bs _ (a3q bs 5 q).2).1, _) = _; rw [hQ]
 refine a0g (zs := (l ++ [b3m [X0.1, X1.1, X2.1, X3.1, X4.1]]).map a0n) rfl rfl w7w rfl u7u rfl rfl rfl rfl (by rfl) (by rw [List.map_append]; rfl) (by (simp only [List.length_map, List.length_append, List.length_cons, List.length_nil, List.length_take, T84]; omega)) ?_
 refine x2x rfl ?_
 refine hK4 _ _ ?_
 clear hK4 K4
 refine y2y x9x (by rfl) ?_
 refine a0r rfl rfl rfl ?_
 refine x0x rfl ?_
 exact ⟨(l ++ [b3m [X0.1, X1.1, X2.1, X3.1, X4.1]], i + 1, X4.2), ⟨⟨by show i + 1 ≤ C.1.toNat; omega, by show (l ++ [_]).length = i + 1; rw [List.length_append, h2]; rfl, hx4, by show (l ++ [_]) ++ (b3e bs (C.1.toNat - (i + 1)) _).1 = F.1; rw [hS] at h4; rw [← h4, List.append_assoc]; rfl, by show (b3e bs (C.1.toNat - (i + 1)) _).2 = F.2; rw [hS] at h5; exact h5⟩, (by show C.1.toNat - (i + 1) < C.1.toNat - i; omega)⟩, [0, _, _, _, _, _], (x7x 3 rfl (Cov.cons' (t := 9) rfl (by rw [v9v (by omega) (by omega)]; rfl) Cov.nil)), (x7x 0 rfl (x7x 8 rfl Cov.nil)), (HE.row rfl rfl (HE.kill rfl (HE.kill rfl (HE.kill rfl (HE.kill rfl (HE.box rfl rfl HE.nil)))))), HE.nil, rfl⟩
end
end Go.Proofs.Ytdelokimkggeaaa.Am
