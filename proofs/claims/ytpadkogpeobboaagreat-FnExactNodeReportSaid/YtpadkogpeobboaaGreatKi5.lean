/- Part 5 of the texts that the proof of LawFnExactNodeReport leans on, merged by program. -/
import Derived.Test.YtpadkogpeobboaaGreatKi4
set_option linter.unusedVariables false
set_option linter.unusedSimpArgs false
namespace Go.Proofs.YtpadkogpeobboaaGreat.Am
open Go Go.RowKit
section
theorem b9r (c : Bool) (p : Pa) (proc : Int) : s8s Tryz.prog 197 [.agg (a2c c p), .pv (.int .i64 proc)] (.pv (.bool (b1w proc p))) := by
 refine z1z x6x (fn := Tryz.f197) (by kernel_rfl) (by kernel_rfl) rfl (outs := [.pv (.bool (b1w proc p))]) (by rfl) (Nat.le_of_ble_eq_true rfl) 1 ?_
 refine x4x x6x (by rfl) ?_
 refine v1v (id := 0) rfl rfl rfl ?_
 refine x2x rfl ?_
 refine x4x x6x (by rfl) ?_
 refine x0x rfl v8v rfl rfl z3z rfl rfl ?_
 refine x3x (out := .agg (v6v p.ev)) rfl z3z rfl rfl ?_
 refine y9y rfl rfl rfl (a9l ..) ?_
 refine x1x rfl ?_
 refine s1s rfl rfl (fun hg1 => ?_) (fun hg1 => ?_)
 rotate_left
 ·try simp at hg1
  refine x7x rfl rfl ?_
  refine x7x rfl rfl ?_
  refine x7x rfl rfl ?_
  refine x7x rfl rfl ?_
  refine y2y rfl rfl ?_
  refine x1x rfl ?_
  refine x7x rfl rfl ?_
  refine x7x rfl rfl ?_
  refine x7x rfl rfl ?_
  refine y2y rfl rfl ?_
  refine x1x rfl ?_
  refine x7x rfl rfl ?_
  refine x7x rfl rfl ?_
  refine x7x rfl rfl ?_
  refine y2y rfl rfl ?_
  refine x1x rfl ?_
  refine x7x rfl rfl ?_
  refine x7x rfl rfl ?_
  refine x7x rfl rfl ?_
  refine y2y rfl rfl ?_
  refine x2x rfl ?_
  refine y0y ⟨.inr rfl, ?_⟩
  refine y8y rfl ?_ rfl
  simp [b1w, *]
 try simp at hg1
 refine x0x rfl v8v rfl rfl z3z rfl rfl ?_
 refine y5y rfl rfl ?_
 refine x0x rfl z3z rfl rfl y6y rfl rfl ?_
 refine y5y rfl rfl ?_
 refine x3x rfl y6y rfl rfl ?_
 refine y5y rfl rfl ?_
 refine x1x rfl ?_
 refine y5y rfl rfl ?_
 refine y1y rfl rfl rfl ?_
 refine z0z rfl rfl ?_
 refine x1x rfl ?_
 refine s1s rfl rfl (fun hg2 => ?_) (fun hg2 => ?_)
 rotate_left
 ·try simp at hg2
  refine x7x rfl rfl ?_
  refine x7x rfl rfl ?_
  refine y2y rfl rfl ?_
  refine x1x rfl ?_
  refine x7x rfl rfl ?_
  refine x7x rfl rfl ?_
  refine x7x rfl rfl ?_
  refine y2y rfl rfl ?_
  refine x1x rfl ?_
  refine x7x rfl rfl ?_
  refine x7x rfl rfl ?_
  refine x7x rfl rfl ?_
  refine y2y rfl rfl ?_
  refine x2x rfl ?_
  refine y0y ⟨.inr rfl, ?_⟩
  refine y8y rfl ?_ rfl
  simp [b1w, *]
 try simp at hg2
 refine x0x rfl v8v rfl rfl q5q rfl rfl ?_
 refine y5y rfl rfl ?_
 refine x3x (out := .agg (a0e p.after)) rfl q5q rfl rfl ?_
 refine y5y rfl rfl ?_
 refine y9y rfl rfl rfl (a9k ..) ?_
 refine z0z rfl rfl ?_
 refine x1x rfl ?_
 refine s1s rfl rfl (fun hg3 => ?_) (fun hg3 => ?_)
 rotate_left
 ·try simp at hg3
  refine x7x rfl rfl ?_
  refine x7x rfl rfl ?_
  refine y2y rfl rfl ?_
  refine x1x rfl ?_
  refine x7x rfl rfl ?_
  refine x7x rfl rfl ?_
  refine x7x rfl rfl ?_
  refine y2y rfl rfl ?_
  refine x2x rfl ?_
  refine y0y ⟨.inr rfl, ?_⟩
  refine y8y rfl ?_ rfl
  simp [b1w, *]
 try simp at hg3
 refine x0x rfl v8v rfl rfl u7u rfl rfl ?_
 refine y5y rfl rfl ?_
 refine x3x rfl u7u rfl rfl ?_
 refine y5y rfl rfl ?_
 refine y9y rfl rfl rfl (a5d ..) ?_
 refine z0z rfl rfl ?_
 refine x1x rfl ?_
 refine s1s rfl rfl (fun hg4 => ?_) (fun hg4 => ?_)
 rotate_left
 ·try simp at hg4
  refine x7x rfl rfl ?_
  refine x7x rfl rfl ?_
  refine y2y rfl rfl ?_
  refine x2x rfl ?_
  refine y0y ⟨.inr rfl, ?_⟩
  refine y8y rfl ?_ rfl
  simp [b1w, *]
 try simp at hg4
 refine x0x rfl v8v rfl rfl w6w rfl rfl ?_
 refine y5y rfl rfl ?_
 refine x3x rfl w6w rfl rfl ?_
 refine y5y rfl rfl ?_
 refine y9y rfl rfl rfl (b1q ..) ?_
 refine z0z rfl rfl ?_
 refine x2x rfl ?_
 refine y0y ⟨.inr rfl, ?_⟩
 refine y8y rfl ?_ rfl
 simp [b1w, *]
theorem b3j (c : Bool) (p : Pa) (proc : Int) : s8s Tryz.prog 130 [.agg (a2c c p), .pv (.int .i64 proc)] (.pv (.bool (b1w proc p))) := by
 refine z1z x6x (fn := Tryz.f130) (by kernel_rfl) (by kernel_rfl) rfl (outs := [.pv (.bool (b1w proc p))]) (by rfl) (Nat.le_of_ble_eq_true rfl) 1 ?_
 refine x4x x6x (by rfl) ?_
 refine v1v (id := 0) rfl rfl rfl ?_
 refine x2x rfl ?_
 refine x4x x6x (by rfl) ?_
 refine x0x rfl v8v rfl rfl z3z rfl rfl ?_
 refine x3x (out := .agg (v6v p.ev)) rfl z3z rfl rfl ?_
 refine y9y rfl rfl rfl (a7p ..) ?_
 refine x1x rfl ?_
 refine s1s rfl rfl (fun hg1 => ?_) (fun hg1 => ?_)
 rotate_left
 ·try simp at hg1
  refine x7x rfl rfl ?_
  refine x7x rfl rfl ?_
  refine x7x rfl rfl ?_
  refine x7x rfl rfl ?_
  refine y2y rfl rfl ?_
  refine x1x rfl ?_
  refine x7x rfl rfl ?_
  refine x7x rfl rfl ?_
  refine x7x rfl rfl ?_
  refine y2y rfl rfl ?_
  refine x1x rfl ?_
  refine x7x rfl rfl ?_
  refine x7x rfl rfl ?_
  refine x7x rfl rfl ?_
  refine y2y rfl rfl ?_
  refine x1x rfl ?_
  refine x7x rfl rfl ?_
  refine x7x rfl rfl ?_
  refine x7x rfl rfl ?_
  refine y2y rfl rfl ?_
  refine x2x rfl ?_
  refine y0y ⟨.inr rfl, ?_⟩
  refine y8y rfl ?_ rfl
  simp [b1w, *]
 try simp at hg1
 refine x0x rfl v8v rfl rfl z3z rfl rfl ?_
 refine y5y rfl rfl ?_
 refine x0x rfl z3z rfl rfl y6y rfl rfl ?_
 refine y5y rfl rfl ?_
 refine x3x rfl y6y rfl rfl ?_
 refine y5y rfl rfl ?_
 refine x1x rfl ?_
 refine y5y rfl rfl ?_
 refine y1y rfl rfl rfl ?_
 refine z0z rfl rfl ?_
 refine x1x rfl ?_
 refine s1s rfl rfl (fun hg2 => ?_) (fun hg2 => ?_)
 rotate_left
 ·try simp at hg2
  refine x7x rfl rfl ?_
  refine x7x rfl rfl ?_
  refine y2y rfl rfl ?_
  refine x1x rfl ?_
  refine x7x rfl rfl ?_
  refine x7x rfl rfl ?_
  refine x7x rfl rfl ?_
  refine y2y rfl rfl ?_
  refine x1x rfl ?_
  refine x7x rfl rfl ?_
  refine x7x rfl rfl ?_
  refine x7x rfl rfl ?_
  refine y2y rfl rfl ?_
  refine x2x rfl ?_
  refine y0y ⟨.inr rfl, ?_⟩
  refine y8y rfl ?_ rfl
  simp [b1w, *]
 try simp at hg2
 refine x0x rfl v8v rfl rfl q5q rfl rfl ?_
 refine y5y rfl rfl ?_
 refine x3x (out := .agg (a0e p.after)) rfl q5q rfl rfl ?_
 refine y5y rfl rfl ?_
 refine y9y rfl rfl rfl (a7o ..) ?_
 refine z0z rfl rfl ?_
 refine x1x rfl ?_
 refine s1s rfl rfl (fun hg3 => ?_) (fun hg3 => ?_)
 rotate_left
 ·try simp at hg3
  refine x7x rfl rfl ?_
  refine x7x rfl rfl ?_
  refine y2y rfl rfl ?_
  refine x1x rfl ?_
  refine x7x rfl rfl ?_
  refine x7x rfl rfl ?_
  refine x7x rfl rfl ?_
  refine y2y rfl rfl ?_
  refine x2x rfl ?_
  refine y0y ⟨.inr rfl, ?_⟩
  refine y8y rfl ?_ rfl
  simp [b1w, *]
 try simp at hg3
 refine x0x rfl v8v rfl rfl u7u rfl rfl ?_
 refine y5y rfl rfl ?_
 refine x3x rfl u7u rfl rfl ?_
 refine y5y rfl rfl ?_
 refine y9y rfl rfl rfl (a2o ..) ?_
 refine z0z rfl rfl ?_
 refine x1x rfl ?_
 refine s1s rfl rfl (fun hg4 => ?_) (fun hg4 => ?_)
 rotate_left
 ·try simp at hg4
  refine x7x rfl rfl ?_
  refine x7x rfl rfl ?_
  refine y2y rfl rfl ?_
  refine x2x rfl ?_
  refine y0y ⟨.inr rfl, ?_⟩
  refine y8y rfl ?_ rfl
  simp [b1w, *]
 try simp at hg4
 refine x0x rfl v8v rfl rfl w6w rfl rfl ?_
 refine y5y rfl rfl ?_
 refine x3x rfl w6w rfl rfl ?_
 refine y5y rfl rfl ?_
 refine y9y rfl rfl rfl (b1r ..) ?_
 refine z0z rfl rfl ?_
 refine x2x rfl ?_
 refine y0y ⟨.inr rfl, ?_⟩
 refine y8y rfl ?_ rfl
 simp [b1w, *]
theorem a2p  : s8s Tryz.prog 129 [] (.pv (.int .i64 100)) := by
 refine z1z x6x (fn := Tryz.f129) (by kernel_rfl) (by kernel_rfl) rfl (outs := [.pv (.int .i64 100)]) (by rfl) (Nat.le_of_ble_eq_true rfl) 0 ?_
 refine x4x x6x (by rfl) ?_
 refine x2x rfl ?_
 refine x4x x6x (by rfl) ?_
 refine x2x rfl ?_
 refine y0y ⟨.inr rfl, ?_⟩
 exact y8y rfl rfl rfl
theorem b9s (c : Bool) (l : La) : s8s Tryz.prog 123 [.agg (a1q c l)] (.pv (.bool (a7u l))) := by
 refine z1z x6x (fn := Tryz.f123) (by kernel_rfl) (by kernel_rfl) rfl (outs := [.pv (.bool (a7u l))]) (by rfl) (Nat.le_of_ble_eq_true rfl) 2 ?_
 refine x4x x6x (by rfl) ?_
 refine v1v (id := 0) rfl rfl rfl ?_
 refine x2x rfl ?_
 refine x5x fun K1 hK1 => ?_
 refine x4x x6x (by rfl) ?_
 refine x0x rfl v4v rfl rfl y6y rfl rfl ?_
 refine x3x rfl y6y rfl rfl ?_
 refine y9y rfl rfl rfl (a4e ..) ?_
 refine w3w rfl ?_
 refine x1x rfl ?_
 refine s1s rfl rfl (fun hg2 => ?_) (fun hg2 => ?_)
 rotate_left
 ·try simp at hg2
  have hn1 : ¬ (0 ≤ l.proc ∧ l.proc ≤ 3) := by omega
  refine x7x rfl rfl ?_
  refine x7x rfl rfl ?_
  refine x7x rfl rfl ?_
  refine z0z rfl rfl ?_
  refine x1x rfl ?_
  refine x7x rfl rfl ?_
  refine x7x rfl rfl ?_
  refine x7x rfl rfl ?_
  refine x7x rfl rfl ?_
  refine z0z rfl rfl ?_
  refine x8x rfl (fun hc15 => ?_) (fun hc15 => ?_)
  rotate_left
  ·simp at hc15
  try simp at hc15
  try have hn3 : ¬ l.done.length ≤ 100 := by omega
  refine x4x x6x (by rfl) ?_
  refine x2x rfl ?_
  refine y0y ⟨.inr rfl, ?_⟩
  clear hK1 K1
  refine y8y rfl ?_ rfl
  exact congrArg (fun b : Bool => [AV.pv (.bool b)]) (d1p hn1).symm
 try simp at hg2
 have hc1 : 0 ≤ l.proc ∧ l.proc ≤ 3 := by exact hg2
 refine x0x rfl v4v rfl rfl q5q rfl rfl ?_
 refine y5y rfl rfl ?_
 refine x3x (out := .agg (a0e l.base)) rfl q5q rfl rfl ?_
 refine y5y rfl rfl ?_
 refine y9y rfl rfl rfl (a9k ..) ?_
 refine y5y rfl rfl ?_
 refine w3w rfl ?_
 refine y2y rfl rfl ?_
 refine x1x rfl ?_
 refine s1s rfl rfl (fun hg3 => ?_) (fun hg3 => ?_)
 rotate_left
 ·try simp at hg3
  have hn2 : ¬ b7q l.base := by exact hg3
  refine x7x rfl rfl ?_
  refine x7x rfl rfl ?_
  refine x7x rfl rfl ?_
  refine z0z rfl rfl ?_
  refine x8x rfl (fun hc14 => ?_) (fun hc14 => ?_)
  rotate_left
  ·simp at hc14
  try simp at hc14
  try have hn3 : ¬ l.done.length ≤ 100 := by omega
  refine x4x x6x (by rfl) ?_
  refine x2x rfl ?_
  refine y0y ⟨.inr rfl, ?_⟩
  clear hK1 K1
  refine y8y rfl ?_ rfl
  exact congrArg (fun b : Bool => [AV.pv (.bool b)]) (d1q hn2).symm
 try simp at hg3
 have hc2 : b7q l.base := by exact hg3
 refine x0x rfl v4v rfl rfl v9v rfl rfl ?_
 refine y5y rfl rfl ?_
 refine x3x rfl v9v rfl rfl ?_
 refine y5y rfl rfl ?_
 refine u0u rfl v9v rfl ?_
 refine y5y rfl rfl ?_
 refine y1y rfl rfl rfl ?_
 refine y2y rfl rfl ?_
 refine x8x rfl (fun hc4 => ?_) (fun hc4 => ?_)
 ·try simp at hc4
  try have hn3 : ¬ l.done.length ≤ 100 := by omega
  refine x4x x6x (by rfl) ?_
  refine x2x rfl ?_
  refine y0y ⟨.inr rfl, ?_⟩
  clear hK1 K1
  refine y8y rfl ?_ rfl
  exact congrArg (fun b : Bool => [AV.pv (.bool b)]) (d1r hn3).symm
 try simp at hc4
 have hc3 : l.done.length ≤ 100 := by omega
 refine x9x ?_
 refine hK1 _ _ ?_
 clear hK1 K1
 refine x5x fun K5 hK5 => ?_
 refine x4x x6x (by rfl) ?_
 refine x0x rfl v4v rfl rfl v9v rfl rfl ?_
 refine x3x rfl v9v rfl rfl ?_
 refine u0u rfl v9v rfl ?_
 refine x1x rfl ?_
 refine y7y ?_
 refine u5u (ι := Nat) (fun i γ1 => [(24, .pv (.int .i64 (i : Int)))]) (fun i γ1 => [(1, ((γ1 1), .dead))]) (fun i => i ≤ l.done.length ∧ a7u l = a6b (b1w l.proc) d1o (a7s l.done i) (l.done.drop i)) (fun i => l.done.length - i) (Cov.cons (t := 1) rfl (Cov.cons (t := 22) rfl (Cov.cons (t := 23) rfl Cov.nil))) (HE.same (id := 0) rfl HE.nil) 0 ⟨by omega, c8h hc1 hc2 hc3⟩ [0, _] (Cov.cons (t := 24) rfl Cov.nil) (HE.kill rfl HE.nil) rfl fun i γ1 hi => ?_
 try dsimp only [List.cons_append, List.nil_append]
 obtain ⟨h1, h2⟩ := hi
 refine x4x x6x (by rfl) ?_
 refine y1y rfl rfl rfl ?_
 refine x5x fun K6 hK6 => ?_
 refine x8x rfl (fun hc7 => ?_) (fun hc7 => ?_)
 rotate_left
 ·try simp at hc7
  obtain rfl : i = l.done.length := by omega
  rw [List.drop_length] at h2
  refine v0v ?_
  refine hK5 _ _ ?_
  clear hK6 K6 hK5 K5
  refine x4x x6x (by rfl) ?_
  refine x2x rfl ?_
  refine y0y ⟨.inr rfl, ?_⟩
  refine y8y rfl ?_ rfl
  exact congrArg (fun b : Bool => [AV.pv (.bool b)]) h2.symm
 try simp at hc7
 obtain ⟨p, hp⟩ : ∃ p, l.done[i]? = some p := ⟨_, List.getElem?_eq_getElem (by omega)⟩
 rw [q1q hp] at h2
 refine x9x ?_
 refine hK6 _ _ ?_
 clear hK6 K6
 refine x5x fun K8 hK8 => ?_
 refine y7y ?_
 refine x4x x6x (by rfl) ?_
 refine x1x rfl ?_
 refine z7z rfl rfl v9v rfl v8v rfl hp ?_
 refine z6z rfl v8v rfl rfl ?_
 refine u8u (id := 1) v8v b4n rfl ?_
 refine x2x rfl ?_
 refine z5z rfl rfl v8v rfl rfl rfl rfl ?_
 refine q7q x6x r4r (by rfl) ?_
 refine y4y rfl v8v rfl rfl rfl ?_
 refine x0x rfl v4v rfl rfl y6y rfl rfl ?_
 refine x3x rfl y6y rfl rfl ?_
 refine y9y rfl rfl rfl (b9r ..) ?_
 refine w3w rfl ?_
 refine x1x rfl ?_
 refine s1s rfl rfl (fun hg9 => ?_) (fun hg9 => ?_)
 rotate_left
 ·try simp at hg9
  have hbad : b1w l.proc p = false := by simpa using hg9
  refine x7x rfl rfl ?_
  refine x7x rfl rfl ?_
  refine p5p rfl rfl ?_
  refine p5p rfl rfl ?_
  refine p5p rfl rfl ?_
  refine p5p rfl rfl ?_
  refine p5p rfl rfl ?_
  refine p5p rfl rfl ?_
  refine p5p rfl rfl ?_
  refine p5p rfl rfl ?_
  refine p5p rfl rfl ?_
  refine p5p rfl rfl ?_
  refine p5p rfl rfl ?_
  refine x7x rfl rfl ?_
  refine z0z rfl rfl ?_
  refine ⟨by kernel_rfl, ?_⟩
  refine x8x rfl (fun hc13 => ?_) (fun hc13 => ?_)
  rotate_left
  ·simp at hc13
  try simp at hc13
  try have hlt := hc13
  refine x4x x6x (by rfl) ?_
  refine x2x rfl ?_
  refine y0y ⟨.inr rfl, ?_⟩
  clear hK8 K8 hK5 K5
  refine y8y rfl ?_ rfl
  exact congrArg (fun b : Bool => [AV.pv (.bool b)]) (h2.trans (a2x _ _ hbad)).symm
 try simp at hg9
 have hok : b1w l.proc p = true := by simpa using hg9
 refine x1x rfl ?_
 refine y5y rfl rfl ?_
 refine y1y rfl rfl rfl ?_
 refine y5y rfl rfl ?_
 refine x1x rfl ?_
 refine s1s rfl rfl (fun hg10 => ?_) (fun hg10 => ?_)
 rotate_left
 ·try simp at hg10
  have hi0 : i = 0 := by omega
  have hlast : a7s l.done i = none := by rw [hi0]; rfl
  rw [hlast] at h2
  refine x7x rfl rfl ?_
  refine x7x rfl rfl ?_
  refine x7x rfl rfl ?_
  refine x7x rfl rfl ?_
  refine x7x rfl rfl ?_
  refine x7x rfl rfl ?_
  refine x7x rfl rfl ?_
  refine x7x rfl rfl ?_
  refine x7x rfl rfl ?_
  refine x7x rfl rfl ?_
  refine y5y rfl rfl ?_
  refine y2y rfl rfl ?_
  refine y2y rfl rfl ?_
  refine ⟨by kernel_rfl, ?_⟩
  refine x8x rfl (fun hc12 => ?_) (fun hc12 => ?_)
  ·simp at hc12
  try simp at hc12
  try have hlt := hc12
  refine x9x ?_
  refine hK8 _ _ ?_
  clear hK8 K8
  refine y3y x6x (by rfl) ?_
  refine z9z (b := 1) rfl rfl (by omega) ?_
  refine x1x rfl ?_
  exact ⟨i + 1, ⟨⟨by omega, by rw [h2]; show _ = a6b (b1w l.proc) d1o l.done[i]? _; rw [hp]; exact a4i _ _ hok⟩, by omega⟩, [0, _], (Cov.cons (t := 24) rfl Cov.nil), (Cov.cons (t := 1) rfl (Cov.cons (t := 22) rfl (Cov.cons (t := 23) rfl Cov.nil))), (HE.kill rfl HE.nil), (HE.same (id := 0) rfl HE.nil), rfl⟩
 try simp at hg10
 have hi0 : 0 < i := by omega
 obtain ⟨b, hb⟩ : ∃ b, l.done[i - 1]? = some b := ⟨_, List.getElem?_eq_getElem (by omega)⟩
 have hlast : a7s l.done i = some b := by obtain ⟨j, rfl⟩ : ∃ j, i = j + 1 := ⟨i - 1, by omega⟩; exact hb
 rw [hlast] at h2
 refine x0x rfl v4v rfl rfl v9v rfl rfl ?_
 refine y5y rfl rfl ?_
 refine x3x rfl v9v rfl rfl ?_
 refine y5y rfl rfl ?_
 refine x1x rfl ?_
 refine y5y rfl rfl ?_
 refine a0l (b := 1) rfl rfl (by omega) (by omega) ?_
 refine y5y rfl rfl ?_
 refine z7z rfl rfl v9v rfl v8v rfl hb ?_
 refine y5y rfl rfl ?_
 refine x0x rfl v8v rfl rfl z3z rfl rfl ?_
 refine y5y rfl rfl ?_
 refine z4z (out := .agg (v6v b.ev)) rfl z3z rfl ?_
 refine y5y rfl rfl ?_
 refine x0x rfl v8v rfl rfl z3z rfl rfl ?_
 refine y5y rfl rfl ?_
 refine x3x (out := .agg (v6v p.ev)) rfl z3z rfl rfl ?_
 refine y5y rfl rfl ?_
 refine y9y rfl rfl rfl (a7m ..) ?_
 refine y5y rfl rfl ?_
 refine w3w rfl ?_
 refine y5y rfl rfl ?_
 refine z0z rfl rfl ?_
 refine y2y rfl rfl ?_
 refine ⟨by kernel_rfl, ?_⟩
 refine x8x rfl (fun hc11 => ?_) (fun hc11 => ?_)
 rotate_left
 ·try simp at hc11
  try have hlt := hc11
  refine x9x ?_
  refine hK8 _ _ ?_
  clear hK8 K8
  refine y3y x6x (by rfl) ?_
  refine z9z (b := 1) rfl rfl (by omega) ?_
  refine x1x rfl ?_
  exact ⟨i + 1, ⟨⟨by omega, by rw [h2]; show _ = a6b (b1w l.proc) d1o l.done[i]? _; rw [hp]; exact a6q _ _ hok hlt⟩, by omega⟩, [0, _], (Cov.cons (t := 24) rfl Cov.nil), (Cov.cons (t := 1) rfl (Cov.cons (t := 22) rfl (Cov.cons (t := 23) rfl Cov.nil))), (HE.kill rfl HE.nil), (HE.same (id := 0) rfl HE.nil), rfl⟩
 try simp at hc11
 try have hlt := hc11
 refine x4x x6x (by rfl) ?_
 refine x2x rfl ?_
 refine y0y ⟨.inr rfl, ?_⟩
 clear hK8 K8 hK5 K5
 refine y8y rfl ?_ rfl
 exact congrArg (fun b : Bool => [AV.pv (.bool b)]) (h2.trans (b2h _ _ hlt)).symm
theorem b1s (c : Bool) (l : La) : s8s Tryz.prog 49 [.agg (a1q c l)] (.pv (.bool (a7u l))) := by
 refine z1z x6x (fn := Tryz.f49) (by kernel_rfl) (by kernel_rfl) rfl (outs := [.pv (.bool (a7u l))]) (by rfl) (Nat.le_of_ble_eq_true rfl) 1 ?_
 refine x4x x6x (by rfl) ?_
 refine v1v (id := 0) rfl rfl rfl ?_
 refine x2x rfl ?_
 refine x5x fun K1 hK1 => ?_
 refine q7q x6x r4r (by rfl) ?_
 refine x0x rfl v4v rfl rfl y6y rfl rfl ?_
 refine x3x rfl y6y rfl rfl ?_
 refine y9y rfl rfl rfl (a4f ..) ?_
 refine w3w rfl ?_
 refine x1x rfl ?_
 refine s1s rfl rfl (fun hg2 => ?_) (fun hg2 => ?_)
 rotate_left
 ·try simp at hg2
  have hn1 : ¬ (0 ≤ l.proc ∧ l.proc ≤ 3) := by omega
  refine x7x rfl rfl ?_
  refine x7x rfl rfl ?_
  refine x7x rfl rfl ?_
  refine z0z rfl rfl ?_
  refine x1x rfl ?_
  refine x7x rfl rfl ?_
  refine x7x rfl rfl ?_
  refine x7x rfl rfl ?_
  refine x7x rfl rfl ?_
  refine x7x rfl rfl ?_
  refine z0z rfl rfl ?_
  refine ⟨by kernel_rfl, ?_⟩
  refine x8x rfl (fun hc15 => ?_) (fun hc15 => ?_)
  rotate_left
  ·simp at hc15
  try simp at hc15
  try have hn3 : ¬ l.done.length ≤ 100 := by omega
  refine x4x x6x (by rfl) ?_
  refine x2x rfl ?_
  refine y0y ⟨.inr rfl, ?_⟩
  clear hK1 K1
  refine y8y rfl ?_ rfl
  exact congrArg (fun b : Bool => [AV.pv (.bool b)]) (d1p hn1).symm
 try simp at hg2
 have hc1 : 0 ≤ l.proc ∧ l.proc ≤ 3 := by exact hg2
 refine x0x rfl v4v rfl rfl q5q rfl rfl ?_
 refine y5y rfl rfl ?_
 refine x3x (out := .agg (a0e l.base)) rfl q5q rfl rfl ?_
 refine y5y rfl rfl ?_
 refine y9y rfl rfl rfl (a7o ..) ?_
 refine y5y rfl rfl ?_
 refine w3w rfl ?_
 refine y2y rfl rfl ?_
 refine x1x rfl ?_
 refine s1s rfl rfl (fun hg3 => ?_) (fun hg3 => ?_)
 rotate_left
 ·try simp at hg3
  have hn2 : ¬ b7q l.base := by exact hg3
  refine x7x rfl rfl ?_
  refine x7x rfl rfl ?_
  refine x7x rfl rfl ?_
  refine x7x rfl rfl ?_
  refine z0z rfl rfl ?_
  refine ⟨by kernel_rfl, ?_⟩
  refine x8x rfl (fun hc14 => ?_) (fun hc14 => ?_)
  rotate_left
  ·simp at hc14
  try simp at hc14
  try have hn3 : ¬ l.done.length ≤ 100 := by omega
  refine x4x x6x (by rfl) ?_
  refine x2x rfl ?_
  refine y0y ⟨.inr rfl, ?_⟩
  clear hK1 K1
  refine y8y rfl ?_ rfl
  exact congrArg (fun b : Bool => [AV.pv (.bool b)]) (d1q hn2).symm
 try simp at hg3
 have hc2 : b7q l.base := by exact hg3
 refine x0x rfl v4v rfl rfl v9v rfl rfl ?_
 refine y5y rfl rfl ?_
 refine x3x rfl v9v rfl rfl ?_
 refine y5y rfl rfl ?_
 refine u0u rfl v9v rfl ?_
 refine y5y rfl rfl ?_
 refine y9y rfl rfl rfl (a2p ..) ?_
 refine y5y rfl rfl ?_
 refine y1y rfl rfl rfl ?_
 refine y2y rfl rfl ?_
 refine ⟨by kernel_rfl, ?_⟩
 refine x8x rfl (fun hc4 => ?_) (fun hc4 => ?_)
 ·try simp at hc4
  try have hn3 : ¬ l.done.length ≤ 100 := by omega
  refine x4x x6x (by rfl) ?_
  refine x2x rfl ?_
  refine y0y ⟨.inr rfl, ?_⟩
  clear hK1 K1
  refine y8y rfl ?_ rfl
  exact congrArg (fun b : Bool => [AV.pv (.bool b)]) (d1r hn3).symm
 try simp at hc4
 have hc3 : l.done.length ≤ 100 := by omega
 refine x9x ?_
 refine hK1 _ _ ?_
 clear hK1 K1
 refine x5x fun K5 hK5 => ?_
 refine x4x x6x (by rfl) ?_
 refine x2x rfl ?_
 refine y7y ?_
 refine u5u (ι := Nat) (fun i γ1 => [(3, .pv (.int .i64 (i : Int)))]) (fun i γ1 => []) (fun i => i ≤ l.done.length ∧ a7u l = a6b (b1w l.proc) d1o (a7s l.done i) (l.done.drop i)) (fun i => l.done.length - i) (Cov.cons (t := 1) rfl Cov.nil) (HE.same (id := 0) rfl HE.nil) 0 ⟨by omega, c8h hc1 hc2 hc3⟩ [] (Cov.cons (t := 3) rfl Cov.nil) HE.nil rfl fun i γ1 hi => ?_
 try dsimp only [List.cons_append, List.nil_append]
 obtain ⟨h1, h2⟩ := hi
 refine x5x fun K6 hK6 => ?_
 refine x4x x6x (by rfl) ?_
 refine x1x rfl ?_
 refine x0x rfl v4v rfl rfl v9v rfl rfl ?_
 refine x3x rfl v9v rfl rfl ?_
 refine u0u rfl v9v rfl ?_
 refine y1y rfl rfl rfl ?_
 refine x8x rfl (fun hc7 => ?_) (fun hc7 => ?_)
 rotate_left
 ·try simp at hc7
  obtain rfl : i = l.done.length := by omega
  rw [List.drop_length] at h2
  refine v0v ?_
  refine hK5 _ _ ?_
  clear hK6 K6 hK5 K5
  refine x4x x6x (by rfl) ?_
  refine x2x rfl ?_
  refine y0y ⟨.inr rfl, ?_⟩
  refine y8y rfl ?_ rfl
  exact congrArg (fun b : Bool => [AV.pv (.bool b)]) h2.symm
 try simp at hc7
 obtain ⟨p, hp⟩ : ∃ p, l.done[i]? = some p := ⟨_, List.getElem?_eq_getElem (by omega)⟩
 rw [q1q hp] at h2
 refine x9x ?_
 refine hK6 _ _ ?_
 clear hK6 K6
 refine x5x fun K8 hK8 => ?_
 refine y7y ?_
 refine q7q x6x r4r (by rfl) ?_
 refine x0x rfl v4v rfl rfl v9v rfl rfl ?_
 refine x3x rfl v9v rfl rfl ?_
 refine x1x rfl ?_
 refine z7z rfl rfl v9v rfl v8v rfl hp ?_
 refine z6z rfl v8v rfl rfl ?_
 refine x0x rfl v4v rfl rfl y6y rfl rfl ?_
 refine x3x rfl y6y rfl rfl ?_
 refine y9y rfl rfl rfl (b3j ..) ?_
 refine w3w rfl ?_
 refine x1x rfl ?_
 refine s1s rfl rfl (fun hg9 => ?_) (fun hg9 => ?_)
 rotate_left
 ·try simp at hg9
  have hbad : b1w l.proc p = false := by simpa using hg9
  refine x7x rfl rfl ?_
  refine x7x rfl rfl ?_
  refine p5p rfl rfl ?_
  refine p5p rfl rfl ?_
  refine p5p rfl rfl ?_
  refine p5p rfl rfl ?_
  refine p5p rfl rfl ?_
  refine p5p rfl rfl ?_
  refine p5p rfl rfl ?_
  refine p5p rfl rfl ?_
  refine p5p rfl rfl ?_
  refine p5p rfl rfl ?_
  refine p5p rfl rfl ?_
  refine p5p rfl rfl ?_
  refine p5p rfl rfl ?_
  refine p5p rfl rfl ?_
  refine p5p rfl rfl ?_
  refine x7x rfl rfl ?_
  refine z0z rfl rfl ?_
  refine ⟨by kernel_rfl, ?_⟩
  refine x8x rfl (fun hc13 => ?_) (fun hc13 => ?_)
  rotate_left
  ·simp at hc13
  try simp at hc13
  try have hlt := hc13
  refine x4x x6x (by rfl) ?_
  refine x2x rfl ?_
  refine y0y ⟨.inr rfl, ?_⟩
  clear hK8 K8 hK5 K5
  refine y8y rfl ?_ rfl
  exact congrArg (fun b : Bool => [AV.pv (.bool b)]) (h2.trans (a2x _ _ hbad)).symm
 try simp at hg9
 have hok : b1w l.proc p = true := by simpa using hg9
 refine x1x rfl ?_
 refine y5y rfl rfl ?_
 refine y1y rfl rfl rfl ?_
 refine y5y rfl rfl ?_
 refine x1x rfl ?_
 refine s1s rfl rfl (fun hg10 => ?_) (fun hg10 => ?_)
 rotate_left
 ·try simp at hg10
  have hi0 : i = 0 := by omega
  have hlast : a7s l.done i = none := by rw [hi0]; rfl
  rw [hlast] at h2
  refine x7x rfl rfl ?_
  refine x7x rfl rfl ?_
  refine x7x rfl rfl ?_
  refine x7x rfl rfl ?_
  refine x7x rfl rfl ?_
  refine x7x rfl rfl ?_
  refine x7x rfl rfl ?_
  refine x7x rfl rfl ?_
  refine x7x rfl rfl ?_
  refine x7x rfl rfl ?_
  refine x7x rfl rfl ?_
  refine x7x rfl rfl ?_
  refine x7x rfl rfl ?_
  refine x7x rfl rfl ?_
  refine y5y rfl rfl ?_
  refine y2y rfl rfl ?_
  refine y2y rfl rfl ?_
  refine ⟨by kernel_rfl, ?_⟩
  refine x8x rfl (fun hc12 => ?_) (fun hc12 => ?_)
  ·simp at hc12
  try simp at hc12
  try have hlt := hc12
  refine x9x ?_
  refine hK8 _ _ ?_
  clear hK8 K8
  refine y3y x6x (by rfl) ?_
  refine x1x rfl ?_
  refine z9z (b := 1) rfl rfl (by omega) ?_
  refine x2x rfl ?_
  exact ⟨i + 1, ⟨⟨by omega, by rw [h2]; show _ = a6b (b1w l.proc) d1o l.done[i]? _; rw [hp]; exact a4i _ _ hok⟩, by omega⟩, [], (Cov.cons (t := 3) rfl Cov.nil), (Cov.cons (t := 1) rfl Cov.nil), HE.nil, (HE.same (id := 0) rfl HE.nil), rfl⟩
 try simp at hg10
 have hi0 : 0 < i := by omega
 obtain ⟨b, hb⟩ : ∃ b, l.done[i - 1]? = some b := ⟨_, List.getElem?_eq_getElem (by omega)⟩
 have hlast : a7s l.done i = some b := by obtain ⟨j, rfl⟩ : ∃ j, i = j + 1 := ⟨i - 1, by omega⟩; exact hb
 rw [hlast] at h2
 refine x0x rfl v4v rfl rfl v9v rfl rfl ?_
 refine y5y rfl rfl ?_
 refine x3x rfl v9v rfl rfl ?_
 refine y5y rfl rfl ?_
 refine x1x rfl ?_
 refine y5y rfl rfl ?_
 refine a0l (b := 1) rfl rfl (by omega) (by omega) ?_
 refine y5y rfl rfl ?_
 refine z7z rfl rfl v9v rfl v8v rfl hb ?_
 refine y5y rfl rfl ?_
 refine x0x rfl v8v rfl rfl z3z rfl rfl ?_
 refine y5y rfl rfl ?_
 refine z4z (out := .agg (v6v b.ev)) rfl z3z rfl ?_
 refine y5y rfl rfl ?_
 refine x0x rfl v4v rfl rfl v9v rfl rfl ?_
 refine y5y rfl rfl ?_
 refine x3x rfl v9v rfl rfl ?_
 refine y5y rfl rfl ?_
 refine x1x rfl ?_
 refine y5y rfl rfl ?_
 refine z7z rfl rfl v9v rfl v8v rfl hp ?_
 refine y5y rfl rfl ?_
 refine x0x rfl v8v rfl rfl z3z rfl rfl ?_
 refine y5y rfl rfl ?_
 refine z4z (out := .agg (v6v p.ev)) rfl z3z rfl ?_
 refine y5y rfl rfl ?_
 refine y9y rfl rfl rfl (a3u ..) ?_
 refine y5y rfl rfl ?_
 refine w3w rfl ?_
 refine y5y rfl rfl ?_
 refine z0z rfl rfl ?_
 refine y2y rfl rfl ?_
 refine ⟨by kernel_rfl, ?_⟩
 refine x8x rfl (fun hc11 => ?_) (fun hc11 => ?_)
 rotate_left
 ·try simp at hc11
  try have hlt := hc11
  refine x9x ?_
  refine hK8 _ _ ?_
  clear hK8 K8
  refine y3y x6x (by rfl) ?_
  refine x1x rfl ?_
  refine z9z (b := 1) rfl rfl (by omega) ?_
  refine x2x rfl ?_
  exact ⟨i + 1, ⟨⟨by omega, by rw [h2]; show _ = a6b (b1w l.proc) d1o l.done[i]? _; rw [hp]; exact a6q _ _ hok hlt⟩, by omega⟩, [], (Cov.cons (t := 3) rfl Cov.nil), (Cov.cons (t := 1) rfl Cov.nil), HE.nil, (HE.same (id := 0) rfl HE.nil), rfl⟩
 try simp at hc11
 try have hlt := hc11
 refine x4x x6x (by rfl) ?_
 refine x2x rfl ?_
 refine y0y ⟨.inr rfl, ?_⟩
 clear hK8 K8 hK5 K5
 refine y8y rfl ?_ rfl
 exact congrArg (fun b : Bool => [AV.pv (.bool b)]) (h2.trans (b2h _ _ hlt)).symm
end
section
theorem b3k (c : Bool) (n : Nd) : s8s Tryz.prog 214 [.agg (a0t c n)] (.pv (.bool (decide (a5o n)))) := by
 refine z1z x6x (fn := Tryz.f214) (by kernel_rfl) (by kernel_rfl) rfl (outs := [.pv (.bool (decide (a5o n)))]) (by rfl) (Nat.le_of_ble_eq_true rfl) 1 ?_
 refine x4x x6x (by rfl) ?_
 refine v1v (id := 0) rfl rfl rfl ?_
 refine x2x rfl ?_
 refine x4x x6x (by rfl) ?_
 refine x0x rfl z8z rfl rfl y6y rfl rfl ?_
 refine x3x rfl y6y rfl rfl ?_
 refine y9y rfl rfl rfl (b9l ..) ?_
 refine x1x rfl ?_
 refine s1s rfl rfl (fun hg1 => ?_) (fun hg1 => ?_)
 rotate_left
 ·try simp at hg1
  refine x7x rfl rfl ?_
  refine x7x rfl rfl ?_
  refine y2y rfl rfl ?_
  refine x1x rfl ?_
  refine x7x rfl rfl ?_
  refine x7x rfl rfl ?_
  refine x7x rfl rfl ?_
  refine y2y rfl rfl ?_
  refine x1x rfl ?_
  refine x7x rfl rfl ?_
  refine x7x rfl rfl ?_
  refine x7x rfl rfl ?_
  refine y2y rfl rfl ?_
  refine x1x rfl ?_
  refine x7x rfl rfl ?_
  refine x7x rfl rfl ?_
  refine x7x rfl rfl ?_
  refine y2y rfl rfl ?_
  refine x1x rfl ?_
  refine x7x rfl rfl ?_
  refine x7x rfl rfl ?_
  refine x7x rfl rfl ?_
  refine y2y rfl rfl ?_
  refine x1x rfl ?_
  refine x7x rfl rfl ?_
  refine x7x rfl rfl ?_
  refine x7x rfl rfl ?_
  refine y2y rfl rfl ?_
  refine x2x rfl ?_
  refine y0y ⟨.inr rfl, ?_⟩
  refine y8y rfl ?_ rfl
  exact kF (by unfold a5o; omega)
 try simp at hg1
 refine x0x rfl z8z rfl rfl y6y rfl rfl ?_
 refine y5y rfl rfl ?_
 refine x3x rfl y6y rfl rfl ?_
 refine y5y rfl rfl ?_
 refine y9y rfl rfl rfl (w5w ..) ?_
 refine z0z rfl rfl ?_
 refine x1x rfl ?_
 refine s1s rfl rfl (fun hg2 => ?_) (fun hg2 => ?_)
 rotate_left
 ·try simp at hg2
  refine x7x rfl rfl ?_
  refine x7x rfl rfl ?_
  refine y2y rfl rfl ?_
  refine x1x rfl ?_
  refine x7x rfl rfl ?_
  refine x7x rfl rfl ?_
  refine x7x rfl rfl ?_
  refine y2y rfl rfl ?_
  refine x1x rfl ?_
  refine x7x rfl rfl ?_
  refine x7x rfl rfl ?_
  refine x7x rfl rfl ?_
  refine y2y rfl rfl ?_
  refine x1x rfl ?_
  refine x7x rfl rfl ?_
  refine x7x rfl rfl ?_
  refine x7x rfl rfl ?_
  refine y2y rfl rfl ?_
  refine x1x rfl ?_
  refine x7x rfl rfl ?_
  refine x7x rfl rfl ?_
  refine x7x rfl rfl ?_
  refine y2y rfl rfl ?_
  refine x2x rfl ?_
  refine y0y ⟨.inr rfl, ?_⟩
  refine y8y rfl ?_ rfl
  exact kF (by unfold a5o; omega)
 try simp at hg2
 refine x0x rfl z8z rfl rfl y6y rfl rfl ?_
 refine y5y rfl rfl ?_
 refine x3x rfl y6y rfl rfl ?_
 refine y5y rfl rfl ?_
 refine y9y rfl rfl rfl (w5w ..) ?_
 refine z0z rfl rfl ?_
 refine x1x rfl ?_
 refine s1s rfl rfl (fun hg3 => ?_) (fun hg3 => ?_)
 rotate_left
 ·try simp at hg3
  refine x7x rfl rfl ?_
  refine x7x rfl rfl ?_
  refine y2y rfl rfl ?_
  refine x1x rfl ?_
  refine x7x rfl rfl ?_
  refine x7x rfl rfl ?_
  refine x7x rfl rfl ?_
  refine y2y rfl rfl ?_
  refine x1x rfl ?_
  refine x7x rfl rfl ?_
  refine x7x rfl rfl ?_
  refine x7x rfl rfl ?_
  refine y2y rfl rfl ?_
  refine x1x rfl ?_
  refine x7x rfl rfl ?_
  refine x7x rfl rfl ?_
  refine x7x rfl rfl ?_
  refine y2y rfl rfl ?_
  refine x2x rfl ?_
  refine y0y ⟨.inr rfl, ?_⟩
  refine y8y rfl ?_ rfl
  exact kF (by unfold a5o; omega)
 try simp at hg3
 refine x0x rfl z8z rfl rfl y6y rfl rfl ?_
 refine y5y rfl rfl ?_
 refine x3x rfl y6y rfl rfl ?_
 refine y5y rfl rfl ?_
 refine y9y rfl rfl rfl (w5w ..) ?_
 refine z0z rfl rfl ?_
 refine x1x rfl ?_
 refine s1s rfl rfl (fun hg4 => ?_) (fun hg4 => ?_)
 rotate_left
 ·try simp at hg4
  refine x7x rfl rfl ?_
  refine x7x rfl rfl ?_
  refine y2y rfl rfl ?_
  refine x1x rfl ?_
  refine x7x rfl rfl ?_
  refine x7x rfl rfl ?_
  refine x7x rfl rfl ?_
  refine y2y rfl rfl ?_
  refine x1x rfl ?_
  refine x7x rfl rfl ?_
  refine x7x rfl rfl ?_
  refine x7x rfl rfl ?_
  refine y2y rfl rfl ?_
  refine x2x rfl ?_
  refine y0y ⟨.inr rfl, ?_⟩
  refine y8y rfl ?_ rfl
  exact kF (by unfold a5o; omega)
 try simp at hg4
 refine x0x rfl z8z rfl rfl y6y rfl rfl ?_
 refine y5y rfl rfl ?_
 refine x3x rfl y6y rfl rfl ?_
 refine y5y rfl rfl ?_
 refine y9y rfl rfl rfl (w5w ..) ?_
 refine z0z rfl rfl ?_
 refine x1x rfl ?_
 refine s1s rfl rfl (fun hg5 => ?_) (fun hg5 => ?_)
 rotate_left
 ·try simp at hg5
  refine x7x rfl rfl ?_
  refine x7x rfl rfl ?_
  refine y2y rfl rfl ?_
  refine x1x rfl ?_
  refine x7x rfl rfl ?_
  refine x7x rfl rfl ?_
  refine x7x rfl rfl ?_
  refine y2y rfl rfl ?_
  refine x2x rfl ?_
  refine y0y ⟨.inr rfl, ?_⟩
  refine y8y rfl ?_ rfl
  exact kF (by unfold a5o; omega)
 try simp at hg5
 refine x0x rfl z8z rfl rfl y6y rfl rfl ?_
 refine y5y rfl rfl ?_
 refine x3x rfl y6y rfl rfl ?_
 refine y5y rfl rfl ?_
 refine y9y rfl rfl rfl (w5w ..) ?_
 refine z0z rfl rfl ?_
 refine x1x rfl ?_
 refine s1s rfl rfl (fun hg6 => ?_) (fun hg6 => ?_)
 rotate_left
 ·try simp at hg6
  refine x7x rfl rfl ?_
  refine x7x rfl rfl ?_
  refine y2y rfl rfl ?_
  refine x2x rfl ?_
  refine y0y ⟨.inr rfl, ?_⟩
  refine y8y rfl ?_ rfl
  exact kF (by unfold a5o; omega)
 try simp at hg6
 refine x0x rfl z8z rfl rfl y6y rfl rfl ?_
 refine y5y rfl rfl ?_
 refine x3x rfl y6y rfl rfl ?_
 refine y5y rfl rfl ?_
 refine y9y rfl rfl rfl (w5w ..) ?_
 refine z0z rfl rfl ?_
 refine x2x rfl ?_
 refine y0y ⟨.inr rfl, ?_⟩
 refine y8y rfl ?_ rfl
 exact congrArg (fun b : Bool => [AV.pv (.bool b)]) (decide_eq_decide.2 (by unfold a5o; omega))
theorem a0o  : s8s Tryz.prog 109 [] (.pv (.int .i64 9999)) := by
 refine z1z x6x (fn := Tryz.f109) (by kernel_rfl) (by kernel_rfl) rfl (outs := [.pv (.int .i64 9999)]) (by rfl) (Nat.le_of_ble_eq_true rfl) 0 ?_
 refine x4x x6x (by rfl) ?_
 refine x2x rfl ?_
 refine x4x x6x (by rfl) ?_
 refine x2x rfl ?_
 refine y0y ⟨.inr rfl, ?_⟩
 exact y8y rfl rfl rfl
theorem b3l (c : Bool) (v : Vi) : s8s Tryz.prog 132 [.agg (a4b c v)] (.pv (.bool (kb (c9h v)))) := by
 refine z1z x6x (fn := Tryz.f132) (by kernel_rfl) (by kernel_rfl) rfl (outs := [.pv (.bool (kb (c9h v)))]) (by rfl) (Nat.le_of_ble_eq_true rfl) 1 ?_
 refine x4x x6x (by rfl) ?_
 refine v1v (id := 0) rfl rfl rfl ?_
 refine x2x rfl ?_
 refine q7q x6x r4r (by rfl) ?_
 refine x0x rfl w0w rfl rfl y6y rfl rfl ?_
 refine x3x rfl y6y rfl rfl ?_
 refine y9y rfl rfl rfl (a0o ..) ?_
 refine y9y rfl rfl rfl (p7p ..) ?_
 refine x1x rfl ?_
 refine s1s rfl rfl (fun hg1 => ?_) (fun hg1 => ?_)
 rotate_left
 ·try simp at hg1
  refine x7x rfl rfl ?_
  refine x7x rfl rfl ?_
  refine x7x rfl rfl ?_
  refine y2y rfl rfl ?_
  refine x1x rfl ?_
  refine x7x rfl rfl ?_
  refine x7x rfl rfl ?_
  refine x7x rfl rfl ?_
  refine x7x rfl rfl ?_
  refine y2y rfl rfl ?_
  refine x2x rfl ?_
  refine ⟨by kernel_rfl, ?_⟩
  refine y0y ⟨.inr rfl, ?_⟩
  refine y8y rfl ?_ rfl
  exact congrArg (fun b : Bool => [AV.pv (.bool b)]) (a6d (fun h => by obtain ⟨q1, q2, q3⟩ := h; omega))
 try simp at hg1
 refine x0x rfl w0w rfl rfl y6y rfl rfl ?_
 refine y5y rfl rfl ?_
 refine x3x rfl y6y rfl rfl ?_
 refine y5y rfl rfl ?_
 refine y9y rfl rfl rfl (a0o ..) ?_
 refine y5y rfl rfl ?_
 refine y9y rfl rfl rfl (p7p ..) ?_
 refine z0z rfl rfl ?_
 refine x1x rfl ?_
 refine s1s rfl rfl (fun hg2 => ?_) (fun hg2 => ?_)
 rotate_left
 ·try simp at hg2
  refine x7x rfl rfl ?_
  refine x7x rfl rfl ?_
  refine x7x rfl rfl ?_
  refine y2y rfl rfl ?_
  refine x2x rfl ?_
  refine ⟨by kernel_rfl, ?_⟩
  refine y0y ⟨.inr rfl, ?_⟩
  refine y8y rfl ?_ rfl
  exact congrArg (fun b : Bool => [AV.pv (.bool b)]) (a6d (fun h => by obtain ⟨q1, q2, q3⟩ := h; omega))
 try simp at hg2
 refine x0x rfl w0w rfl rfl u7u rfl rfl ?_
 refine y5y rfl rfl ?_
 refine x3x rfl u7u rfl rfl ?_
 refine y5y rfl rfl ?_
 refine y9y rfl rfl rfl (a2p ..) ?_
 refine y5y rfl rfl ?_
 refine y9y rfl rfl rfl (a2o ..) ?_
 refine z0z rfl rfl ?_
 refine x2x rfl ?_
 refine ⟨by kernel_rfl, ?_⟩
 refine y0y ⟨.inr rfl, ?_⟩
 refine y8y rfl ?_ rfl
 exact congrArg (fun b : Bool => [AV.pv (.bool b)]) (d4y ⟨fun h => ⟨by omega, by omega, h⟩, fun h => h.2.2⟩)
theorem b5o (c : Bool) (n : Nd) : s8s Tryz.prog 160 [.agg (a0t c n)] (.pv (.bool (kb (a5t n)))) := by
 refine z1z x6x (fn := Tryz.f160) (by kernel_rfl) (by kernel_rfl) rfl (outs := [.pv (.bool (kb (a5t n)))]) (by rfl) (Nat.le_of_ble_eq_true rfl) 1 ?_
 refine x4x x6x (by rfl) ?_
 refine v1v (id := 0) rfl rfl rfl ?_
 refine x2x rfl ?_
 refine x5x fun K1 hK1 => ?_
 refine q7q x6x r4r (by rfl) ?_
 refine x0x rfl z8z rfl rfl p1p rfl rfl ?_
 refine x3x rfl p1p rfl rfl ?_
 refine u0u rfl p1p rfl ?_
 refine y1y rfl rfl rfl ?_
 refine x1x rfl ?_
 refine s1s rfl rfl (fun hg2 => ?_) (fun hg2 => ?_)
 rotate_left
 ·try simp at hg2
  refine x7x rfl rfl ?_
  refine x7x rfl rfl ?_
  refine x7x rfl rfl ?_
  refine z0z rfl rfl ?_
  refine x1x rfl ?_
  refine x7x rfl rfl ?_
  refine x7x rfl rfl ?_
  refine x7x rfl rfl ?_
  refine x7x rfl rfl ?_
  refine x7x rfl rfl ?_
  refine z0z rfl rfl ?_
  refine x1x rfl ?_
  refine x7x rfl rfl ?_
  refine x7x rfl rfl ?_
  refine x7x rfl rfl ?_
  refine x7x rfl rfl ?_
  refine x7x rfl rfl ?_
  refine z0z rfl rfl ?_
  refine x1x rfl ?_
  refine x7x rfl rfl ?_
  refine x7x rfl rfl ?_
  refine x7x rfl rfl ?_
  refine x7x rfl rfl ?_
  refine z0z rfl rfl ?_
  refine ⟨by kernel_rfl, ?_⟩
  refine x8x rfl (fun hc17 => ?_) (fun hc17 => ?_)
  rotate_left
  ·simp at hc17
  try simp at hc17
  refine x4x x6x (by rfl) ?_
  refine x2x rfl ?_
  refine y0y ⟨.inr rfl, ?_⟩
  clear hK1 K1
  refine y8y rfl ?_ rfl
  exact congrArg (fun b : Bool => [AV.pv (.bool b)]) (a6d (fun h => by obtain ⟨q1, q2, q3, q4, q5, q6⟩ := h; omega))
 try simp at hg2
 refine x0x rfl z8z rfl rfl v7v rfl rfl ?_
 refine y5y rfl rfl ?_
 refine x3x rfl v7v rfl rfl ?_
 refine y5y rfl rfl ?_
 refine u0u rfl v7v rfl ?_
 refine y5y rfl rfl ?_
 refine y1y rfl rfl rfl ?_
 refine y2y rfl rfl ?_
 refine x1x rfl ?_
 refine s1s rfl rfl (fun hg3 => ?_) (fun hg3 => ?_)
 rotate_left
 ·try simp at hg3
  refine x7x rfl rfl ?_
  refine x7x rfl rfl ?_
  refine x7x rfl rfl ?_
  refine x7x rfl rfl ?_
  refine z0z rfl rfl ?_
  refine x1x rfl ?_
  refine x7x rfl rfl ?_
  refine x7x rfl rfl ?_
  refine x7x rfl rfl ?_
  refine x7x rfl rfl ?_
  refine x7x rfl rfl ?_
  refine z0z rfl rfl ?_
  refine x1x rfl ?_
  refine x7x rfl rfl ?_
  refine x7x rfl rfl ?_
  refine x7x rfl rfl ?_
  refine x7x rfl rfl ?_
  refine z0z rfl rfl ?_
  refine ⟨by kernel_rfl, ?_⟩
  refine x8x rfl (fun hc16 => ?_) (fun hc16 => ?_)
  rotate_left
  ·simp at hc16
  try simp at hc16
  refine x4x x6x (by rfl) ?_
  refine x2x rfl ?_
  refine y0y ⟨.inr rfl, ?_⟩
  clear hK1 K1
  refine y8y rfl ?_ rfl
  exact congrArg (fun b : Bool => [AV.pv (.bool b)]) (a6d (fun h => by obtain ⟨q1, q2, q3, q4, q5, q6⟩ := h; omega))
 try simp at hg3
 refine x0x rfl z8z rfl rfl y6y rfl rfl ?_
 refine y5y rfl rfl ?_
 refine x3x rfl y6y rfl rfl ?_
 refine y5y rfl rfl ?_
 refine y9y rfl rfl rfl (a0o ..) ?_
 refine y5y rfl rfl ?_
 refine y9y rfl rfl rfl (p7p ..) ?_
 refine y5y rfl rfl ?_
 refine w3w rfl ?_
 refine y2y rfl rfl ?_
 refine x1x rfl ?_
 refine s1s rfl rfl (fun hg4 => ?_) (fun hg4 => ?_)
 rotate_left
 ·try simp at hg4
  refine x7x rfl rfl ?_
  refine x7x rfl rfl ?_
  refine x7x rfl rfl ?_
  refine x7x rfl rfl ?_
  refine z0z rfl rfl ?_
  refine x1x rfl ?_
  refine x7x rfl rfl ?_
  refine x7x rfl rfl ?_
  refine x7x rfl rfl ?_
  refine x7x rfl rfl ?_
  refine z0z rfl rfl ?_
  refine ⟨by kernel_rfl, ?_⟩
  refine x8x rfl (fun hc15 => ?_) (fun hc15 => ?_)
  rotate_left
  ·simp at hc15
  try simp at hc15
  refine x4x x6x (by rfl) ?_
  refine x2x rfl ?_
  refine y0y ⟨.inr rfl, ?_⟩
  clear hK1 K1
  refine y8y rfl ?_ rfl
  exact congrArg (fun b : Bool => [AV.pv (.bool b)]) (a6d (fun h => by obtain ⟨q1, q2, q3, q4, q5, q6⟩ := h; omega))
 try simp at hg4
 refine x0x rfl z8z rfl rfl y6y rfl rfl ?_
 refine y5y rfl rfl ?_
 refine x3x rfl y6y rfl rfl ?_
 refine y5y rfl rfl ?_
 refine y9y rfl rfl rfl (a0o ..) ?_
 refine y5y rfl rfl ?_
 refine y9y rfl rfl rfl (p7p ..) ?_
 refine y5y rfl rfl ?_
 refine w3w rfl ?_
 refine y2y rfl rfl ?_
 refine x1x rfl ?_
 refine s1s rfl rfl (fun hg5 => ?_) (fun hg5 => ?_)
 rotate_left
 ·try simp at hg5
  refine x7x rfl rfl ?_
  refine x7x rfl rfl ?_
  refine x7x rfl rfl ?_
  refine z0z rfl rfl ?_
  refine ⟨by kernel_rfl, ?_⟩
  refine x8x rfl (fun hc14 => ?_) (fun hc14 => ?_)
  rotate_left
  ·simp at hc14
  try simp at hc14
  refine x4x x6x (by rfl) ?_
  refine x2x rfl ?_
  refine y0y ⟨.inr rfl, ?_⟩
  clear hK1 K1
  refine y8y rfl ?_ rfl
  exact congrArg (fun b : Bool => [AV.pv (.bool b)]) (a6d (fun h => by obtain ⟨q1, q2, q3, q4, q5, q6⟩ := h; omega))
 try simp at hg5
 refine x0x rfl z8z rfl rfl y6y rfl rfl ?_
 refine y5y rfl rfl ?_
 refine x3x rfl y6y rfl rfl ?_
 refine y5y rfl rfl ?_
 refine y9y rfl rfl rfl (p7p ..) ?_
 refine y5y rfl rfl ?_
 refine w3w rfl ?_
 refine y2y rfl rfl ?_
 refine ⟨by kernel_rfl, ?_⟩
 refine x8x rfl (fun hc6 => ?_) (fun hc6 => ?_)
 ·try simp at hc6
  refine x4x x6x (by rfl) ?_
  refine x2x rfl ?_
  refine y0y ⟨.inr rfl, ?_⟩
  clear hK1 K1
  refine y8y rfl ?_ rfl
  exact congrArg (fun b : Bool => [AV.pv (.bool b)]) (a6d (fun h => by obtain ⟨q1, q2, q3, q4, q5, q6⟩ := h; omega))
 try simp at hc6
 have hL : n.views.length = 3 ∧ n.known.length = 3 ∧ (0 ≤ n.version ∧ n.version ≤ 9999) ∧ (0 ≤ n.round ∧ n.round ≤ 9999) ∧ (0 ≤ n.low ∧ n.low ≤ 41) := by omega
 refine x9x ?_
 refine hK1 _ _ ?_
 clear hK1 K1
 refine x5x fun K7 hK7 => ?_
 refine x4x x6x (by rfl) ?_
 refine x2x rfl ?_
 refine y7y ?_
 refine u5u (ι := Nat) (fun i γ1 => [(3, .pv (.int .i64 (i : Int)))]) (fun i γ1 => []) (fun i => i ≤ 3 ∧ c5t n.views (fun j v => ∀ k, n.known[j]? = some k → c9h v ∧ 0 ≤ k ∧ k ≤ 41) i) (fun i => 3 - i) (Cov.cons (t := 1) rfl Cov.nil) (HE.same (id := 0) rfl HE.nil) 0 ⟨by omega, a3g⟩ [] (Cov.cons (t := 3) rfl Cov.nil) HE.nil rfl fun i γ1 hi => ?_
 try dsimp only [List.cons_append, List.nil_append]
 obtain ⟨h1, h2⟩ := hi
 refine x5x fun K8 hK8 => ?_
 refine x4x x6x (by rfl) ?_
 refine x1x rfl ?_
 refine y1y rfl rfl rfl ?_
 refine x8x rfl (fun hc9 => ?_) (fun hc9 => ?_)
 rotate_left
 ·try simp at hc9
  obtain rfl : i = 3 := by omega
  refine v0v ?_
  refine hK7 _ _ ?_
  clear hK8 K8 hK7 K7
  refine x4x x6x (by rfl) ?_
  refine x2x rfl ?_
  refine y0y ⟨.inr rfl, ?_⟩
  refine y8y rfl ?_ rfl
  exact congrArg (fun b : Bool => [AV.pv (.bool b)]) (d1s ⟨hL.1, hL.2.1, hL.2.2.1, hL.2.2.2.1, hL.2.2.2.2, fun i v k a b => a5p h2 (by omega) i v a k b⟩)
 try simp at hc9
 obtain ⟨v, hv⟩ : ∃ v, n.views[i]? = some v := ⟨_, List.getElem?_eq_getElem (by omega)⟩
 obtain ⟨k, hk⟩ : ∃ k, n.known[i]? = some k := ⟨_, List.getElem?_eq_getElem (by omega)⟩
 refine x9x ?_
 refine hK8 _ _ ?_
 clear hK8 K8
 refine x5x fun K10 hK10 => ?_
 refine y7y ?_
 refine x4x x6x (by rfl) ?_
 refine x0x rfl z8z rfl rfl p1p rfl rfl ?_
 refine x3x rfl p1p rfl rfl ?_
 refine x1x rfl ?_
 refine z7z rfl rfl p1p rfl w0w rfl (by assumption) ?_
 refine z6z rfl w0w rfl rfl ?_
 refine y9y rfl rfl rfl (b3l ..) ?_
 refine w3w rfl ?_
 refine x1x rfl ?_
 refine s1s rfl rfl (fun hg11 => ?_) (fun hg11 => ?_)
 rotate_left
 ·try simp at hg11
  have hbad : ¬ c9h v := a5n (by simpa using hg11)
  refine x7x rfl rfl ?_
  refine x7x rfl rfl ?_
  refine x7x rfl rfl ?_
  refine x7x rfl rfl ?_
  refine x7x rfl rfl ?_
  refine x7x rfl rfl ?_
  refine z0z rfl rfl ?_
  refine x8x rfl (fun hc13 => ?_) (fun hc13 => ?_)
  rotate_left
  ·simp at hc13
  try simp at hc13
  refine x4x x6x (by rfl) ?_
  refine x2x rfl ?_
  refine y0y ⟨.inr rfl, ?_⟩
  clear hK10 K10 hK7 K7
  refine y8y rfl ?_ rfl
  exact congrArg (fun b : Bool => [AV.pv (.bool b)]) (a6d (fun h => hbad (h.2.2.2.2.2 _ _ _ hv hk).1))
 try simp at hg11
 have hvo : c9h v := b2x.1 (by simpa using hg11)
 refine x0x rfl z8z rfl rfl v7v rfl rfl ?_
 refine y5y rfl rfl ?_
 refine x3x rfl v7v rfl rfl ?_
 refine y5y rfl rfl ?_
 refine x1x rfl ?_
 refine y5y rfl rfl ?_
 refine z7z rfl rfl v7v rfl y6y rfl (by assumption) ?_
 refine y5y rfl rfl ?_
 refine z4z rfl y6y rfl ?_
 refine y5y rfl rfl ?_
 refine y9y rfl rfl rfl (p7p ..) ?_
 refine y5y rfl rfl ?_
 refine w3w rfl ?_
 refine y2y rfl rfl ?_
 refine x8x rfl (fun hc12 => ?_) (fun hc12 => ?_)
 rotate_left
 ·try simp at hc12
  refine x9x ?_
  refine hK10 _ _ ?_
  clear hK10 K10
  refine y3y x6x (by rfl) ?_
  refine x1x rfl ?_
  refine z9z (b := 1) rfl rfl (by omega) ?_
  refine x2x rfl ?_
  exact ⟨i + 1, ⟨⟨by omega, a3h h2 hv (fun k2 hk2 => by rw [hk] at hk2; cases hk2; exact ⟨hvo, by omega⟩)⟩, by omega⟩, [], (Cov.cons (t := 3) rfl Cov.nil), (Cov.cons (t := 1) rfl Cov.nil), HE.nil, (HE.same (id := 0) rfl HE.nil), rfl⟩
 try simp at hc12
 refine x4x x6x (by rfl) ?_
 refine x2x rfl ?_
 refine y0y ⟨.inr rfl, ?_⟩
 clear hK10 K10 hK7 K7
 refine y8y rfl ?_ rfl
 exact congrArg (fun b : Bool => [AV.pv (.bool b)]) (a6d (fun h => by have := (h.2.2.2.2.2 _ _ _ hv hk).2; omega))
theorem b6u (c : Bool) (n : Nd) : s8s Tryz.prog 148 [.agg (a0t c n)] (.pv (.bool (kb (a3r n)))) := by
 refine z1z x6x (fn := Tryz.f148) (by kernel_rfl) (by kernel_rfl) rfl (outs := [.pv (.bool (kb (a3r n)))]) (by rfl) (Nat.le_of_ble_eq_true rfl) 4 ?_
 refine x4x x6x (by rfl) ?_
 refine v1v (id := 0) rfl rfl rfl ?_
 refine x2x rfl ?_
 refine x5x fun K1 hK1 => ?_
 refine x4x x6x (by rfl) ?_
 refine y4y rfl z8z rfl rfl rfl ?_
 refine y9y rfl rfl rfl (b3k ..) ?_
 refine w3w rfl ?_
 refine x1x rfl ?_
 refine s1s rfl rfl (fun hg2 => ?_) (fun hg2 => ?_)
 rotate_left
 ·try simp at hg2
  have hX : ¬ a5o n := by exact hg2
  refine x7x rfl rfl ?_
  refine x7x rfl rfl ?_
  refine x7x rfl rfl ?_
  refine z0z rfl rfl ?_
  refine x1x rfl ?_
  refine x7x rfl rfl ?_
  refine x7x rfl rfl ?_
  refine x7x rfl rfl ?_
  refine x7x rfl rfl ?_
  refine z0z rfl rfl ?_
  refine x8x rfl (fun hc33 => ?_) (fun hc33 => ?_)
  rotate_left
  ·simp at hc33
  try simp at hc33
  try have hX : ¬ a6c okO b0c n.outs 96 = true := by first | exact hc33 | simpa using hc33
  refine x4x x6x (by rfl) ?_
  refine x2x rfl ?_
  refine y0y ⟨.inr rfl, ?_⟩
  clear hK1 K1
  refine y8y rfl ?_ rfl
  exact congrArg (fun b : Bool => [AV.pv (.bool b)]) (a6d (fun h => by obtain ⟨q1, q2, q3, q4, q5, q6, q7, q8, q9⟩ := h; exact hX q1))
 try simp at hg2
 have hA1 : a5o n := by exact hg2
 refine x0x rfl z8z rfl rfl u7u rfl rfl ?_
 refine y5y rfl rfl ?_
 refine x3x rfl u7u rfl rfl ?_
 refine y5y rfl rfl ?_
 refine y9y rfl rfl rfl (a5d ..) ?_
 refine y5y rfl rfl ?_
 refine w3w rfl ?_
 refine y2y rfl rfl ?_
 refine x1x rfl ?_
 refine s1s rfl rfl (fun hg3 => ?_) (fun hg3 => ?_)
 rotate_left
 ·try simp at hg3
  have hX : ¬ a6c okE a1g n.kept 100 = true := by simpa using hg3
  refine x7x rfl rfl ?_
  refine x7x rfl rfl ?_
  refine x7x rfl rfl ?_
  refine z0z rfl rfl ?_
  refine x8x rfl (fun hc32 => ?_) (fun hc32 => ?_)
  rotate_left
  ·simp at hc32
  try simp at hc32
  try have hX : ¬ a6c okO b0c n.outs 96 = true := by first | exact hc32 | simpa using hc32
  refine x4x x6x (by rfl) ?_
  refine x2x rfl ?_
  refine y0y ⟨.inr rfl, ?_⟩
  clear hK1 K1
  refine y8y rfl ?_ rfl
  exact congrArg (fun b : Bool => [AV.pv (.bool b)]) (a6d (fun h => by obtain ⟨q1, q2, q3, q4, q5, q6, q7, q8, q9⟩ := h; exact hX q2))
 try simp at hg3
 have hA2 : a6c okE a1g n.kept 100 = true := by exact hg3
 refine x0x rfl z8z rfl rfl w6w rfl rfl ?_
 refine y5y rfl rfl ?_
 refine x3x rfl w6w rfl rfl ?_
 refine y5y rfl rfl ?_
 refine y9y rfl rfl rfl (b1q ..) ?_
 refine y5y rfl rfl ?_
 refine w3w rfl ?_
 refine y2y rfl rfl ?_
 refine x8x rfl (fun hc4 => ?_) (fun hc4 => ?_)
 ·try simp at hc4
  try have hX : ¬ a6c okO b0c n.outs 96 = true := by simpa using hc4
  refine x4x x6x (by rfl) ?_
  refine x2x rfl ?_
  refine y0y ⟨.inr rfl, ?_⟩
  clear hK1 K1
  refine y8y rfl ?_ rfl
  exact congrArg (fun b : Bool => [AV.pv (.bool b)]) (a6d (fun h => by obtain ⟨q1, q2, q3, q4, q5, q6, q7, q8, q9⟩ := h; exact hX q3))
 try simp at hc4
 have hA3 : a6c okO b0c n.outs 96 = true := by exact hc4
 refine x9x ?_
 refine hK1 _ _ ?_
 clear hK1 K1
 refine x5x fun K5 hK5 => ?_
 refine x4x x6x (by rfl) ?_
 refine x0x rfl z8z rfl rfl w6w rfl rfl ?_
 refine x3x rfl w6w rfl rfl ?_
 refine u0u rfl w6w rfl ?_
 refine x1x rfl ?_
 refine y7y ?_
 refine w7w 27 rfl fun hlen0 => ?_
 refine u5u (ι := Nat) (fun i γ1 => [(29, .pv (.int .i64 (i : Int)))]) (fun i γ1 => [(1, ((γ1 1), .dead))]) (fun i => i ≤ n.outs.length ∧ c5t n.outs (fun _ o => o.time < n.g) i) (fun i => n.outs.length - i) (Cov.cons (t := 1) rfl (Cov.cons (t := 27) rfl (Cov.cons (t := 28) rfl Cov.nil))) (HE.same (id := 0) rfl (HE.same (id := 2) rfl (HE.same (id := 3) rfl HE.nil))) 0 ⟨by omega, a3g⟩ [0, _] (Cov.cons (t := 29) rfl Cov.nil) (HE.kill rfl HE.nil) rfl fun i γ1 hi => ?_
 try dsimp only [List.cons_append, List.nil_append]
 obtain ⟨a1, a2⟩ := hi
 refine x4x x6x (by rfl) ?_
 refine y1y rfl rfl rfl ?_
 refine x5x fun K6 hK6 => ?_
 refine x8x rfl (fun hc7 => ?_) (fun hc7 => ?_)
 ·try simp at hc7
  obtain ⟨o, ho⟩ : ∃ o, n.outs[i]? = some o := ⟨_, List.getElem?_eq_getElem (by omega)⟩
  refine x9x ?_
  refine hK6 _ _ ?_
  clear hK6 K6
  refine x5x fun K8 hK8 => ?_
  refine y7y ?_
  refine x4x x6x (by rfl) ?_
  refine z7z rfl rfl w6w rfl v2v rfl (by assumption) ?_
  refine z6z rfl v2v rfl rfl ?_
  refine u8u (id := 1) v2v b7h rfl ?_
  refine z5z rfl rfl v2v rfl rfl rfl rfl ?_
  refine x4x x6x (by rfl) ?_
  refine x0x rfl v2v rfl rfl y6y rfl rfl ?_
  refine x3x rfl y6y rfl rfl ?_
  refine x0x rfl z8z rfl rfl y6y rfl rfl ?_
  refine x3x rfl y6y rfl rfl ?_
  refine y1y rfl rfl rfl ?_
  refine x8x rfl (fun hc9 => ?_) (fun hc9 => ?_)
  rotate_left
  ·try simp at hc9
   have hlt : o.time < n.g := by omega
   refine x9x ?_
   refine hK8 _ _ ?_
   clear hK8 K8
   refine y3y x6x (by rfl) ?_
   refine z9z (b := 1) rfl rfl (by omega) ?_
   refine x1x rfl ?_
   exact ⟨i + 1, ⟨⟨by omega, a3h a2 ho hlt⟩, by omega⟩, [0, _], (Cov.cons (t := 29) rfl Cov.nil), (Cov.cons (t := 1) rfl (Cov.cons (t := 27) rfl (Cov.cons (t := 28) rfl Cov.nil))), (HE.kill rfl HE.nil), (HE.same (id := 0) rfl (HE.same (id := 2) rfl (HE.same (id := 3) rfl HE.nil))), rfl⟩
  try simp at hc9
  have hX : ¬ o.time < n.g := by omega
  refine x4x x6x (by rfl) ?_
  refine x2x rfl ?_
  refine y0y ⟨.inr rfl, ?_⟩
  clear hK8 K8 hK5 K5
  refine y8y rfl ?_ rfl
  exact congrArg (fun b : Bool => [AV.pv (.bool b)]) (a6d (fun h => by obtain ⟨q1, q2, q3, q4, q5, q6, q7, q8, q9⟩ := h; exact hX (q4 _ _ ho)))
 try simp at hc7
 have hO : ∀ (i : Nat) o, n.outs[i]? = some o → o.time < n.g := a5p a2 (by omega)
 refine v0v ?_
 refine hK5 _ _ ?_
 clear hK6 K6 hK5 K5
 refine x4x x6x (by rfl) ?_
 refine x0x rfl z8z rfl rfl y6y rfl rfl ?_
 refine x3x rfl y6y rfl rfl ?_
 refine y9y rfl rfl rfl (a2y ..) ?_
 refine x2x rfl ?_
 refine x5x fun K10 hK10 => ?_
 refine x4x x6x (by rfl) ?_
 refine x0x rfl z8z rfl rfl w4w rfl rfl ?_
 refine x3x rfl w4w rfl rfl ?_
 refine u0u rfl w4w rfl ?_
 refine x1x rfl ?_
 refine u0u rfl v7v rfl ?_
 refine y1y rfl rfl rfl ?_
 refine x1x rfl ?_
 refine s1s rfl rfl (fun hg11 => ?_) (fun hg11 => ?_)
 rotate_left
 ·try simp at hg11
  refine x7x rfl rfl ?_
  refine x7x rfl rfl ?_
  refine x7x rfl rfl ?_
  refine z0z rfl rfl ?_
  refine x1x rfl ?_
  refine x7x rfl rfl ?_
  refine x7x rfl rfl ?_
  refine x7x rfl rfl ?_
  refine x7x rfl rfl ?_
  refine z0z rfl rfl ?_
  refine x8x rfl (fun hc31 => ?_) (fun hc31 => ?_)
  rotate_left
  ·simp at hc31
  try simp at hc31
  refine x4x x6x (by rfl) ?_
  refine x2x rfl ?_
  refine y0y ⟨.inr rfl, ?_⟩
  clear hK10 K10
  refine y8y rfl ?_ rfl
  exact congrArg (fun b : Bool => [AV.pv (.bool b)]) (a6d (fun h => by obtain ⟨q1, q2, q3, q4, q5, q6, q7, q8, q9⟩ := h; omega))
 try simp at hg11
 refine x0x rfl z8z rfl rfl p1p rfl rfl ?_
 refine y5y rfl rfl ?_
 refine x3x rfl p1p rfl rfl ?_
 refine y5y rfl rfl ?_
 refine u0u rfl p1p rfl ?_
 refine y5y rfl rfl ?_
 refine y1y rfl rfl rfl ?_
 refine y2y rfl rfl ?_
 refine x1x rfl ?_
 refine s1s rfl rfl (fun hg12 => ?_) (fun hg12 => ?_)
 rotate_left
 ·try simp at hg12
  refine x7x rfl rfl ?_
  refine x7x rfl rfl ?_
  refine x7x rfl rfl ?_
  refine z0z rfl rfl ?_
  refine x8x rfl (fun hc30 => ?_) (fun hc30 => ?_)
  rotate_left
  ·simp at hc30
  try simp at hc30
  refine x4x x6x (by rfl) ?_
  refine x2x rfl ?_
  refine y0y ⟨.inr rfl, ?_⟩
  clear hK10 K10
  refine y8y rfl ?_ rfl
  exact congrArg (fun b : Bool => [AV.pv (.bool b)]) (a6d (fun h => by obtain ⟨q1, q2, q3, q4, q5, q6, q7, q8, q9⟩ := h; omega))
 try simp at hg12
 refine x0x rfl z8z rfl rfl v7v rfl rfl ?_
 refine y5y rfl rfl ?_
 refine x3x rfl v7v rfl rfl ?_
 refine y5y rfl rfl ?_
 refine u0u rfl v7v rfl ?_
 refine y5y rfl rfl ?_
 refine y1y rfl rfl rfl ?_
 refine y2y rfl rfl ?_
 refine x8x rfl (fun hc13 => ?_) (fun hc13 => ?_)
 ·try simp at hc13
  refine x4x x6x (by rfl) ?_
  refine x2x rfl ?_
  refine y0y ⟨.inr rfl, ?_⟩
  clear hK10 K10
  refine y8y rfl ?_ rfl
  exact congrArg (fun b : Bool => [AV.pv (.bool b)]) (a6d (fun h => by obtain ⟨q1, q2, q3, q4, q5, q6, q7, q8, q9⟩ := h; omega))
 try simp at hc13
 have hL : n.lanes.length = (a0s n.id 4).length ∧ n.views.length = 3 ∧ n.known.length = 3 := by omega
 refine x9x ?_
 refine hK10 _ _ ?_
 clear hK10 K10
 refine x5x fun K14 hK14 => ?_
 refine x4x x6x (by rfl) ?_
 refine x0x rfl z8z rfl rfl w4w rfl rfl ?_
 refine x3x rfl w4w rfl rfl ?_
 refine u0u rfl w4w rfl ?_
 refine x1x rfl ?_
 refine y7y ?_
 refine w7w 61 rfl fun hlen1 => ?_
 refine u5u (ι := Nat) (fun j γ2 => [(63, .pv (.int .i64 (j : Int)))]) (fun j γ2 => [(2, ((γ2 2), .dead))]) (fun j => j ≤ n.lanes.length ∧ c5t n.lanes (fun j l => (a0s n.id 4)[j]? = some l.proc ∧ a7u l = true) j) (fun j => n.lanes.length - j) (Cov.cons (t := 1) rfl (Cov.cons (t := 5) rfl (Cov.cons (t := 61) rfl (Cov.cons (t := 62) rfl Cov.nil)))) (HE.same (id := 0) rfl (HE.same (id := 1) rfl (HE.same (id := 3) rfl HE.nil))) 0 ⟨by omega, a3g⟩ [0, 0, _] (Cov.cons (t := 63) rfl Cov.nil) (HE.kill rfl HE.nil) rfl fun j γ2 hi => ?_
 try dsimp only [List.cons_append, List.nil_append]
 obtain ⟨b1, b2⟩ := hi
 refine x4x x6x (by rfl) ?_
 refine y1y rfl rfl rfl ?_
 refine x5x fun K15 hK15 => ?_
 refine x8x rfl (fun hc16 => ?_) (fun hc16 => ?_)
 ·try simp at hc16
  obtain ⟨l, hl⟩ : ∃ l, n.lanes[j]? = some l := ⟨_, List.getElem?_eq_getElem (by omega)⟩
  obtain ⟨q, hq⟩ : ∃ q, (a0s n.id 4)[j]? = some q := ⟨_, List.getElem?_eq_getElem (by omega)⟩
  refine x9x ?_
  refine hK15 _ _ ?_
  clear hK15 K15
  refine x5x fun K17 hK17 => ?_
  refine y7y ?_
  refine x4x x6x (by rfl) ?_
  refine x1x rfl ?_
  refine z7z rfl rfl w4w rfl v4v rfl (by assumption) ?_
  refine z6z rfl v4v rfl rfl ?_
  refine u8u (id := 2) v4v a9u rfl ?_
  refine x2x rfl ?_
  refine z5z rfl rfl v4v rfl rfl rfl rfl ?_
  refine q7q x6x r4r (by rfl) ?_
  refine x0x rfl v4v rfl rfl y6y rfl rfl ?_
  refine x3x rfl y6y rfl rfl ?_
  refine x1x rfl ?_
  refine x1x rfl ?_
  refine z7z rfl rfl v7v rfl y6y rfl (by assumption) ?_
  refine z4z rfl y6y rfl ?_
  refine y1y rfl rfl rfl ?_
  refine x1x rfl ?_
  refine s1s rfl rfl (fun hg18 => ?_) (fun hg18 => ?_)
  rotate_left
  ·try simp at hg18
   have hX : ¬ l.proc = q := by exact hg18
   refine x7x rfl rfl ?_
   refine x7x rfl rfl ?_
   refine z0z rfl rfl ?_
   refine ⟨by kernel_rfl, ?_⟩
   refine x8x rfl (fun hc20 => ?_) (fun hc20 => ?_)
   rotate_left
   ·simp at hc20
   try simp at hc20
   try have hX : ¬ a7u l = true := by first | exact hc20 | simpa using hc20
   refine x4x x6x (by rfl) ?_
   refine x2x rfl ?_
   refine y0y ⟨.inr rfl, ?_⟩
   clear hK17 K17 hK14 K14
   refine y8y rfl ?_ rfl
   exact congrArg (fun b : Bool => [AV.pv (.bool b)]) (a6d (fun h => by obtain ⟨q1, q2, q3, q4, q5, q6, q7, q8, q9⟩ := h; have := (q8 _ _ hl).1; rw [hq] at this; exact hX (Option.some.inj this).symm))
  try simp at hg18
  have hpe : l.proc = q := by exact hg18
  refine y4y rfl v4v rfl rfl rfl ?_
  refine y5y rfl rfl ?_
  refine y9y rfl rfl rfl (b9s ..) ?_
  refine y5y rfl rfl ?_
  refine w3w rfl ?_
  refine y2y rfl rfl ?_
  refine ⟨by kernel_rfl, ?_⟩
  refine x8x rfl (fun hc19 => ?_) (fun hc19 => ?_)
  rotate_left
  ·try simp at hc19
   have hlo : a7u l = true := by exact hc19
   refine x9x ?_
   refine hK17 _ _ ?_
   clear hK17 K17
   refine y3y x6x (by rfl) ?_
   refine z9z (b := 1) rfl rfl (by omega) ?_
   refine x1x rfl ?_
   exact ⟨j + 1, ⟨⟨by omega, a3h b2 hl ⟨by rw [hq, hpe], hlo⟩⟩, by omega⟩, [0, 0, _], (Cov.cons (t := 63) rfl Cov.nil), (Cov.cons (t := 1) rfl (Cov.cons (t := 5) rfl (Cov.cons (t := 61) rfl (Cov.cons (t := 62) rfl Cov.nil)))), (HE.kill rfl HE.nil), (HE.same (id := 0) rfl (HE.same (id := 1) rfl (HE.same (id := 3) rfl HE.nil))), rfl⟩
  try simp at hc19
  try have hX : ¬ a7u l = true := by simpa using hc19
  refine x4x x6x (by rfl) ?_
  refine x2x rfl ?_
  refine y0y ⟨.inr rfl, ?_⟩
  clear hK17 K17 hK14 K14
  refine y8y rfl ?_ rfl
  exact congrArg (fun b : Bool => [AV.pv (.bool b)]) (a6d (fun h => by obtain ⟨q1, q2, q3, q4, q5, q6, q7, q8, q9⟩ := h; exact hX (q8 _ _ hl).2))
 try simp at hc16
 have hN : d0m n := a5p b2 (by omega)
 refine v0v ?_
 refine hK14 _ _ ?_
 clear hK15 K15 hK14 K14
 refine x5x fun K21 hK21 => ?_
 refine x4x x6x (by rfl) ?_
 refine x0x rfl z8z rfl rfl p1p rfl rfl ?_
 refine x3x rfl p1p rfl rfl ?_
 refine u0u rfl p1p rfl ?_
 refine x1x rfl ?_
 refine y7y ?_
 refine w7w 82 rfl fun hlen2 => ?_
 refine u5u (ι := Nat) (fun k γ3 => [(84, .pv (.int .i64 (k : Int)))]) (fun k γ3 => [(3, ((γ3 3), .dead))]) (fun k => k ≤ n.views.length ∧ c5t n.views (fun j v => ∀ k, n.known[j]? = some k → c9h v ∧ 0 ≤ k ∧ k ≤ 41) k) (fun k => n.views.length - k) (Cov.cons (t := 1) rfl (Cov.cons (t := 82) rfl (Cov.cons (t := 83) rfl Cov.nil))) (HE.same (id := 0) rfl (HE.same (id := 1) rfl (HE.same (id := 2) rfl HE.nil))) 0 ⟨by omega, a3g⟩ [0, 0, 0, _] (Cov.cons (t := 84) rfl Cov.nil) (HE.kill rfl HE.nil) rfl fun k γ3 hi => ?_
 try dsimp only [List.cons_append, List.nil_append]
 obtain ⟨c1, c2⟩ := hi
 refine x4x x6x (by rfl) ?_
 refine y1y rfl rfl rfl ?_
 refine x5x fun K22 hK22 => ?_
 refine x8x rfl (fun hc23 => ?_) (fun hc23 => ?_)
 rotate_left
 ·try simp at hc23
  have hV : d0l n := fun i v k0 a b => a5p c2 (by omega) i v a k0 b
  refine v0v ?_
  refine hK21 _ _ ?_
  clear hK22 K22 hK21 K21
  refine x4x x6x (by rfl) ?_
  refine x2x rfl ?_
  refine y0y ⟨.inr rfl, ?_⟩
  refine y8y rfl ?_ rfl
  exact congrArg (fun b : Bool => [AV.pv (.bool b)]) (d1s ⟨hA1, hA2, hA3, hO, hL.1, hL.2.1, hL.2.2, hN, hV⟩)
 try simp at hc23
 obtain ⟨v, hv⟩ : ∃ v, n.views[k]? = some v := ⟨_, List.getElem?_eq_getElem (by omega)⟩
 obtain ⟨k0, hk⟩ : ∃ k0, n.known[k]? = some k0 := ⟨_, List.getElem?_eq_getElem (by omega)⟩
 refine x9x ?_
 refine hK22 _ _ ?_
 clear hK22 K22
 refine x5x fun K24 hK24 => ?_
 refine y7y ?_
 refine x4x x6x (by rfl) ?_
 refine x1x rfl ?_
 refine z7z rfl rfl p1p rfl w0w rfl (by assumption) ?_
 refine z6z rfl w0w rfl rfl ?_
 refine u8u (id := 3) w0w a7y rfl ?_
 refine x2x rfl ?_
 refine z5z rfl rfl w0w rfl rfl rfl rfl ?_
 refine b2a (ι := Unit) (fun _i γ4 => [(10, .pv (.bool (kb (c9h v))))]) (fun _i γ4 => []) (fun _i => True) (Cov.cons (t := 1) rfl (Cov.cons (t := 8) rfl (Cov.cons (t := 82) rfl (Cov.cons (t := 83) rfl (Cov.cons (t := 84) rfl Cov.nil))))) (HE.same (id := 0) rfl (HE.same (id := 1) rfl (HE.same (id := 2) rfl (HE.same (id := 3) rfl HE.nil)))) ?_ fun _i γ4 hi => ?_
 ·refine y3y x6x (by rfl) ?_
  refine x0x rfl w0w rfl rfl y6y rfl rfl ?_
  refine x3x rfl y6y rfl rfl ?_
  refine y9y rfl rfl rfl (w5w ..) ?_
  refine x1x rfl ?_
  refine s1s rfl rfl (fun hg25 => ?_) (fun hg25 => ?_)
  rotate_left
  ·try simp at hg25
   refine x7x rfl rfl ?_
   refine x7x rfl rfl ?_
   refine y2y rfl rfl ?_
   refine x1x rfl ?_
   refine x7x rfl rfl ?_
   refine x7x rfl rfl ?_
   refine x7x rfl rfl ?_
   refine y2y rfl rfl ?_
   refine x2x rfl ?_
   exact ⟨(), trivial, [], (Cov.cons' (t := 10) rfl (by exact congrArg (fun b : Bool => AV.pv (.bool b)) (a6d (fun h => by obtain ⟨q1, q2, q3⟩ := h; omega))) Cov.nil), (Cov.cons (t := 1) rfl (Cov.cons (t := 8) rfl (Cov.cons (t := 82) rfl (Cov.cons (t := 83) rfl (Cov.cons (t := 84) rfl Cov.nil))))), HE.nil, (HE.same (id := 0) rfl (HE.same (id := 1) rfl (HE.same (id := 2) rfl (HE.same (id := 3) rfl HE.nil)))), rfl⟩
  try simp at hg25
  refine x0x rfl w0w rfl rfl y6y rfl rfl ?_
  refine y5y rfl rfl ?_
  refine x3x rfl y6y rfl rfl ?_
  refine y5y rfl rfl ?_
  refine y9y rfl rfl rfl (w5w ..) ?_
  refine z0z rfl rfl ?_
  refine x1x rfl ?_
  refine s1s rfl rfl (fun hg26 => ?_) (fun hg26 => ?_)
  rotate_left
  ·try simp at hg26
   refine x7x rfl rfl ?_
   refine x7x rfl rfl ?_
   refine y2y rfl rfl ?_
   refine x2x rfl ?_
   exact ⟨(), trivial, [], (Cov.cons' (t := 10) rfl (by exact congrArg (fun b : Bool => AV.pv (.bool b)) (a6d (fun h => by obtain ⟨q1, q2, q3⟩ := h; omega))) Cov.nil), (Cov.cons (t := 1) rfl (Cov.cons (t := 8) rfl (Cov.cons (t := 82) rfl (Cov.cons (t := 83) rfl (Cov.cons (t := 84) rfl Cov.nil))))), HE.nil, (HE.same (id := 0) rfl (HE.same (id := 1) rfl (HE.same (id := 2) rfl (HE.same (id := 3) rfl HE.nil)))), rfl⟩
  try simp at hg26
  refine x0x rfl w0w rfl rfl u7u rfl rfl ?_
  refine y5y rfl rfl ?_
  refine x3x rfl u7u rfl rfl ?_
  refine y5y rfl rfl ?_
  refine y9y rfl rfl rfl (a5d ..) ?_
  refine z0z rfl rfl ?_
  refine x2x rfl ?_
  exact ⟨(), trivial, [], (Cov.cons' (t := 10) rfl (by exact congrArg (fun b : Bool => AV.pv (.bool b)) (d4y ⟨fun h => ⟨by omega, by omega, h⟩, fun h => h.2.2⟩)) Cov.nil), (Cov.cons (t := 1) rfl (Cov.cons (t := 8) rfl (Cov.cons (t := 82) rfl (Cov.cons (t := 83) rfl (Cov.cons (t := 84) rfl Cov.nil))))), HE.nil, (HE.same (id := 0) rfl (HE.same (id := 1) rfl (HE.same (id := 2) rfl (HE.same (id := 3) rfl HE.nil)))), rfl⟩
 ·try dsimp only [List.cons_append, List.nil_append]
  refine x4x x6x (by rfl) ?_
  refine x1x rfl ?_
  refine w3w rfl ?_
  refine x1x rfl ?_
  refine s1s rfl rfl (fun hg27 => ?_) (fun hg27 => ?_)
  rotate_left
  ·try simp at hg27
   have hX : ¬ c9h v := a5n (by simpa using hg27)
   refine x7x rfl rfl ?_
   refine x7x rfl rfl ?_
   refine x7x rfl rfl ?_
   refine x7x rfl rfl ?_
   refine x7x rfl rfl ?_
   refine x7x rfl rfl ?_
   refine z0z rfl rfl ?_
   refine x8x rfl (fun hc29 => ?_) (fun hc29 => ?_)
   rotate_left
   ·simp at hc29
   try simp at hc29
   refine x4x x6x (by rfl) ?_
   refine x2x rfl ?_
   refine y0y ⟨.inr rfl, ?_⟩
   clear hK24 K24 hK21 K21
   refine y8y rfl ?_ rfl
   exact congrArg (fun b : Bool => [AV.pv (.bool b)]) (a6d (fun h => by obtain ⟨q1, q2, q3, q4, q5, q6, q7, q8, q9⟩ := h; exact hX (q9 _ _ _ hv hk).1))
  try simp at hg27
  have hvo : c9h v := b2x.1 (by simpa using hg27)
  refine x0x rfl z8z rfl rfl v7v rfl rfl ?_
  refine y5y rfl rfl ?_
  refine x3x rfl v7v rfl rfl ?_
  refine y5y rfl rfl ?_
  refine x1x rfl ?_
  refine y5y rfl rfl ?_
  refine z7z rfl rfl v7v rfl y6y rfl (by assumption) ?_
  refine y5y rfl rfl ?_
  refine z4z rfl y6y rfl ?_
  refine y5y rfl rfl ?_
  refine y9y rfl rfl rfl (w5w ..) ?_
  refine y5y rfl rfl ?_
  refine w3w rfl ?_
  refine y2y rfl rfl ?_
  refine x8x rfl (fun hc28 => ?_) (fun hc28 => ?_)
  rotate_left
  ·try simp at hc28
   refine x9x ?_
   refine hK24 _ _ ?_
   clear hK24 K24
   refine y3y x6x (by rfl) ?_
   refine z9z (b := 1) rfl rfl (by omega) ?_
   refine x1x rfl ?_
   exact ⟨k + 1, ⟨⟨by omega, a3h c2 hv (fun k2 hk2 => by rw [hk] at hk2; cases hk2; exact ⟨hvo, by omega⟩)⟩, by omega⟩, [0, 0, 0, _], (Cov.cons (t := 84) rfl Cov.nil), (Cov.cons (t := 1) rfl (Cov.cons (t := 82) rfl (Cov.cons (t := 83) rfl Cov.nil))), (HE.kill rfl HE.nil), (HE.same (id := 0) rfl (HE.same (id := 1) rfl (HE.same (id := 2) rfl HE.nil))), rfl⟩
  try simp at hc28
  refine x4x x6x (by rfl) ?_
  refine x2x rfl ?_
  refine y0y ⟨.inr rfl, ?_⟩
  clear hK24 K24 hK21 K21
  refine y8y rfl ?_ rfl
  exact congrArg (fun b : Bool => [AV.pv (.bool b)]) (a6d (fun h => by obtain ⟨q1, q2, q3, q4, q5, q6, q7, q8, q9⟩ := h; have := (q9 _ _ _ hv hk).2; omega))
end
section
theorem b3m (c : Bool) (p : Pa) (ps : List Pa) : Meth Tryz.prog 216 1 [0] [.ptr 0 0 0, .agg (a2c c p)] [(0, (0, .chn 240 243 ((ps).map (a2c c))))] (.tup []) [(0, (0, .chn 240 243 ((ps ++ [p]).map (a2c c))))] := by
 refine u9u x6x (fn := Tryz.f216) (by kernel_rfl) (by kernel_rfl) rfl (O0 := []) 1 2 (Nat.le_of_ble_eq_true rfl) (by rfl) (by repeat (first | exact BndH.nil | refine BndH.chn ?_)) (by repeat (first | exact BndH.nil | refine BndH.chn ?_)) (by rfl) fun γ => ?_
 show Ex Tryz.prog _ _ [(0, .ptr 0 (γ 0) 0), (1, .agg (a2c c p))] [(0, ((γ 0), .chn 240 243 ((ps).map (a2c c)))), (2, (0, .dead)), (1, (0, .dead))] _
 refine d2x ?_
 refine d1k 0 rfl fun b0 bs hbl hbn => ?_
 have hbl2 : bs.length = ps.length := by rw [hbl, List.length_map]
 refine x4x x6x (by rfl) ?_
 refine v1v (id := 1) rfl rfl rfl ?_
 refine x4x x6x (by rfl) ?_
 refine y4y rfl v8v rfl rfl rfl ?_
 refine q8q c3q rfl d4j rfl (by simp only [pI, v8v, T78, a3c, d5y, a0f, p4p, AV.okc, AV.one, Value.oneCell', List.map_cons, List.map_nil, List.getElem?_cons_zero, List.getElem?_cons_succ, List.take_succ_cons, List.take_zero, List.drop_succ_cons, List.drop_zero, List.cons_append, List.nil_append, List.length_cons, List.length_nil, if_true, and_self, Nat.reduceAdd, Nat.reduceLeDiff]; rfl) ?_
 refine v1v (id := 2) rfl rfl rfl ?_
 refine x2x rfl ?_
 refine x5x fun K1 hK1 => ?_
 refine c7q 4 0 2 rfl rfl (by intro h; cases h) rfl rfl rfl fun bn hbn2 => ?_
 refine x4x x6x (by rfl) ?_
 refine x1x rfl ?_
 refine q3q rfl rfl ?_
 refine x0x rfl b4m rfl rfl a3c rfl rfl ?_
 refine b8o x6x (out := .pv (a8x bs.getLast?)) rfl a3c rfl rfl ?_
 refine a9v rfl rfl (by intro a c h h2; cases h; cases h2; rfl) (.inl rfl) (c7h (by kernel_rfl) _ _ _) ?_
 refine x8x rfl (fun hc2 => ?_) (fun hc2 => ?_)
 ·try simp at hc2
  obtain rfl : bs = [] := by cases bs with | nil => rfl | cons b r => (simp [List.getLast?_cons, a2q] at hc2)
  obtain rfl : ps = [] := List.eq_nil_of_length_eq_zero (by simpa using hbl2.symm)
  refine y3y x6x (by rfl) ?_
  refine x1x rfl ?_
  refine x1x rfl ?_
  refine q3q rfl rfl ?_
  refine x0x rfl b4m rfl rfl a3c rfl rfl ?_
  refine b4w x6x rfl rfl a3c rfl rfl rfl rfl rfl ?_
  refine hK1 _ _ ?_
  clear hK1 K1
  refine y3y x6x (by rfl) ?_
  refine x1x rfl ?_
  refine x1x rfl ?_
  refine q3q rfl rfl ?_
  refine x0x rfl b4m rfl rfl a3c rfl rfl ?_
  refine b4w x6x rfl rfl a3c rfl rfl rfl rfl rfl ?_
  refine Conv.step (b8m 0 b0 240 243 ([bn]) ([a2c c p]) rfl rfl rfl) (Conv.done ?_)
  exact ⟨.inl rfl, [γ 0], rfl, rfl, HE.same rfl HE.nil⟩
 try simp at hc2
 obtain ⟨bs0, bl, rfl⟩ := c7o (l := bs) (by exact hc2)
 obtain ⟨ps0, pl, rfl⟩ := c7o (l := ps) (by rintro rfl; simp at hbl2)
 refine y3y x6x (by rfl) ?_
 refine x1x rfl ?_
 refine q3q rfl rfl ?_
 refine x0x rfl b4m rfl rfl a3c rfl rfl ?_
 refine b8o x6x (out := PQ bl 0) rfl a3c rfl (by rw [List.getLast?_concat]; rfl) ?_
 refine x1x rfl ?_
 refine c2q rfl ?_
 refine a3x x6x rfl c3q rfl rfl a3c rfl ?_
 refine c7r x6x (bty := 243) ((b0, 240, [.pv (a8x (bs0 ++ [bl]).head?), .pv (a8x (bs0 ++ [bl]).getLast?)]) :: b6z 243 (some bl) bs0 (ps0.map (a2c c))) [(bn, 243, a2c c p ++ [.pv (.pointer none)])] (cs := a2c c pl ++ [.pv (.pointer none)]) 0 rfl rfl a3c rfl rfl rfl (by rw [chB, List.map_append, List.map_cons, List.map_nil, c0v (by rw [List.length_map]; simpa using hbl2)]; simp [a8x]) (Nat.le_of_ble_eq_true rfl) rfl ?_
 refine hK1 _ _ ?_
 clear hK1 K1
 refine y3y x6x (by rfl) ?_
 refine x1x rfl ?_
 refine x1x rfl ?_
 refine q3q rfl rfl ?_
 refine x0x rfl b4m rfl rfl a3c rfl rfl ?_
 refine b4w x6x rfl rfl a3c rfl rfl rfl rfl rfl ?_
 refine Conv.step (b8m 0 b0 240 243 (bs0 ++ [bl] ++ [bn]) (((ps0 ++ [pl]) ++ [p]).map (a2c c)) rfl (by simp at hbl2 ⊢; exact hbl2) (by rw [List.map_append, List.map_cons (l := []), List.map_nil, d0e (by rw [List.length_map]; exact hbl2), List.map_append, List.map_cons, List.map_nil, c0v (by rw [List.length_map]; simpa using hbl2)]; cases bs0 <;> simp [a8x] <;> rfl)) (Conv.done ?_)
 exact ⟨.inl rfl, [γ 0], rfl, rfl, HE.same rfl HE.nil⟩
theorem a9m (c : Bool) (l : List Pa) : Meth Tryz.prog 150 1 [] [a7l c l] [(0, (0, .dead))] (.ptr 0 0 0) [(0, (0, .chn 240 243 ((l).map (a2c c))))] := by
 refine u9u x6x (fn := Tryz.f150) (by kernel_rfl) (by kernel_rfl) rfl (O0 := [.ptr 0 0 0]) 1 1 (Nat.le_of_ble_eq_true rfl) (by rfl) (by repeat (first | exact BndH.nil | refine BndH.dead ?_)) (by repeat (first | exact BndH.nil | refine BndH.chn ?_)) (by rfl) fun γ => ?_
 show Ex Tryz.prog _ _ [(0, a7l c l)] [(0, ((γ 0), .dead)), (1, (0, .dead))] _
 refine w7w 0 rfl fun hlen => ?_
 refine x4x x6x (by rfl) ?_
 refine x2x rfl ?_
 refine x4x x6x (by rfl) ?_
 refine q8q b4m rfl d4i rfl (by simp only [pI, a0f, p4p, AV.okc, AV.one, T3, T4, List.getElem?_cons_zero, List.getElem?_cons_succ, List.take_succ_cons, List.take_zero, List.drop_succ_cons, List.drop_zero, List.cons_append, List.nil_append, List.length_cons, List.length_nil, if_true, and_self, Nat.reduceAdd, Nat.reduceLeDiff]; rfl) ?_
 refine v1v (id := 0) rfl rfl rfl ?_
 refine x2x rfl ?_
 refine x5x fun K1 hK1 => ?_
 refine x4x x6x (by rfl) ?_
 refine x1x rfl ?_
 refine u0u rfl v9v rfl ?_
 refine x1x rfl ?_
 refine y7y ?_
 refine c7p 0 243 rfl ?_
 refine u5u (ι := Nat) (fun i γ1 => [(10, .pv (.int .i64 (i : Int)))]) (fun i γ1 => [(0, ((γ 0 + 1), .chn 240 243 ((l.take i).map (a2c c)))), (1, ((γ1 1), .dead))]) (fun i => i ≤ l.length) (fun i => l.length - i) (Cov.cons (t := 3) rfl (Cov.cons (t := 8) rfl (Cov.cons (t := 9) rfl Cov.nil))) HE.nil 0 (by omega) [0, _] (Cov.cons (t := 10) rfl Cov.nil) (HE.chn rfl (by rw [List.take_zero]; rfl) (HE.kill rfl HE.nil)) rfl fun i γ1 hi => ?_
 try dsimp only [List.cons_append, List.nil_append]
 refine x4x x6x (by rfl) ?_
 refine y1y rfl rfl rfl ?_
 refine x5x fun K2 hK2 => ?_
 refine x8x rfl (fun hc3 => ?_) (fun hc3 => ?_)
 rotate_left
 ·try simp at hc3
  obtain rfl : i = l.length := by omega
  refine v0v ?_
  refine hK1 _ _ ?_
  clear hK2 K2 hK1 K1
  refine x4x x6x (by rfl) ?_
  refine x1x rfl ?_
  refine x2x rfl ?_
  refine y0y ?_
  rw [List.take_length]
  exact ⟨.inr rfl, [_], rfl, rfl, HE.same rfl HE.nil⟩
 try simp at hc3
 obtain ⟨p, hp⟩ : ∃ p, l[i]? = some p := ⟨_, List.getElem?_eq_getElem (by omega)⟩
 refine x9x ?_
 refine hK2 _ _ ?_
 clear hK2 K2
 refine x5x fun K4 hK4 => ?_
 refine y7y ?_
 refine x4x x6x (by rfl) ?_
 refine z7z rfl rfl v9v rfl v8v rfl (by assumption) ?_
 refine z6z rfl v8v rfl rfl ?_
 refine u8u (id := 1) v8v b4n rfl ?_
 refine z5z rfl rfl v8v rfl rfl rfl rfl ?_
 refine y3y x6x (by rfl) ?_
 refine x1x rfl ?_
 refine y4y rfl v8v rfl rfl rfl ?_
 refine v5v [0] [_] (b3m c p (l.take i)) rfl rfl rfl (by decide) rfl rfl (by repeat (first | exact InH.nil | refine InH.cons rfl ?_)) (by (simp only [pI, List.map_cons, List.map_nil, u1u, u2u, gl, nx, q4q, Nat.beq, Nat.add_eq, List.getD_cons_zero, List.getD_cons_succ, List.getD_nil, Bool.or_false, Bool.false_or, Bool.true_or, Bool.or_true, Nat.add_zero, Nat.zero_add]; rfl)) (by (simp only [pI, List.map_cons, List.map_nil, u1u, u2u, gl, nx, q4q, Nat.beq, Nat.add_eq, List.getD_cons_zero, List.getD_cons_succ, List.getD_nil, Bool.or_false, Bool.false_or, Bool.true_or, Bool.or_true, Nat.add_zero, Nat.zero_add]; rfl)) ?_
 refine hK4 _ _ ?_
 clear hK4 K4
 refine y3y x6x (by rfl) ?_
 refine z9z (b := 1) rfl rfl (by omega) ?_
 refine x1x rfl ?_
 exact ⟨i + 1, ⟨by omega, by omega⟩, [0, _], (Cov.cons (t := 10) rfl Cov.nil), (Cov.cons (t := 3) rfl (Cov.cons (t := 8) rfl (Cov.cons (t := 9) rfl Cov.nil))), (HE.chn rfl (by rw [p0p hp]) (HE.kill rfl HE.nil)), HE.nil, rfl⟩
theorem a3j (c c' : Bool) (ps : List Pa) (s : List Ev) : Meth Tryz.prog 151 1 [0] [.ptr 0 0 0, a1n c' s] [(0, (0, .chn 240 243 ((ps).map (a2c c))))] (.pv (.int .i64 (same ps s : Int))) [] := by
 refine u9u x6x (fn := Tryz.f151) (by kernel_rfl) (by kernel_rfl) rfl (O0 := [.pv (.int .i64 (same ps s : Int))]) 1 0 (Nat.le_of_ble_eq_true rfl) (by rfl) (by repeat (first | exact BndH.nil | refine BndH.chn ?_)) (by repeat (exact BndH.nil)) (by rfl) fun γ => ?_
 show Ex Tryz.prog _ _ [(0, .ptr 0 (γ 0) 0), (1, a1n c' s)] [(0, ((γ 0), .chn 240 243 ((ps).map (a2c c))))] _
 refine w7w 1 rfl fun hlen => ?_
 refine d1k 0 rfl fun b0 bs hbl hbn => ?_
 have hbl2 : bs.length = ps.length := by rw [hbl, List.length_map]
 refine x4x x6x (by rfl) ?_
 refine x2x rfl ?_
 refine x4x x6x (by rfl) ?_
 refine x2x rfl ?_
 refine x5x fun K1 hK1 => ?_
 refine x4x x6x (by rfl) ?_
 refine x1x rfl ?_
 refine q3q rfl rfl ?_
 refine x0x rfl b4m rfl rfl a3c rfl rfl ?_
 refine b8o x6x (out := .pv (a8x bs.head?)) rfl a3c rfl rfl ?_
 refine x2x rfl ?_
 refine y7y ?_
 refine u5u (ι := Nat) (fun i γ1 => [(5, .pv (.int .i64 (i : Int))), (6, .pv (a8x bs[i]?))]) (fun i γ1 => []) (fun i => i ≤ ps.length ∧ i ≤ s.length ∧ same ps s = i + same (ps.drop i) (s.drop i)) (fun i => ps.length - i) (Cov.cons (t := 1) rfl Cov.nil) (HE.same (id := 0) rfl HE.nil) 0 ⟨by omega, by omega, by rw [List.drop_zero, List.drop_zero, Nat.zero_add]⟩ [] (Cov.cons (t := 5) rfl (Cov.cons' (t := 6) rfl ((by rw [List.head?_eq_getElem?])) Cov.nil)) HE.nil rfl fun i γ1 hi => ?_
 try dsimp only [List.cons_append, List.nil_append]
 obtain ⟨h1, h2, h3⟩ := hi
 refine x5x fun K2 hK2 => ?_
 refine q7q x6x r4r (by rfl) ?_
 refine x1x rfl ?_
 refine a9v rfl rfl (by intro a c h h2; cases h; cases h2; rfl) (.inr rfl) (c7h (by kernel_rfl) _ _ _) ?_
 refine x1x rfl ?_
 refine s1s rfl rfl (fun hg3 => ?_) (fun hg3 => ?_)
 rotate_left
 ·try simp at hg3
  have g1 : ps.length ≤ i := by omega
  refine x7x rfl rfl ?_
  refine x7x rfl rfl ?_
  refine x7x rfl rfl ?_
  refine y2y rfl rfl ?_
  refine x1x rfl ?_
  refine x7x rfl rfl ?_
  refine x7x rfl rfl ?_
  refine x7x rfl rfl ?_
  refine x7x rfl rfl ?_
  refine x7x rfl rfl ?_
  refine x7x rfl rfl ?_
  refine x7x rfl rfl ?_
  refine x7x rfl rfl ?_
  refine x7x rfl rfl ?_
  refine x7x rfl rfl ?_
  refine y2y rfl rfl ?_
  refine ⟨by kernel_rfl, ?_⟩
  refine x8x rfl (fun hc8 => ?_) (fun hc8 => ?_)
  ·simp at hc8
  try simp at hc8
  try have heq : ¬ p.ev = e := by simpa [a2q] using hc8
  refine v0v ?_
  refine hK1 _ _ ?_
  clear hK2 K2 hK1 K1
  refine x4x x6x (by rfl) ?_
  refine x1x rfl ?_
  refine x2x rfl ?_
  refine b8n 0 b0 240 243 (bs) (ps.map (a2c c)) rfl hbl rfl ?_
  refine y0y ?_
  refine ⟨.inr rfl, [γ 0], rfl, ?_, HE.same rfl HE.nil⟩
  exact congrArg (fun v : Nat => some [AV.pv (.int .i64 (v : Int))]) (h3.trans (by rw [c1h g1]; rfl)).symm
 try simp at hg3
 obtain ⟨b, hb⟩ : ∃ b, bs[i]? = some b := ⟨_, List.getElem?_eq_getElem (by omega)⟩
 rw [hb]
 have g1 : i < ps.length := by have := (List.getElem?_eq_some_iff.1 hb).1; omega
 obtain ⟨p, hp⟩ : ∃ p, ps[i]? = some p := ⟨_, List.getElem?_eq_getElem (by omega)⟩
 refine x1x rfl ?_
 refine y5y rfl rfl ?_
 refine x1x rfl ?_
 refine y5y rfl rfl ?_
 refine u0u rfl u7u rfl ?_
 refine y5y rfl rfl ?_
 refine y1y rfl rfl rfl ?_
 refine z0z rfl rfl ?_
 refine x1x rfl ?_
 refine s1s rfl rfl (fun hg4 => ?_) (fun hg4 => ?_)
 rotate_left
 ·try simp at hg4
  have g2 : s.length ≤ i := by omega
  refine x7x rfl rfl ?_
  refine x7x rfl rfl ?_
  refine x7x rfl rfl ?_
  refine x7x rfl rfl ?_
  refine x7x rfl rfl ?_
  refine x7x rfl rfl ?_
  refine x7x rfl rfl ?_
  refine x7x rfl rfl ?_
  refine x7x rfl rfl ?_
  refine y2y rfl rfl ?_
  refine ⟨by kernel_rfl, ?_⟩
  refine x8x rfl (fun hc7 => ?_) (fun hc7 => ?_)
  ·simp at hc7
  try simp at hc7
  try have heq : ¬ p.ev = e := by simpa [a2q] using hc7
  refine v0v ?_
  refine hK1 _ _ ?_
  clear hK2 K2 hK1 K1
  refine x4x x6x (by rfl) ?_
  refine x1x rfl ?_
  refine x2x rfl ?_
  refine b8n 0 b0 240 243 (bs) (ps.map (a2c c)) rfl hbl rfl ?_
  refine y0y ?_
  refine ⟨.inr rfl, [γ 0], rfl, ?_, HE.same rfl HE.nil⟩
  exact congrArg (fun v : Nat => some [AV.pv (.int .i64 (v : Int))]) (h3.trans (by rw [c1i g2]; rfl)).symm
 try simp at hg4
 have g2 : i < s.length := by omega
 obtain ⟨e, he⟩ : ∃ e, s[i]? = some e := ⟨_, List.getElem?_eq_getElem (by omega)⟩
 refine x1x rfl ?_
 refine y5y rfl rfl ?_
 refine c2q rfl ?_
 refine y5y rfl rfl ?_
 refine a3x x6x rfl c3q rfl rfl v8v rfl ?_
 refine y5y rfl rfl ?_
 refine a3x x6x rfl v8v rfl rfl z3z rfl ?_
 refine y5y rfl rfl ?_
 refine c4a x6x (out := .agg (v6v p.ev)) 0 rfl z3z rfl (c7n hbl hb (c8w hp)) rfl ?_
 refine y5y rfl rfl ?_
 refine x1x rfl ?_
 refine y5y rfl rfl ?_
 refine x1x rfl ?_
 refine y5y rfl rfl ?_
 refine z7z rfl rfl u7u rfl z3z rfl he ?_
 refine y5y rfl rfl ?_
 refine z4z (out := .agg (v6v e)) rfl z3z rfl ?_
 refine y5y rfl rfl ?_
 refine a9v rfl rfl (by intro a c h; cases h) (.inl rfl) (d6j _ _ _ _) ?_
 refine z0z rfl rfl ?_
 refine ⟨by kernel_rfl, ?_⟩
 refine x8x rfl (fun hc5 => ?_) (fun hc5 => ?_)
 rotate_left
 ·try simp at hc5
  try have heq : ¬ p.ev = e := by simpa [a2q] using hc5
  refine v0v ?_
  refine hK1 _ _ ?_
  clear hK2 K2 hK1 K1
  refine x4x x6x (by rfl) ?_
  refine x1x rfl ?_
  refine x2x rfl ?_
  refine b8n 0 b0 240 243 (bs) (ps.map (a2c c)) rfl hbl rfl ?_
  refine y0y ?_
  refine ⟨.inr rfl, [γ 0], rfl, ?_, HE.same rfl HE.nil⟩
  exact congrArg (fun v : Nat => some [AV.pv (.int .i64 (v : Int))]) (h3.trans (by rw [c1g hp he heq]; rfl)).symm
 try simp at hc5
 try have heq : p.ev = e := by simpa [a2q] using hc5
 refine x9x ?_
 refine hK2 _ _ ?_
 clear hK2 K2
 refine x5x fun K6 hK6 => ?_
 refine y7y ?_
 refine y3y x6x (by rfl) ?_
 refine x1x rfl ?_
 refine z9z (b := 1) rfl rfl (by omega) ?_
 refine x2x rfl ?_
 refine hK6 _ _ ?_
 clear hK6 K6
 refine y3y x6x (by rfl) ?_
 refine x1x rfl ?_
 refine c2q rfl ?_
 refine a3x x6x rfl c3q rfl rfl a3c rfl ?_
 refine c4a x6x (out := .pv (a8x bs[i + 1]?)) 0 rfl a3c rfl (c7n hbl hb (c8w hp)) rfl ?_
 refine x2x rfl ?_
 exact ⟨i + 1, ⟨⟨by omega, by omega, by rw [h3, c1f hp he heq]; omega⟩, by omega⟩, [], (Cov.cons (t := 5) rfl (Cov.cons (t := 6) rfl Cov.nil)), (Cov.cons (t := 1) rfl Cov.nil), HE.nil, (HE.same (id := 0) rfl HE.nil), rfl⟩
end
section
theorem b9t (c : Bool) (n : Nd) : s8s Tryz.prog 61 [.agg (a0t c n)] (.pv (.bool (kb (a1t n)))) := by
 refine z1z x6x (fn := Tryz.f61) (by kernel_rfl) (by kernel_rfl) rfl (outs := [.pv (.bool (kb (a1t n)))]) (by rfl) (Nat.le_of_ble_eq_true rfl) 8 ?_
 have hpl := a4q n.id 4
 refine x4x x6x (by rfl) ?_
 refine v1v (id := 0) rfl rfl rfl ?_
 refine x2x rfl ?_
 refine x5x fun K1 hK1 => ?_
 refine x4x x6x (by rfl) ?_
 refine y4y rfl z8z rfl rfl rfl ?_
 refine y9y rfl rfl rfl (b6u ..) ?_
 refine w3w rfl ?_
 refine x8x rfl (fun hc2 => ?_) (fun hc2 => ?_)
 ·try simp at hc2
  try have hX : ¬ a3r n := a5n (by simpa using hc2)
  refine x4x x6x (by rfl) ?_
  refine x2x rfl ?_
  refine y0y ⟨.inr rfl, ?_⟩
  clear hK1 K1
  refine y8y rfl ?_ rfl
  exact congrArg (fun b : Bool => [AV.pv (.bool b)]) (a6d (fun h => hX h.1))
 try simp at hc2
 have fS : a3r n := b2x.1 (by simpa using hc2)
 have fB := a1l fS
 have fL := fS.2.2.2.2.1
 have fV := fS.2.2.2.2.2.1
 refine x9x ?_
 refine hK1 _ _ ?_
 clear hK1 K1
 refine x4x x6x (by rfl) ?_
 refine y4y rfl z8z rfl rfl rfl ?_
 refine v5v [1, 2, 3, 4, 5] [_, _, _, _, _] (b1o c n (by omega) (by omega) fS.2.2.2.2.2.2.1) rfl rfl rfl (by decide) rfl rfl (by repeat (first | exact InH.nil | refine InH.cons rfl ?_)) (by (simp only [pI, List.map_cons, List.map_nil, u1u, u2u, gl, nx, q4q, Nat.beq, Nat.add_eq, List.getD_cons_zero, List.getD_cons_succ, List.getD_nil, Bool.or_false, Bool.false_or, Bool.true_or, Bool.or_true, Nat.add_zero, Nat.zero_add]; rfl)) (by (simp only [pI, List.map_cons, List.map_nil, u1u, u2u, gl, nx, q4q, Nat.beq, Nat.add_eq, List.getD_cons_zero, List.getD_cons_succ, List.getD_nil, Bool.or_false, Bool.false_or, Bool.true_or, Bool.or_true, Nat.add_zero, Nat.zero_add]; rfl)) ?_
 refine x2x rfl ?_
 refine x5x fun K3 hK3 => ?_
 refine x4x x6x (by rfl) ?_
 refine x0x rfl z8z rfl rfl y6y rfl rfl ?_
 refine x3x rfl y6y rfl rfl ?_
 refine y9y rfl rfl rfl (a2y ..) ?_
 refine u0u rfl v7v rfl ?_
 refine x1x rfl ?_
 refine y7y ?_
 refine u5u (ι := Nat) (fun j γ1 => [(16, .pv (.int .i64 (j : Int)))]) (fun j γ1 => [(6, ((γ1 6), .dead)), (7, ((γ1 7), .dead))]) (fun j => j ≤ (a0s n.id 4).length ∧ c5t n.lanes (fun j l => ∀ p, (a0s n.id 4)[j]? = some p → l.done.length ≤ same l.done (s9s n p) ∧ (s9s n p).length ≤ 100) j) (fun j => (a0s n.id 4).length - j) (Cov.cons (t := 3) rfl (Cov.cons (t := 14) rfl (Cov.cons (t := 15) rfl Cov.nil))) (HE.same (id := 0) rfl (HE.same (id := 1) rfl (HE.same (id := 2) rfl (HE.same (id := 3) rfl (HE.same (id := 4) rfl (HE.same (id := 5) rfl HE.nil)))))) 0 ⟨by omega, a3g⟩ [0, 0, 0, 0, 0, 0, _, _] (Cov.cons (t := 16) rfl Cov.nil) (HE.kill rfl (HE.kill rfl HE.nil)) rfl fun j γ1 hi => ?_
 try dsimp only [List.cons_append, List.nil_append]
 obtain ⟨d1, d2⟩ := hi
 refine x4x x6x (by rfl) ?_
 refine y1y rfl rfl rfl ?_
 refine x5x fun K4 hK4 => ?_
 refine x8x rfl (fun hc5 => ?_) (fun hc5 => ?_)
 rotate_left
 ·try simp at hc5
  have fC := fun (i : Nat) p l (a : (a0s n.id 4)[i]? = some p) (b : n.lanes[i]? = some l) => a5p d2 (by omega) i l b p a
  refine v0v ?_
  refine hK3 _ _ ?_
  clear hK4 K4 hK3 K3
  refine x4x x6x (by rfl) ?_
  refine x2x rfl ?_
  refine y0y ⟨.inr rfl, ?_⟩
  refine y8y rfl ?_ rfl
  exact congrArg (fun b : Bool => [AV.pv (.bool b)]) (d1s ⟨fS, fC⟩)
 try simp at hc5
 obtain ⟨l, hl⟩ : ∃ l, n.lanes[j]? = some l := ⟨_, List.getElem?_eq_getElem (by omega)⟩
 obtain ⟨p, hp⟩ : ∃ p, (a0s n.id 4)[j]? = some p := ⟨_, List.getElem?_eq_getElem (by omega)⟩
 obtain ⟨hdl, _⟩ := a6r (fS.2.2.2.2.2.2.2.1 j l hl).2
 refine x9x ?_
 refine hK4 _ _ ?_
 clear hK4 K4
 refine x5x fun K6 hK6 => ?_
 refine y7y ?_
 refine x4x x6x (by rfl) ?_
 refine x1x rfl ?_
 refine z7z rfl rfl v7v rfl y6y rfl hp ?_
 refine z4z rfl y6y rfl ?_
 refine x2x rfl ?_
 refine x2x rfl ?_
 refine x4x x6x (by rfl) ?_
 refine x1x rfl ?_
 refine x1x rfl ?_
 refine v5v [1, 2, 3, 4, 5, 6] [_, _, _, _, _, _] (a7n c n p (b2j fS) (by omega) fS.2.2.2.2.2.1) rfl rfl rfl (by decide) rfl rfl (by repeat (first | exact InH.nil | refine InH.cons rfl ?_)) (by (simp only [pI, List.map_cons, List.map_nil, u1u, u2u, gl, nx, q4q, Nat.beq, Nat.add_eq, List.getD_cons_zero, List.getD_cons_succ, List.getD_nil, Bool.or_false, Bool.false_or, Bool.true_or, Bool.or_true, Nat.add_zero, Nat.zero_add]; rfl)) (by (simp only [pI, List.map_cons, List.map_nil, u1u, u2u, gl, nx, q4q, Nat.beq, Nat.add_eq, List.getD_cons_zero, List.getD_cons_succ, List.getD_nil, Bool.or_false, Bool.false_or, Bool.true_or, Bool.or_true, Nat.add_zero, Nat.zero_add]; rfl)) ?_
 refine x2x rfl ?_
 refine b2e 6 rfl rfl (fun _ => rfl) ?_
 refine q7q x6x r4r (by rfl) ?_
 refine x1x rfl ?_
 refine u0u rfl u7u rfl ?_
 refine y1y rfl rfl rfl ?_
 refine x1x rfl ?_
 refine s1s rfl rfl (fun hg7 => ?_) (fun hg7 => ?_)
 rotate_left
 ·try simp at hg7
  refine x7x rfl rfl ?_
  refine x7x rfl rfl ?_
  refine x7x rfl rfl ?_
  refine x7x rfl rfl ?_
  refine x7x rfl rfl ?_
  refine x7x rfl rfl ?_
  refine x7x rfl rfl ?_
  refine x7x rfl rfl ?_
  refine x7x rfl rfl ?_
  refine x7x rfl rfl ?_
  refine x7x rfl rfl ?_
  refine x7x rfl rfl ?_
  refine x7x rfl rfl ?_
  refine x7x rfl rfl ?_
  refine x7x rfl rfl ?_
  refine x7x rfl rfl ?_
  refine x7x rfl rfl ?_
  refine x7x rfl rfl ?_
  refine z0z rfl rfl ?_
  refine ⟨by kernel_rfl, ?_⟩
  refine x8x rfl (fun hc9 => ?_) (fun hc9 => ?_)
  rotate_left
  ·simp at hc9
  try simp at hc9
  refine x4x x6x (by rfl) ?_
  refine x2x rfl ?_
  refine y0y ⟨.inr rfl, ?_⟩
  clear hK6 K6 hK3 K3
  refine y8y rfl ?_ rfl
  exact congrArg (fun b : Bool => [AV.pv (.bool b)]) (a6d (fun h => by have := h.2 _ _ _ hp hl; omega))
 try simp at hg7
 refine x1x rfl ?_
 refine y5y rfl rfl ?_
 refine q3q rfl rfl ?_
 refine y5y rfl rfl ?_
 refine x0x rfl a2l rfl rfl a2r rfl rfl ?_
 refine y5y rfl rfl ?_
 refine x3x rfl a2r rfl rfl ?_
 refine y5y rfl rfl ?_
 refine x1x rfl ?_
 refine y5y rfl rfl ?_
 refine r3r (j := j) rfl rfl a2r rfl v9v rfl rfl (a0g hl) ?_
 refine y5y rfl rfl ?_
 refine b0z rfl v9v rfl hl rfl ?_
 refine y5y rfl rfl ?_
 refine v5v [7] [_] (a9m c l.done) rfl rfl rfl (by decide) rfl rfl (by repeat (first | exact InH.nil | refine InH.cons rfl ?_)) (by (simp only [pI, List.map_cons, List.map_nil, u1u, u2u, gl, nx, q4q, Nat.beq, Nat.add_eq, List.getD_cons_zero, List.getD_cons_succ, List.getD_nil, Bool.or_false, Bool.false_or, Bool.true_or, Bool.or_true, Nat.add_zero, Nat.zero_add]; rfl)) (by (simp only [pI, List.map_cons, List.map_nil, u1u, u2u, gl, nx, q4q, Nat.beq, Nat.add_eq, List.getD_cons_zero, List.getD_cons_succ, List.getD_nil, Bool.or_false, Bool.false_or, Bool.true_or, Bool.or_true, Nat.add_zero, Nat.zero_add]; rfl)) ?_
 refine y5y rfl rfl ?_
 refine x1x rfl ?_
 refine y5y rfl rfl ?_
 refine v5v [7] [_] (a3j c true l.done (s9s n p)) rfl rfl rfl (by decide) rfl rfl (by repeat (first | exact InH.nil | refine InH.cons rfl ?_)) (by (simp only [pI, List.map_cons, List.map_nil, u1u, u2u, gl, nx, q4q, Nat.beq, Nat.add_eq, List.getD_cons_zero, List.getD_cons_succ, List.getD_nil, Bool.or_false, Bool.false_or, Bool.true_or, Bool.or_true, Nat.add_zero, Nat.zero_add]; rfl)) (by (simp only [pI, List.map_cons, List.map_nil, u1u, u2u, gl, nx, q4q, Nat.beq, Nat.add_eq, List.getD_cons_zero, List.getD_cons_succ, List.getD_nil, Bool.or_false, Bool.false_or, Bool.true_or, Bool.or_true, Nat.add_zero, Nat.zero_add]; rfl)) ?_
 refine y5y rfl rfl ?_
 refine x1x rfl ?_
 refine y5y rfl rfl ?_
 refine q3q rfl rfl ?_
 refine y5y rfl rfl ?_
 refine x0x rfl a2l rfl rfl a2r rfl rfl ?_
 refine y5y rfl rfl ?_
 refine x3x rfl a2r rfl rfl ?_
 refine y5y rfl rfl ?_
 refine x1x rfl ?_
 refine y5y rfl rfl ?_
 refine r3r (j := j) rfl rfl a2r rfl v9v rfl rfl (a0g hl) ?_
 refine y5y rfl rfl ?_
 refine b0z rfl v9v rfl hl rfl ?_
 refine y5y rfl rfl ?_
 refine u0u rfl v9v rfl ?_
 refine y5y rfl rfl ?_
 refine y1y rfl rfl rfl ?_
 refine y2y rfl rfl ?_
 refine ⟨by kernel_rfl, ?_⟩
 refine x8x rfl (fun hc8 => ?_) (fun hc8 => ?_)
 rotate_left
 ·try simp at hc8
  refine x9x ?_
  refine hK6 _ _ ?_
  clear hK6 K6
  refine y3y x6x (by rfl) ?_
  refine z9z (b := 1) rfl rfl (by omega) ?_
  refine x1x rfl ?_
  exact ⟨j + 1, ⟨⟨by omega, a3h d2 hl (fun p2 hp2 => by rw [hp] at hp2; cases hp2; omega)⟩, by omega⟩, [0, 0, 0, 0, 0, 0, _, _], (Cov.cons (t := 16) rfl Cov.nil), (Cov.cons (t := 3) rfl (Cov.cons (t := 14) rfl (Cov.cons (t := 15) rfl Cov.nil))), (HE.kill rfl (HE.kill rfl HE.nil)), (HE.same (id := 0) rfl (HE.same (id := 1) rfl (HE.same (id := 2) rfl (HE.same (id := 3) rfl (HE.same (id := 4) rfl (HE.same (id := 5) rfl HE.nil)))))), rfl⟩
 try simp at hc8
 refine x4x x6x (by rfl) ?_
 refine x2x rfl ?_
 refine y0y ⟨.inr rfl, ?_⟩
 clear hK6 K6 hK3 K3
 refine y8y rfl ?_ rfl
 exact congrArg (fun b : Bool => [AV.pv (.bool b)]) (a6d (fun h => by have := h.2 _ _ _ hp hl; omega))
end
section
theorem b1t (c : Bool) (n : Nd) (es : List (Value × AV)) (hes : ∀ p ∈ es, p.2.flatA = true) (i : Nat) (l : La) (hl : n.lanes[i]? = some l) (hp : (a0s n.id 4)[i]? = some l.proc) : Meth Tryz.prog 170 5 [0, 1, 2, 3, 4] [.ptr 4 0 0, .pv (.int .i64 (i : Int))] [(0, (0, .row 62 3 ((n.lanes).map fun l => a0e l.base))), (1, (0, .row 63 1 ((n.lanes).map fun l => [a7l c l.done]))), (2, (0, .map es)), (3, (0, .row 3 1 (n.known.map a0x))), (4, (0, .box 139 [pI n.id, pI n.inc, pI n.g, pI n.led, .ref 0 0, a1n c n.kept, a3k c n.outs, .pv (.bool n.up), .ref 1 0, pI n.version, .mp 2 0, .ref 3 0, pI n.round, pI n.low]))] (.agg (a1q c l)) [] := by
 refine u9u x6x (fn := Tryz.f170) (by kernel_rfl) (by kernel_rfl) rfl (O0 := [.agg (a1q c l)]) 5 1 (Nat.le_of_ble_eq_true rfl) (by rfl) (by repeat (first | exact BndH.nil | refine BndH.box rfl ?_ | refine BndH.row (u3u fun _ => rfl) ?_ | refine BndH.map hes ?_ )) (by repeat (exact BndH.nil )) (by rfl) fun γ => ?_
 show Ex Tryz.prog _ _ [(0, .ptr 4 (γ 4) 0), (1, .pv (.int .i64 (i : Int)))] [(0, ((γ 0), .row 62 3 ((n.lanes).map fun l => a0e l.base))), (1, ((γ 1), .row 63 1 ((n.lanes).map fun l => [a7l c l.done]))), (2, ((γ 2), .map es)), (3, ((γ 3), .row 3 1 (n.known.map a0x))), (4, ((γ 4), .box 139 [pI n.id, pI n.inc, pI n.g, pI n.led, .ref 0 (γ 0), a1n c n.kept, a3k c n.outs, .pv (.bool n.up), .ref 1 (γ 1), pI n.version, .mp 2 (γ 2), .ref 3 (γ 3), pI n.round, pI n.low])), (5, (0, .dead))] _
 refine x4x x6x (by rfl) ?_
 refine u8u (id := 5) v4v a9u rfl ?_
 refine q7q x6x r4r (by rfl) ?_
 refine x1x rfl ?_
 refine q3q rfl rfl ?_
 refine x0x rfl a2l rfl rfl a1i rfl rfl ?_
 refine x0x rfl a1i rfl rfl y6y rfl rfl ?_
 refine x3x rfl y6y rfl rfl ?_
 refine y9y rfl rfl rfl (a2y ..) ?_
 refine x1x rfl ?_
 refine z7z rfl rfl v7v rfl y6y rfl hp ?_
 refine z4z rfl y6y rfl ?_
 refine x1x rfl ?_
 refine q3q rfl rfl ?_
 refine x0x rfl a2l rfl rfl a1i rfl rfl ?_
 refine x0x rfl a1i rfl rfl a6h rfl rfl ?_
 refine x3x rfl a6h rfl rfl ?_
 refine x1x rfl ?_
 refine r3r (j := i) rfl rfl a6h rfl q5q rfl rfl (a0g hl) ?_
 refine s0s rfl q5q rfl hl rfl rfl ?_
 refine x1x rfl ?_
 refine q3q rfl rfl ?_
 refine x0x rfl a2l rfl rfl a2r rfl rfl ?_
 refine x3x rfl a2r rfl rfl ?_
 refine x1x rfl ?_
 refine r3r (j := i) rfl rfl a2r rfl v9v rfl rfl (a0g hl) ?_
 refine b0z rfl v9v rfl hl rfl ?_
 refine q8q v4v rfl a9u rfl (by simp only [pI, y6y, T3, q5q, T62, v9v, T63, a0f, p4p, AV.okc, AV.one, Value.oneCell', List.map_cons, List.map_nil, List.getElem?_cons_zero, List.getElem?_cons_succ, List.take_succ_cons, List.take_zero, List.drop_succ_cons, List.drop_zero, List.cons_append, List.nil_append, List.length_cons, List.length_nil, if_true, and_self, Nat.reduceAdd, Nat.reduceLeDiff]; rfl) ?_
 refine z5z rfl rfl v4v rfl rfl rfl rfl ?_
 refine ⟨by kernel_rfl, ?_⟩
 refine y0y ?_
 exact ⟨.inr rfl, [γ 0, γ 1, γ 2, γ 3, γ 4], rfl, rfl, (HE.same (id := 0) rfl (HE.same (id := 1) rfl (HE.same (id := 2) rfl (HE.same (id := 3) rfl (HE.same (id := 4) rfl HE.nil)))))⟩
end
section
theorem b5p (c c' : Bool) (l : La) (s : List Ev) : s8s Tryz.prog 163 [.agg (a1q c l), a1n c' s] (.tup [.agg (v6v (a1m l s).1), .pv (.bool (a1m l s).2)]) := by
 refine z1z x6x (fn := Tryz.f163) (by kernel_rfl) (by kernel_rfl) rfl (outs := [.agg (v6v (a1m l s).1), .pv (.bool (a1m l s).2)]) (by rfl) (Nat.le_of_ble_eq_true rfl) 3 ?_
 refine w7w 1 rfl fun hlen => ?_
 have hsm := b8v l.done s
 refine x4x x6x (by rfl) ?_
 refine v1v (id := 0) rfl rfl rfl ?_
 refine u8u (id := 1) z3z a7c rfl ?_
 refine x2x rfl ?_
 refine x4x x6x (by rfl) ?_
 refine x0x rfl v4v rfl rfl v9v rfl rfl ?_
 refine x3x rfl v9v rfl rfl ?_
 refine v5v [2] [_] (a9m c l.done) rfl rfl rfl (by decide) rfl rfl (by repeat (first | exact InH.nil | refine InH.cons rfl ?_)) (by (simp only [pI, List.map_cons, List.map_nil, u1u, u2u, gl, nx, q4q, Nat.beq, Nat.add_eq, List.getD_cons_zero, List.getD_cons_succ, List.getD_nil, Bool.or_false, Bool.false_or, Bool.true_or, Bool.or_true, Nat.add_zero, Nat.zero_add]; rfl)) (by (simp only [pI, List.map_cons, List.map_nil, u1u, u2u, gl, nx, q4q, Nat.beq, Nat.add_eq, List.getD_cons_zero, List.getD_cons_succ, List.getD_nil, Bool.or_false, Bool.false_or, Bool.true_or, Bool.or_true, Nat.add_zero, Nat.zero_add]; rfl)) ?_
 refine x1x rfl ?_
 refine v5v [2] [_] (a3j c c' l.done s) rfl rfl rfl (by decide) rfl rfl (by repeat (first | exact InH.nil | refine InH.cons rfl ?_)) (by (simp only [pI, List.map_cons, List.map_nil, u1u, u2u, gl, nx, q4q, Nat.beq, Nat.add_eq, List.getD_cons_zero, List.getD_cons_succ, List.getD_nil, Bool.or_false, Bool.false_or, Bool.true_or, Bool.or_true, Nat.add_zero, Nat.zero_add]; rfl)) (by (simp only [pI, List.map_cons, List.map_nil, u1u, u2u, gl, nx, q4q, Nat.beq, Nat.add_eq, List.getD_cons_zero, List.getD_cons_succ, List.getD_nil, Bool.or_false, Bool.false_or, Bool.true_or, Bool.or_true, Nat.add_zero, Nat.zero_add]; rfl)) ?_
 refine x2x rfl ?_
 refine x5x fun K1 hK1 => ?_
 refine x4x x6x (by rfl) ?_
 refine x1x rfl ?_
 refine x0x rfl v4v rfl rfl v9v rfl rfl ?_
 refine x3x rfl v9v rfl rfl ?_
 refine u0u rfl v9v rfl ?_
 refine y1y rfl rfl rfl ?_
 refine x1x rfl ?_
 refine s1s rfl rfl (fun hg2 => ?_) (fun hg2 => ?_)
 rotate_left
 ·try simp at hg2
  refine x7x rfl rfl ?_
  refine x7x rfl rfl ?_
  refine x7x rfl rfl ?_
  refine z0z rfl rfl ?_
  refine x8x rfl (fun hc4 => ?_) (fun hc4 => ?_)
  rotate_left
  ·simp at hc4
  try simp at hc4
  refine x4x x6x (by rfl) ?_
  refine q8q z3z rfl a7c rfl (by simp only [pI, a0f, p4p, AV.okc, AV.one, T3, T4, List.getElem?_cons_zero, List.getElem?_cons_succ, List.take_succ_cons, List.take_zero, List.drop_succ_cons, List.drop_zero, List.cons_append, List.nil_append, List.length_cons, List.length_nil, if_true, and_self, Nat.reduceAdd, Nat.reduceLeDiff]; rfl) ?_
  refine z5z rfl rfl z3z rfl rfl rfl rfl ?_
  refine x2x rfl ?_
  refine y0y ⟨.inr rfl, ?_⟩
  clear hK1 K1
  (rw [c8o (by omega)]; exact ⟨_, _, rfl, .agg rfl (.cl rfl (.cl rfl (.cl rfl (.cl rfl (.cl rfl (.cl rfl (.cl rfl .nil))))))) (.cl rfl .nil)⟩)
 try simp at hg2
 refine x1x rfl ?_
 refine y5y rfl rfl ?_
 refine x1x rfl ?_
 refine y5y rfl rfl ?_
 refine u0u rfl u7u rfl ?_
 refine y5y rfl rfl ?_
 refine y1y rfl rfl rfl ?_
 refine y2y rfl rfl ?_
 refine x8x rfl (fun hc3 => ?_) (fun hc3 => ?_)
 ·try simp at hc3
  refine x4x x6x (by rfl) ?_
  refine q8q z3z rfl a7c rfl (by simp only [pI, a0f, p4p, AV.okc, AV.one, T3, T4, List.getElem?_cons_zero, List.getElem?_cons_succ, List.take_succ_cons, List.take_zero, List.drop_succ_cons, List.drop_zero, List.cons_append, List.nil_append, List.length_cons, List.length_nil, if_true, and_self, Nat.reduceAdd, Nat.reduceLeDiff]; rfl) ?_
  refine z5z rfl rfl z3z rfl rfl rfl rfl ?_
  refine x2x rfl ?_
  refine y0y ⟨.inr rfl, ?_⟩
  clear hK1 K1
  (rw [c8p (by omega)]; exact ⟨_, _, rfl, .agg rfl (.cl rfl (.cl rfl (.cl rfl (.cl rfl (.cl rfl (.cl rfl (.cl rfl .nil))))))) (.cl rfl .nil)⟩)
 try simp at hc3
 have hlt : same l.done s < s.length := by omega
 obtain ⟨e, he⟩ : ∃ e, s[same l.done s]? = some e := ⟨_, List.getElem?_eq_getElem hlt⟩
 refine x9x ?_
 refine hK1 _ _ ?_
 clear hK1 K1
 refine x4x x6x (by rfl) ?_
 refine x1x rfl ?_
 refine x1x rfl ?_
 refine z7z rfl rfl u7u rfl z3z rfl he ?_
 refine z4z (out := .agg (v6v e)) rfl z3z rfl ?_
 refine z5z rfl rfl z3z rfl rfl rfl rfl ?_
 refine x2x rfl ?_
 refine y0y ⟨.inr rfl, ?_⟩
 (rw [c8q (by omega) he]; exact ⟨_, _, rfl, .agg rfl (.cl rfl (.cl rfl (.cl rfl (.cl rfl (.cl rfl (.cl rfl (.cl rfl .nil))))))) (.cl rfl .nil)⟩)
end
section
theorem b5q (c : Bool) (n : Nd) (fK : a1t n) : Meth Tryz.prog 112 5 [0, 1, 2, 3, 4] [.ptr 4 0 0] [(0, (0, .row 62 3 ((n.lanes).map fun l => a0e l.base))), (1, (0, .row 63 1 ((n.lanes).map fun l => [a7l c l.done]))), (2, (0, .map (b5x c n.views))), (3, (0, .row 3 1 (n.known.map a0x))), (4, (0, .box 139 [pI n.id, pI n.inc, pI n.g, pI n.led, .ref 0 0, a1n c n.kept, a3k c n.outs, .pv (.bool n.up), .ref 1 0, pI n.version, .mp 2 0, .ref 3 0, pI n.round, pI n.low]))] (.pv (.int .i64 (d3k n))) [] := by
 refine u9u x6x (fn := Tryz.f112) (by kernel_rfl) (by kernel_rfl) rfl (O0 := [.pv (.int .i64 (d3k n))]) 5 3 (Nat.le_of_ble_eq_true rfl) (by rfl) (by repeat (first | exact BndH.nil | refine BndH.box rfl ?_ | refine BndH.row (u3u fun _ => rfl) ?_ | refine BndH.map (a5b _ _) ?_ )) (by repeat (exact BndH.nil )) (by rfl) fun γ => ?_
 show Ex Tryz.prog _ _ [(0, .ptr 4 (γ 4) 0)] [(0, ((γ 0), .row 62 3 ((n.lanes).map fun l => a0e l.base))), (1, ((γ 1), .row 63 1 ((n.lanes).map fun l => [a7l c l.done]))), (2, ((γ 2), .map (b5x c n.views))), (3, ((γ 3), .row 3 1 (n.known.map a0x))), (4, ((γ 4), .box 139 [pI n.id, pI n.inc, pI n.g, pI n.led, .ref 0 (γ 0), a1n c n.kept, a3k c n.outs, .pv (.bool n.up), .ref 1 (γ 1), pI n.version, .mp 2 (γ 2), .ref 3 (γ 3), pI n.round, pI n.low])), (7, (0, .dead)), (6, (0, .dead)), (5, (0, .dead))] _
 have fS := fK.1
 have fB := a1l fS
 have fL := fS.2.2.2.2.1
 refine x4x x6x (by rfl) ?_
 refine x2x rfl ?_
 refine x4x x6x (by rfl) ?_
 refine x2x rfl ?_
 refine x5x fun K1 hK1 => ?_
 refine x4x x6x (by rfl) ?_
 refine x1x rfl ?_
 refine q3q rfl rfl ?_
 refine x0x rfl a2l rfl rfl a1i rfl rfl ?_
 refine x0x rfl a1i rfl rfl y6y rfl rfl ?_
 refine x3x rfl y6y rfl rfl ?_
 refine y9y rfl rfl rfl (a2y ..) ?_
 refine u0u rfl v7v rfl ?_
 refine x1x rfl ?_
 refine y7y ?_
 refine u5u (ι := Nat) (fun i γ1 => [(3, .pv (.int .i64 (a7f n i))), (15, .pv (.int .i64 (i : Int)))]) (fun i γ1 => [(6, ((γ1 6), .dead)), (5, ((γ1 5), .dead))]) (fun i => i ≤ n.lanes.length) (fun i => n.lanes.length - i) (Cov.cons (t := 0) rfl (Cov.cons (t := 13) rfl (Cov.cons (t := 14) rfl Cov.nil))) (HE.same (id := 0) rfl (HE.same (id := 1) rfl (HE.same (id := 2) rfl (HE.same (id := 3) rfl (HE.same (id := 4) rfl (HE.same (id := 7) rfl HE.nil)))))) 0 (by omega) [0, 0, 0, 0, 0, _, _] (Cov.cons (t := 3) rfl (Cov.cons (t := 15) rfl Cov.nil)) (HE.kill rfl (HE.kill rfl HE.nil)) rfl fun i γ1 hi => ?_
 try dsimp only [List.cons_append, List.nil_append]
 refine x4x x6x (by rfl) ?_
 refine y1y rfl rfl rfl ?_
 refine x5x fun K2 hK2 => ?_
 refine x8x rfl (fun hc3 => ?_) (fun hc3 => ?_)
 rotate_left
 ·try simp at hc3
  obtain rfl : i = n.lanes.length := by omega
  refine v0v ?_
  refine hK1 _ _ ?_
  clear hK2 K2 hK1 K1
  refine x4x x6x (by rfl) ?_
  refine x1x rfl ?_
  refine x2x rfl ?_
  refine y0y ?_
  exact ⟨.inr rfl, [γ 0, γ 1, γ 2, γ 3, γ 4], rfl, rfl, (HE.same (id := 0) rfl (HE.same (id := 1) rfl (HE.same (id := 2) rfl (HE.same (id := 3) rfl (HE.same (id := 4) rfl HE.nil)))))⟩
 try simp at hc3
 obtain ⟨l, hl⟩ : ∃ l, n.lanes[i]? = some l := ⟨_, List.getElem?_eq_getElem (by omega)⟩
 have hnc := c1o fK hl
 refine x9x ?_
 refine hK2 _ _ ?_
 clear hK2 K2
 refine x5x fun K4 hK4 => ?_
 refine y7y ?_
 refine x4x x6x (by rfl) ?_
 refine x1x rfl ?_
 refine z7z rfl rfl v7v rfl y6y rfl hnc.1 ?_
 refine z4z rfl y6y rfl ?_
 refine x2x rfl ?_
 refine x2x rfl ?_
 refine x4x x6x (by rfl) ?_
 refine x1x rfl ?_
 refine x1x rfl ?_
 refine v5v [0, 1, 2, 3, 4] [_, _, _, _, _] (b1t c n _ (a5b _ _) i l hl hnc.1) rfl rfl rfl (by decide) rfl rfl (by repeat (first | exact InH.nil | refine InH.cons rfl ?_)) (by (simp only [pI, List.map_cons, List.map_nil, u1u, u2u, gl, nx, q4q, Nat.beq, Nat.add_eq, List.getD_cons_zero, List.getD_cons_succ, List.getD_nil, Bool.or_false, Bool.false_or, Bool.true_or, Bool.or_true, Nat.add_zero, Nat.zero_add]; rfl)) (by (simp only [pI, List.map_cons, List.map_nil, u1u, u2u, gl, nx, q4q, Nat.beq, Nat.add_eq, List.getD_cons_zero, List.getD_cons_succ, List.getD_nil, Bool.or_false, Bool.false_or, Bool.true_or, Bool.or_true, Nat.add_zero, Nat.zero_add]; rfl)) ?_
 refine x1x rfl ?_
 refine x1x rfl ?_
 refine v5v [0, 1, 2, 3, 4, 6] [_, _, _, _, _, _] (a7n c n l.proc (b2j fS) (by omega) fS.2.2.2.2.2.1) rfl rfl rfl (by decide) rfl rfl (by repeat (first | exact InH.nil | refine InH.cons rfl ?_)) (by (simp only [pI, List.map_cons, List.map_nil, u1u, u2u, gl, nx, q4q, Nat.beq, Nat.add_eq, List.getD_cons_zero, List.getD_cons_succ, List.getD_nil, Bool.or_false, Bool.false_or, Bool.true_or, Bool.or_true, Nat.add_zero, Nat.zero_add]; rfl)) (by (simp only [pI, List.map_cons, List.map_nil, u1u, u2u, gl, nx, q4q, Nat.beq, Nat.add_eq, List.getD_cons_zero, List.getD_cons_succ, List.getD_nil, Bool.or_false, Bool.false_or, Bool.true_or, Bool.or_true, Nat.add_zero, Nat.zero_add]; rfl)) ?_
 refine a2t rfl rfl rfl (by exact c2z rfl rfl (.ref rfl (Le.ow_map _ nf (fun _ => rfl)) .nil)) (b5p c false l (s9s n l.proc)) (by exact .tup (a0y (.agg (c5s (evN _))) (a0y (.pv _) d1y))) ?_
 refine x1x rfl ?_
 refine p2p rfl rfl ?_
 refine p2p rfl rfl ?_
 refine u8u (id := 5) z3z a7c rfl ?_
 refine z5z rfl rfl z3z rfl rfl rfl rfl ?_
 refine x2x rfl ?_
 refine x4x x6x (by rfl) ?_
 refine x1x rfl ?_
 refine x1x rfl ?_
 refine s1s rfl rfl (fun hg5 => ?_) (fun hg5 => ?_)
 rotate_left
 ·try simp at hg5
  have hno : ¬ ((a1m l (s9s n l.proc)).2 = true ∧ (a1m l (s9s n l.proc)).1.time < a7f n i) := fun h => by have := h.1; simp_all
  refine x7x rfl rfl ?_
  refine x7x rfl rfl ?_
  refine x7x rfl rfl ?_
  refine y2y rfl rfl ?_
  refine x8x rfl (fun hc7 => ?_) (fun hc7 => ?_)
  ·simp at hc7
  try simp at hc7
  have hno : ¬ ((a1m l (s9s n l.proc)).2 = true ∧ (a1m l (s9s n l.proc)).1.time < a7f n i) := by exact hno
  refine x9x ?_
  refine hK4 _ _ ?_
  clear hK4 K4
  refine y3y x6x (by rfl) ?_
  refine z9z (b := 1) rfl rfl (by omega) ?_
  refine x1x rfl ?_
  exact ⟨i + 1, ⟨by omega, by omega⟩, [0, 0, 0, 0, 0, _, _], (Cov.cons' (t := 3) rfl (by exact congrArg (fun v : Int => AV.pv (.int .i64 v)) (b8x hl hno).symm) (Cov.cons (t := 15) rfl Cov.nil)), (Cov.cons (t := 0) rfl (Cov.cons (t := 13) rfl (Cov.cons (t := 14) rfl Cov.nil))), (HE.kill rfl (HE.kill rfl HE.nil)), (HE.same (id := 0) rfl (HE.same (id := 1) rfl (HE.same (id := 2) rfl (HE.same (id := 3) rfl (HE.same (id := 4) rfl (HE.same (id := 7) rfl HE.nil)))))), rfl⟩
 try simp at hg5
 have h2 : (a1m l (s9s n l.proc)).2 = true := by exact hg5
 refine x0x rfl z3z rfl rfl y6y rfl rfl ?_
 refine y5y rfl rfl ?_
 refine x3x rfl y6y rfl rfl ?_
 refine y5y rfl rfl ?_
 refine x1x rfl ?_
 refine y5y rfl rfl ?_
 refine y1y rfl rfl rfl ?_
 refine z0z rfl rfl ?_
 refine x8x rfl (fun hc6 => ?_) (fun hc6 => ?_)
 rotate_left
 ·try simp at hc6
  have hno : ¬ ((a1m l (s9s n l.proc)).2 = true ∧ (a1m l (s9s n l.proc)).1.time < a7f n i) := by (intro h; omega)
  refine x9x ?_
  refine hK4 _ _ ?_
  clear hK4 K4
  refine y3y x6x (by rfl) ?_
  refine z9z (b := 1) rfl rfl (by omega) ?_
  refine x1x rfl ?_
  exact ⟨i + 1, ⟨by omega, by omega⟩, [0, 0, 0, 0, 0, _, _], (Cov.cons' (t := 3) rfl (by exact congrArg (fun v : Int => AV.pv (.int .i64 v)) (b8x hl hno).symm) (Cov.cons (t := 15) rfl Cov.nil)), (Cov.cons (t := 0) rfl (Cov.cons (t := 13) rfl (Cov.cons (t := 14) rfl Cov.nil))), (HE.kill rfl (HE.kill rfl HE.nil)), (HE.same (id := 0) rfl (HE.same (id := 1) rfl (HE.same (id := 2) rfl (HE.same (id := 3) rfl (HE.same (id := 4) rfl (HE.same (id := 7) rfl HE.nil)))))), rfl⟩
 try simp at hc6
 have h3 : (a1m l (s9s n l.proc)).1.time < a7f n i := by omega
 refine y3y x6x (by rfl) ?_
 refine x0x rfl z3z rfl rfl y6y rfl rfl ?_
 refine x3x rfl y6y rfl rfl ?_
 refine x2x rfl ?_
 refine hK4 _ _ ?_
 clear hK4 K4
 refine y3y x6x (by rfl) ?_
 refine z9z (b := 1) rfl rfl (by omega) ?_
 refine x1x rfl ?_
 exact ⟨i + 1, ⟨by omega, by omega⟩, [0, 0, 0, 0, 0, _, _], (Cov.cons' (t := 3) rfl (by exact congrArg (fun v : Int => AV.pv (.int .i64 v)) (c8s hl ⟨h2, h3⟩).symm) (Cov.cons (t := 15) rfl Cov.nil)), (Cov.cons (t := 0) rfl (Cov.cons (t := 13) rfl (Cov.cons (t := 14) rfl Cov.nil))), (HE.kill rfl (HE.kill rfl HE.nil)), (HE.same (id := 0) rfl (HE.same (id := 1) rfl (HE.same (id := 2) rfl (HE.same (id := 3) rfl (HE.same (id := 4) rfl (HE.same (id := 7) rfl HE.nil)))))), rfl⟩
end
section
theorem b0g (i r g f t : Int) (l m : List Int) : Meth Tryz.prog 113 2 [0, 1] [.agg [pI i, pI r, pI g, .ref 0 0, .ref 1 0], .pv (.int .i64 f), .pv (.int .i64 t)] [(0, (0, .row 3 1 ((l).map a0x))), (1, (0, .row 3 1 ((m).map a0x)))] (.agg [pI 3, pI f, pI t, pI i, pI 0, pI r, pI g, .ref 0 0, .ref 1 0, .pv (.slice none 0 0), .pv (.slice none 0 0)]) [] := by
 refine u9u x6x (fn := Tryz.f113) (by kernel_rfl) (by kernel_rfl) rfl (O0 := [.agg [pI 3, pI f, pI t, pI i, pI 0, pI r, pI g, .ref 0 0, .ref 1 0, .pv (.slice none 0 0), .pv (.slice none 0 0)]]) 2 2 (Nat.le_of_ble_eq_true rfl) (by rfl) (by repeat (first | exact BndH.nil | refine BndH.row (u3u fun _ => rfl) ?_)) (by repeat (exact BndH.nil)) (by rfl) fun γ => ?_
 show Ex Tryz.prog _ _ [(0, .agg [pI i, pI r, pI g, .ref 0 (γ 0), .ref 1 (γ 1)]), (1, .pv (.int .i64 f)), (2, .pv (.int .i64 t))] [(0, ((γ 0), .row 3 1 ((l).map a0x))), (1, ((γ 1), .row 3 1 ((m).map a0x))), (3, (0, .dead)), (2, (0, .dead))] _
 refine x4x x6x (by rfl) ?_
 refine v1v (id := 2) rfl rfl rfl ?_
 refine u8u (id := 3) r0r a9t rfl ?_
 refine x4x x6x (by rfl) ?_
 refine x1x rfl ?_
 refine x1x rfl ?_
 refine x0x rfl a6i rfl rfl y6y rfl rfl ?_
 refine x3x rfl y6y rfl rfl ?_
 refine x0x rfl a6i rfl rfl y6y rfl rfl ?_
 refine x3x rfl y6y rfl rfl ?_
 refine x0x rfl a6i rfl rfl y6y rfl rfl ?_
 refine x3x rfl y6y rfl rfl ?_
 refine x0x rfl a6i rfl rfl v7v rfl rfl ?_
 refine x3x rfl v7v rfl rfl ?_
 refine x0x rfl a6i rfl rfl v7v rfl rfl ?_
 refine x3x rfl v7v rfl rfl ?_
 refine q8q r0r rfl a9t rfl (by simp only [pI, y6y, T3, v7v, T22, u7u, T24, w6w, T25, a0f, p4p, AV.okc, AV.one, Value.oneCell', List.map_cons, List.map_nil, List.getElem?_cons_zero, List.getElem?_cons_succ, List.take_succ_cons, List.take_zero, List.drop_succ_cons, List.drop_zero, List.cons_append, List.nil_append, List.length_cons, List.length_nil, if_true, and_self, Nat.reduceAdd, Nat.reduceLeDiff]; rfl) ?_
 refine z5z rfl rfl r0r rfl rfl rfl rfl ?_
 refine y0y ?_
 exact ⟨.inr rfl, [γ 0, γ 1], rfl, rfl, HE.same rfl (HE.same rfl HE.nil)⟩
set_option maxHeartbeats 1000000 in
theorem a6t (c : Bool) (n : Nd) (r : Int) : Meth Tryz.prog 35 9 [] [.agg (a0t c n), .pv (.int .i64 r)] [(0, (0, .dead)), (1, (0, .dead)), (2, (0, .dead)), (3, (0, .dead)), (4, (0, .dead)), (5, (0, .dead)), (6, (0, .dead)), (7, (0, .dead)), (8, (0, .dead))] (.tup [.agg [pI (z2z n r).1.id, .pv (.bool (z2z n r).1.up), pI (z2z n r).1.inc, pI (z2z n r).1.g, .ref 0 0, .ref 1 0, .ref 2 0, pI (z2z n r).1.led, pI (z2z n r).1.version, .ref 3 0, .ref 4 0, pI (z2z n r).1.round, pI (z2z n r).1.low], .agg [pI (z2z n r).2.1.kind, pI (z2z n r).2.1.from', pI (z2z n r).2.1.to, pI (z2z n r).2.1.inc, pI (z2z n r).2.1.version, pI (z2z n r).2.1.round, pI (z2z n r).2.1.g, .ref 5 0, .ref 6 0, .ref 7 0, .ref 8 0], .pv (.bool ((z2z n r).2.2))]) [(0, (0, .row 65 5 ((z2z n r).1.lanes.map a0u))), (1, (0, .row 76 7 ((z2z n r).1.kept.map v6v))), (2, (0, .row 104 5 ((z2z n r).1.outs.map s2s))), (3, (0, .row 141 3 ((z2z n r).1.views.map a0v))), (4, (0, .row 3 1 ((z2z n r).1.known.map a0x))), (5, (0, .row 3 1 ((z2z n r).2.1.incs.map a0x))), (6, (0, .row 3 1 ((z2z n r).2.1.versions.map a0x))), (7, (0, .row 76 7 ((z2z n r).2.1.events.map v6v))), (8, (0, .row 104 5 ((z2z n r).2.1.outs.map s2s)))] := by
 refine u9u x6x (fn := Tryz.f35) (by kernel_rfl) (by kernel_rfl) rfl (O0 := [.agg [pI (z2z n r).1.id, .pv (.bool (z2z n r).1.up), pI (z2z n r).1.inc, pI (z2z n r).1.g, .ref 0 0, .ref 1 0, .ref 2 0, pI (z2z n r).1.led, pI (z2z n r).1.version, .ref 3 0, .ref 4 0, pI (z2z n r).1.round, pI (z2z n r).1.low], .agg [pI (z2z n r).2.1.kind, pI (z2z n r).2.1.from', pI (z2z n r).2.1.to, pI (z2z n r).2.1.inc, pI (z2z n r).2.1.version, pI (z2z n r).2.1.round, pI (z2z n r).2.1.g, .ref 5 0, .ref 6 0, .ref 7 0, .ref 8 0], .pv (.bool ((z2z n r).2.2))]) 9 15 (Nat.le_of_ble_eq_true rfl) (by rfl) (by repeat (first | exact BndH.nil | refine BndH.dead ?_)) (by repeat (first | exact BndH.nil | refine BndH.row (u3u fun _ => rfl) ?_)) (by rfl) fun γ => ?_
 show Ex Tryz.prog _ _ [(0, .agg (a0t c n)), (1, .pv (.int .i64 r))] [(0, ((γ 0), .dead)), (1, ((γ 1), .dead)), (2, ((γ 2), .dead)), (3, ((γ 3), .dead)), (4, ((γ 4), .dead)), (5, ((γ 5), .dead)), (6, ((γ 6), .dead)), (7, ((γ 7), .dead)), (8, ((γ 8), .dead)), (23, (0, .dead)), (22, (0, .dead)), (21, (0, .dead)), (20, (0, .dead)), (19, (0, .dead)), (18, (0, .dead)), (17, (0, .dead)), (16, (0, .dead)), (15, (0, .dead)), (14, (0, .dead)), (13, (0, .dead)), (12, (0, .dead)), (11, (0, .dead)), (10, (0, .dead)), (9, (0, .dead))] _
 refine x4x x6x (by rfl) ?_
 refine v1v (id := 9) rfl rfl rfl ?_
 refine u8u (id := 10) z8z a7q rfl ?_
 refine u8u (id := 11) r0r a9t rfl ?_
 refine x2x rfl ?_
 refine x5x fun K1 hK1 => ?_
 refine x4x x6x (by rfl) ?_
 refine y4y rfl z8z rfl rfl rfl ?_
 refine y9y rfl rfl rfl (b9t ..) ?_
 refine w3w rfl ?_
 refine x8x rfl (fun hc2 => ?_) (fun hc2 => ?_)
 ·try simp at hc2
  have fX : ¬ a1t n := a5n (by simpa using hc2)
  refine x4x x6x (by rfl) ?_
  refine q8q z8z rfl a7q rfl (by simp only [pI, y6y, T3, b5u, T4, v7v, T22, w4w, T23, u7u, T24, w6w, T25, p1p, T26, a0f, p4p, AV.okc, AV.one, Value.oneCell', List.map_cons, List.map_nil, List.getElem?_cons_zero, List.getElem?_cons_succ, List.take_succ_cons, List.take_zero, List.drop_succ_cons, List.drop_zero, List.cons_append, List.nil_append, List.length_cons, List.length_nil, if_true, and_self, Nat.reduceAdd, Nat.reduceLeDiff]; rfl) ?_
  refine q8q r0r rfl a9t rfl (by simp only [pI, y6y, T3, v7v, T22, u7u, T24, w6w, T25, a0f, p4p, AV.okc, AV.one, Value.oneCell', List.map_cons, List.map_nil, List.getElem?_cons_zero, List.getElem?_cons_succ, List.take_succ_cons, List.take_zero, List.drop_succ_cons, List.drop_zero, List.cons_append, List.nil_append, List.length_cons, List.length_nil, if_true, and_self, Nat.reduceAdd, Nat.reduceLeDiff]; rfl) ?_
  refine z5z rfl rfl z8z rfl rfl rfl rfl ?_
  refine z5z rfl rfl r0r rfl rfl rfl rfl ?_
  refine x2x rfl ?_
  (rw [c4n fX]; refine r6r 10 4 0 65 5 rfl rfl rfl rfl rfl ?_; refine r6r 10 5 1 76 7 rfl rfl rfl rfl rfl ?_; refine r6r 10 6 2 104 5 rfl rfl rfl rfl rfl ?_; refine r6r 10 9 3 141 3 rfl rfl rfl rfl rfl ?_; refine r6r 10 10 4 3 1 rfl rfl rfl rfl rfl ?_; refine r6r 11 7 5 3 1 rfl rfl rfl rfl rfl ?_; refine r6r 11 8 6 3 1 rfl rfl rfl rfl rfl ?_; refine r6r 11 9 7 76 7 rfl rfl rfl rfl rfl ?_; refine r6r 11 10 8 104 5 rfl rfl rfl rfl rfl ?_)
  refine y0y ?_
  exact ⟨.inr rfl, [_, _, _, _, _, _, _, _, _], rfl, rfl, HE.row rfl rfl (HE.row rfl rfl (HE.row rfl rfl (HE.row rfl rfl (HE.row rfl rfl (HE.row rfl rfl (HE.row rfl rfl (HE.row rfl rfl (HE.row rfl rfl HE.nil))))))))⟩
 try simp at hc2
 have fK : a1t n := b2x.1 (by simpa using hc2)
 have fS := fK.1
 have fB := a1l fS
 have fV := fS.2.2.2.2.2.1
 have fb := d4z fS
 refine x9x ?_
 refine hK1 _ _ ?_
 clear hK1 K1
 refine x4x x6x (by rfl) ?_
 refine y4y rfl z8z rfl rfl rfl ?_
 refine v5v [0, 1, 2, 3, 4] [_, _, _, _, _] (b5n c n (by omega)) rfl rfl rfl (by decide) rfl rfl (by repeat (first | exact InH.nil | refine InH.cons rfl ?_)) (by (simp only [pI, List.map_cons, List.map_nil, u1u, u2u, gl, nx, q4q, Nat.beq, Nat.add_eq, List.getD_cons_zero, List.getD_cons_succ, List.getD_nil, Bool.or_false, Bool.false_or, Bool.true_or, Bool.or_true, Nat.add_zero, Nat.zero_add]; rfl)) (by (simp only [pI, List.map_cons, List.map_nil, u1u, u2u, gl, nx, q4q, Nat.beq, Nat.add_eq, List.getD_cons_zero, List.getD_cons_succ, List.getD_nil, Bool.or_false, Bool.false_or, Bool.true_or, Bool.or_true, Nat.add_zero, Nat.zero_add]; rfl)) ?_
 refine u8u (id := 12) z8z a7q rfl ?_
 refine z5z rfl rfl z8z rfl rfl rfl rfl ?_
 refine x5x fun K3 hK3 => ?_
 refine x4x x6x (by rfl) ?_
 refine x0x rfl z8z rfl rfl b5u rfl rfl ?_
 refine x3x rfl b5u rfl rfl ?_
 refine w3w rfl ?_
 refine x1x rfl ?_
 refine s1s rfl rfl (fun hg4 => ?_) (fun hg4 => ?_)
 rotate_left
 ·try simp at hg4
  have fU : ¬ (n.up = true ∧ n.round + 1 ≤ r ∧ r ≤ 9999) := fun h => by have := h.1; simp_all
  refine x7x rfl rfl ?_
  refine x7x rfl rfl ?_
  refine x7x rfl rfl ?_
  refine x7x rfl rfl ?_
  refine x7x rfl rfl ?_
  refine z0z rfl rfl ?_
  refine x8x rfl (fun hc10 => ?_) (fun hc10 => ?_)
  rotate_left
  ·simp at hc10
  try simp at hc10
  have fU : ¬ (n.up = true ∧ n.round + 1 ≤ r ∧ r ≤ 9999) := by exact fU
  refine x4x x6x (by rfl) ?_
  refine y4y rfl z8z rfl rfl rfl ?_
  refine q8q r0r rfl a9t rfl (by simp only [pI, y6y, T3, v7v, T22, u7u, T24, w6w, T25, a0f, p4p, AV.okc, AV.one, Value.oneCell', List.map_cons, List.map_nil, List.getElem?_cons_zero, List.getElem?_cons_succ, List.take_succ_cons, List.take_zero, List.drop_succ_cons, List.drop_zero, List.cons_append, List.nil_append, List.length_cons, List.length_nil, if_true, and_self, Nat.reduceAdd, Nat.reduceLeDiff]; rfl) ?_
  refine z5z rfl rfl z8z rfl rfl rfl rfl ?_
  refine z5z rfl rfl r0r rfl rfl rfl rfl ?_
  refine x2x rfl ?_
  (rw [b3u fK fU]; refine r6r 11 7 5 3 1 rfl rfl rfl rfl rfl ?_; refine r6r 11 8 6 3 1 rfl rfl rfl rfl rfl ?_; refine r6r 11 9 7 76 7 rfl rfl rfl rfl rfl ?_; refine r6r 11 10 8 104 5 rfl rfl rfl rfl rfl ?_)
  refine y0y ?_
  exact ⟨.inr rfl, [_, _, _, _, _, _, _, _, _], rfl, rfl, HE.row rfl rfl (HE.row rfl rfl (HE.row rfl rfl (HE.row rfl rfl (HE.row rfl rfl (HE.row rfl rfl (HE.row rfl rfl (HE.row rfl rfl (HE.row rfl rfl HE.nil))))))))⟩
 try simp at hg4
 have fUp : n.up = true := by exact hg4
 refine x1x rfl ?_
 refine y5y rfl rfl ?_
 refine x0x rfl z8z rfl rfl y6y rfl rfl ?_
 refine y5y rfl rfl ?_
 refine x3x rfl y6y rfl rfl ?_
 refine y5y rfl rfl ?_
 refine a1j (.int .i64 (n.round + 1)) rfl rfl rfl (a7z rfl rfl (by have := fS.1.2.2.2.2.2.1; omega) (by have := fS.1.2.2.2.2.2.1; omega)) ?_
 refine y5y rfl rfl ?_
 refine y9y rfl rfl rfl (w5w ..) ?_
 refine y5y rfl rfl ?_
 refine w3w rfl ?_
 refine y2y rfl rfl ?_
 refine x8x rfl (fun hc5 => ?_) (fun hc5 => ?_)
 ·try simp at hc5
  have fU : ¬ (n.up = true ∧ n.round + 1 ≤ r ∧ r ≤ 9999) := by (intro h; omega)
  refine x4x x6x (by rfl) ?_
  refine y4y rfl z8z rfl rfl rfl ?_
  refine q8q r0r rfl a9t rfl (by simp only [pI, y6y, T3, v7v, T22, u7u, T24, w6w, T25, a0f, p4p, AV.okc, AV.one, Value.oneCell', List.map_cons, List.map_nil, List.getElem?_cons_zero, List.getElem?_cons_succ, List.take_succ_cons, List.take_zero, List.drop_succ_cons, List.drop_zero, List.cons_append, List.nil_append, List.length_cons, List.length_nil, if_true, and_self, Nat.reduceAdd, Nat.reduceLeDiff]; rfl) ?_
  refine z5z rfl rfl z8z rfl rfl rfl rfl ?_
  refine z5z rfl rfl r0r rfl rfl rfl rfl ?_
  refine x2x rfl ?_
  (rw [b3u fK fU]; refine r6r 11 7 5 3 1 rfl rfl rfl rfl rfl ?_; refine r6r 11 8 6 3 1 rfl rfl rfl rfl rfl ?_; refine r6r 11 9 7 76 7 rfl rfl rfl rfl rfl ?_; refine r6r 11 10 8 104 5 rfl rfl rfl rfl rfl ?_)
  refine y0y ?_
  exact ⟨.inr rfl, [_, _, _, _, _, _, _, _, _], rfl, rfl, HE.row rfl rfl (HE.row rfl rfl (HE.row rfl rfl (HE.row rfl rfl (HE.row rfl rfl (HE.row rfl rfl (HE.row rfl rfl (HE.row rfl rfl (HE.row rfl rfl HE.nil))))))))⟩
 try simp at hc5
 have fU : n.up = true ∧ n.round + 1 ≤ r ∧ r ≤ 9999 := ⟨fUp, by omega⟩
 refine x9x ?_
 refine hK3 _ _ ?_
 clear hK3 K3
 refine x4x x6x (by rfl) ?_
 refine x1x rfl ?_
 refine x0x rfl z8z rfl rfl y6y rfl rfl ?_
 refine u4u rfl rfl y6y rfl rfl rfl rfl rfl (by simp only [List.set_cons_zero, List.set_cons_succ]; rfl) ?_
 refine x4x x6x (by rfl) ?_
 refine x0x rfl z8z rfl rfl y6y rfl rfl ?_
 refine u4u rfl rfl y6y rfl rfl rfl rfl rfl (by simp only [List.set_cons_zero, List.set_cons_succ]; rfl) ?_
 refine q7q x6x r4r (by rfl) ?_
 refine x0x rfl z8z rfl rfl y6y rfl rfl ?_
 refine x3x rfl y6y rfl rfl ?_
 refine x1x rfl ?_
 refine y4y rfl z8z rfl rfl rfl ?_
 refine v5v [19, 20, 21, 22, 23] [_, _, _, _, _] (b1o c n (by omega) (by omega) fS.2.2.2.2.2.2.1) rfl rfl rfl (by decide) rfl rfl (by repeat (first | exact InH.nil | refine InH.cons rfl ?_)) (by (simp only [pI, List.map_cons, List.map_nil, u1u, u2u, gl, nx, q4q, Nat.beq, Nat.add_eq, List.getD_cons_zero, List.getD_cons_succ, List.getD_nil, Bool.or_false, Bool.false_or, Bool.true_or, Bool.or_true, Nat.add_zero, Nat.zero_add]; rfl)) (by (simp only [pI, List.map_cons, List.map_nil, u1u, u2u, gl, nx, q4q, Nat.beq, Nat.add_eq, List.getD_cons_zero, List.getD_cons_succ, List.getD_nil, Bool.or_false, Bool.false_or, Bool.true_or, Bool.or_true, Nat.add_zero, Nat.zero_add]; rfl)) ?_
 refine v5v [19, 20, 21, 22, 23] [_, _, _, _, _] (b5q c n fK) rfl rfl rfl (by decide) rfl rfl (by repeat (first | exact InH.nil | refine InH.cons rfl ?_)) (by (simp only [pI, List.map_cons, List.map_nil, u1u, u2u, gl, nx, q4q, Nat.beq, Nat.add_eq, List.getD_cons_zero, List.getD_cons_succ, List.getD_nil, Bool.or_false, Bool.false_or, Bool.true_or, Bool.or_true, Nat.add_zero, Nat.zero_add]; rfl)) (by (simp only [pI, List.map_cons, List.map_nil, u1u, u2u, gl, nx, q4q, Nat.beq, Nat.add_eq, List.getD_cons_zero, List.getD_cons_succ, List.getD_nil, Bool.or_false, Bool.false_or, Bool.true_or, Bool.or_true, Nat.add_zero, Nat.zero_add]; rfl)) ?_
 refine q8q a6i rfl d1g rfl (by simp only [pI, y6y, T3, v7v, T22, a0f, p4p, AV.okc, AV.one, Value.oneCell', List.map_cons, List.map_nil, List.getElem?_cons_zero, List.getElem?_cons_succ, List.take_succ_cons, List.take_zero, List.drop_succ_cons, List.drop_zero, List.cons_append, List.nil_append, List.length_cons, List.length_nil, if_true, and_self, Nat.reduceAdd, Nat.reduceLeDiff]; rfl) ?_
 refine u8u (id := 13) a6i d1g rfl ?_
 refine z5z rfl rfl a6i rfl rfl rfl rfl ?_
 refine ⟨by kernel_rfl, ?_⟩
 refine x5x fun K6 hK6 => ?_
 refine x4x x6x (by rfl) ?_
 refine x0x rfl z8z rfl rfl p1p rfl rfl ?_
 refine x3x rfl p1p rfl rfl ?_
 refine u0u rfl p1p rfl ?_
 refine x1x rfl ?_
 refine y7y ?_
 refine w7w 42 rfl fun hlen => ?_
 refine r6r 13 3 5 3 1 rfl rfl rfl rfl rfl ?_
 refine r6r 13 4 6 3 1 rfl rfl rfl rfl rfl ?_
 refine u5u (ι := Nat) (fun i γ1 => [(44, .pv (.int .i64 (i : Int)))]) (fun i γ1 => [(5, ((γ1 5), .row 3 1 (((n.views.take i).map Vi.inc).map a0x))), (6, ((γ1 6), .row 3 1 (((n.views.take i).map Vi.version).map a0x))), (13, ((0 + 1), .box 143 [pI n.inc, pI r, pI (d3k n), .ref 5 (γ1 5), .ref 6 (γ1 6)])), (14, ((γ1 14), .dead)), (15, ((γ1 15), .dead)), (16, ((γ1 16), .dead)), (17, ((γ1 17), .dead)), (18, ((γ1 18), .dead))]) (fun i => i ≤ n.views.length) (fun i => n.views.length - i) (Cov.cons (t := 2) rfl (Cov.cons (t := 4) rfl (Cov.cons (t := 5) rfl (Cov.cons (t := 7) rfl (Cov.cons (t := 8) rfl (Cov.cons (t := 42) rfl (Cov.cons (t := 43) rfl Cov.nil))))))) (HE.same (id := 0) rfl (HE.same (id := 1) rfl (HE.same (id := 2) rfl (HE.same (id := 3) rfl (HE.same (id := 4) rfl (HE.same (id := 7) rfl (HE.same (id := 8) rfl (HE.same (id := 9) rfl (HE.same (id := 10) rfl (HE.same (id := 11) rfl (HE.same (id := 12) rfl (HE.same (id := 19) rfl (HE.same (id := 20) rfl (HE.same (id := 21) rfl (HE.same (id := 22) rfl (HE.same (id := 23) rfl HE.nil)))))))))))))))) 0 (by omega) [0, 0, 0, 0, 0, _, _, 0, 0, 0, 0, 0, 0, 0, _, _, _, _, _] (Cov.cons (t := 44) rfl Cov.nil) (HE.row rfl (by rw [List.take_zero]; rfl) (HE.row rfl (by rw [List.take_zero]; rfl) (HE.box rfl rfl (HE.kill rfl (HE.kill rfl (HE.kill rfl (HE.kill rfl (HE.kill rfl HE.nil)))))))) rfl fun i γ1 hi => ?_
 try dsimp only [List.cons_append, List.nil_append]
 refine x4x x6x (by rfl) ?_
 refine y1y rfl rfl rfl ?_
 refine x5x fun K7 hK7 => ?_
 refine x8x rfl (fun hc8 => ?_) (fun hc8 => ?_)
 rotate_left
 ·try simp at hc8
  obtain rfl : i = n.views.length := by omega
  rw [List.take_length]
  refine v0v ?_
  refine hK6 _ _ ?_
  clear hK7 K7 hK6 K6
  refine q7q x6x r4r (by rfl) ?_
  refine y4y rfl z8z rfl rfl rfl ?_
  refine y4y rfl a6i rfl rfl rfl ?_
  refine x0x rfl z8z rfl rfl y6y rfl rfl ?_
  refine x3x rfl y6y rfl rfl ?_
  refine v5v [5, 6] [_, _] (b0g n.inc r (d3k n) n.id 0 (n.views.map Vi.inc) (n.views.map Vi.version)) rfl rfl rfl (by decide) rfl rfl (by repeat (first | exact InH.nil | refine InH.cons rfl ?_)) (by (simp only [pI, List.map_cons, List.map_nil, u1u, u2u, gl, nx, q4q, Nat.beq, Nat.add_eq, List.getD_cons_zero, List.getD_cons_succ, List.getD_nil, Bool.or_false, Bool.false_or, Bool.true_or, Bool.or_true, Nat.add_zero, Nat.zero_add]; rfl)) (by (simp only [pI, List.map_cons, List.map_nil, u1u, u2u, gl, nx, q4q, Nat.beq, Nat.add_eq, List.getD_cons_zero, List.getD_cons_succ, List.getD_nil, Bool.or_false, Bool.false_or, Bool.true_or, Bool.or_true, Nat.add_zero, Nat.zero_add]; rfl)) ?_
  refine z5z rfl rfl z8z rfl rfl rfl rfl ?_
  refine z5z rfl rfl r0r rfl rfl rfl rfl ?_
  refine x2x rfl ?_
  refine ⟨by kernel_rfl, ?_⟩
  (rw [c4o fK fU]; refine r6r 11 9 7 76 7 rfl rfl rfl rfl rfl ?_; refine r6r 11 10 8 104 5 rfl rfl rfl rfl rfl ?_)
  refine y0y ?_
  exact ⟨.inr rfl, [_, _, _, _, _, _, _, _, _], rfl, rfl, HE.row rfl rfl (HE.row rfl rfl (HE.row rfl rfl (HE.row rfl rfl (HE.row rfl rfl (HE.row rfl rfl (HE.row rfl rfl (HE.row rfl rfl (HE.row rfl rfl HE.nil))))))))⟩
 try simp at hc8
 obtain ⟨v, hv⟩ : ∃ v, n.views[i]? = some v := ⟨_, List.getElem?_eq_getElem (by omega)⟩
 refine x9x ?_
 refine hK7 _ _ ?_
 clear hK7 K7
 refine x5x fun K9 hK9 => ?_
 refine y7y ?_
 refine x4x x6x (by rfl) ?_
 refine z7z rfl rfl p1p rfl w0w rfl hv ?_
 refine z6z rfl w0w rfl rfl ?_
 refine u8u (id := 14) w0w a7y rfl ?_
 refine z5z rfl rfl w0w rfl rfl rfl rfl ?_
 refine x4x x6x (by rfl) ?_
 refine x0x rfl a6i rfl rfl v7v rfl rfl ?_
 refine x3x rfl v7v rfl rfl ?_
 refine x0x rfl w0w rfl rfl y6y rfl rfl ?_
 refine x3x rfl y6y rfl rfl ?_
 refine a6k (id := 15) v7v rfl y6y rfl rfl rfl rfl rfl ?_
 refine r5r (zs := ((n.views.take i).map Vi.inc ++ [v.inc]).map a0x) rfl rfl v7v rfl y6y rfl rfl rfl rfl (by rfl) (a0c _ _ _) (by (simp only [List.length_map, List.length_append, List.length_cons, List.length_nil, List.length_take, T3]; omega)) ?_
 refine x0x rfl a6i rfl rfl v7v rfl rfl ?_
 refine u4u rfl rfl v7v rfl rfl rfl rfl rfl (by simp only [List.set_cons_zero, List.set_cons_succ]; rfl) ?_
 refine y3y x6x (by rfl) ?_
 refine x0x rfl a6i rfl rfl v7v rfl rfl ?_
 refine x3x rfl v7v rfl rfl ?_
 refine x0x rfl w0w rfl rfl y6y rfl rfl ?_
 refine x3x rfl y6y rfl rfl ?_
 refine a6k (id := 17) v7v rfl y6y rfl rfl rfl rfl rfl ?_
 refine r5r (zs := ((n.views.take i).map Vi.version ++ [v.version]).map a0x) rfl rfl v7v rfl y6y rfl rfl rfl rfl (by rfl) (a0c _ _ _) (by (simp only [List.length_map, List.length_append, List.length_cons, List.length_nil, List.length_take, T3]; omega)) ?_
 refine x0x rfl a6i rfl rfl v7v rfl rfl ?_
 refine u4u rfl rfl v7v rfl rfl rfl rfl rfl (by simp only [List.set_cons_zero, List.set_cons_succ]; rfl) ?_
 refine hK9 _ _ ?_
 clear hK9 K9
 refine y3y x6x (by rfl) ?_
 refine y1y rfl rfl rfl ?_
 refine x1x rfl ?_
 exact ⟨i + 1, ⟨by omega, by omega⟩, [0, 0, 0, 0, 0, _, _, 0, 0, 0, 0, 0, 0, 0, _, _, _, _, _], (Cov.cons' (t := 44) rfl (by rw [v3v (by omega) (by omega)]; rfl) Cov.nil), (Cov.cons (t := 2) rfl (Cov.cons (t := 4) rfl (Cov.cons (t := 5) rfl (Cov.cons (t := 7) rfl (Cov.cons (t := 8) rfl (Cov.cons (t := 42) rfl (Cov.cons (t := 43) rfl Cov.nil))))))), (HE.row rfl (by simp only [p0p hv, List.map_append, List.map_cons, List.map_nil]) (HE.row rfl (by simp only [p0p hv, List.map_append, List.map_cons, List.map_nil]) (HE.box rfl rfl (HE.kill rfl (HE.kill rfl (HE.kill rfl (HE.kill rfl (HE.kill rfl HE.nil)))))))), (HE.same (id := 0) rfl (HE.same (id := 1) rfl (HE.same (id := 2) rfl (HE.same (id := 3) rfl (HE.same (id := 4) rfl (HE.same (id := 7) rfl (HE.same (id := 8) rfl (HE.same (id := 9) rfl (HE.same (id := 10) rfl (HE.same (id := 11) rfl (HE.same (id := 12) rfl (HE.same (id := 19) rfl (HE.same (id := 20) rfl (HE.same (id := 21) rfl (HE.same (id := 22) rfl (HE.same (id := 23) rfl HE.nil)))))))))))))))), rfl⟩
end
section
theorem a9n (c : Bool) (l : La) (f t : Nat) (hlen : l.done.length ≤ 1000000) (hf : f ≤ 1000000) (ht : t ≤ 1000000) (hb : ∀ p ∈ l.done, p.sends.length ≤ 1000000 ∧ p.outs.length ≤ 1000000) : s8s Tryz.prog 122 [.agg (a1q c l), .pv (.int .i64 (f : Int)), .pv (.int .i64 (t : Int))] (.agg (a1q true (b2k l f t))) := by
 refine z1z x6x (fn := Tryz.f122) (by kernel_rfl) (by kernel_rfl) rfl (outs := [.agg (a1q true (b2k l f t))]) (by rfl) (Nat.le_of_ble_eq_true rfl) 11 ?_
 refine x4x x6x (by rfl) ?_
 refine v1v (id := 0) rfl rfl rfl ?_
 refine u8u (id := 1) v4v a9u rfl ?_
 refine x4x x6x (by rfl) ?_
 refine x0x rfl v4v rfl rfl y6y rfl rfl ?_
 refine x3x rfl y6y rfl rfl ?_
 refine x0x rfl v4v rfl rfl q5q rfl rfl ?_
 refine x3x rfl q5q rfl rfl ?_
 refine q8q v4v rfl a9u rfl (by simp only [pI, y6y, T3, q5q, T62, v9v, T63, a0f, p4p, AV.okc, AV.one, Value.oneCell', List.map_cons, List.map_nil, List.getElem?_cons_zero, List.getElem?_cons_succ, List.take_succ_cons, List.take_zero, List.drop_succ_cons, List.drop_zero, List.cons_append, List.nil_append, List.length_cons, List.length_nil, if_true, and_self, Nat.reduceAdd, Nat.reduceLeDiff]; rfl) ?_
 refine u8u (id := 2) v4v a9u rfl ?_
 refine z5z rfl rfl v4v rfl rfl rfl rfl ?_
 refine x5x fun K1 hK1 => ?_
 refine x4x x6x (by rfl) ?_
 refine x1x rfl ?_
 refine x2x rfl ?_
 refine y7y ?_
 refine r6r 2 4 10 78 12 rfl rfl rfl rfl rfl ?_
 refine u5u (ι := Nat) (fun i γ1 => [(8, .pv (.int .i64 (i : Int)))]) (fun i γ1 => [(10, ((γ1 10), .row 78 12 (((l.done.take i).drop f).map (a2c true)))), (2, ((0 + 1), .box 65 [pI l.proc, pI l.base.x, pI l.base.y, pI l.base.count, .ref 10 (γ1 10)])), (3, ((γ1 3), .dead)), (4, ((γ1 4), .dead)), (5, ((γ1 5), .dead)), (6, ((γ1 6), .dead)), (7, ((γ1 7), .dead)), (8, ((γ1 8), .dead)), (9, ((γ1 9), .dead))]) (fun i => f ≤ i ∧ (i = f ∨ (i ≤ t ∧ i ≤ l.done.length))) (fun i => l.done.length - i) (Cov.cons (t := 2) rfl (Cov.cons (t := 3) rfl (Cov.cons (t := 6) rfl (Cov.cons (t := 7) rfl Cov.nil)))) (HE.same (id := 0) rfl (HE.same (id := 1) rfl HE.nil)) f ⟨Nat.le_refl _, .inl rfl⟩ [0, 0, 0, _, _, _, _, _, _, _, _] (Cov.cons (t := 8) rfl Cov.nil) (HE.row rfl (by rw [List.drop_of_length_le (by rw [List.length_take]; omega)]; rfl) (HE.box rfl rfl (HE.kill rfl (HE.kill rfl (HE.kill rfl (HE.kill rfl (HE.kill rfl (HE.kill rfl (HE.kill rfl HE.nil))))))))) rfl fun i γ1 hi => ?_
 try dsimp only [List.cons_append, List.nil_append]
 obtain ⟨k1, k2⟩ := hi
 refine x5x fun K2 hK2 => ?_
 refine x4x x6x (by rfl) ?_
 refine x1x rfl ?_
 refine x1x rfl ?_
 refine y1y rfl rfl rfl ?_
 refine x1x rfl ?_
 refine s1s rfl rfl (fun hg3 => ?_) (fun hg3 => ?_)
 rotate_left
 ·try simp at hg3
  refine x7x rfl rfl ?_
  refine x7x rfl rfl ?_
  refine x7x rfl rfl ?_
  refine x7x rfl rfl ?_
  refine y2y rfl rfl ?_
  refine x8x rfl (fun hc6 => ?_) (fun hc6 => ?_)
  ·simp at hc6
  try simp at hc6
  have hfin : (l.done.take i).drop f = (l.done.take t).drop f := c8l k1 k2 (by omega)
  refine v0v ?_
  refine hK1 _ _ ?_
  clear hK2 K2 hK1 K1
  refine x4x x6x (by rfl) ?_
  refine y4y rfl v4v rfl rfl rfl ?_
  refine z5z rfl rfl v4v rfl rfl rfl rfl ?_
  refine y0y ⟨.inr rfl, ?_⟩
  rw [b2k, ← hfin]
  exact ⟨_, _, rfl, .agg rfl (.cl rfl (.cl rfl (.cl rfl (.cl rfl (.ref rfl (Le.ow_map _ (fun _ => rfl) (fun _ => rfl)) .nil))))) .nil⟩
 try simp at hg3
 refine x1x rfl ?_
 refine y5y rfl rfl ?_
 refine x0x rfl v4v rfl rfl v9v rfl rfl ?_
 refine y5y rfl rfl ?_
 refine x3x rfl v9v rfl rfl ?_
 refine y5y rfl rfl ?_
 refine u0u rfl v9v rfl ?_
 refine y5y rfl rfl ?_
 refine y1y rfl rfl rfl ?_
 refine z0z rfl rfl ?_
 refine x8x rfl (fun hc4 => ?_) (fun hc4 => ?_)
 rotate_left
 ·try simp at hc4
  have hfin : (l.done.take i).drop f = (l.done.take t).drop f := c8l k1 k2 (by omega)
  refine v0v ?_
  refine hK1 _ _ ?_
  clear hK2 K2 hK1 K1
  refine x4x x6x (by rfl) ?_
  refine y4y rfl v4v rfl rfl rfl ?_
  refine z5z rfl rfl v4v rfl rfl rfl rfl ?_
  refine y0y ⟨.inr rfl, ?_⟩
  rw [b2k, ← hfin]
  exact ⟨_, _, rfl, .agg rfl (.cl rfl (.cl rfl (.cl rfl (.cl rfl (.ref rfl (Le.ow_map _ (fun _ => rfl) (fun _ => rfl)) .nil))))) .nil⟩
 try simp at hc4
 obtain ⟨p, hp⟩ : ∃ p, l.done[i]? = some p := ⟨_, List.getElem?_eq_getElem (by omega)⟩
 have g1 : i < t := by omega
 obtain ⟨hps, hpo⟩ := hb p (List.mem_of_getElem? hp)
 refine x9x ?_
 refine hK2 _ _ ?_
 clear hK2 K2
 refine x5x fun K5 hK5 => ?_
 refine y7y ?_
 refine x4x x6x (by rfl) ?_
 refine x0x rfl v4v rfl rfl v9v rfl rfl ?_
 refine x3x rfl v9v rfl rfl ?_
 refine x1x rfl ?_
 refine z7z rfl rfl v9v rfl v8v rfl hp ?_
 refine z6z rfl v8v rfl rfl ?_
 refine u8u (id := 3) v8v b4n rfl ?_
 refine z5z rfl rfl v8v rfl rfl rfl rfl ?_
 refine a0b x6x r4r (by rfl) ?_
 refine x0x rfl v4v rfl rfl v9v rfl rfl ?_
 refine x3x rfl v9v rfl rfl ?_
 refine x0x rfl v8v rfl rfl z3z rfl rfl ?_
 refine x3x (out := .agg (v6v p.ev)) rfl z3z rfl rfl ?_
 refine x0x rfl v8v rfl rfl q5q rfl rfl ?_
 refine x3x (out := .agg (a0e p.after)) rfl q5q rfl rfl ?_
 refine r9r (id := 4) u7u rfl z3z rfl ?_
 refine x0x rfl v8v rfl rfl u7u rfl rfl ?_
 refine x3x rfl u7u rfl rfl ?_
 refine b4x x6x (zs := (p.sends).map v6v) rfl rfl u7u rfl z3z rfl rfl rfl (by exact a1c (fun _ => rfl) _) rfl (by (simp only [List.length_map, List.length_append, List.length_cons, List.length_nil, List.length_take, List.length_range, List.length_drop, T76]; omega)) (Le.ow_map _ (fun _ => rfl) (fun _ => rfl)) ?_
 refine r9r (id := 6) w6w rfl v2v rfl ?_
 refine x0x rfl v8v rfl rfl w6w rfl rfl ?_
 refine x3x rfl w6w rfl rfl ?_
 refine b4x x6x (zs := (p.outs).map s2s) rfl rfl w6w rfl v2v rfl rfl rfl (by exact a1c (fun _ => rfl) _) rfl (by (simp only [List.length_map, List.length_append, List.length_cons, List.length_nil, List.length_take, List.length_range, List.length_drop, T104]; omega)) (Le.ow_map _ (fun _ => rfl) (fun _ => rfl)) ?_
 refine q8q v8v rfl b4n rfl (by simp only [pI, u7u, T24, w6w, T25, q5q, T62, z3z, T76, a0f, p4p, AV.okc, AV.one, Value.oneCell', List.map_cons, List.map_nil, List.getElem?_cons_zero, List.getElem?_cons_succ, List.take_succ_cons, List.take_zero, List.drop_succ_cons, List.drop_zero, List.cons_append, List.nil_append, List.length_cons, List.length_nil, if_true, and_self, Nat.reduceAdd, Nat.reduceLeDiff]; rfl) ?_
 refine s6s (id := 8) v9v rfl v8v rfl rfl rfl rfl rfl rfl ?_
 refine r5r (zs := ((l.done.take i).drop f ++ [p]).map (a2c true)) rfl rfl v9v rfl v8v rfl rfl rfl rfl (by rfl) (a0c _ _ _) (by (simp only [List.length_map, List.length_append, List.length_cons, List.length_nil, List.length_take, List.length_range, List.length_drop, T78]; omega)) ?_
 refine x0x rfl v4v rfl rfl v9v rfl rfl ?_
 refine u4u rfl rfl v9v rfl rfl rfl rfl rfl (by simp only [List.set_cons_zero, List.set_cons_succ]; rfl) ?_
 refine ⟨by kernel_rfl, ?_⟩
 refine hK5 _ _ ?_
 clear hK5 K5
 refine y3y x6x (by rfl) ?_
 refine x1x rfl ?_
 refine z9z (b := 1) rfl rfl (by omega) ?_
 refine x2x rfl ?_
 exact ⟨i + 1, ⟨⟨by omega, .inr ⟨by omega, by omega⟩⟩, by omega⟩, [0, 0, 0, _, _, _, _, _, _, _, _], (Cov.cons (t := 8) rfl Cov.nil), (Cov.cons (t := 2) rfl (Cov.cons (t := 3) rfl (Cov.cons (t := 6) rfl (Cov.cons (t := 7) rfl Cov.nil)))), (HE.row rfl (by rw [p0p hp, List.drop_append_of_le_length (by rw [List.length_take]; omega)]) (HE.box rfl rfl (HE.kill rfl (HE.kill rfl (HE.kill rfl (HE.kill rfl (HE.kill rfl (HE.kill rfl (HE.kill rfl HE.nil))))))))), (HE.same (id := 0) rfl (HE.same (id := 1) rfl HE.nil)), rfl⟩
theorem b2p (c : Bool) (n : Nd) (hl : n.lanes.length ≤ 1000000) (hk : n.kept.length ≤ 1000000) (ho : n.outs.length ≤ 1000000) (hd : ∀ l ∈ n.lanes, lb l) : Meth Tryz.prog 77 3 [] [.agg (a0t c n)] [(0, (0, .dead)), (1, (0, .dead)), (2, (0, .dead))] (.agg [pI n.id, .pv (.bool n.up), pI n.inc, pI n.g, .ref 0 0, a1n true n.kept, a3k true n.outs, pI n.led, pI 0, .ref 1 0, .ref 2 0, pI 0, pI 41]) [(0, (0, .row 65 5 ((n.lanes.map a6p).map (a1q true)))), (1, (0, .row 141 3 ([vi0, vi0, vi0].map (a4b true)))), (2, (0, .row 3 1 ([0, 0, 0].map a0x)))] := by
 refine u9u x6x (fn := Tryz.f77) (by kernel_rfl) (by kernel_rfl) rfl (O0 := [.agg [pI n.id, .pv (.bool n.up), pI n.inc, pI n.g, .ref 0 0, a1n true n.kept, a3k true n.outs, pI n.led, pI 0, .ref 1 0, .ref 2 0, pI 0, pI 41]]) 3 13 (Nat.le_of_ble_eq_true rfl) (by rfl) (by repeat (first | exact BndH.nil | refine BndH.dead ?_)) (by repeat (first | exact BndH.nil | refine BndH.row (u3u fun _ => rfl) ?_)) (by rfl) fun γ => ?_
 show Ex Tryz.prog _ _ [(0, .agg (a0t c n))] [(0, ((γ 0), .dead)), (1, ((γ 1), .dead)), (2, ((γ 2), .dead)), (15, (0, .dead)), (14, (0, .dead)), (13, (0, .dead)), (12, (0, .dead)), (11, (0, .dead)), (10, (0, .dead)), (9, (0, .dead)), (8, (0, .dead)), (7, (0, .dead)), (6, (0, .dead)), (5, (0, .dead)), (4, (0, .dead)), (3, (0, .dead))] _
 refine x4x x6x (by rfl) ?_
 refine v1v (id := 3) rfl rfl rfl ?_
 refine u8u (id := 4) z8z a7q rfl ?_
 refine q7q x6x r4r (by rfl) ?_
 refine x0x rfl z8z rfl rfl y6y rfl rfl ?_
 refine x3x rfl y6y rfl rfl ?_
 refine x0x rfl z8z rfl rfl b5u rfl rfl ?_
 refine x3x rfl b5u rfl rfl ?_
 refine x0x rfl z8z rfl rfl y6y rfl rfl ?_
 refine x3x rfl y6y rfl rfl ?_
 refine x0x rfl z8z rfl rfl y6y rfl rfl ?_
 refine x3x rfl y6y rfl rfl ?_
 refine r9r (id := 5) u7u rfl z3z rfl ?_
 refine x0x rfl z8z rfl rfl u7u rfl rfl ?_
 refine x3x rfl u7u rfl rfl ?_
 refine b4x x6x (zs := (n.kept).map v6v) rfl rfl u7u rfl z3z rfl rfl rfl (by exact a1c (fun _ => rfl) _) rfl (by (simp only [List.length_map, List.length_append, List.length_cons, List.length_nil, List.length_take, List.length_range, List.length_drop, T76]; omega)) (Le.ow_map _ (fun _ => rfl) (fun _ => rfl)) ?_
 refine r9r (id := 7) w6w rfl v2v rfl ?_
 refine x0x rfl z8z rfl rfl w6w rfl rfl ?_
 refine x3x rfl w6w rfl rfl ?_
 refine b4x x6x (zs := (n.outs).map s2s) rfl rfl w6w rfl v2v rfl rfl rfl (by exact a1c (fun _ => rfl) _) rfl (by (simp only [List.length_map, List.length_append, List.length_cons, List.length_nil, List.length_take, List.length_range, List.length_drop, T104]; omega)) (Le.ow_map _ (fun _ => rfl) (fun _ => rfl)) ?_
 refine x0x rfl z8z rfl rfl y6y rfl rfl ?_
 refine x3x rfl y6y rfl rfl ?_
 refine q8q z8z rfl a7q rfl (by simp only [pI, y6y, T3, b5u, T4, v7v, T22, w4w, T23, u7u, T24, w6w, T25, p1p, T26, a0f, p4p, AV.okc, AV.one, Value.oneCell', List.map_cons, List.map_nil, List.getElem?_cons_zero, List.getElem?_cons_succ, List.take_succ_cons, List.take_zero, List.drop_succ_cons, List.drop_zero, List.cons_append, List.nil_append, List.length_cons, List.length_nil, if_true, and_self, Nat.reduceAdd, Nat.reduceLeDiff]; rfl) ?_
 refine u8u (id := 9) z8z a7q rfl ?_
 refine z5z rfl rfl z8z rfl rfl rfl rfl ?_
 refine ⟨by kernel_rfl, ?_⟩
 refine x5x fun K1 hK1 => ?_
 refine x4x x6x (by rfl) ?_
 refine x2x rfl ?_
 refine y7y ?_
 refine r6r 9 4 0 65 5 rfl rfl rfl rfl rfl ?_
 refine u5u (ι := Nat) (fun i γ1 => [(4, .pv (.int .i64 (i : Int)))]) (fun i γ1 => [(0, ((γ1 0), .row 65 5 (((n.lanes.take i).map a6p).map (a1q true)))), (9, ((0 + 1), .box 28 [pI n.id, .pv (.bool n.up), pI n.inc, pI n.g, .ref 0 (γ1 0), a1n true n.kept, a3k true n.outs, pI n.led, pI 0, .pv (.slice none 0 0), .pv (.slice none 0 0), pI 0, pI 41])), (10, ((γ1 10), .dead)), (11, ((γ1 11), .dead))]) (fun i => i ≤ n.lanes.length) (fun i => n.lanes.length - i) (Cov.cons (t := 1) rfl (Cov.cons (t := 2) rfl (Cov.cons (t := 3) rfl Cov.nil))) (HE.same (id := 1) rfl (HE.same (id := 2) rfl (HE.same (id := 3) rfl (HE.same (id := 4) rfl (HE.same (id := 5) rfl (HE.same (id := 6) rfl (HE.same (id := 7) rfl (HE.same (id := 8) rfl (HE.same (id := 12) rfl (HE.same (id := 13) rfl (HE.same (id := 14) rfl (HE.same (id := 15) rfl HE.nil)))))))))))) 0 (by omega) [_, 0, 0, 0, 0, 0, 0, 0, 0, 0, _, _] (Cov.cons (t := 4) rfl Cov.nil) (HE.row rfl (by rw [List.take_zero]; rfl) (HE.box rfl rfl (HE.kill rfl (HE.kill rfl HE.nil)))) rfl fun i γ1 hi => ?_
 try dsimp only [List.cons_append, List.nil_append]
 refine x5x fun K2 hK2 => ?_
 refine x4x x6x (by rfl) ?_
 refine x1x rfl ?_
 refine x0x rfl z8z rfl rfl w4w rfl rfl ?_
 refine x3x rfl w4w rfl rfl ?_
 refine u0u rfl w4w rfl ?_
 refine y1y rfl rfl rfl ?_
 refine x8x rfl (fun hc3 => ?_) (fun hc3 => ?_)
 ·try simp at hc3
  obtain ⟨a, ha⟩ : ∃ a, n.lanes[i]? = some a := ⟨_, List.getElem?_eq_getElem (by omega)⟩
  have had := hd a (List.mem_of_getElem? ha)
  refine x9x ?_
  refine hK2 _ _ ?_
  clear hK2 K2
  refine x5x fun K4 hK4 => ?_
  refine y7y ?_
  refine a0b x6x r4r (by rfl) ?_
  refine x0x rfl z8z rfl rfl w4w rfl rfl ?_
  refine x3x rfl w4w rfl rfl ?_
  refine x0x rfl z8z rfl rfl w4w rfl rfl ?_
  refine x3x rfl w4w rfl rfl ?_
  refine x1x rfl ?_
  refine z7z rfl rfl w4w rfl v4v rfl ha ?_
  refine z6z rfl v4v rfl rfl ?_
  refine y9y rfl rfl rfl (a9n c a 0 0 had.1 (by omega) (by omega) had.2) ?_
  refine s6s (id := 10) w4w rfl v4v rfl rfl rfl rfl rfl rfl ?_
  refine r5r (zs := ((n.lanes.take i).map a6p ++ [a6p a]).map (a1q true)) rfl rfl w4w rfl v4v rfl rfl rfl rfl (by rfl) (a0c _ _ _) (by (simp only [List.length_map, List.length_append, List.length_cons, List.length_nil, List.length_take, List.length_range, List.length_drop, T65]; omega)) ?_
  refine x0x rfl z8z rfl rfl w4w rfl rfl ?_
  refine u4u rfl rfl w4w rfl rfl rfl rfl rfl (by simp only [List.set_cons_zero, List.set_cons_succ]; rfl) ?_
  refine ⟨by kernel_rfl, ?_⟩
  refine hK4 _ _ ?_
  clear hK4 K4
  refine y3y x6x (by rfl) ?_
  refine x1x rfl ?_
  refine y1y rfl rfl rfl ?_
  refine x2x rfl ?_
  exact ⟨i + 1, ⟨by omega, by omega⟩, [_, 0, 0, 0, 0, 0, 0, 0, 0, 0, _, _], (Cov.cons' (t := 4) rfl (by rw [v3v (by omega) (by omega)]; rfl) Cov.nil), (Cov.cons (t := 1) rfl (Cov.cons (t := 2) rfl (Cov.cons (t := 3) rfl Cov.nil))), (HE.row rfl (by simp only [p0p ha, List.map_append, List.map_cons, List.map_nil]) (HE.box rfl rfl (HE.kill rfl (HE.kill rfl HE.nil)))), (HE.same (id := 1) rfl (HE.same (id := 2) rfl (HE.same (id := 3) rfl (HE.same (id := 4) rfl (HE.same (id := 5) rfl (HE.same (id := 6) rfl (HE.same (id := 7) rfl (HE.same (id := 8) rfl (HE.same (id := 12) rfl (HE.same (id := 13) rfl (HE.same (id := 14) rfl (HE.same (id := 15) rfl HE.nil)))))))))))), rfl⟩
 try simp at hc3
 obtain rfl : i = n.lanes.length := by omega
 refine v0v ?_
 refine hK1 _ _ ?_
 clear hK2 K2 hK1 K1
 refine x5x fun K5 hK5 => ?_
 refine x4x x6x (by rfl) ?_
 refine x2x rfl ?_
 refine y7y ?_
 refine r6r 9 9 1 141 3 rfl rfl rfl rfl rfl ?_
 refine r6r 9 10 2 3 1 rfl rfl rfl rfl rfl ?_
 refine u5u (ι := Nat) (fun i γ2 => [(5, .pv (.int .i64 (i : Int)))]) (fun i γ2 => [(1, ((γ2 1), .row 141 3 ((List.range i).map fun _ => c4p))), (2, ((γ2 2), .row 3 1 ((List.range i).map fun _ => a0x 0))), (9, ((0 + 1), .box 28 [pI n.id, .pv (.bool n.up), pI n.inc, pI n.g, .ref 0 (γ1 0), a1n true n.kept, a3k true n.outs, pI n.led, pI 0, .ref 1 (γ2 1), .ref 2 (γ2 2), pI 0, pI 41])), (12, ((γ2 12), .dead)), (13, ((γ2 13), .dead)), (14, ((γ2 14), .dead)), (15, ((γ2 15), .dead))]) (fun i => i ≤ 3) (fun i => 3 - i) (Cov.cons (t := 2) rfl (Cov.cons (t := 3) rfl Cov.nil)) (HE.same (id := 0) rfl (HE.same (id := 3) rfl (HE.same (id := 4) rfl (HE.same (id := 5) rfl (HE.same (id := 6) rfl (HE.same (id := 7) rfl (HE.same (id := 8) rfl (HE.same (id := 10) rfl (HE.same (id := 11) rfl HE.nil))))))))) 0 (by omega) [0, _, _, 0, 0, 0, 0, 0, 0, 0, 0, 0, _, _, _, _] (Cov.cons (t := 5) rfl Cov.nil) (HE.row rfl rfl (HE.row rfl rfl (HE.box rfl rfl (HE.kill rfl (HE.kill rfl (HE.kill rfl (HE.kill rfl HE.nil))))))) rfl fun i γ2 hi => ?_
 try dsimp only [List.cons_append, List.nil_append]
 refine x5x fun K6 hK6 => ?_
 refine x4x x6x (by rfl) ?_
 refine x1x rfl ?_
 refine y1y rfl rfl rfl ?_
 refine x8x rfl (fun hc7 => ?_) (fun hc7 => ?_)
 rotate_left
 ·try simp at hc7
  obtain rfl : i = 3 := by omega
  rw [List.take_length]
  refine v0v ?_
  refine hK5 _ _ ?_
  clear hK6 K6 hK5 K5
  refine x4x x6x (by rfl) ?_
  refine y4y rfl z8z rfl rfl rfl ?_
  refine z5z rfl rfl z8z rfl rfl rfl rfl ?_
  refine d1l (f := fun _ => c4p) (f' := fun _ => a4b true vi0) (l := List.range 3) 1 rfl (fun _ => .same (.same (.le rfl .nil rfl .nil))) ?_
  refine y0y ?_
  exact ⟨.inr rfl, [_, _, _], rfl, rfl, HE.row rfl rfl (HE.row rfl rfl (HE.row rfl rfl HE.nil))⟩
 try simp at hc7
 refine x9x ?_
 refine hK6 _ _ ?_
 clear hK6 K6
 refine x5x fun K8 hK8 => ?_
 refine y7y ?_
 refine x4x x6x (by rfl) ?_
 refine x0x rfl z8z rfl rfl p1p rfl rfl ?_
 refine x3x rfl p1p rfl rfl ?_
 refine q8q w0w rfl a7y rfl (by simp only [pI, y6y, T3, u7u, T24, a0f, p4p, AV.okc, AV.one, Value.oneCell', List.map_cons, List.map_nil, List.getElem?_cons_zero, List.getElem?_cons_succ, List.take_succ_cons, List.take_zero, List.drop_succ_cons, List.drop_zero, List.cons_append, List.nil_append, List.length_cons, List.length_nil, if_true, and_self, Nat.reduceAdd, Nat.reduceLeDiff]; rfl) ?_
 refine s6s (id := 12) p1p rfl w0w rfl rfl rfl rfl rfl rfl ?_
 refine r5r (zs := (List.range i).map (fun _ => c4p) ++ [c4p]) rfl rfl p1p rfl w0w rfl rfl rfl rfl (by rfl) rfl (by (simp only [List.length_map, List.length_append, List.length_cons, List.length_nil, List.length_take, List.length_range, List.length_drop, T141]; omega)) ?_
 refine x0x rfl z8z rfl rfl p1p rfl rfl ?_
 refine u4u rfl rfl p1p rfl rfl rfl rfl rfl (by simp only [List.set_cons_zero, List.set_cons_succ]; rfl) ?_
 refine y3y x6x (by rfl) ?_
 refine x0x rfl z8z rfl rfl v7v rfl rfl ?_
 refine x3x rfl v7v rfl rfl ?_
 refine a6k (id := 14) v7v rfl y6y rfl rfl rfl rfl rfl ?_
 refine r5r (zs := (List.range i).map (fun _ => a0x 0) ++ [a0x 0]) rfl rfl v7v rfl y6y rfl rfl rfl rfl (by rfl) rfl (by (simp only [List.length_map, List.length_append, List.length_cons, List.length_nil, List.length_take, List.length_range, List.length_drop, T3]; omega)) ?_
 refine x0x rfl z8z rfl rfl v7v rfl rfl ?_
 refine u4u rfl rfl v7v rfl rfl rfl rfl rfl (by simp only [List.set_cons_zero, List.set_cons_succ]; rfl) ?_
 refine hK8 _ _ ?_
 clear hK8 K8
 refine y3y x6x (by rfl) ?_
 refine x1x rfl ?_
 refine y1y rfl rfl rfl ?_
 refine x2x rfl ?_
 exact ⟨i + 1, ⟨by omega, by omega⟩, [0, _, _, 0, 0, 0, 0, 0, 0, 0, 0, 0, _, _, _, _], (Cov.cons' (t := 5) rfl (by rw [v3v (by omega) (by omega)]; rfl) Cov.nil), (Cov.cons (t := 2) rfl (Cov.cons (t := 3) rfl Cov.nil)), (HE.row rfl (by rw [List.range_succ, List.map_append]; rfl) (HE.row rfl (by rw [List.range_succ, List.map_append]; rfl) (HE.box rfl rfl (HE.kill rfl (HE.kill rfl (HE.kill rfl (HE.kill rfl HE.nil))))))), (HE.same (id := 0) rfl (HE.same (id := 3) rfl (HE.same (id := 4) rfl (HE.same (id := 5) rfl (HE.same (id := 6) rfl (HE.same (id := 7) rfl (HE.same (id := 8) rfl (HE.same (id := 10) rfl (HE.same (id := 11) rfl HE.nil))))))))), rfl⟩
end
section
theorem b1u (c : Bool) (l : La) (h : lb l) : s8s Tryz.prog 122 [.agg (a1q c l), .pv (.int .i64 ((0 : Nat) : Int)), .pv (.int .i64 (l.done.length : Int))] (.agg (a1q true l)) := by
 have := a9n c l 0 l.done.length h.1 (by omega) h.1 h.2
 rw [c2y] at this
 exact this
set_option maxHeartbeats 1000000 in
theorem b3n (c : Bool) (n : Nd) (h : nb n) : Meth Tryz.prog 110 3 [] [.agg (a0t c n)] [(0, (0, .dead)), (1, (0, .dead)), (2, (0, .dead))] (.agg [pI n.id, .pv (.bool n.up), pI n.inc, pI n.g, .ref 0 0, a1n true n.kept, a3k true n.outs, pI n.led, pI n.version, .ref 1 0, .ref 2 0, pI n.round, pI n.low]) [(0, (0, .row 65 5 ((n.lanes).map (a1q true)))), (1, (0, .row 141 3 ((n.views).map (a4b true)))), (2, (0, .row 3 1 (n.known.map a0x)))] := by
 refine u9u x6x (fn := Tryz.f110) (by kernel_rfl) (by kernel_rfl) rfl (O0 := [.agg [pI n.id, .pv (.bool n.up), pI n.inc, pI n.g, .ref 0 0, a1n true n.kept, a3k true n.outs, pI n.led, pI n.version, .ref 1 0, .ref 2 0, pI n.round, pI n.low]]) 3 10 (Nat.le_of_ble_eq_true rfl) (by rfl) (by repeat (first | exact BndH.nil | refine BndH.dead ?_)) (by repeat (first | exact BndH.nil | refine BndH.row (u3u fun _ => rfl) ?_)) (by rfl) fun γ => ?_
 show Ex Tryz.prog _ _ [(0, .agg (a0t c n))] [(0, ((γ 0), .dead)), (1, ((γ 1), .dead)), (2, ((γ 2), .dead)), (12, (0, .dead)), (11, (0, .dead)), (10, (0, .dead)), (9, (0, .dead)), (8, (0, .dead)), (7, (0, .dead)), (6, (0, .dead)), (5, (0, .dead)), (4, (0, .dead)), (3, (0, .dead))] _
 obtain ⟨b1, b2, b3, b4, b5, b6, b7⟩ := h
 refine x4x x6x (by rfl) ?_
 refine v1v (id := 3) rfl rfl rfl ?_
 refine u8u (id := 4) z8z a7q rfl ?_
 refine x4x x6x (by rfl) ?_
 refine y4y rfl z8z rfl rfl rfl ?_
 refine v5v [0, 11, 12] [_, _, _] (b2p c n b1 b2 b3 b4) rfl rfl rfl (by decide) rfl rfl (by repeat (first | exact InH.nil | refine InH.cons rfl ?_)) (by (simp only [pI, List.map_cons, List.map_nil, u1u, u2u, gl, nx, q4q, Nat.beq, Nat.add_eq, List.getD_cons_zero, List.getD_cons_succ, List.getD_nil, Bool.or_false, Bool.false_or, Bool.true_or, Bool.or_true, Nat.add_zero, Nat.zero_add]; rfl)) (by (simp only [pI, List.map_cons, List.map_nil, u1u, u2u, gl, nx, q4q, Nat.beq, Nat.add_eq, List.getD_cons_zero, List.getD_cons_succ, List.getD_nil, Bool.or_false, Bool.false_or, Bool.true_or, Bool.or_true, Nat.add_zero, Nat.zero_add]; rfl)) ?_
 refine u8u (id := 5) z8z a7q rfl ?_
 refine z5z rfl rfl z8z rfl rfl rfl rfl ?_
 refine x5x fun K1 hK1 => ?_
 refine x4x x6x (by rfl) ?_
 refine x2x rfl ?_
 refine y7y ?_
 refine u5u (ι := Nat) (fun i γ1 => [(4, .pv (.int .i64 (i : Int)))]) (fun i γ1 => [(0, ((γ 0 + 1), .row 65 5 ((n.lanes.take i ++ (n.lanes.drop i).map a6p).map (a1q true))))]) (fun i => i ≤ n.lanes.length) (fun i => n.lanes.length - i) (Cov.cons (t := 1) rfl (Cov.cons (t := 2) rfl (Cov.cons (t := 3) rfl Cov.nil))) (HE.same (id := 1) rfl (HE.same (id := 2) rfl (HE.same (id := 3) rfl (HE.same (id := 4) rfl (HE.same (id := 5) rfl (HE.same (id := 6) rfl (HE.same (id := 7) rfl (HE.same (id := 8) rfl (HE.same (id := 9) rfl (HE.same (id := 10) rfl (HE.same (id := 11) rfl (HE.same (id := 12) rfl HE.nil)))))))))))) 0 (by omega) [] (Cov.cons (t := 4) rfl Cov.nil) (HE.row rfl (by rw [List.take_zero, List.drop_zero]; rfl) HE.nil) rfl fun i γ1 hi => ?_
 try dsimp only [List.cons_append, List.nil_append]
 refine x5x fun K2 hK2 => ?_
 refine x4x x6x (by rfl) ?_
 refine x1x rfl ?_
 refine x0x rfl z8z rfl rfl w4w rfl rfl ?_
 refine x3x rfl w4w rfl rfl ?_
 refine u0u rfl w4w rfl ?_
 refine y1y rfl rfl rfl ?_
 refine x8x rfl (fun hc3 => ?_) (fun hc3 => ?_)
 ·try simp at hc3
  obtain ⟨p, hp⟩ : ∃ p, n.lanes[i]? = some p := ⟨_, List.getElem?_eq_getElem (by omega)⟩
  have hpl := b4 p (List.mem_of_getElem? hp)
  have hAl : ((n.lanes.take i).map (a1q true)).length = i := by rw [List.length_map, List.length_take]; omega
  rw [q1q hp, List.map_cons, List.map_append, List.map_cons]
  refine x9x ?_
  refine hK2 _ _ ?_
  clear hK2 K2
  refine x5x fun K4 hK4 => ?_
  refine y7y ?_
  refine a0b x6x r4r (by rfl) ?_
  refine x0x rfl z8z rfl rfl w4w rfl rfl ?_
  refine x3x rfl w4w rfl rfl ?_
  refine x1x rfl ?_
  refine x0x rfl z8z rfl rfl w4w rfl rfl ?_
  refine x3x rfl w4w rfl rfl ?_
  refine x1x rfl ?_
  refine z7z rfl rfl w4w rfl v4v rfl hp ?_
  refine z6z rfl v4v rfl rfl ?_
  refine x0x rfl z8z rfl rfl w4w rfl rfl ?_
  refine x3x rfl w4w rfl rfl ?_
  refine x1x rfl ?_
  refine z7z rfl rfl w4w rfl v4v rfl hp ?_
  refine x0x rfl v4v rfl rfl v9v rfl rfl ?_
  refine z4z rfl v9v rfl ?_
  refine u0u rfl v9v rfl ?_
  refine y9y rfl rfl rfl (b1u c p hpl) ?_
  refine q0q rfl rfl w4w rfl v4v rfl rfl hAl ?_
  refine a1p hAl rfl rfl v4v rfl rfl rfl rfl (b0u rfl) rfl ?_
  refine ⟨by kernel_rfl, ?_⟩
  refine hK4 _ _ ?_
  clear hK4 K4
  refine y3y x6x (by rfl) ?_
  refine x1x rfl ?_
  refine y1y rfl rfl rfl ?_
  refine x2x rfl ?_
  exact ⟨i + 1, ⟨by omega, by omega⟩, [], (Cov.cons' (t := 4) rfl (by rw [v3v (by omega) (by omega)]; rfl) Cov.nil), (Cov.cons (t := 1) rfl (Cov.cons (t := 2) rfl (Cov.cons (t := 3) rfl Cov.nil))), (HE.row rfl (by simp only [p0p hp, List.map_append, List.append_assoc]; rfl) HE.nil), (HE.same (id := 1) rfl (HE.same (id := 2) rfl (HE.same (id := 3) rfl (HE.same (id := 4) rfl (HE.same (id := 5) rfl (HE.same (id := 6) rfl (HE.same (id := 7) rfl (HE.same (id := 8) rfl (HE.same (id := 9) rfl (HE.same (id := 10) rfl (HE.same (id := 11) rfl (HE.same (id := 12) rfl HE.nil)))))))))))), rfl⟩
 try simp at hc3
 obtain rfl : i = n.lanes.length := by omega
 rw [List.take_length, List.drop_length, List.map_nil, List.append_nil]
 refine v0v ?_
 refine hK1 _ _ ?_
 clear hK2 K2 hK1 K1
 refine x4x x6x (by rfl) ?_
 refine x0x rfl z8z rfl rfl y6y rfl rfl ?_
 refine x3x rfl y6y rfl rfl ?_
 refine x0x rfl z8z rfl rfl y6y rfl rfl ?_
 refine u4u rfl rfl y6y rfl rfl rfl rfl rfl (by simp only [List.set_cons_zero, List.set_cons_succ]; rfl) ?_
 refine x4x x6x (by rfl) ?_
 refine x0x rfl z8z rfl rfl y6y rfl rfl ?_
 refine x3x rfl y6y rfl rfl ?_
 refine x0x rfl z8z rfl rfl y6y rfl rfl ?_
 refine u4u rfl rfl y6y rfl rfl rfl rfl rfl (by simp only [List.set_cons_zero, List.set_cons_succ]; rfl) ?_
 refine x4x x6x (by rfl) ?_
 refine x0x rfl z8z rfl rfl y6y rfl rfl ?_
 refine x3x rfl y6y rfl rfl ?_
 refine x0x rfl z8z rfl rfl y6y rfl rfl ?_
 refine u4u rfl rfl y6y rfl rfl rfl rfl rfl (by simp only [List.set_cons_zero, List.set_cons_succ]; rfl) ?_
 refine x4x x6x (by rfl) ?_
 refine r9r (id := 1) p1p rfl w0w rfl ?_
 refine x0x rfl z8z rfl rfl p1p rfl rfl ?_
 refine u4u rfl rfl p1p rfl rfl rfl rfl rfl (by simp only [List.set_cons_zero, List.set_cons_succ]; rfl) ?_
 refine x5x fun K5 hK5 => ?_
 refine x4x x6x (by rfl) ?_
 refine x2x rfl ?_
 refine y7y ?_
 refine u5u (ι := Nat) (fun j γ2 => [(5, .pv (.int .i64 (j : Int)))]) (fun j γ2 => [(1, ((γ2 1), .row 141 3 ((n.views.take j).map (a4b true)))), (5, ((0 + 1), .box 28 [pI n.id, .pv (.bool n.up), pI n.inc, pI n.g, .ref 0 (γ 0 + 1), a1n true n.kept, a3k true n.outs, pI n.led, pI n.version, .ref 1 (γ2 1), .ref 12 (0 + 1), pI n.round, pI n.low])), (6, ((γ2 6), .dead)), (7, ((γ2 7), .dead)), (8, ((γ2 8), .dead)), (9, ((γ2 9), .dead))]) (fun j => j ≤ n.views.length) (fun j => n.views.length - j) (Cov.cons (t := 1) rfl (Cov.cons (t := 2) rfl (Cov.cons (t := 3) rfl Cov.nil))) (HE.same (id := 0) rfl (HE.same (id := 2) rfl (HE.same (id := 3) rfl (HE.same (id := 4) rfl (HE.same (id := 10) rfl (HE.same (id := 11) rfl (HE.same (id := 12) rfl HE.nil))))))) 0 (by omega) [0, _, 0, 0, 0, 0, _, _, _, _] (Cov.cons (t := 5) rfl Cov.nil) (HE.row rfl (by rw [List.take_zero]; rfl) (HE.box rfl rfl (HE.kill rfl (HE.kill rfl (HE.kill rfl (HE.kill rfl HE.nil)))))) rfl fun j γ2 hi => ?_
 try dsimp only [List.cons_append, List.nil_append]
 refine x5x fun K6 hK6 => ?_
 refine x4x x6x (by rfl) ?_
 refine x1x rfl ?_
 refine x0x rfl z8z rfl rfl p1p rfl rfl ?_
 refine x3x rfl p1p rfl rfl ?_
 refine u0u rfl p1p rfl ?_
 refine y1y rfl rfl rfl ?_
 refine x8x rfl (fun hc7 => ?_) (fun hc7 => ?_)
 rotate_left
 ·try simp at hc7
  obtain rfl : j = n.views.length := by omega
  rw [List.take_length]
  refine v0v ?_
  refine hK5 _ _ ?_
  clear hK6 K6 hK5 K5
  refine x4x x6x (by rfl) ?_
  refine r9r (id := 2) v7v rfl y6y rfl ?_
  refine x0x rfl z8z rfl rfl v7v rfl rfl ?_
  refine x3x rfl v7v rfl rfl ?_
  refine a0q (zs := n.known.map a0x) rfl rfl v7v rfl y6y rfl rfl rfl (by exact a1c (fun _ => rfl) _) rfl (by (simp only [List.length_map, List.length_append, List.length_cons, List.length_nil, List.length_take, List.length_range, List.length_drop, T3]; omega)) ?_
  refine x0x rfl z8z rfl rfl v7v rfl rfl ?_
  refine u4u rfl rfl v7v rfl rfl rfl rfl rfl (by simp only [List.set_cons_zero, List.set_cons_succ]; rfl) ?_
  refine x4x x6x (by rfl) ?_
  refine y4y rfl z8z rfl rfl rfl ?_
  refine z5z rfl rfl z8z rfl rfl rfl rfl ?_
  refine y0y ?_
  exact ⟨.inr rfl, [_, _, _], rfl, rfl, HE.row rfl rfl (HE.row rfl rfl (HE.row rfl rfl HE.nil))⟩
 try simp at hc7
 obtain ⟨v, hv⟩ : ∃ v, n.views[j]? = some v := ⟨_, List.getElem?_eq_getElem (by omega)⟩
 have hve := b6 v (List.mem_of_getElem? hv)
 refine x9x ?_
 refine hK6 _ _ ?_
 clear hK6 K6
 refine x5x fun K8 hK8 => ?_
 refine y7y ?_
 refine a0b x6x r4r (by rfl) ?_
 refine x0x rfl z8z rfl rfl p1p rfl rfl ?_
 refine x3x rfl p1p rfl rfl ?_
 refine x0x rfl z8z rfl rfl p1p rfl rfl ?_
 refine x3x rfl p1p rfl rfl ?_
 refine x1x rfl ?_
 refine z7z rfl rfl p1p rfl w0w rfl hv ?_
 refine x0x rfl w0w rfl rfl y6y rfl rfl ?_
 refine z4z rfl y6y rfl ?_
 refine x0x rfl z8z rfl rfl p1p rfl rfl ?_
 refine x3x rfl p1p rfl rfl ?_
 refine x1x rfl ?_
 refine z7z rfl rfl p1p rfl w0w rfl hv ?_
 refine x0x rfl w0w rfl rfl y6y rfl rfl ?_
 refine z4z rfl y6y rfl ?_
 refine r9r (id := 6) u7u rfl z3z rfl ?_
 refine x0x rfl z8z rfl rfl p1p rfl rfl ?_
 refine x3x rfl p1p rfl rfl ?_
 refine x1x rfl ?_
 refine z7z rfl rfl p1p rfl w0w rfl hv ?_
 refine x0x rfl w0w rfl rfl u7u rfl rfl ?_
 refine z4z rfl u7u rfl ?_
 refine b4x x6x (zs := (v.events).map v6v) rfl rfl u7u rfl z3z rfl rfl rfl (by exact a1c (fun _ => rfl) _) rfl (by (simp only [List.length_map, List.length_append, List.length_cons, List.length_nil, List.length_take, List.length_range, List.length_drop, T76]; omega)) (Le.ow_map _ (fun _ => rfl) (fun _ => rfl)) ?_
 refine q8q w0w rfl a7y rfl (by simp only [pI, y6y, T3, u7u, T24, a0f, p4p, AV.okc, AV.one, Value.oneCell', List.map_cons, List.map_nil, List.getElem?_cons_zero, List.getElem?_cons_succ, List.take_succ_cons, List.take_zero, List.drop_succ_cons, List.drop_zero, List.cons_append, List.nil_append, List.length_cons, List.length_nil, if_true, and_self, Nat.reduceAdd, Nat.reduceLeDiff]; rfl) ?_
 refine s6s (id := 8) p1p rfl w0w rfl rfl rfl rfl rfl rfl ?_
 refine r5r (zs := (n.views.take j ++ [v]).map (a4b true)) rfl rfl p1p rfl w0w rfl rfl rfl rfl (by rfl) (a0c _ _ _) (by (simp only [List.length_map, List.length_append, List.length_cons, List.length_nil, List.length_take, List.length_range, List.length_drop, T141]; omega)) ?_
 refine x0x rfl z8z rfl rfl p1p rfl rfl ?_
 refine u4u rfl rfl p1p rfl rfl rfl rfl rfl (by simp only [List.set_cons_zero, List.set_cons_succ]; rfl) ?_
 refine ⟨by kernel_rfl, ?_⟩
 refine hK8 _ _ ?_
 clear hK8 K8
 refine y3y x6x (by rfl) ?_
 refine x1x rfl ?_
 refine y1y rfl rfl rfl ?_
 refine x2x rfl ?_
 exact ⟨j + 1, ⟨by omega, by omega⟩, [0, _, 0, 0, 0, 0, _, _, _, _], (Cov.cons' (t := 5) rfl (by rw [v3v (by omega) (by omega)]; rfl) Cov.nil), (Cov.cons (t := 1) rfl (Cov.cons (t := 2) rfl (Cov.cons (t := 3) rfl Cov.nil))), (HE.row rfl (by rw [p0p hv]) (HE.box rfl rfl (HE.kill rfl (HE.kill rfl (HE.kill rfl (HE.kill rfl HE.nil)))))), (HE.same (id := 0) rfl (HE.same (id := 2) rfl (HE.same (id := 3) rfl (HE.same (id := 4) rfl (HE.same (id := 10) rfl (HE.same (id := 11) rfl (HE.same (id := 12) rfl HE.nil))))))), rfl⟩
end
section
theorem b5r (id : Int) : s8s Tryz.prog 76 [.pv (.int .i64 id)] (.row (.rd true) 65 5 ((a0s id 4).map fun p => a1q true (c8f p))) := by
 refine z1z x6x (fn := Tryz.f76) (by kernel_rfl) (by kernel_rfl) rfl (outs := [.row (.rd true) 65 5 ((a0s id 4).map fun p => a1q true (c8f p))]) (by rfl) (Nat.le_of_ble_eq_true rfl) 3 ?_
 have hpl := fun k => a4q id k
 refine x4x x6x (by rfl) ?_
 refine x2x rfl ?_
 refine x4x x6x (by rfl) ?_
 refine r9r (id := 0) w4w rfl v4v rfl ?_
 refine x2x rfl ?_
 refine x5x fun K1 hK1 => ?_
 refine x4x x6x (by rfl) ?_
 refine x2x rfl ?_
 refine y7y ?_
 refine u5u (ι := Nat) (fun i γ1 => [(3, .ref 0 (γ1 0)), (4, .pv (.int .i64 (i : Int)))]) (fun i γ1 => [(0, ((γ1 0), .row 65 5 ((a0s id i).map c8u))), (1, ((γ1 1), .dead)), (2, ((γ1 2), .dead))]) (fun i => i ≤ 4) (fun i => 4 - i) (Cov.cons (t := 0) rfl Cov.nil) HE.nil 0 (by omega) [_, _, _] (Cov.cons (t := 3) rfl (Cov.cons (t := 4) rfl Cov.nil)) (HE.row rfl rfl (HE.kill rfl (HE.kill rfl HE.nil))) rfl fun i γ1 hi => ?_
 try dsimp only [List.cons_append, List.nil_append]
 refine x5x fun K2 hK2 => ?_
 refine x4x x6x (by rfl) ?_
 refine x1x rfl ?_
 refine y1y rfl rfl rfl ?_
 refine x8x rfl (fun hc3 => ?_) (fun hc3 => ?_)
 rotate_left
 ·try simp at hc3
  refine v0v ?_
  refine hK1 _ _ ?_
  clear hK2 K2 hK1 K1
  refine x4x x6x (by rfl) ?_
  refine x1x rfl ?_
  refine x2x rfl ?_
  refine y0y ⟨.inr rfl, ?_⟩
  refine c9u rfl rfl c8v ?_
  have : i = 4 := by omega
  rw [this]
 try simp at hc3
 refine x9x ?_
 refine hK2 _ _ ?_
 clear hK2 K2
 refine x5x fun K4 hK4 => ?_
 refine y7y ?_
 refine x4x x6x (by rfl) ?_
 refine x1x rfl ?_
 refine y9y rfl rfl rfl (b9n ..) ?_
 refine x1x rfl ?_
 refine y1y rfl rfl rfl ?_
 refine x8x rfl (fun hc5 => ?_) (fun hc5 => ?_)
 rotate_left
 ·try simp at hc5
  refine x9x ?_
  refine hK4 _ _ ?_
  clear hK4 K4
  refine y3y x6x (by rfl) ?_
  refine x1x rfl ?_
  refine y1y rfl rfl rfl ?_
  refine x2x rfl ?_
  exact ⟨i + 1, ⟨by omega, by omega⟩, [_, _, _], (Cov.cons (t := 3) rfl (Cov.cons' (t := 4) rfl (by rw [v3v (by omega) (by omega)]; rfl) Cov.nil)), (Cov.cons (t := 0) rfl Cov.nil), (HE.row rfl (by simp only [a6o]; rw [if_neg (by assumption)]) (HE.kill rfl (HE.kill rfl HE.nil))), HE.nil, rfl⟩
 try simp at hc5
 refine y3y x6x (by rfl) ?_
 refine x1x rfl ?_
 refine x1x rfl ?_
 refine q8q v4v rfl a9u rfl (by simp only [pI, y6y, T3, q5q, T62, v9v, T63, a0f, p4p, AV.okc, AV.one, Value.oneCell', List.map_cons, List.map_nil, List.getElem?_cons_zero, List.getElem?_cons_succ, List.take_succ_cons, List.take_zero, List.drop_succ_cons, List.drop_zero, List.cons_append, List.nil_append, List.length_cons, List.length_nil, if_true, and_self, Nat.reduceAdd, Nat.reduceLeDiff]; rfl) ?_
 refine s6s (id := 1) w4w rfl v4v rfl rfl rfl rfl rfl rfl ?_
 have := hpl i
 refine r5r (zs := (a0s id i ++ [(i : Int)]).map c8u) rfl rfl w4w rfl v4v rfl rfl rfl rfl (by rfl) (a0c _ _ _) (by (simp only [List.length_map, List.length_append, List.length_cons, List.length_nil, List.length_take, List.length_range, T65]; omega)) ?_
 refine x2x rfl ?_
 refine hK4 _ _ ?_
 clear hK4 K4
 refine y3y x6x (by rfl) ?_
 refine x1x rfl ?_
 refine y1y rfl rfl rfl ?_
 refine x2x rfl ?_
 exact ⟨i + 1, ⟨by omega, by omega⟩, [_, _, _], (Cov.cons (t := 3) rfl (Cov.cons' (t := 4) rfl (by rw [v3v (by omega) (by omega)]; rfl) Cov.nil)), (Cov.cons (t := 0) rfl Cov.nil), (HE.row rfl (by simp only [a6o]; rw [if_pos (by assumption)]) (HE.kill rfl (HE.kill rfl HE.nil))), HE.nil, rfl⟩
end
section
theorem a9o (c c' : Bool) (l : La) (s : List Ev) : s8s Tryz.prog 161 [.agg (a1q c l), a1n c' s] (.pv (.int .i64 (same l.done s : Int))) := by
 refine z1z x6x (fn := Tryz.f161) (by kernel_rfl) (by kernel_rfl) rfl (outs := [.pv (.int .i64 (same l.done s : Int))]) (by rfl) (Nat.le_of_ble_eq_true rfl) 1 ?_
 refine w7w 1 rfl fun hlen => ?_
 refine x4x x6x (by rfl) ?_
 refine v1v (id := 0) rfl rfl rfl ?_
 refine x2x rfl ?_
 refine x4x x6x (by rfl) ?_
 refine x2x rfl ?_
 refine x5x fun K1 hK1 => ?_
 refine y7y ?_
 refine u5u (ι := Nat) (fun i γ1 => [(5, .pv (.int .i64 (i : Int)))]) (fun i γ1 => []) (fun i => i ≤ l.done.length ∧ i ≤ s.length ∧ same l.done s = i + same (l.done.drop i) (s.drop i)) (fun i => l.done.length - i) (Cov.cons (t := 1) rfl (Cov.cons (t := 2) rfl Cov.nil)) (HE.same (id := 0) rfl HE.nil) 0 ⟨by omega, by omega, by rw [List.drop_zero, List.drop_zero, Nat.zero_add]⟩ [] (Cov.cons (t := 5) rfl Cov.nil) HE.nil rfl fun i γ1 hi => ?_
 try dsimp only [List.cons_append, List.nil_append]
 obtain ⟨h1, h2, h3⟩ := hi
 refine x5x fun K2 hK2 => ?_
 refine q7q x6x r4r (by rfl) ?_
 refine x1x rfl ?_
 refine x0x rfl v4v rfl rfl v9v rfl rfl ?_
 refine x3x rfl v9v rfl rfl ?_
 refine u0u rfl v9v rfl ?_
 refine y1y rfl rfl rfl ?_
 refine x1x rfl ?_
 refine s1s rfl rfl (fun hg3 => ?_) (fun hg3 => ?_)
 rotate_left
 ·try simp at hg3
  have g1 : l.done.length ≤ i := by omega
  refine x7x rfl rfl ?_
  refine x7x rfl rfl ?_
  refine x7x rfl rfl ?_
  refine y2y rfl rfl ?_
  refine x1x rfl ?_
  refine x7x rfl rfl ?_
  refine x7x rfl rfl ?_
  refine x7x rfl rfl ?_
  refine x7x rfl rfl ?_
  refine x7x rfl rfl ?_
  refine x7x rfl rfl ?_
  refine x7x rfl rfl ?_
  refine x7x rfl rfl ?_
  refine x7x rfl rfl ?_
  refine x7x rfl rfl ?_
  refine x7x rfl rfl ?_
  refine y2y rfl rfl ?_
  refine ⟨by kernel_rfl, ?_⟩
  refine x8x rfl (fun hc7 => ?_) (fun hc7 => ?_)
  ·simp at hc7
  try simp at hc7
  try have heq : ¬ p.ev = e := by simpa [a2q] using hc7
  refine v0v ?_
  refine hK1 _ _ ?_
  clear hK2 K2 hK1 K1
  refine x4x x6x (by rfl) ?_
  refine x1x rfl ?_
  refine x2x rfl ?_
  refine y0y ⟨.inr rfl, ?_⟩
  refine y8y rfl ?_ rfl
  exact congrArg (fun v : Nat => [AV.pv (.int .i64 (v : Int))]) (h3.trans (by rw [c1h g1]; rfl)).symm
 try simp at hg3
 have g1 : i < l.done.length := by omega
 obtain ⟨p, hp⟩ : ∃ p, l.done[i]? = some p := ⟨_, List.getElem?_eq_getElem (by omega)⟩
 refine x1x rfl ?_
 refine y5y rfl rfl ?_
 refine x1x rfl ?_
 refine y5y rfl rfl ?_
 refine u0u rfl u7u rfl ?_
 refine y5y rfl rfl ?_
 refine y1y rfl rfl rfl ?_
 refine z0z rfl rfl ?_
 refine x1x rfl ?_
 refine s1s rfl rfl (fun hg4 => ?_) (fun hg4 => ?_)
 rotate_left
 ·try simp at hg4
  have g2 : s.length ≤ i := by omega
  refine x7x rfl rfl ?_
  refine x7x rfl rfl ?_
  refine x7x rfl rfl ?_
  refine x7x rfl rfl ?_
  refine x7x rfl rfl ?_
  refine x7x rfl rfl ?_
  refine x7x rfl rfl ?_
  refine x7x rfl rfl ?_
  refine x7x rfl rfl ?_
  refine x7x rfl rfl ?_
  refine y2y rfl rfl ?_
  refine ⟨by kernel_rfl, ?_⟩
  refine x8x rfl (fun hc6 => ?_) (fun hc6 => ?_)
  ·simp at hc6
  try simp at hc6
  try have heq : ¬ p.ev = e := by simpa [a2q] using hc6
  refine v0v ?_
  refine hK1 _ _ ?_
  clear hK2 K2 hK1 K1
  refine x4x x6x (by rfl) ?_
  refine x1x rfl ?_
  refine x2x rfl ?_
  refine y0y ⟨.inr rfl, ?_⟩
  refine y8y rfl ?_ rfl
  exact congrArg (fun v : Nat => [AV.pv (.int .i64 (v : Int))]) (h3.trans (by rw [c1i g2]; rfl)).symm
 try simp at hg4
 have g2 : i < s.length := by omega
 obtain ⟨e, he⟩ : ∃ e, s[i]? = some e := ⟨_, List.getElem?_eq_getElem (by omega)⟩
 refine x0x rfl v4v rfl rfl v9v rfl rfl ?_
 refine y5y rfl rfl ?_
 refine x3x rfl v9v rfl rfl ?_
 refine y5y rfl rfl ?_
 refine x1x rfl ?_
 refine y5y rfl rfl ?_
 refine z7z rfl rfl v9v rfl v8v rfl hp ?_
 refine y5y rfl rfl ?_
 refine x0x rfl v8v rfl rfl z3z rfl rfl ?_
 refine y5y rfl rfl ?_
 refine z4z (out := .agg (v6v p.ev)) rfl z3z rfl ?_
 refine y5y rfl rfl ?_
 refine x1x rfl ?_
 refine y5y rfl rfl ?_
 refine x1x rfl ?_
 refine y5y rfl rfl ?_
 refine z7z rfl rfl u7u rfl z3z rfl he ?_
 refine y5y rfl rfl ?_
 refine z4z (out := .agg (v6v e)) rfl z3z rfl ?_
 refine y5y rfl rfl ?_
 refine a9v rfl rfl (by intro a c h; cases h) (.inl rfl) (d6j _ _ _ _) ?_
 refine z0z rfl rfl ?_
 refine ⟨by kernel_rfl, ?_⟩
 refine x8x rfl (fun hc5 => ?_) (fun hc5 => ?_)
 ·try simp at hc5
  try have heq : p.ev = e := by simpa [a2q] using hc5
  refine x9x ?_
  refine hK2 _ _ ?_
  clear hK2 K2
  refine y7y ?_
  refine y3y x6x (by rfl) ?_
  refine x1x rfl ?_
  refine z9z (b := 1) rfl rfl (by omega) ?_
  refine x2x rfl ?_
  exact ⟨i + 1, ⟨⟨by omega, by omega, by rw [h3, c1f hp he heq]; omega⟩, by omega⟩, [], (Cov.cons (t := 5) rfl Cov.nil), (Cov.cons (t := 1) rfl (Cov.cons (t := 2) rfl Cov.nil)), HE.nil, (HE.same (id := 0) rfl HE.nil), rfl⟩
 try simp at hc5
 try have heq : ¬ p.ev = e := by simpa [a2q] using hc5
 refine v0v ?_
 refine hK1 _ _ ?_
 clear hK2 K2 hK1 K1
 refine x4x x6x (by rfl) ?_
 refine x1x rfl ?_
 refine x2x rfl ?_
 refine y0y ⟨.inr rfl, ?_⟩
 refine y8y rfl ?_ rfl
 exact congrArg (fun v : Nat => [AV.pv (.int .i64 (v : Int))]) (h3.trans (by rw [c1g hp he heq]; rfl)).symm
theorem b6v (c : Bool) (n : Nd) (hs : (a2b n).length ≤ 5000000) (hlen : n.lanes.length ≤ 1048576) : Meth Tryz.prog 183 1 [] [.agg (a0t c n)] [(0, (0, .dead))] (.ref 0 0) [(0, (0, .row 76 7 ((a2b n).map v6v)))] := by
 refine u9u x6x (fn := Tryz.f183) (by kernel_rfl) (by kernel_rfl) rfl (O0 := [.ref 0 0]) 1 3 (Nat.le_of_ble_eq_true rfl) (by rfl) (by repeat (first | exact BndH.nil | refine BndH.dead ?_)) (by repeat (first | exact BndH.nil | refine BndH.row (u3u fun _ => rfl) ?_)) (by rfl) fun γ => ?_
 show Ex Tryz.prog _ _ [(0, .agg (a0t c n))] [(0, ((γ 0), .dead)), (3, (0, .dead)), (2, (0, .dead)), (1, (0, .dead))] _
 have hkl : n.kept.length ≤ 5000000 := by simp only [a2b, List.length_append] at hs; omega
 refine x4x x6x (by rfl) ?_
 refine v1v (id := 1) rfl rfl rfl ?_
 refine x2x rfl ?_
 refine x4x x6x (by rfl) ?_
 refine r9r (id := 0) u7u rfl z3z rfl ?_
 refine x0x rfl z8z rfl rfl u7u rfl rfl ?_
 refine x3x rfl u7u rfl rfl ?_
 refine a0q (zs := n.kept.map v6v) rfl rfl u7u rfl z3z rfl rfl rfl (by exact a1c (fun _ => rfl) _) rfl (by have hb56 : T76.bytes = 56 := rfl; rw [List.length_map, hb56]; omega) ?_
 refine x2x rfl ?_
 refine x5x fun K1 hK1 => ?_
 refine x4x x6x (by rfl) ?_
 refine x2x rfl ?_
 refine y7y ?_
 refine u5u (ι := Nat) (fun i γ1 => [(3, .ref 0 (γ1 0)), (4, .pv (.int .i64 (i : Int)))]) (fun i γ1 => [(0, ((γ1 0), .row 76 7 ((n.kept ++ (n.lanes.take i).flatMap b0d).map v6v))), (3, ((γ1 3), .dead))]) (fun i => i ≤ n.lanes.length) (fun i => n.lanes.length - i) (Cov.cons (t := 1) rfl Cov.nil) (HE.same (id := 1) rfl (HE.same (id := 2) rfl HE.nil)) 0 (by omega) [_, 0, 0, _] (Cov.cons (t := 3) rfl (Cov.cons (t := 4) rfl Cov.nil)) (HE.row rfl (by simp) (HE.kill rfl HE.nil)) rfl fun i γ1 hi => ?_
 try dsimp only [List.cons_append, List.nil_append]
 refine x5x fun K2 hK2 => ?_
 refine x4x x6x (by rfl) ?_
 refine x1x rfl ?_
 refine x0x rfl z8z rfl rfl w4w rfl rfl ?_
 refine x3x rfl w4w rfl rfl ?_
 refine u0u rfl w4w rfl ?_
 refine y1y rfl rfl rfl ?_
 refine x8x rfl (fun hc3 => ?_) (fun hc3 => ?_)
 rotate_left
 ·try simp at hc3
  obtain rfl : i = n.lanes.length := by omega
  refine v0v ?_
  refine hK1 _ _ ?_
  clear hK2 K2 hK1 K1
  refine x4x x6x (by rfl) ?_
  refine x1x rfl ?_
  refine x2x rfl ?_
  refine y0y ?_
  exact ⟨.inr rfl, [_], rfl, rfl, HE.row rfl (by rw [List.take_length]; rfl) HE.nil⟩
 try simp at hc3
 obtain ⟨p, hp⟩ : ∃ p, n.lanes[i]? = some p := ⟨_, List.getElem?_eq_getElem (by omega)⟩
 refine x9x ?_
 refine hK2 _ _ ?_
 clear hK2 K2
 refine x5x fun K4 hK4 => ?_
 refine y7y ?_
 refine x4x x6x (by rfl) ?_
 refine x2x rfl ?_
 refine y7y ?_
 refine u5u (ι := Nat) (fun j γ2 => [(3, .ref 0 (γ2 0)), (5, .pv (.int .i64 (j : Int)))]) (fun j γ2 => [(0, ((γ2 0), .row 76 7 ((n.kept ++ (n.lanes.take i).flatMap b0d ++ (p.done.take j).flatMap Pa.sends).map v6v))), (3, ((γ2 3), .dead))]) (fun j => j ≤ p.done.length) (fun j => p.done.length - j) (Cov.cons (t := 1) rfl (Cov.cons (t := 4) rfl Cov.nil)) (HE.same (id := 1) rfl (HE.same (id := 2) rfl HE.nil)) 0 (by omega) [_, 0, 0, _] (Cov.cons (t := 3) rfl (Cov.cons (t := 5) rfl Cov.nil)) (HE.row rfl (by simp) (HE.kill rfl HE.nil)) rfl fun j γ2 hi => ?_
 try dsimp only [List.cons_append, List.nil_append]
 refine x5x fun K5 hK5 => ?_
 refine x4x x6x (by rfl) ?_
 refine x1x rfl ?_
 refine x0x rfl z8z rfl rfl w4w rfl rfl ?_
 refine x3x rfl w4w rfl rfl ?_
 refine x1x rfl ?_
 refine z7z rfl rfl w4w rfl v4v rfl hp ?_
 refine x0x rfl v4v rfl rfl v9v rfl rfl ?_
 refine z4z rfl v9v rfl ?_
 refine u0u rfl v9v rfl ?_
 refine y1y rfl rfl rfl ?_
 refine x8x rfl (fun hc6 => ?_) (fun hc6 => ?_)
 rotate_left
 ·try simp at hc6
  obtain rfl : j = p.done.length := by omega
  refine v0v ?_
  refine hK4 _ _ ?_
  clear hK5 K5 hK4 K4
  refine y3y x6x (by rfl) ?_
  refine x1x rfl ?_
  refine y1y rfl rfl rfl ?_
  refine x2x rfl ?_
  exact ⟨i + 1, ⟨by omega, by omega⟩, [_, 0, 0, _], (Cov.cons (t := 3) rfl (Cov.cons' (t := 4) rfl (by rw [v3v (by omega) (by omega)]; rfl) Cov.nil)), (Cov.cons (t := 1) rfl Cov.nil), (HE.row rfl (by simp only [b1j hp, List.append_assoc, b0d, List.take_length]) (HE.kill rfl HE.nil)), (HE.same (id := 1) rfl (HE.same (id := 2) rfl HE.nil)), rfl⟩
 try simp at hc6
 obtain ⟨q, hq⟩ : ∃ q, p.done[j]? = some q := ⟨_, List.getElem?_eq_getElem (by omega)⟩
 have hsp := c1d hp hq
 refine x9x ?_
 refine hK5 _ _ ?_
 clear hK5 K5
 refine x5x fun K7 hK7 => ?_
 refine y7y ?_
 refine y3y x6x (by rfl) ?_
 refine x1x rfl ?_
 refine x0x rfl z8z rfl rfl w4w rfl rfl ?_
 refine x3x rfl w4w rfl rfl ?_
 refine x1x rfl ?_
 refine z7z rfl rfl w4w rfl v4v rfl hp ?_
 refine x0x rfl v4v rfl rfl v9v rfl rfl ?_
 refine z4z rfl v9v rfl ?_
 refine x1x rfl ?_
 refine z7z rfl rfl v9v rfl v8v rfl hq ?_
 refine x0x rfl v8v rfl rfl u7u rfl rfl ?_
 refine z4z rfl u7u rfl ?_
 refine a0q (zs := (n.kept ++ (n.lanes.take i).flatMap b0d ++ (p.done.take j).flatMap Pa.sends ++ q.sends).map v6v) rfl rfl u7u rfl z3z rfl rfl rfl (by exact a1c (fun _ => rfl) _) (b8g _ _ _) (by have hb56 : T76.bytes = 56 := rfl; rw [List.length_map, hb56]; omega) ?_
 refine x2x rfl ?_
 refine hK7 _ _ ?_
 clear hK7 K7
 refine w7w 23 rfl fun hlen2 => ?_
 refine y3y x6x (by rfl) ?_
 refine x1x rfl ?_
 refine y1y rfl rfl rfl ?_
 refine x2x rfl ?_
 exact ⟨j + 1, ⟨by omega, by omega⟩, [_, 0, 0, _], (Cov.cons (t := 3) rfl (Cov.cons' (t := 5) rfl (by rw [v3v (by omega) (by omega)]; rfl) Cov.nil)), (Cov.cons (t := 1) rfl (Cov.cons (t := 4) rfl Cov.nil)), (HE.row rfl (by simp only [b1j hq, List.append_assoc]) (HE.kill rfl HE.nil)), (HE.same (id := 1) rfl (HE.same (id := 2) rfl HE.nil)), rfl⟩
end
section
theorem b3o (c : Bool) (l : List Ev) (hl : l.length ≤ 10000000) : s8s Tryz.prog 114 [a1n c l] (a1n true (r1r l)) := by
 refine z1z x6x (fn := Tryz.f114) (by kernel_rfl) (by kernel_rfl) rfl (outs := [a1n true (r1r l)]) (by rfl) (Nat.le_of_ble_eq_true rfl) 3 ?_
 refine x4x x6x (by rfl) ?_
 refine x2x rfl ?_
 refine x4x x6x (by rfl) ?_
 refine r9r (id := 0) u7u rfl z3z rfl ?_
 refine x2x rfl ?_
 refine x5x fun K1 hK1 => ?_
 refine x4x x6x (by rfl) ?_
 refine x2x rfl ?_
 refine y7y ?_
 refine u5u (ι := Nat) (fun i γ1 => [(3, .ref 0 (γ1 0)), (4, .pv (.int .i64 (i : Int)))]) (fun i γ1 => [(0, ((γ1 0), .row 76 7 ((r1r (l.take i)).map v6v))), (1, ((γ1 1), .dead)), (2, ((γ1 2), .dead))]) (fun i => i ≤ l.length) (fun i => l.length - i) (Cov.cons (t := 0) rfl Cov.nil) HE.nil 0 (by omega) [_, _, _] (Cov.cons (t := 3) rfl (Cov.cons (t := 4) rfl Cov.nil)) (HE.row rfl (by rw [List.take_zero]; rfl) (HE.kill rfl (HE.kill rfl HE.nil))) rfl fun i γ1 hi => ?_
 try dsimp only [List.cons_append, List.nil_append]
 refine x5x fun K2 hK2 => ?_
 refine x4x x6x (by rfl) ?_
 refine x1x rfl ?_
 refine x1x rfl ?_
 refine u0u rfl u7u rfl ?_
 refine y1y rfl rfl rfl ?_
 refine x8x rfl (fun hc3 => ?_) (fun hc3 => ?_)
 rotate_left
 ·try simp at hc3
  obtain rfl : i = l.length := by omega
  refine v0v ?_
  refine hK1 _ _ ?_
  clear hK2 K2 hK1 K1
  refine x4x x6x (by rfl) ?_
  refine x1x rfl ?_
  refine x2x rfl ?_
  refine y0y ⟨.inr rfl, ?_⟩
  refine c6v rfl rfl (fun _ => rfl) ?_
  rw [List.take_length]
 try simp at hc3
 obtain ⟨x, hx⟩ : ∃ x, l[i]? = some x := ⟨_, List.getElem?_eq_getElem (by omega)⟩
 have hol : (r1r (l.take i)).length ≤ 10000000 := Nat.le_trans (c8j _) (by rw [List.length_take]; omega)
 have hss := c1j (l.take i)
 refine x9x ?_
 refine hK2 _ _ ?_
 clear hK2 K2
 refine x5x fun K4 hK4 => ?_
 refine y7y ?_
 refine x4x x6x (by rfl) ?_
 refine x1x rfl ?_
 refine a1v rfl u7u rfl rfl (by exact List.length_map _) ?_
 refine x2x rfl ?_
 refine b2a (ι := Nat) (fun k γ2 => [(5, .pv (.int .i64 (k : Int)))]) (fun k γ2 => []) (fun k => k ≤ (r1r (l.take i)).length ∧ (∀ (j : Nat) y, k ≤ j → (r1r (l.take i))[j]? = some y → a1g x y = true) ∧ (∀ y, 0 < k → (r1r (l.take i))[k - 1]? = some y → a1g x y = false)) (Cov.cons (t := 0) rfl (Cov.cons (t := 3) rfl (Cov.cons (t := 4) rfl Cov.nil))) (HE.same (id := 0) rfl (HE.same (id := 1) rfl (HE.same (id := 2) rfl HE.nil))) ?_ fun k γ2 hi => ?_
 ·refine y7y ?_
  refine u5u (ι := Nat) (fun k γ3 => [(5, .pv (.int .i64 (k : Int)))]) (fun k γ3 => []) (fun k => k ≤ (r1r (l.take i)).length ∧ (∀ (j : Nat) y, k ≤ j → (r1r (l.take i))[j]? = some y → a1g x y = true)) (fun k => k) (Cov.cons (t := 0) rfl (Cov.cons (t := 3) rfl (Cov.cons (t := 4) rfl Cov.nil))) (HE.same (id := 0) rfl (HE.same (id := 1) rfl (HE.same (id := 2) rfl HE.nil))) (r1r (l.take i)).length ⟨Nat.le_refl _, fun j y hj hy => by have := (List.getElem?_eq_some_iff.1 hy).1; omega⟩ [] (Cov.cons (t := 5) rfl Cov.nil) HE.nil rfl fun k γ3 hi => ?_
  try dsimp only [List.cons_append, List.nil_append]
  obtain ⟨k1, k2⟩ := hi
  refine x5x fun K5 hK5 => ?_
  refine q7q x6x r4r (by rfl) ?_
  refine x1x rfl ?_
  refine y1y rfl rfl rfl ?_
  refine x1x rfl ?_
  refine s1s rfl rfl (fun hg6 => ?_) (fun hg6 => ?_)
  rotate_left
  ·try simp at hg6
   have k0 : k = 0 := by omega
   refine x7x rfl rfl ?_
   refine x7x rfl rfl ?_
   refine x7x rfl rfl ?_
   refine x7x rfl rfl ?_
   refine x7x rfl rfl ?_
   refine x7x rfl rfl ?_
   refine x7x rfl rfl ?_
   refine x7x rfl rfl ?_
   refine x7x rfl rfl ?_
   refine y2y rfl rfl ?_
   refine ⟨by kernel_rfl, ?_⟩
   refine x8x rfl (fun hc8 => ?_) (fun hc8 => ?_)
   ·simp at hc8
   try simp at hc8
   try have hlt := hc8
   refine v0v ?_
   exact ⟨k, ⟨k1, k2, fun y2 h0 h2 => by omega⟩, [], (Cov.cons (t := 5) rfl Cov.nil), (Cov.cons (t := 0) rfl (Cov.cons (t := 3) rfl (Cov.cons (t := 4) rfl Cov.nil))), HE.nil, (HE.same (id := 0) rfl (HE.same (id := 1) rfl (HE.same (id := 2) rfl HE.nil))), rfl⟩
  try simp at hg6
  have k0 : 0 < k := by omega
  obtain ⟨y, hy⟩ : ∃ y, (r1r (l.take i))[k - 1]? = some y := ⟨_, List.getElem?_eq_getElem (by omega)⟩
  refine x1x rfl ?_
  refine y5y rfl rfl ?_
  refine x1x rfl ?_
  refine y5y rfl rfl ?_
  refine z7z rfl rfl u7u rfl z3z rfl hx ?_
  refine y5y rfl rfl ?_
  refine z6z rfl z3z rfl rfl ?_
  refine y5y rfl rfl ?_
  refine x1x rfl ?_
  refine y5y rfl rfl ?_
  refine x1x rfl ?_
  refine y5y rfl rfl ?_
  refine a0l (b := 1) rfl rfl (by omega) (by omega) ?_
  refine y5y rfl rfl ?_
  refine r3r (j := k - 1) rfl rfl u7u rfl z3z rfl rfl (by omega) ?_
  refine y5y rfl rfl ?_
  refine s0s rfl z3z rfl hy rfl rfl ?_
  refine y5y rfl rfl ?_
  refine y9y rfl rfl rfl (a3u ..) ?_
  refine z0z rfl rfl ?_
  refine ⟨by kernel_rfl, ?_⟩
  refine x8x rfl (fun hc7 => ?_) (fun hc7 => ?_)
  rotate_left
  ·try simp at hc7
   try have hlt := hc7
   refine v0v ?_
   exact ⟨k, ⟨k1, k2, fun y2 h0 h2 => by (rw [hy] at h2; cases h2; exact hlt)⟩, [], (Cov.cons (t := 5) rfl Cov.nil), (Cov.cons (t := 0) rfl (Cov.cons (t := 3) rfl (Cov.cons (t := 4) rfl Cov.nil))), HE.nil, (HE.same (id := 0) rfl (HE.same (id := 1) rfl (HE.same (id := 2) rfl HE.nil))), rfl⟩
  try simp at hc7
  try have hlt := hc7
  refine x9x ?_
  refine hK5 _ _ ?_
  clear hK5 K5
  refine y7y ?_
  refine y3y x6x (by rfl) ?_
  refine x1x rfl ?_
  refine a0l (b := 1) rfl rfl (by omega) (by omega) ?_
  refine x2x rfl ?_
  exact ⟨k - 1, ⟨⟨by omega, fun j y2 hj hy2 => by by_cases hjk : j = k - 1; (subst hjk; rw [hy] at hy2; cases hy2; exact hlt); exact k2 j y2 (by omega) hy2⟩, by omega⟩, [], (Cov.cons (t := 5) rfl Cov.nil), (Cov.cons (t := 0) rfl (Cov.cons (t := 3) rfl (Cov.cons (t := 4) rfl Cov.nil))), HE.nil, (HE.same (id := 0) rfl (HE.same (id := 1) rfl (HE.same (id := 2) rfl HE.nil))), rfl⟩
 ·try dsimp only [List.cons_append, List.nil_append]
  obtain ⟨c1, c2, c3⟩ := hi
  refine x5x fun K9 hK9 => ?_
  refine q7q x6x r4r (by rfl) ?_
  refine x1x rfl ?_
  refine y1y rfl rfl rfl ?_
  refine x1x rfl ?_
  refine s1s rfl rfl (fun hg10 => ?_) (fun hg10 => ?_)
  rotate_left
  ·try simp at hg10
   have k0 : k = 0 := by omega
   refine x7x rfl rfl ?_
   refine x7x rfl rfl ?_
   refine x7x rfl rfl ?_
   refine x7x rfl rfl ?_
   refine x7x rfl rfl ?_
   refine x7x rfl rfl ?_
   refine x7x rfl rfl ?_
   refine x7x rfl rfl ?_
   refine x7x rfl rfl ?_
   refine y2y rfl rfl ?_
   refine ⟨by kernel_rfl, ?_⟩
   refine x8x rfl (fun hc16 => ?_) (fun hc16 => ?_)
   ·simp at hc16
   try simp at hc16
   try have hyx : ¬ y = x := by simpa [a2q] using hc16
   have hin : r1r (l.take (i + 1)) = (r1r (l.take i)).take k ++ x :: (r1r (l.take i)).drop k := by rw [b0e hx]; exact c8i c2u hss c2 (fun y2 h0 h2 => ⟨c3 y2 h0 h2, by omega⟩) c1
   refine x9x ?_
   refine hK9 _ _ ?_
   clear hK9 K9
   refine x4x x6x (by rfl) ?_
   refine x1x rfl ?_
   refine x1x rfl ?_
   refine x1x rfl ?_
   refine z7z rfl rfl u7u rfl z3z rfl hx ?_
   refine z6z rfl z3z rfl rfl ?_
   refine s6s (id := 1) u7u rfl z3z rfl rfl rfl rfl rfl rfl ?_
   refine r5r (zs := (r1r (l.take i) ++ [x]).map v6v) rfl rfl u7u rfl z3z rfl rfl rfl rfl (by rfl) (a0c _ _ _) (by have hb56 : T76.bytes = 56 := rfl; rw [List.length_map, hb56]; simp only [List.length_append, List.length_cons, List.length_nil]; omega) ?_
   refine x2x rfl ?_
   refine x5x fun K17 hK17 => ?_
   refine x4x x6x (by rfl) ?_
   refine x1x rfl ?_
   refine a1v rfl u7u rfl rfl (by exact List.length_map _) ?_
   refine a0l (b := 1) rfl rfl (by (simp; done)) (by (simp; omega)) ?_
   refine x2x rfl ?_
   refine y7y ?_
   refine u5u (ι := Nat × Ev) (fun q γ5 => [(6, .pv (.int .i64 (q.1 : Int)))]) (fun q γ5 => [(0, ((γ1 0 + 1), .row 76 7 (((r1r (l.take i)).take q.1 ++ q.2 :: (r1r (l.take i)).drop q.1).map v6v)))]) (fun q => k ≤ q.1 ∧ q.1 ≤ (r1r (l.take i)).length) (fun q => q.1) (Cov.cons (t := 0) rfl (Cov.cons (t := 3) rfl (Cov.cons (t := 4) rfl (Cov.cons (t := 5) rfl Cov.nil)))) (HE.same (id := 1) rfl (HE.same (id := 2) rfl HE.nil)) ((r1r (l.take i)).length, x) ⟨c1, Nat.le_refl _⟩ [] (Cov.cons' (t := 6) rfl (by simp) Cov.nil) (HE.row rfl (by rw [List.take_length, List.drop_length]) HE.nil) rfl fun q γ5 hi => ?_
   try dsimp only [List.cons_append, List.nil_append]
   obtain ⟨m, u⟩ := q
   obtain ⟨m1, m2⟩ := hi
   dsimp only at m1 m2 ⊢
   refine x5x fun K18 hK18 => ?_
   refine x4x x6x (by rfl) ?_
   refine x1x rfl ?_
   refine x1x rfl ?_
   refine y1y rfl rfl rfl ?_
   refine x8x rfl (fun hc19 => ?_) (fun hc19 => ?_)
   rotate_left
   ·try simp at hc19
    obtain rfl : k = m := by omega
    refine v0v ?_
    refine hK17 _ _ ?_
    clear hK18 K18 hK17 K17
    refine y3y x6x (by rfl) ?_
    refine x1x rfl ?_
    refine x1x rfl ?_
    refine x1x rfl ?_
    refine x1x rfl ?_
    refine z7z rfl rfl u7u rfl z3z rfl hx ?_
    refine z6z rfl z3z rfl rfl ?_
    refine r3r (j := k) rfl rfl u7u rfl z3z rfl rfl (a0g (c1l c1)) ?_
    refine a1o (el' := x) rfl rfl z3z rfl rfl rfl (c1l c1) rfl (a2f _) rfl rfl ?_
    refine hK4 _ _ ?_
    clear hK4 K4
    refine y3y x6x (by rfl) ?_
    refine x1x rfl ?_
    refine z9z (b := 1) rfl rfl (by omega) ?_
    refine x2x rfl ?_
    exact ⟨i + 1, ⟨by omega, by omega⟩, [_, _, _], (Cov.cons (t := 3) rfl (Cov.cons (t := 4) rfl Cov.nil)), (Cov.cons (t := 0) rfl Cov.nil), (HE.row rfl (by rw [hin, c8k c1]) (HE.kill rfl (HE.kill rfl HE.nil))), HE.nil, rfl⟩
   try simp at hc19
   obtain ⟨z, hz⟩ : ∃ z, (r1r (l.take i))[m - 1]? = some z := ⟨_, List.getElem?_eq_getElem (by omega)⟩
   refine x9x ?_
   refine hK18 _ _ ?_
   clear hK18 K18
   refine x5x fun K20 hK20 => ?_
   refine y7y ?_
   refine y3y x6x (by rfl) ?_
   refine x1x rfl ?_
   refine x1x rfl ?_
   refine x1x rfl ?_
   refine x1x rfl ?_
   refine a0l (b := 1) rfl rfl (by omega) (by omega) ?_
   refine r3r (j := m - 1) rfl rfl u7u rfl z3z rfl rfl (a0g (c4i m2 (by omega) hz)) ?_
   refine s0s rfl z3z rfl (c4i m2 (by omega) hz) rfl rfl ?_
   refine r3r (j := m) rfl rfl u7u rfl z3z rfl rfl (a0g (c1l m2)) ?_
   refine a1o (el' := z) rfl rfl z3z rfl rfl rfl (c1l m2) rfl (a2f _) rfl rfl ?_
   refine hK20 _ _ ?_
   clear hK20 K20
   refine y3y x6x (by rfl) ?_
   refine x1x rfl ?_
   refine a0l (b := 1) rfl rfl (by omega) (by omega) ?_
   refine x2x rfl ?_
   exact ⟨(m - 1, z), ⟨⟨by dsimp only; omega, by dsimp only; omega⟩, (by dsimp only; omega)⟩, [], (Cov.cons (t := 6) rfl Cov.nil), (Cov.cons (t := 0) rfl (Cov.cons (t := 3) rfl (Cov.cons (t := 4) rfl (Cov.cons (t := 5) rfl Cov.nil)))), (HE.row rfl (by rw [d1t m2 (by omega) hz]) HE.nil), (HE.same (id := 1) rfl (HE.same (id := 2) rfl HE.nil)), rfl⟩
  try simp at hg10
  have k0 : 0 < k := by omega
  obtain ⟨y, hy⟩ : ∃ y, (r1r (l.take i))[k - 1]? = some y := ⟨_, List.getElem?_eq_getElem (by omega)⟩
  refine x1x rfl ?_
  refine y5y rfl rfl ?_
  refine x1x rfl ?_
  refine y5y rfl rfl ?_
  refine a0l (b := 1) rfl rfl (by omega) (by omega) ?_
  refine y5y rfl rfl ?_
  refine r3r (j := k - 1) rfl rfl u7u rfl z3z rfl rfl (by omega) ?_
  refine y5y rfl rfl ?_
  refine s0s rfl z3z rfl hy rfl rfl ?_
  refine y5y rfl rfl ?_
  refine x1x rfl ?_
  refine y5y rfl rfl ?_
  refine x1x rfl ?_
  refine y5y rfl rfl ?_
  refine z7z rfl rfl u7u rfl z3z rfl hx ?_
  refine y5y rfl rfl ?_
  refine z6z rfl z3z rfl rfl ?_
  refine y5y rfl rfl ?_
  refine a9v rfl rfl (by intro a c h; cases h) (.inl rfl) (d6j _ _ _ _) ?_
  refine z0z rfl rfl ?_
  refine ⟨by kernel_rfl, ?_⟩
  refine x8x rfl (fun hc11 => ?_) (fun hc11 => ?_)
  ·try simp at hc11
   have hyx : y = x := by simpa [a2q] using hc11
   have hsk : r1r (l.take (i + 1)) = r1r (l.take i) := by rw [b0e hx]; exact d3h c2u hss (List.mem_of_getElem? (hyx ▸ hy))
   refine v0v ?_
   refine hK4 _ _ ?_
   clear hK9 K9 hK4 K4
   refine y3y x6x (by rfl) ?_
   refine x1x rfl ?_
   refine z9z (b := 1) rfl rfl (by omega) ?_
   refine x2x rfl ?_
   exact ⟨i + 1, ⟨by omega, by omega⟩, [_, _, _], (Cov.cons (t := 3) rfl (Cov.cons (t := 4) rfl Cov.nil)), (Cov.cons (t := 0) rfl Cov.nil), (HE.row rfl (by rw [hsk]) (HE.kill rfl (HE.kill rfl HE.nil))), HE.nil, rfl⟩
  try simp at hc11
  try have hyx : ¬ y = x := by simpa [a2q] using hc11
  have hin : r1r (l.take (i + 1)) = (r1r (l.take i)).take k ++ x :: (r1r (l.take i)).drop k := by rw [b0e hx]; exact c8i c2u hss c2 (fun y2 h0 h2 => ⟨c3 y2 h0 h2, by (rw [hy] at h2; cases h2; exact hyx)⟩) c1
  refine x9x ?_
  refine hK9 _ _ ?_
  clear hK9 K9
  refine x4x x6x (by rfl) ?_
  refine x1x rfl ?_
  refine x1x rfl ?_
  refine x1x rfl ?_
  refine z7z rfl rfl u7u rfl z3z rfl hx ?_
  refine z6z rfl z3z rfl rfl ?_
  refine s6s (id := 1) u7u rfl z3z rfl rfl rfl rfl rfl rfl ?_
  refine r5r (zs := (r1r (l.take i) ++ [x]).map v6v) rfl rfl u7u rfl z3z rfl rfl rfl rfl (by rfl) (a0c _ _ _) (by have hb56 : T76.bytes = 56 := rfl; rw [List.length_map, hb56]; simp only [List.length_append, List.length_cons, List.length_nil]; omega) ?_
  refine x2x rfl ?_
  refine x5x fun K12 hK12 => ?_
  refine x4x x6x (by rfl) ?_
  refine x1x rfl ?_
  refine a1v rfl u7u rfl rfl (by exact List.length_map _) ?_
  refine a0l (b := 1) rfl rfl (by (simp; done)) (by (simp; omega)) ?_
  refine x2x rfl ?_
  refine y7y ?_
  refine u5u (ι := Nat × Ev) (fun q γ4 => [(6, .pv (.int .i64 (q.1 : Int)))]) (fun q γ4 => [(0, ((γ1 0 + 1), .row 76 7 (((r1r (l.take i)).take q.1 ++ q.2 :: (r1r (l.take i)).drop q.1).map v6v)))]) (fun q => k ≤ q.1 ∧ q.1 ≤ (r1r (l.take i)).length) (fun q => q.1) (Cov.cons (t := 0) rfl (Cov.cons (t := 3) rfl (Cov.cons (t := 4) rfl (Cov.cons (t := 5) rfl Cov.nil)))) (HE.same (id := 1) rfl (HE.same (id := 2) rfl HE.nil)) ((r1r (l.take i)).length, x) ⟨c1, Nat.le_refl _⟩ [] (Cov.cons' (t := 6) rfl (by simp) Cov.nil) (HE.row rfl (by rw [List.take_length, List.drop_length]) HE.nil) rfl fun q γ4 hi => ?_
  try dsimp only [List.cons_append, List.nil_append]
  obtain ⟨m, u⟩ := q
  obtain ⟨m1, m2⟩ := hi
  dsimp only at m1 m2 ⊢
  refine x5x fun K13 hK13 => ?_
  refine x4x x6x (by rfl) ?_
  refine x1x rfl ?_
  refine x1x rfl ?_
  refine y1y rfl rfl rfl ?_
  refine x8x rfl (fun hc14 => ?_) (fun hc14 => ?_)
  rotate_left
  ·try simp at hc14
   obtain rfl : k = m := by omega
   refine v0v ?_
   refine hK12 _ _ ?_
   clear hK13 K13 hK12 K12
   refine y3y x6x (by rfl) ?_
   refine x1x rfl ?_
   refine x1x rfl ?_
   refine x1x rfl ?_
   refine x1x rfl ?_
   refine z7z rfl rfl u7u rfl z3z rfl hx ?_
   refine z6z rfl z3z rfl rfl ?_
   refine r3r (j := k) rfl rfl u7u rfl z3z rfl rfl (a0g (c1l c1)) ?_
   refine a1o (el' := x) rfl rfl z3z rfl rfl rfl (c1l c1) rfl (a2f _) rfl rfl ?_
   refine hK4 _ _ ?_
   clear hK4 K4
   refine y3y x6x (by rfl) ?_
   refine x1x rfl ?_
   refine z9z (b := 1) rfl rfl (by omega) ?_
   refine x2x rfl ?_
   exact ⟨i + 1, ⟨by omega, by omega⟩, [_, _, _], (Cov.cons (t := 3) rfl (Cov.cons (t := 4) rfl Cov.nil)), (Cov.cons (t := 0) rfl Cov.nil), (HE.row rfl (by rw [hin, c8k c1]) (HE.kill rfl (HE.kill rfl HE.nil))), HE.nil, rfl⟩
  try simp at hc14
  obtain ⟨z, hz⟩ : ∃ z, (r1r (l.take i))[m - 1]? = some z := ⟨_, List.getElem?_eq_getElem (by omega)⟩
  refine x9x ?_
  refine hK13 _ _ ?_
  clear hK13 K13
  refine x5x fun K15 hK15 => ?_
  refine y7y ?_
  refine y3y x6x (by rfl) ?_
  refine x1x rfl ?_
  refine x1x rfl ?_
  refine x1x rfl ?_
  refine x1x rfl ?_
  refine a0l (b := 1) rfl rfl (by omega) (by omega) ?_
  refine r3r (j := m - 1) rfl rfl u7u rfl z3z rfl rfl (a0g (c4i m2 (by omega) hz)) ?_
  refine s0s rfl z3z rfl (c4i m2 (by omega) hz) rfl rfl ?_
  refine r3r (j := m) rfl rfl u7u rfl z3z rfl rfl (a0g (c1l m2)) ?_
  refine a1o (el' := z) rfl rfl z3z rfl rfl rfl (c1l m2) rfl (a2f _) rfl rfl ?_
  refine hK15 _ _ ?_
  clear hK15 K15
  refine y3y x6x (by rfl) ?_
  refine x1x rfl ?_
  refine a0l (b := 1) rfl rfl (by omega) (by omega) ?_
  refine x2x rfl ?_
  exact ⟨(m - 1, z), ⟨⟨by dsimp only; omega, by dsimp only; omega⟩, (by dsimp only; omega)⟩, [], (Cov.cons (t := 6) rfl Cov.nil), (Cov.cons (t := 0) rfl (Cov.cons (t := 3) rfl (Cov.cons (t := 4) rfl (Cov.cons (t := 5) rfl Cov.nil)))), (HE.row rfl (by rw [d1t m2 (by omega) hz]) HE.nil), (HE.same (id := 1) rfl (HE.same (id := 2) rfl HE.nil)), rfl⟩
end
section
theorem a5y (c : Bool) (n : Nd) (proc : Int) (hs : (a2b n).length + (s7s n 3).length ≤ 5000000) (hlen : n.lanes.length ≤ 1048576) (hv3 : n.views.length = 3) : s8s Tryz.prog 144 [.agg (a0t c n), .pv (.int .i64 proc)] (a1n true (s9s n proc)) := by
 refine z1z x6x (fn := Tryz.f144) (by kernel_rfl) (by kernel_rfl) rfl (outs := [a1n true (s9s n proc)]) (by rfl) (Nat.le_of_ble_eq_true rfl) 6 ?_
 have hla : (a2b n ++ s7s n 3).length = (a2b n).length + (s7s n 3).length := List.length_append
 refine x4x x6x (by rfl) ?_
 refine v1v (id := 0) rfl rfl rfl ?_
 refine x2x rfl ?_
 refine x4x x6x (by rfl) ?_
 refine y4y rfl z8z rfl rfl rfl ?_
 refine v5v [5] [_] (b6v c n (by omega) hlen) rfl rfl rfl (by decide) rfl rfl (by repeat (first | exact InH.nil | refine InH.cons rfl ?_)) (by (simp only [pI, List.map_cons, List.map_nil, u1u, u2u, gl, nx, q4q, Nat.beq, Nat.add_eq, List.getD_cons_zero, List.getD_cons_succ, List.getD_nil, Bool.or_false, Bool.false_or, Bool.true_or, Bool.or_true, Nat.add_zero, Nat.zero_add]; rfl)) (by (simp only [pI, List.map_cons, List.map_nil, u1u, u2u, gl, nx, q4q, Nat.beq, Nat.add_eq, List.getD_cons_zero, List.getD_cons_succ, List.getD_nil, Bool.or_false, Bool.false_or, Bool.true_or, Bool.or_true, Nat.add_zero, Nat.zero_add]; rfl)) ?_
 refine x2x rfl ?_
 refine x5x fun K1 hK1 => ?_
 refine x4x x6x (by rfl) ?_
 refine x2x rfl ?_
 refine y7y ?_
 refine u5u (ι := Nat) (fun i γ1 => [(5, .ref 5 (γ1 5)), (6, .pv (.int .i64 (i : Int)))]) (fun i γ1 => [(5, ((γ1 5), .row 76 7 ((a2b n ++ s7s n i).map v6v))), (1, ((γ1 1), .dead))]) (fun i => i ≤ 3) (fun i => 3 - i) (Cov.cons (t := 1) rfl (Cov.cons (t := 2) rfl Cov.nil)) (HE.same (id := 0) rfl (HE.same (id := 2) rfl (HE.same (id := 3) rfl (HE.same (id := 4) rfl HE.nil)))) 0 (by omega) [0, _, 0, 0, 0, _] (Cov.cons (t := 5) rfl (Cov.cons (t := 6) rfl Cov.nil)) (HE.row rfl (by simp [s7s]) (HE.kill rfl HE.nil)) rfl fun i γ1 hi => ?_
 try dsimp only [List.cons_append, List.nil_append]
 refine x5x fun K2 hK2 => ?_
 refine x4x x6x (by rfl) ?_
 refine x1x rfl ?_
 refine x0x rfl z8z rfl rfl p1p rfl rfl ?_
 refine x3x rfl p1p rfl rfl ?_
 refine u0u rfl p1p rfl ?_
 refine y1y rfl rfl rfl ?_
 refine x8x rfl (fun hc3 => ?_) (fun hc3 => ?_)
 ·try simp at hc3
  obtain ⟨v, hv⟩ : ∃ v, n.views[i]? = some v := ⟨_, List.getElem?_eq_getElem (by omega)⟩
  have hg : n.views.getD i vi0 = v := by rw [List.getD_eq_getElem?_getD, hv]; rfl
  have hol := c1e n (i := i + 1) (by omega)
  rw [a0n] at hol
  refine x9x ?_
  refine hK2 _ _ ?_
  clear hK2 K2
  refine x5x fun K4 hK4 => ?_
  refine y7y ?_
  refine x4x x6x (by rfl) ?_
  refine x1x rfl ?_
  refine x0x rfl z8z rfl rfl y6y rfl rfl ?_
  refine x3x rfl y6y rfl rfl ?_
  refine y1y rfl rfl rfl ?_
  refine x8x rfl (fun hc5 => ?_) (fun hc5 => ?_)
  rotate_left
  ·try simp at hc5
   have hve : b2i n i = [] := by rw [b2i, if_pos (by exact hc5)]
   refine x9x ?_
   refine hK4 _ _ ?_
   clear hK4 K4
   refine y3y x6x (by rfl) ?_
   refine x1x rfl ?_
   refine y1y rfl rfl rfl ?_
   refine x2x rfl ?_
   exact ⟨i + 1, ⟨by omega, by omega⟩, [0, _, 0, 0, 0, _], (Cov.cons (t := 5) rfl (Cov.cons' (t := 6) rfl (by rw [v3v (by omega) (by omega)]; rfl) Cov.nil)), (Cov.cons (t := 1) rfl (Cov.cons (t := 2) rfl Cov.nil)), (HE.row rfl (by rw [a0n, hve]; simp) (HE.kill rfl HE.nil)), (HE.same (id := 0) rfl (HE.same (id := 2) rfl (HE.same (id := 3) rfl (HE.same (id := 4) rfl HE.nil)))), rfl⟩
  try simp at hc5
  have hve : b2i n i = v.events := by rw [b2i, if_neg (by exact hc5), hg]
  rw [hve] at hol
  simp only [List.length_append] at hol
  refine y3y x6x (by rfl) ?_
  refine x1x rfl ?_
  refine x0x rfl z8z rfl rfl p1p rfl rfl ?_
  refine x3x rfl p1p rfl rfl ?_
  refine x1x rfl ?_
  refine z7z rfl rfl p1p rfl w0w rfl hv ?_
  refine x0x rfl w0w rfl rfl u7u rfl rfl ?_
  refine z4z rfl u7u rfl ?_
  refine a0q (zs := (a2b n ++ s7s n i ++ v.events).map v6v) rfl rfl u7u rfl z3z rfl rfl rfl (by exact a1c (fun _ => rfl) _) (b8g _ _ _) (by have hb56 : T76.bytes = 56 := rfl; rw [List.length_map, hb56]; simp only [List.length_append, List.length_cons, List.length_nil]; omega) ?_
  refine x2x rfl ?_
  refine hK4 _ _ ?_
  clear hK4 K4
  refine y3y x6x (by rfl) ?_
  refine x1x rfl ?_
  refine y1y rfl rfl rfl ?_
  refine x2x rfl ?_
  exact ⟨i + 1, ⟨by omega, by omega⟩, [0, _, 0, 0, 0, _], (Cov.cons (t := 5) rfl (Cov.cons' (t := 6) rfl (by rw [v3v (by omega) (by omega)]; rfl) Cov.nil)), (Cov.cons (t := 1) rfl (Cov.cons (t := 2) rfl Cov.nil)), (HE.row rfl (by rw [a0n, hve]; simp) (HE.kill rfl HE.nil)), (HE.same (id := 0) rfl (HE.same (id := 2) rfl (HE.same (id := 3) rfl (HE.same (id := 4) rfl HE.nil)))), rfl⟩
 try simp at hc3
 obtain rfl : i = 3 := by omega
 have hall : (a2b n ++ s7s n 3).length ≤ 5000000 := by rw [List.length_append]; omega
 refine v0v ?_
 refine hK1 _ _ ?_
 clear hK2 K2 hK1 K1
 refine b2e 5 rfl rfl (fun _ => rfl) ?_
 refine x4x x6x (by rfl) ?_
 refine r9r (id := 2) u7u rfl z3z rfl ?_
 refine x2x rfl ?_
 refine x5x fun K6 hK6 => ?_
 refine x4x x6x (by rfl) ?_
 refine x2x rfl ?_
 refine y7y ?_
 refine u5u (ι := Nat) (fun j γ2 => [(7, .ref 2 (γ2 2)), (8, .pv (.int .i64 (j : Int)))]) (fun j γ2 => [(2, ((γ2 2), .row 76 7 ((((a2b n ++ s7s n 3).take j).filter (a4r proc n.g)).map v6v))), (3, ((γ2 3), .dead)), (4, ((γ2 4), .dead))]) (fun j => j ≤ (a2b n ++ s7s n 3).length) (fun j => (a2b n ++ s7s n 3).length - j) (Cov.cons (t := 1) rfl (Cov.cons (t := 2) rfl (Cov.cons (t := 5) rfl Cov.nil))) (HE.same (id := 0) rfl (HE.same (id := 1) rfl (HE.same (id := 5) rfl HE.nil))) 0 (by omega) [0, 0, _, _, _] (Cov.cons (t := 7) rfl (Cov.cons (t := 8) rfl Cov.nil)) (HE.row rfl (by rw [List.take_zero]; rfl) (HE.kill rfl (HE.kill rfl HE.nil))) rfl fun j γ2 hi => ?_
 try dsimp only [List.cons_append, List.nil_append]
 refine x5x fun K7 hK7 => ?_
 refine x4x x6x (by rfl) ?_
 refine x1x rfl ?_
 refine x1x rfl ?_
 refine u0u rfl u7u rfl ?_
 refine y1y rfl rfl rfl ?_
 refine x8x rfl (fun hc8 => ?_) (fun hc8 => ?_)
 rotate_left
 ·try simp at hc8
  obtain rfl : j = (a2b n ++ s7s n 3).length := by omega
  rw [List.take_length]
  refine v0v ?_
  refine hK6 _ _ ?_
  clear hK7 K7 hK6 K6
  refine b2e 7 rfl rfl (fun _ => rfl) ?_
  refine x4x x6x (by rfl) ?_
  refine x1x rfl ?_
  refine y9y rfl rfl rfl (b3o true ((a2b n ++ s7s n 3).filter (a4r proc n.g)) (Nat.le_trans (List.length_filter_le _ _) (by rw [List.length_append]; omega))) ?_
  refine x2x rfl ?_
  refine y0y ⟨.inr rfl, ?_⟩
  refine y8y rfl rfl rfl
 try simp at hc8
 obtain ⟨p, hp⟩ : ∃ p, (a2b n ++ s7s n 3)[j]? = some p := ⟨_, List.getElem?_eq_getElem (by omega)⟩
 have hfl : (((a2b n ++ s7s n 3).take j).filter (a4r proc n.g)).length ≤ 5000000 := Nat.le_trans (List.length_filter_le _ _) (by rw [List.length_take]; omega)
 refine x9x ?_
 refine hK7 _ _ ?_
 clear hK7 K7
 refine x5x fun K9 hK9 => ?_
 refine y7y ?_
 refine q7q x6x r4r (by rfl) ?_
 refine x1x rfl ?_
 refine x1x rfl ?_
 refine z7z rfl rfl u7u rfl z3z rfl hp ?_
 refine x0x rfl z3z rfl rfl y6y rfl rfl ?_
 refine z4z rfl y6y rfl ?_
 refine x1x rfl ?_
 refine y1y rfl rfl rfl ?_
 refine x1x rfl ?_
 refine s1s rfl rfl (fun hg10 => ?_) (fun hg10 => ?_)
 rotate_left
 ·try simp at hg10
  have hw : ¬ a4r proc n.g p = true := by simp only [a4r, decide_eq_true_eq]; omega
  refine x7x rfl rfl ?_
  refine x7x rfl rfl ?_
  refine x7x rfl rfl ?_
  refine x7x rfl rfl ?_
  refine x7x rfl rfl ?_
  refine x7x rfl rfl ?_
  refine x7x rfl rfl ?_
  refine y2y rfl rfl ?_
  refine ⟨by kernel_rfl, ?_⟩
  refine x8x rfl (fun hc12 => ?_) (fun hc12 => ?_)
  ·simp at hc12
  try simp at hc12
  try have hw : ¬ a4r proc n.g p = true := by simp only [a4r, decide_eq_true_eq]; omega
  refine x9x ?_
  refine hK9 _ _ ?_
  clear hK9 K9
  refine y3y x6x (by rfl) ?_
  refine x1x rfl ?_
  refine y1y rfl rfl rfl ?_
  refine x2x rfl ?_
  exact ⟨j + 1, ⟨by omega, by omega⟩, [0, 0, _, _, _], (Cov.cons (t := 7) rfl (Cov.cons' (t := 8) rfl (by rw [v3v (by omega) (by omega)]; rfl) Cov.nil)), (Cov.cons (t := 1) rfl (Cov.cons (t := 2) rfl (Cov.cons (t := 5) rfl Cov.nil))), (HE.row rfl (by rw [a4s hp]; rw [if_neg hw, List.append_nil]) (HE.kill rfl (HE.kill rfl HE.nil))), (HE.same (id := 0) rfl (HE.same (id := 1) rfl (HE.same (id := 5) rfl HE.nil))), rfl⟩
 try simp at hg10
 have hw1 : p.to = proc := by exact hg10
 refine x1x rfl ?_
 refine y5y rfl rfl ?_
 refine x1x rfl ?_
 refine y5y rfl rfl ?_
 refine z7z rfl rfl u7u rfl z3z rfl hp ?_
 refine y5y rfl rfl ?_
 refine x0x rfl z3z rfl rfl y6y rfl rfl ?_
 refine y5y rfl rfl ?_
 refine z4z rfl y6y rfl ?_
 refine y5y rfl rfl ?_
 refine x0x rfl z8z rfl rfl y6y rfl rfl ?_
 refine y5y rfl rfl ?_
 refine x3x rfl y6y rfl rfl ?_
 refine y5y rfl rfl ?_
 refine y1y rfl rfl rfl ?_
 refine z0z rfl rfl ?_
 refine ⟨by kernel_rfl, ?_⟩
 refine x8x rfl (fun hc11 => ?_) (fun hc11 => ?_)
 rotate_left
 ·try simp at hc11
  try have hw : ¬ a4r proc n.g p = true := by simp only [a4r, decide_eq_true_eq]; omega
  refine x9x ?_
  refine hK9 _ _ ?_
  clear hK9 K9
  refine y3y x6x (by rfl) ?_
  refine x1x rfl ?_
  refine y1y rfl rfl rfl ?_
  refine x2x rfl ?_
  exact ⟨j + 1, ⟨by omega, by omega⟩, [0, 0, _, _, _], (Cov.cons (t := 7) rfl (Cov.cons' (t := 8) rfl (by rw [v3v (by omega) (by omega)]; rfl) Cov.nil)), (Cov.cons (t := 1) rfl (Cov.cons (t := 2) rfl (Cov.cons (t := 5) rfl Cov.nil))), (HE.row rfl (by rw [a4s hp]; rw [if_neg hw, List.append_nil]) (HE.kill rfl (HE.kill rfl HE.nil))), (HE.same (id := 0) rfl (HE.same (id := 1) rfl (HE.same (id := 5) rfl HE.nil))), rfl⟩
 try simp at hc11
 have hw : a4r proc n.g p = true := by simp only [a4r, decide_eq_true_eq]; omega
 refine y3y x6x (by rfl) ?_
 refine x1x rfl ?_
 refine x1x rfl ?_
 refine x1x rfl ?_
 refine z7z rfl rfl u7u rfl z3z rfl hp ?_
 refine z6z rfl z3z rfl rfl ?_
 refine s6s (id := 3) u7u rfl z3z rfl rfl rfl rfl rfl rfl ?_
 refine r5r (zs := (((a2b n ++ s7s n 3).take j).filter (a4r proc n.g) ++ [p]).map v6v) rfl rfl u7u rfl z3z rfl rfl rfl rfl (by rfl) (a0c _ _ _) (by have hb56 : T76.bytes = 56 := rfl; rw [List.length_map, hb56]; simp only [List.length_append, List.length_cons, List.length_nil]; omega) ?_
 refine x2x rfl ?_
 refine hK9 _ _ ?_
 clear hK9 K9
 refine y3y x6x (by rfl) ?_
 refine x1x rfl ?_
 refine y1y rfl rfl rfl ?_
 refine x2x rfl ?_
 exact ⟨j + 1, ⟨by omega, by omega⟩, [0, 0, _, _, _], (Cov.cons (t := 7) rfl (Cov.cons' (t := 8) rfl (by rw [v3v (by omega) (by omega)]; rfl) Cov.nil)), (Cov.cons (t := 1) rfl (Cov.cons (t := 2) rfl (Cov.cons (t := 5) rfl Cov.nil))), (HE.row rfl (by rw [a4s hp]; rw [if_pos hw]) (HE.kill rfl (HE.kill rfl HE.nil))), (HE.same (id := 0) rfl (HE.same (id := 1) rfl (HE.same (id := 5) rfl HE.nil))), rfl⟩
end
section
theorem b1v (c : Bool) (n : Nd) : s8s Tryz.prog 69 [.agg (a0t c n)] (.pv (.bool (kb (a1t n)))) := by
 refine z1z x6x (fn := Tryz.f69) (by kernel_rfl) (by kernel_rfl) rfl (outs := [.pv (.bool (kb (a1t n)))]) (by rfl) (Nat.le_of_ble_eq_true rfl) 1 ?_
 have hpl := a4q n.id 4
 refine x4x x6x (by rfl) ?_
 refine v1v (id := 0) rfl rfl rfl ?_
 refine x2x rfl ?_
 refine x5x fun K1 hK1 => ?_
 refine q7q x6x r4r (by rfl) ?_
 refine x0x rfl z8z rfl rfl y6y rfl rfl ?_
 refine x3x rfl y6y rfl rfl ?_
 refine y9y rfl rfl rfl (p7p ..) ?_
 refine w3w rfl ?_
 refine x1x rfl ?_
 refine s1s rfl rfl (fun hg2 => ?_) (fun hg2 => ?_)
 rotate_left
 ·try simp at hg2
  have hX : ¬ (0 ≤ n.id ∧ n.id ≤ 2) := by omega
  refine x7x rfl rfl ?_
  refine x7x rfl rfl ?_
  refine x7x rfl rfl ?_
  refine x7x rfl rfl ?_
  refine z0z rfl rfl ?_
  refine x1x rfl ?_
  refine x7x rfl rfl ?_
  refine x7x rfl rfl ?_
  refine x7x rfl rfl ?_
  refine x7x rfl rfl ?_
  refine z0z rfl rfl ?_
  refine x1x rfl ?_
  refine x7x rfl rfl ?_
  refine x7x rfl rfl ?_
  refine x7x rfl rfl ?_
  refine x7x rfl rfl ?_
  refine x7x rfl rfl ?_
  refine z0z rfl rfl ?_
  refine x1x rfl ?_
  refine x7x rfl rfl ?_
  refine x7x rfl rfl ?_
  refine x7x rfl rfl ?_
  refine x7x rfl rfl ?_
  refine x7x rfl rfl ?_
  refine z0z rfl rfl ?_
  refine x1x rfl ?_
  refine x7x rfl rfl ?_
  refine x7x rfl rfl ?_
  refine x7x rfl rfl ?_
  refine x7x rfl rfl ?_
  refine z0z rfl rfl ?_
  refine x1x rfl ?_
  refine x7x rfl rfl ?_
  refine x7x rfl rfl ?_
  refine x7x rfl rfl ?_
  refine z0z rfl rfl ?_
  refine ⟨by kernel_rfl, ?_⟩
  refine x8x rfl (fun hc33 => ?_) (fun hc33 => ?_)
  rotate_left
  ·simp at hc33
  try simp at hc33
  try have hX : ¬ a5t n := a5n (by simpa using hc33)
  refine x4x x6x (by rfl) ?_
  refine x2x rfl ?_
  refine y0y ⟨.inr rfl, ?_⟩
  clear hK1 K1
  refine y8y rfl ?_ rfl
  exact congrArg (fun b : Bool => [AV.pv (.bool b)]) (a6d (fun h => by obtain ⟨⟨q1, q2, q3, q4, q5, q6, q7, q8, q9⟩, q0⟩ := h; exact hX q1.1))
 try simp at hg2
 have f1 : 0 ≤ n.id ∧ n.id ≤ 2 := by exact hg2
 refine x0x rfl z8z rfl rfl y6y rfl rfl ?_
 refine y5y rfl rfl ?_
 refine x3x rfl y6y rfl rfl ?_
 refine y5y rfl rfl ?_
 refine y9y rfl rfl rfl (a0o ..) ?_
 refine y5y rfl rfl ?_
 refine y9y rfl rfl rfl (p7p ..) ?_
 refine y5y rfl rfl ?_
 refine w3w rfl ?_
 refine y2y rfl rfl ?_
 refine x1x rfl ?_
 refine s1s rfl rfl (fun hg3 => ?_) (fun hg3 => ?_)
 rotate_left
 ·try simp at hg3
  have hX : ¬ (1 ≤ n.inc ∧ n.inc ≤ 9999) := by omega
  refine x7x rfl rfl ?_
  refine x7x rfl rfl ?_
  refine x7x rfl rfl ?_
  refine z0z rfl rfl ?_
  refine x1x rfl ?_
  refine x7x rfl rfl ?_
  refine x7x rfl rfl ?_
  refine x7x rfl rfl ?_
  refine x7x rfl rfl ?_
  refine x7x rfl rfl ?_
  refine z0z rfl rfl ?_
  refine x1x rfl ?_
  refine x7x rfl rfl ?_
  refine x7x rfl rfl ?_
  refine x7x rfl rfl ?_
  refine x7x rfl rfl ?_
  refine x7x rfl rfl ?_
  refine z0z rfl rfl ?_
  refine x1x rfl ?_
  refine x7x rfl rfl ?_
  refine x7x rfl rfl ?_
  refine x7x rfl rfl ?_
  refine x7x rfl rfl ?_
  refine z0z rfl rfl ?_
  refine x1x rfl ?_
  refine x7x rfl rfl ?_
  refine x7x rfl rfl ?_
  refine x7x rfl rfl ?_
  refine z0z rfl rfl ?_
  refine ⟨by kernel_rfl, ?_⟩
  refine x8x rfl (fun hc32 => ?_) (fun hc32 => ?_)
  rotate_left
  ·simp at hc32
  try simp at hc32
  try have hX : ¬ a5t n := a5n (by simpa using hc32)
  refine x4x x6x (by rfl) ?_
  refine x2x rfl ?_
  refine y0y ⟨.inr rfl, ?_⟩
  clear hK1 K1
  refine y8y rfl ?_ rfl
  exact congrArg (fun b : Bool => [AV.pv (.bool b)]) (a6d (fun h => by obtain ⟨⟨q1, q2, q3, q4, q5, q6, q7, q8, q9⟩, q0⟩ := h; exact hX q1.2.1))
 try simp at hg3
 have f2 : 1 ≤ n.inc ∧ n.inc ≤ 9999 := by exact hg3
 refine x0x rfl z8z rfl rfl y6y rfl rfl ?_
 refine y5y rfl rfl ?_
 refine x3x rfl y6y rfl rfl ?_
 refine y5y rfl rfl ?_
 refine y9y rfl rfl rfl (p7p ..) ?_
 refine y5y rfl rfl ?_
 refine w3w rfl ?_
 refine y2y rfl rfl ?_
 refine x1x rfl ?_
 refine s1s rfl rfl (fun hg4 => ?_) (fun hg4 => ?_)
 rotate_left
 ·try simp at hg4
  have hX : ¬ (0 ≤ n.g ∧ n.g ≤ 41) := by omega
  refine x7x rfl rfl ?_
  refine x7x rfl rfl ?_
  refine x7x rfl rfl ?_
  refine x7x rfl rfl ?_
  refine z0z rfl rfl ?_
  refine x1x rfl ?_
  refine x7x rfl rfl ?_
  refine x7x rfl rfl ?_
  refine x7x rfl rfl ?_
  refine x7x rfl rfl ?_
  refine x7x rfl rfl ?_
  refine z0z rfl rfl ?_
  refine x1x rfl ?_
  refine x7x rfl rfl ?_
  refine x7x rfl rfl ?_
  refine x7x rfl rfl ?_
  refine x7x rfl rfl ?_
  refine z0z rfl rfl ?_
  refine x1x rfl ?_
  refine x7x rfl rfl ?_
  refine x7x rfl rfl ?_
  refine x7x rfl rfl ?_
  refine z0z rfl rfl ?_
  refine ⟨by kernel_rfl, ?_⟩
  refine x8x rfl (fun hc31 => ?_) (fun hc31 => ?_)
  rotate_left
  ·simp at hc31
  try simp at hc31
  try have hX : ¬ a5t n := a5n (by simpa using hc31)
  refine x4x x6x (by rfl) ?_
  refine x2x rfl ?_
  refine y0y ⟨.inr rfl, ?_⟩
  clear hK1 K1
  refine y8y rfl ?_ rfl
  exact congrArg (fun b : Bool => [AV.pv (.bool b)]) (a6d (fun h => by obtain ⟨⟨q1, q2, q3, q4, q5, q6, q7, q8, q9⟩, q0⟩ := h; exact hX q1.2.2.1))
 try simp at hg4
 have f3 : 0 ≤ n.g ∧ n.g ≤ 41 := by exact hg4
 refine x0x rfl z8z rfl rfl y6y rfl rfl ?_
 refine y5y rfl rfl ?_
 refine x3x rfl y6y rfl rfl ?_
 refine y5y rfl rfl ?_
 refine y9y rfl rfl rfl (a0o ..) ?_
 refine y5y rfl rfl ?_
 refine y9y rfl rfl rfl (p7p ..) ?_
 refine y5y rfl rfl ?_
 refine w3w rfl ?_
 refine y2y rfl rfl ?_
 refine x1x rfl ?_
 refine s1s rfl rfl (fun hg5 => ?_) (fun hg5 => ?_)
 rotate_left
 ·try simp at hg5
  have hX : ¬ (0 ≤ n.led ∧ n.led ≤ 9999) := by omega
  refine x7x rfl rfl ?_
  refine x7x rfl rfl ?_
  refine x7x rfl rfl ?_
  refine x7x rfl rfl ?_
  refine z0z rfl rfl ?_
  refine x1x rfl ?_
  refine x7x rfl rfl ?_
  refine x7x rfl rfl ?_
  refine x7x rfl rfl ?_
  refine x7x rfl rfl ?_
  refine z0z rfl rfl ?_
  refine x1x rfl ?_
  refine x7x rfl rfl ?_
  refine x7x rfl rfl ?_
  refine x7x rfl rfl ?_
  refine z0z rfl rfl ?_
  refine ⟨by kernel_rfl, ?_⟩
  refine x8x rfl (fun hc30 => ?_) (fun hc30 => ?_)
  rotate_left
  ·simp at hc30
  try simp at hc30
  try have hX : ¬ a5t n := a5n (by simpa using hc30)
  refine x4x x6x (by rfl) ?_
  refine x2x rfl ?_
  refine y0y ⟨.inr rfl, ?_⟩
  clear hK1 K1
  refine y8y rfl ?_ rfl
  exact congrArg (fun b : Bool => [AV.pv (.bool b)]) (a6d (fun h => by obtain ⟨⟨q1, q2, q3, q4, q5, q6, q7, q8, q9⟩, q0⟩ := h; exact hX q1.2.2.2.1))
 try simp at hg5
 have f4 : 0 ≤ n.led ∧ n.led ≤ 9999 := by exact hg5
 refine x0x rfl z8z rfl rfl u7u rfl rfl ?_
 refine y5y rfl rfl ?_
 refine x3x rfl u7u rfl rfl ?_
 refine y5y rfl rfl ?_
 refine y9y rfl rfl rfl (a2p ..) ?_
 refine y5y rfl rfl ?_
 refine y9y rfl rfl rfl (a2o ..) ?_
 refine y5y rfl rfl ?_
 refine w3w rfl ?_
 refine y2y rfl rfl ?_
 refine x1x rfl ?_
 refine s1s rfl rfl (fun hg6 => ?_) (fun hg6 => ?_)
 rotate_left
 ·try simp at hg6
  have hX : ¬ a6c okE a1g n.kept 100 = true := by simpa using hg6
  refine x7x rfl rfl ?_
  refine x7x rfl rfl ?_
  refine x7x rfl rfl ?_
  refine z0z rfl rfl ?_
  refine x1x rfl ?_
  refine x7x rfl rfl ?_
  refine x7x rfl rfl ?_
  refine x7x rfl rfl ?_
  refine z0z rfl rfl ?_
  refine ⟨by kernel_rfl, ?_⟩
  refine x8x rfl (fun hc29 => ?_) (fun hc29 => ?_)
  rotate_left
  ·simp at hc29
  try simp at hc29
  try have hX : ¬ a5t n := a5n (by simpa using hc29)
  refine x4x x6x (by rfl) ?_
  refine x2x rfl ?_
  refine y0y ⟨.inr rfl, ?_⟩
  clear hK1 K1
  refine y8y rfl ?_ rfl
  exact congrArg (fun b : Bool => [AV.pv (.bool b)]) (a6d (fun h => by obtain ⟨⟨q1, q2, q3, q4, q5, q6, q7, q8, q9⟩, q0⟩ := h; exact hX q2))
 try simp at hg6
 have f5 : a6c okE a1g n.kept 100 = true := by exact hg6
 refine x0x rfl z8z rfl rfl w6w rfl rfl ?_
 refine y5y rfl rfl ?_
 refine x3x rfl w6w rfl rfl ?_
 refine y5y rfl rfl ?_
 refine y9y rfl rfl rfl (b1r ..) ?_
 refine y5y rfl rfl ?_
 refine w3w rfl ?_
 refine y2y rfl rfl ?_
 refine x1x rfl ?_
 refine s1s rfl rfl (fun hg7 => ?_) (fun hg7 => ?_)
 rotate_left
 ·try simp at hg7
  have hX : ¬ a6c okO b0c n.outs 96 = true := by simpa using hg7
  refine x7x rfl rfl ?_
  refine x7x rfl rfl ?_
  refine z0z rfl rfl ?_
  refine ⟨by kernel_rfl, ?_⟩
  refine x8x rfl (fun hc28 => ?_) (fun hc28 => ?_)
  rotate_left
  ·simp at hc28
  try simp at hc28
  try have hX : ¬ a5t n := a5n (by simpa using hc28)
  refine x4x x6x (by rfl) ?_
  refine x2x rfl ?_
  refine y0y ⟨.inr rfl, ?_⟩
  clear hK1 K1
  refine y8y rfl ?_ rfl
  exact congrArg (fun b : Bool => [AV.pv (.bool b)]) (a6d (fun h => by obtain ⟨⟨q1, q2, q3, q4, q5, q6, q7, q8, q9⟩, q0⟩ := h; exact hX q3))
 try simp at hg7
 have f6 : a6c okO b0c n.outs 96 = true := by exact hg7
 refine y4y rfl z8z rfl rfl rfl ?_
 refine y5y rfl rfl ?_
 refine y9y rfl rfl rfl (b5o ..) ?_
 refine y5y rfl rfl ?_
 refine w3w rfl ?_
 refine y2y rfl rfl ?_
 refine ⟨by kernel_rfl, ?_⟩
 refine x8x rfl (fun hc8 => ?_) (fun hc8 => ?_)
 ·try simp at hc8
  try have hX : ¬ a5t n := a5n (by simpa using hc8)
  refine x4x x6x (by rfl) ?_
  refine x2x rfl ?_
  refine y0y ⟨.inr rfl, ?_⟩
  clear hK1 K1
  refine y8y rfl ?_ rfl
  exact congrArg (fun b : Bool => [AV.pv (.bool b)]) (a6d (fun h => by obtain ⟨⟨q1, q2, q3, q4, q5, q6, q7, q8, q9⟩, q0⟩ := h; exact hX ⟨q6, q7, q1.2.2.2.2.1, q1.2.2.2.2.2.1, q1.2.2.2.2.2.2, q9⟩))
 try simp at hc8
 have fF : a5t n := b2x.1 (by simpa using hc8)
 have fo96 := (a1d f6).1
 refine x9x ?_
 refine hK1 _ _ ?_
 clear hK1 K1
 refine b2a (ι := Unit) (fun _i γ1 => []) (fun _i γ1 => []) (fun _i => ∀ (i : Nat) a, n.outs[i]? = some a → a.time < n.g) (Cov.cons (t := 1) rfl Cov.nil) (HE.same (id := 0) rfl HE.nil) ?_ fun _i γ1 hi => ?_
 ·refine q7q x6x r4r (by rfl) ?_
  refine x0x rfl z8z rfl rfl w6w rfl rfl ?_
  refine x3x rfl w6w rfl rfl ?_
  refine u0u rfl w6w rfl ?_
  refine y1y rfl rfl rfl ?_
  refine x1x rfl ?_
  refine s1s rfl rfl (fun hg9 => ?_) (fun hg9 => ?_)
  rotate_left
  ·try simp at hg9
   have g0 : n.outs.length = 0 := by (rw [hg9]; rfl)
   have fO : ∀ (i : Nat) a, n.outs[i]? = some a → a.time < n.g := fun i a ha => by have := (List.getElem?_eq_some_iff.1 ha).1; omega
   refine x7x rfl rfl ?_
   refine x7x rfl rfl ?_
   refine x7x rfl rfl ?_
   refine x7x rfl rfl ?_
   refine x7x rfl rfl ?_
   refine x7x rfl rfl ?_
   refine x7x rfl rfl ?_
   refine x7x rfl rfl ?_
   refine x7x rfl rfl ?_
   refine x7x rfl rfl ?_
   refine x7x rfl rfl ?_
   refine y2y rfl rfl ?_
   refine ⟨by kernel_rfl, ?_⟩
   refine x8x rfl (fun hc11 => ?_) (fun hc11 => ?_)
   ·simp at hc11
   try simp at hc11
   try have fO : ∀ (i : Nat) a, n.outs[i]? = some a → a.time < n.g := c1m f6 ho (by omega)
   refine x9x ?_
   exact ⟨(), fO, [], Cov.nil, (Cov.cons (t := 1) rfl Cov.nil), HE.nil, (HE.same (id := 0) rfl HE.nil), rfl⟩
  try simp at hg9
  have g0 : 0 < n.outs.length := by omega
  obtain ⟨o, ho⟩ : ∃ o, n.outs[n.outs.length - 1]? = some o := ⟨_, List.getElem?_eq_getElem (by omega)⟩
  refine x0x rfl z8z rfl rfl w6w rfl rfl ?_
  refine y5y rfl rfl ?_
  refine x3x rfl w6w rfl rfl ?_
  refine y5y rfl rfl ?_
  refine x0x rfl z8z rfl rfl w6w rfl rfl ?_
  refine y5y rfl rfl ?_
  refine x3x rfl w6w rfl rfl ?_
  refine y5y rfl rfl ?_
  refine u0u rfl w6w rfl ?_
  refine y5y rfl rfl ?_
  refine a0l (b := 1) rfl rfl (by omega) (by omega) ?_
  refine y5y rfl rfl ?_
  refine z7z rfl rfl w6w rfl v2v rfl ho ?_
  refine y5y rfl rfl ?_
  refine x0x rfl v2v rfl rfl y6y rfl rfl ?_
  refine y5y rfl rfl ?_
  refine z4z rfl y6y rfl ?_
  refine y5y rfl rfl ?_
  refine x0x rfl z8z rfl rfl y6y rfl rfl ?_
  refine y5y rfl rfl ?_
  refine x3x rfl y6y rfl rfl ?_
  refine y5y rfl rfl ?_
  refine y1y rfl rfl rfl ?_
  refine z0z rfl rfl ?_
  refine ⟨by kernel_rfl, ?_⟩
  refine x8x rfl (fun hc10 => ?_) (fun hc10 => ?_)
  rotate_left
  ·try simp at hc10
   try have fO : ∀ (i : Nat) a, n.outs[i]? = some a → a.time < n.g := c1m f6 ho (by omega)
   refine x9x ?_
   exact ⟨(), fO, [], Cov.nil, (Cov.cons (t := 1) rfl Cov.nil), HE.nil, (HE.same (id := 0) rfl HE.nil), rfl⟩
  try simp at hc10
  have hX : ¬ o.time < n.g := by omega
  refine x4x x6x (by rfl) ?_
  refine x2x rfl ?_
  refine y0y ⟨.inr rfl, ?_⟩
  refine y8y rfl ?_ rfl
  exact congrArg (fun b : Bool => [AV.pv (.bool b)]) (a6d (fun h => by obtain ⟨⟨q1, q2, q3, q4, q5, q6, q7, q8, q9⟩, q0⟩ := h; exact hX (q4 _ _ ho)))
 ·try dsimp only [List.cons_append, List.nil_append]
  have fO := hi
  refine x4x x6x (by rfl) ?_
  refine x0x rfl z8z rfl rfl y6y rfl rfl ?_
  refine x3x rfl y6y rfl rfl ?_
  refine y9y rfl rfl rfl (b5r ..) ?_
  refine x2x rfl ?_
  refine x5x fun K12 hK12 => ?_
  refine x4x x6x (by rfl) ?_
  refine x0x rfl z8z rfl rfl w4w rfl rfl ?_
  refine x3x rfl w4w rfl rfl ?_
  refine u0u rfl w4w rfl ?_
  refine x1x rfl ?_
  refine u0u rfl w4w rfl ?_
  refine y1y rfl rfl rfl ?_
  refine x8x rfl (fun hc13 => ?_) (fun hc13 => ?_)
  ·try simp at hc13
   refine x4x x6x (by rfl) ?_
   refine x2x rfl ?_
   refine y0y ⟨.inr rfl, ?_⟩
   clear hK12 K12
   refine y8y rfl ?_ rfl
   exact congrArg (fun b : Bool => [AV.pv (.bool b)]) (a6d (fun h => by obtain ⟨⟨q1, q2, q3, q4, q5, q6, q7, q8, q9⟩, q0⟩ := h; omega))
  try simp at hc13
  have fL : n.lanes.length = (a0s n.id 4).length := by omega
  refine x9x ?_
  refine hK12 _ _ ?_
  clear hK12 K12
  refine x5x fun K14 hK14 => ?_
  refine x4x x6x (by rfl) ?_
  refine x2x rfl ?_
  refine y7y ?_
  refine u5u (ι := Nat) (fun i γ2 => [(4, .pv (.int .i64 (i : Int)))]) (fun i γ2 => []) (fun i => i ≤ (a0s n.id 4).length ∧ c5t n.lanes (fun j l => (a0s n.id 4)[j]? = some l.proc ∧ a7u l = true) i) (fun i => (a0s n.id 4).length - i) (Cov.cons (t := 1) rfl (Cov.cons (t := 3) rfl Cov.nil)) (HE.same (id := 0) rfl HE.nil) 0 ⟨by omega, a3g⟩ [] (Cov.cons (t := 4) rfl Cov.nil) HE.nil rfl fun i γ2 hi => ?_
  try dsimp only [List.cons_append, List.nil_append]
  obtain ⟨b1, b2⟩ := hi
  refine x5x fun K15 hK15 => ?_
  refine x4x x6x (by rfl) ?_
  refine x1x rfl ?_
  refine x1x rfl ?_
  refine u0u rfl w4w rfl ?_
  refine y1y rfl rfl rfl ?_
  refine x8x rfl (fun hc16 => ?_) (fun hc16 => ?_)
  ·try simp at hc16
   obtain ⟨l, hl⟩ : ∃ l, n.lanes[i]? = some l := ⟨_, List.getElem?_eq_getElem (by omega)⟩
   obtain ⟨p, hp⟩ : ∃ p, (a0s n.id 4)[i]? = some p := ⟨_, List.getElem?_eq_getElem (by omega)⟩
   refine x9x ?_
   refine hK15 _ _ ?_
   clear hK15 K15
   refine x5x fun K17 hK17 => ?_
   refine y7y ?_
   refine q7q x6x r4r (by rfl) ?_
   refine x0x rfl z8z rfl rfl w4w rfl rfl ?_
   refine x3x rfl w4w rfl rfl ?_
   refine x1x rfl ?_
   refine z7z rfl rfl w4w rfl v4v rfl hl ?_
   refine z6z rfl v4v rfl rfl ?_
   refine y9y rfl rfl rfl (b1s ..) ?_
   refine w3w rfl ?_
   refine x1x rfl ?_
   refine s1s rfl rfl (fun hg18 => ?_) (fun hg18 => ?_)
   rotate_left
   ·try simp at hg18
    have hX : ¬ a7u l = true := by simpa using hg18
    refine x7x rfl rfl ?_
    refine x7x rfl rfl ?_
    refine x7x rfl rfl ?_
    refine x7x rfl rfl ?_
    refine x7x rfl rfl ?_
    refine x7x rfl rfl ?_
    refine x7x rfl rfl ?_
    refine x7x rfl rfl ?_
    refine x7x rfl rfl ?_
    refine x7x rfl rfl ?_
    refine x7x rfl rfl ?_
    refine z0z rfl rfl ?_
    refine ⟨by kernel_rfl, ?_⟩
    refine x8x rfl (fun hc20 => ?_) (fun hc20 => ?_)
    rotate_left
    ·simp at hc20
    try simp at hc20
    try have hX : ¬ l.proc = p := by first | exact hc20 | (simpa [c8f] using hc20)
    refine x4x x6x (by rfl) ?_
    refine x2x rfl ?_
    refine y0y ⟨.inr rfl, ?_⟩
    clear hK17 K17 hK14 K14
    refine y8y rfl ?_ rfl
    exact congrArg (fun b : Bool => [AV.pv (.bool b)]) (a6d (fun h => by obtain ⟨⟨q1, q2, q3, q4, q5, q6, q7, q8, q9⟩, q0⟩ := h; exact hX (q8 _ _ hl).2))
   try simp at hg18
   have hlo : a7u l = true := by exact hg18
   refine x0x rfl z8z rfl rfl w4w rfl rfl ?_
   refine y5y rfl rfl ?_
   refine x3x rfl w4w rfl rfl ?_
   refine y5y rfl rfl ?_
   refine x1x rfl ?_
   refine y5y rfl rfl ?_
   refine z7z rfl rfl w4w rfl v4v rfl hl ?_
   refine y5y rfl rfl ?_
   refine x0x rfl v4v rfl rfl y6y rfl rfl ?_
   refine y5y rfl rfl ?_
   refine z4z rfl y6y rfl ?_
   refine y5y rfl rfl ?_
   refine x1x rfl ?_
   refine y5y rfl rfl ?_
   refine x1x rfl ?_
   refine y5y rfl rfl ?_
   refine z7z rfl rfl w4w rfl v4v rfl hp ?_
   refine y5y rfl rfl ?_
   refine x0x rfl v4v rfl rfl y6y rfl rfl ?_
   refine y5y rfl rfl ?_
   refine z4z rfl y6y rfl ?_
   refine y5y rfl rfl ?_
   refine y1y rfl rfl rfl ?_
   refine y2y rfl rfl ?_
   refine ⟨by kernel_rfl, ?_⟩
   refine x8x rfl (fun hc19 => ?_) (fun hc19 => ?_)
   rotate_left
   ·try simp at hc19
    have hpe : l.proc = p := by exact hc19
    refine x9x ?_
    refine hK17 _ _ ?_
    clear hK17 K17
    refine y3y x6x (by rfl) ?_
    refine x1x rfl ?_
    refine z9z (b := 1) rfl rfl (by omega) ?_
    refine x2x rfl ?_
    exact ⟨i + 1, ⟨⟨by omega, a3h b2 hl ⟨by rw [hp, hpe], hlo⟩⟩, by omega⟩, [], (Cov.cons (t := 4) rfl Cov.nil), (Cov.cons (t := 1) rfl (Cov.cons (t := 3) rfl Cov.nil)), HE.nil, (HE.same (id := 0) rfl HE.nil), rfl⟩
   try simp at hc19
   try have hX : ¬ l.proc = p := by exact hc19
   refine x4x x6x (by rfl) ?_
   refine x2x rfl ?_
   refine y0y ⟨.inr rfl, ?_⟩
   clear hK17 K17 hK14 K14
   refine y8y rfl ?_ rfl
   exact congrArg (fun b : Bool => [AV.pv (.bool b)]) (a6d (fun h => by obtain ⟨⟨q1, q2, q3, q4, q5, q6, q7, q8, q9⟩, q0⟩ := h; have := (q8 _ _ hl).1; rw [hp] at this; exact hX (Option.some.inj this).symm))
  try simp at hc16
  have fN : d0m n := a5p b2 (by omega)
  refine v0v ?_
  refine hK14 _ _ ?_
  clear hK15 K15 hK14 K14
  refine x5x fun K21 hK21 => ?_
  refine x4x x6x (by rfl) ?_
  refine x2x rfl ?_
  refine y7y ?_
  refine u5u (ι := Nat) (fun j γ3 => [(5, .pv (.int .i64 (j : Int)))]) (fun j γ3 => []) (fun j => j ≤ (a0s n.id 4).length ∧ c5t n.lanes (fun j l => ∀ p, (a0s n.id 4)[j]? = some p → l.done.length ≤ same l.done (s9s n p) ∧ (s9s n p).length ≤ 100) j) (fun j => (a0s n.id 4).length - j) (Cov.cons (t := 1) rfl (Cov.cons (t := 3) rfl Cov.nil)) (HE.same (id := 0) rfl HE.nil) 0 ⟨by omega, a3g⟩ [] (Cov.cons (t := 5) rfl Cov.nil) HE.nil rfl fun j γ3 hi => ?_
  try dsimp only [List.cons_append, List.nil_append]
  obtain ⟨d1, d2⟩ := hi
  refine x5x fun K22 hK22 => ?_
  refine x4x x6x (by rfl) ?_
  refine x1x rfl ?_
  refine x1x rfl ?_
  refine u0u rfl w4w rfl ?_
  refine y1y rfl rfl rfl ?_
  refine x8x rfl (fun hc23 => ?_) (fun hc23 => ?_)
  rotate_left
  ·try simp at hc23
   have fC := fun (i : Nat) p l (a : (a0s n.id 4)[i]? = some p) (b : n.lanes[i]? = some l) => a5p d2 (by omega) i l b p a
   refine v0v ?_
   refine hK21 _ _ ?_
   clear hK22 K22 hK21 K21
   refine x4x x6x (by rfl) ?_
   refine x2x rfl ?_
   refine y0y ⟨.inr rfl, ?_⟩
   refine y8y rfl ?_ rfl
   exact congrArg (fun b : Bool => [AV.pv (.bool b)]) (d1s ⟨⟨⟨f1, f2, f3, f4, fF.2.2.1, fF.2.2.2.1, fF.2.2.2.2.1⟩, f5, f6, fO, fL, fF.1, fF.2.1, fN, fF.2.2.2.2.2⟩, fC⟩)
  try simp at hc23
  obtain ⟨l, hl⟩ : ∃ l, n.lanes[j]? = some l := ⟨_, List.getElem?_eq_getElem (by omega)⟩
  obtain ⟨p, hp⟩ : ∃ p, (a0s n.id 4)[j]? = some p := ⟨_, List.getElem?_eq_getElem (by omega)⟩
  obtain ⟨hdl, _⟩ := a6r (fN j l hl).2
  refine x9x ?_
  refine hK22 _ _ ?_
  clear hK22 K22
  refine x5x fun K24 hK24 => ?_
  refine y7y ?_
  refine q7q x6x r4r (by rfl) ?_
  refine x0x rfl z8z rfl rfl w4w rfl rfl ?_
  refine x3x rfl w4w rfl rfl ?_
  refine x1x rfl ?_
  refine z7z rfl rfl w4w rfl v4v rfl hl ?_
  refine z6z rfl v4v rfl rfl ?_
  refine y4y rfl z8z rfl rfl rfl ?_
  refine x1x rfl ?_
  refine x1x rfl ?_
  refine z7z rfl rfl w4w rfl v4v rfl hp ?_
  refine x0x rfl v4v rfl rfl y6y rfl rfl ?_
  refine z4z rfl y6y rfl ?_
  refine y9y rfl rfl rfl (a5y c n p (by have := c2x f5 (by omega) fN; have := b8u fF.1 fF.2.1 fF.2.2.2.2.2; omega) (by omega) fF.1) ?_
  refine y9y rfl rfl rfl (a9o ..) ?_
  refine x0x rfl z8z rfl rfl w4w rfl rfl ?_
  refine x3x rfl w4w rfl rfl ?_
  refine x1x rfl ?_
  refine z7z rfl rfl w4w rfl v4v rfl hl ?_
  refine x0x rfl v4v rfl rfl v9v rfl rfl ?_
  refine z4z rfl v9v rfl ?_
  refine u0u rfl v9v rfl ?_
  refine y1y rfl rfl rfl ?_
  refine x1x rfl ?_
  refine s1s rfl rfl (fun hg25 => ?_) (fun hg25 => ?_)
  rotate_left
  ·try simp at hg25
   refine x7x rfl rfl ?_
   refine x7x rfl rfl ?_
   refine x7x rfl rfl ?_
   refine x7x rfl rfl ?_
   refine x7x rfl rfl ?_
   refine x7x rfl rfl ?_
   refine x7x rfl rfl ?_
   refine x7x rfl rfl ?_
   refine x7x rfl rfl ?_
   refine z0z rfl rfl ?_
   refine ⟨by kernel_rfl, ?_⟩
   refine x8x rfl (fun hc27 => ?_) (fun hc27 => ?_)
   rotate_left
   ·simp at hc27
   try simp at hc27
   refine x4x x6x (by rfl) ?_
   refine x2x rfl ?_
   refine y0y ⟨.inr rfl, ?_⟩
   clear hK24 K24 hK21 K21
   refine y8y rfl ?_ rfl
   exact congrArg (fun b : Bool => [AV.pv (.bool b)]) (a6d (fun h => by obtain ⟨⟨q1, q2, q3, q4, q5, q6, q7, q8, q9⟩, q0⟩ := h; have := q0 _ _ _ hp hl; omega))
  try simp at hg25
  refine y4y rfl z8z rfl rfl rfl ?_
  refine y5y rfl rfl ?_
  refine x1x rfl ?_
  refine y5y rfl rfl ?_
  refine x1x rfl ?_
  refine y5y rfl rfl ?_
  refine z7z rfl rfl w4w rfl v4v rfl hp ?_
  refine y5y rfl rfl ?_
  refine x0x rfl v4v rfl rfl y6y rfl rfl ?_
  refine y5y rfl rfl ?_
  refine z4z rfl y6y rfl ?_
  refine y5y rfl rfl ?_
  refine y9y rfl rfl rfl (a5y c n p (by have := c2x f5 (by omega) fN; have := b8u fF.1 fF.2.1 fF.2.2.2.2.2; omega) (by omega) fF.1) ?_
  refine y5y rfl rfl ?_
  refine u0u rfl u7u rfl ?_
  refine y5y rfl rfl ?_
  refine y9y rfl rfl rfl (a2p ..) ?_
  refine y5y rfl rfl ?_
  refine y1y rfl rfl rfl ?_
  refine y2y rfl rfl ?_
  refine ⟨by kernel_rfl, ?_⟩
  refine x8x rfl (fun hc26 => ?_) (fun hc26 => ?_)
  rotate_left
  ·try simp at hc26
   refine x9x ?_
   refine hK24 _ _ ?_
   clear hK24 K24
   refine y3y x6x (by rfl) ?_
   refine x1x rfl ?_
   refine z9z (b := 1) rfl rfl (by omega) ?_
   refine x2x rfl ?_
   exact ⟨j + 1, ⟨⟨by omega, a3h d2 hl (fun p2 hp2 => by rw [hp] at hp2; cases hp2; omega)⟩, by omega⟩, [], (Cov.cons (t := 5) rfl Cov.nil), (Cov.cons (t := 1) rfl (Cov.cons (t := 3) rfl Cov.nil)), HE.nil, (HE.same (id := 0) rfl HE.nil), rfl⟩
  try simp at hc26
  refine x4x x6x (by rfl) ?_
  refine x2x rfl ?_
  refine y0y ⟨.inr rfl, ?_⟩
  clear hK24 K24 hK21 K21
  refine y8y rfl ?_ rfl
  exact congrArg (fun b : Bool => [AV.pv (.bool b)]) (a6d (fun h => by obtain ⟨⟨q1, q2, q3, q4, q5, q6, q7, q8, q9⟩, q0⟩ := h; have := q0 _ _ _ hp hl; omega))
end
section
theorem b6w (c c' : Bool) (l : La) (s : List Ev) : s8s Tryz.prog 250 [.agg (a1q c l), a1n c' s] (.pv (.bool (kb (a8f l s)))) := by
 refine z1z x6x (fn := Tryz.f250) (by kernel_rfl) (by kernel_rfl) rfl (outs := [.pv (.bool (kb (a8f l s)))]) (by rfl) (Nat.le_of_ble_eq_true rfl) 1 ?_
 refine x4x x6x (by rfl) ?_
 refine v1v (id := 0) rfl rfl rfl ?_
 refine x2x rfl ?_
 refine x5x fun K1 hK1 => ?_
 refine x4x x6x (by rfl) ?_
 refine x1x rfl ?_
 refine y9y rfl rfl rfl (a2p ..) ?_
 refine y9y rfl rfl rfl (a2o ..) ?_
 refine w3w rfl ?_
 refine x8x rfl (fun hc2 => ?_) (fun hc2 => ?_)
 ·try simp at hc2
  try have hX : ¬ a6c okE a1g s 100 = true := by simpa using hc2
  refine x4x x6x (by rfl) ?_
  refine x2x rfl ?_
  refine y0y ⟨.inr rfl, ?_⟩
  clear hK1 K1
  refine y8y rfl ?_ rfl
  exact congrArg (fun b : Bool => [AV.pv (.bool b)]) (a6d (fun h => hX h.1))
 try simp at hc2
 have hA : a6c okE a1g s 100 = true := by exact hc2
 refine x9x ?_
 refine hK1 _ _ ?_
 clear hK1 K1
 refine x5x fun K3 hK3 => ?_
 refine x4x x6x (by rfl) ?_
 refine x2x rfl ?_
 refine y7y ?_
 refine w7w 1 rfl fun hlen => ?_
 refine u5u (ι := Nat) (fun i γ1 => [(5, .pv (.int .i64 (i : Int)))]) (fun i γ1 => []) (fun i => i ≤ s.length ∧ c5t s (fun _ e => e.to = l.proc) i) (fun i => s.length - i) (Cov.cons (t := 1) rfl (Cov.cons (t := 2) rfl Cov.nil)) (HE.same (id := 0) rfl HE.nil) 0 ⟨by omega, a3g⟩ [] (Cov.cons (t := 5) rfl Cov.nil) HE.nil rfl fun i γ1 hi => ?_
 try dsimp only [List.cons_append, List.nil_append]
 obtain ⟨h1, h2⟩ := hi
 refine x5x fun K4 hK4 => ?_
 refine x4x x6x (by rfl) ?_
 refine x1x rfl ?_
 refine x1x rfl ?_
 refine u0u rfl u7u rfl ?_
 refine y1y rfl rfl rfl ?_
 refine x8x rfl (fun hc5 => ?_) (fun hc5 => ?_)
 rotate_left
 ·try simp at hc5
  have hall := a5p h2 (by omega)
  refine v0v ?_
  refine hK3 _ _ ?_
  clear hK4 K4 hK3 K3
  refine x4x x6x (by rfl) ?_
  refine x2x rfl ?_
  refine y0y ⟨.inr rfl, ?_⟩
  refine y8y rfl ?_ rfl
  exact congrArg (fun b : Bool => [AV.pv (.bool b)]) (d1s ⟨hA, fun e he => by obtain ⟨i, hi⟩ := List.getElem?_of_mem he; exact hall i e hi⟩)
 try simp at hc5
 obtain ⟨e, he⟩ : ∃ e, s[i]? = some e := ⟨_, List.getElem?_eq_getElem (by omega)⟩
 refine x9x ?_
 refine hK4 _ _ ?_
 clear hK4 K4
 refine x5x fun K6 hK6 => ?_
 refine y7y ?_
 refine q7q x6x r4r (by rfl) ?_
 refine x1x rfl ?_
 refine x1x rfl ?_
 refine z7z rfl rfl u7u rfl z3z rfl he ?_
 refine x0x rfl z3z rfl rfl y6y rfl rfl ?_
 refine z4z rfl y6y rfl ?_
 refine x0x rfl v4v rfl rfl y6y rfl rfl ?_
 refine x3x rfl y6y rfl rfl ?_
 refine y1y rfl rfl rfl ?_
 refine ⟨by kernel_rfl, ?_⟩
 refine x8x rfl (fun hc7 => ?_) (fun hc7 => ?_)
 rotate_left
 ·try simp at hc7
  have hto : e.to = l.proc := by omega
  refine x9x ?_
  refine hK6 _ _ ?_
  clear hK6 K6
  refine y3y x6x (by rfl) ?_
  refine x1x rfl ?_
  refine z9z (b := 1) rfl rfl (by omega) ?_
  refine x2x rfl ?_
  exact ⟨i + 1, ⟨⟨by omega, a3h h2 he (by exact hto)⟩, by omega⟩, [], (Cov.cons (t := 5) rfl Cov.nil), (Cov.cons (t := 1) rfl (Cov.cons (t := 2) rfl Cov.nil)), HE.nil, (HE.same (id := 0) rfl HE.nil), rfl⟩
 try simp at hc7
 have hX : ¬ e.to = l.proc := by omega
 refine x4x x6x (by rfl) ?_
 refine x2x rfl ?_
 refine y0y ⟨.inr rfl, ?_⟩
 clear hK6 K6 hK3 K3
 refine y8y rfl ?_ rfl
 exact congrArg (fun b : Bool => [AV.pv (.bool b)]) (a6d (fun h => hX (h.2 e (List.mem_of_getElem? he))))
theorem b5s (c c' : Bool) (l : La) (s : List Ev) : s8s Tryz.prog 221 [.agg (a1q c l), a1n c' s] (.tup [.agg (v6v (b6f l s).1), .pv (.bool (b6f l s).2)]) := by
 refine z1z x6x (fn := Tryz.f221) (by kernel_rfl) (by kernel_rfl) rfl (outs := [.agg (v6v (b6f l s).1), .pv (.bool (b6f l s).2)]) (by rfl) (Nat.le_of_ble_eq_true rfl) 2 ?_
 have hsm := b8v l.done s
 refine x4x x6x (by rfl) ?_
 refine v1v (id := 0) rfl rfl rfl ?_
 refine u8u (id := 1) z3z a7c rfl ?_
 refine x2x rfl ?_
 refine x5x fun K1 hK1 => ?_
 refine x4x x6x (by rfl) ?_
 refine y4y rfl v4v rfl rfl rfl ?_
 refine y9y rfl rfl rfl (b1s ..) ?_
 refine w3w rfl ?_
 refine x1x rfl ?_
 refine s1s rfl rfl (fun hg2 => ?_) (fun hg2 => ?_)
 rotate_left
 ·try simp at hg2
  have fX : ¬ (a7u l = true ∧ a8f l s) := fun h => by have := h.1; simp_all
  refine x7x rfl rfl ?_
  refine x7x rfl rfl ?_
  refine x7x rfl rfl ?_
  refine z0z rfl rfl ?_
  refine x8x rfl (fun hc8 => ?_) (fun hc8 => ?_)
  rotate_left
  ·simp at hc8
  try simp at hc8
  have fX : ¬ (a7u l = true ∧ a8f l s) := by exact fX
  refine x4x x6x (by rfl) ?_
  refine q8q z3z rfl a7c rfl (by simp only [pI, a0f, p4p, AV.okc, AV.one, T3, T4, List.getElem?_cons_zero, List.getElem?_cons_succ, List.take_succ_cons, List.take_zero, List.drop_succ_cons, List.drop_zero, List.cons_append, List.nil_append, List.length_cons, List.length_nil, if_true, and_self, Nat.reduceAdd, Nat.reduceLeDiff]; rfl) ?_
  refine z5z rfl rfl z3z rfl rfl rfl rfl ?_
  refine x2x rfl ?_
  refine y0y ⟨.inr rfl, ?_⟩
  clear hK1 K1
  (rw [c8r fX]; exact ⟨_, _, rfl, .agg rfl (.cl rfl (.cl rfl (.cl rfl (.cl rfl (.cl rfl (.cl rfl (.cl rfl .nil))))))) (.cl rfl .nil)⟩)
 try simp at hg2
 have fL : a7u l = true := by exact hg2
 refine y4y rfl v4v rfl rfl rfl ?_
 refine y5y rfl rfl ?_
 refine x1x rfl ?_
 refine y5y rfl rfl ?_
 refine y9y rfl rfl rfl (b6w ..) ?_
 refine y5y rfl rfl ?_
 refine w3w rfl ?_
 refine y2y rfl rfl ?_
 refine x8x rfl (fun hc3 => ?_) (fun hc3 => ?_)
 ·try simp at hc3
  have fX : ¬ (a7u l = true ∧ a8f l s) := by exact fun h => a5n (by simpa using hc3) h.2
  refine x4x x6x (by rfl) ?_
  refine q8q z3z rfl a7c rfl (by simp only [pI, a0f, p4p, AV.okc, AV.one, T3, T4, List.getElem?_cons_zero, List.getElem?_cons_succ, List.take_succ_cons, List.take_zero, List.drop_succ_cons, List.drop_zero, List.cons_append, List.nil_append, List.length_cons, List.length_nil, if_true, and_self, Nat.reduceAdd, Nat.reduceLeDiff]; rfl) ?_
  refine z5z rfl rfl z3z rfl rfl rfl rfl ?_
  refine x2x rfl ?_
  refine y0y ⟨.inr rfl, ?_⟩
  clear hK1 K1
  (rw [c8r fX]; exact ⟨_, _, rfl, .agg rfl (.cl rfl (.cl rfl (.cl rfl (.cl rfl (.cl rfl (.cl rfl (.cl rfl .nil))))))) (.cl rfl .nil)⟩)
 try simp at hc3
 have fF : a7u l = true ∧ a8f l s := ⟨fL, b2x.1 (by simpa using hc3)⟩
 refine x9x ?_
 refine hK1 _ _ ?_
 clear hK1 K1
 refine x4x x6x (by rfl) ?_
 refine y4y rfl v4v rfl rfl rfl ?_
 refine x1x rfl ?_
 refine y9y rfl rfl rfl (a9o ..) ?_
 refine x2x rfl ?_
 refine x5x fun K4 hK4 => ?_
 refine w7w 1 rfl fun hlen => ?_
 refine x4x x6x (by rfl) ?_
 refine x1x rfl ?_
 refine x0x rfl v4v rfl rfl v9v rfl rfl ?_
 refine x3x rfl v9v rfl rfl ?_
 refine u0u rfl v9v rfl ?_
 refine y1y rfl rfl rfl ?_
 refine x1x rfl ?_
 refine s1s rfl rfl (fun hg5 => ?_) (fun hg5 => ?_)
 rotate_left
 ·try simp at hg5
  refine x7x rfl rfl ?_
  refine x7x rfl rfl ?_
  refine x7x rfl rfl ?_
  refine z0z rfl rfl ?_
  refine x8x rfl (fun hc7 => ?_) (fun hc7 => ?_)
  rotate_left
  ·simp at hc7
  try simp at hc7
  refine x4x x6x (by rfl) ?_
  refine q8q z3z rfl a7c rfl (by simp only [pI, a0f, p4p, AV.okc, AV.one, T3, T4, List.getElem?_cons_zero, List.getElem?_cons_succ, List.take_succ_cons, List.take_zero, List.drop_succ_cons, List.drop_zero, List.cons_append, List.nil_append, List.length_cons, List.length_nil, if_true, and_self, Nat.reduceAdd, Nat.reduceLeDiff]; rfl) ?_
  refine z5z rfl rfl z3z rfl rfl rfl rfl ?_
  refine x2x rfl ?_
  refine y0y ⟨.inr rfl, ?_⟩
  clear hK4 K4
  (rw [b8w fF, c8o (by omega)]; exact ⟨_, _, rfl, .agg rfl (.cl rfl (.cl rfl (.cl rfl (.cl rfl (.cl rfl (.cl rfl (.cl rfl .nil))))))) (.cl rfl .nil)⟩)
 try simp at hg5
 refine x1x rfl ?_
 refine y5y rfl rfl ?_
 refine x1x rfl ?_
 refine y5y rfl rfl ?_
 refine u0u rfl u7u rfl ?_
 refine y5y rfl rfl ?_
 refine y1y rfl rfl rfl ?_
 refine y2y rfl rfl ?_
 refine x8x rfl (fun hc6 => ?_) (fun hc6 => ?_)
 ·try simp at hc6
  refine x4x x6x (by rfl) ?_
  refine q8q z3z rfl a7c rfl (by simp only [pI, a0f, p4p, AV.okc, AV.one, T3, T4, List.getElem?_cons_zero, List.getElem?_cons_succ, List.take_succ_cons, List.take_zero, List.drop_succ_cons, List.drop_zero, List.cons_append, List.nil_append, List.length_cons, List.length_nil, if_true, and_self, Nat.reduceAdd, Nat.reduceLeDiff]; rfl) ?_
  refine z5z rfl rfl z3z rfl rfl rfl rfl ?_
  refine x2x rfl ?_
  refine y0y ⟨.inr rfl, ?_⟩
  clear hK4 K4
  (rw [b8w fF, c8p (by omega)]; exact ⟨_, _, rfl, .agg rfl (.cl rfl (.cl rfl (.cl rfl (.cl rfl (.cl rfl (.cl rfl (.cl rfl .nil))))))) (.cl rfl .nil)⟩)
 try simp at hc6
 have hlt : same l.done s < s.length := by omega
 obtain ⟨e, he⟩ : ∃ e, s[same l.done s]? = some e := ⟨_, List.getElem?_eq_getElem hlt⟩
 refine x9x ?_
 refine hK4 _ _ ?_
 clear hK4 K4
 refine x4x x6x (by rfl) ?_
 refine x1x rfl ?_
 refine x1x rfl ?_
 refine z7z rfl rfl u7u rfl z3z rfl he ?_
 refine z4z (out := .agg (v6v e)) rfl z3z rfl ?_
 refine z5z rfl rfl z3z rfl rfl rfl rfl ?_
 refine x2x rfl ?_
 refine y0y ⟨.inr rfl, ?_⟩
 (rw [b8w fF, c8q (by omega) he]; exact ⟨_, _, rfl, .agg rfl (.cl rfl (.cl rfl (.cl rfl (.cl rfl (.cl rfl (.cl rfl (.cl rfl .nil))))))) (.cl rfl .nil)⟩)
end
section
theorem b6x (c : Bool) (n : Nd) (fS : a3r n) (i : Nat) (l : La) (hl : n.lanes[i]? = some l) : s8s Tryz.prog 157 [.agg (a0t c n), .pv (.int .i64 (i : Int))] (.tup [.agg (v6v (b6f l (s9s n l.proc)).1), .pv (.bool (b6f l (s9s n l.proc)).2)]) := by
 refine z1z x6x (fn := Tryz.f157) (by kernel_rfl) (by kernel_rfl) rfl (outs := [.agg (v6v (b6f l (s9s n l.proc)).1), .pv (.bool (b6f l (s9s n l.proc)).2)]) (by rfl) (Nat.le_of_ble_eq_true rfl) 2 ?_
 have fB := a1l fS
 refine x4x x6x (by rfl) ?_
 refine v1v (id := 0) rfl rfl rfl ?_
 refine u8u (id := 1) z3z a7c rfl ?_
 refine x2x rfl ?_
 refine q7q x6x r4r (by rfl) ?_
 refine x0x rfl z8z rfl rfl w4w rfl rfl ?_
 refine x3x rfl w4w rfl rfl ?_
 refine x1x rfl ?_
 refine z7z rfl rfl w4w rfl v4v rfl hl ?_
 refine z6z rfl v4v rfl rfl ?_
 refine y4y rfl z8z rfl rfl rfl ?_
 refine x0x rfl z8z rfl rfl w4w rfl rfl ?_
 refine x3x rfl w4w rfl rfl ?_
 refine x1x rfl ?_
 refine z7z rfl rfl w4w rfl v4v rfl hl ?_
 refine x0x rfl v4v rfl rfl y6y rfl rfl ?_
 refine z4z rfl y6y rfl ?_
 refine y9y rfl rfl rfl (a5y c n l.proc (b2j fS) (by omega) fS.2.2.2.2.2.1) ?_
 refine y9y rfl rfl rfl (b5s c true l (s9s n l.proc)) ?_
 refine p2p rfl rfl ?_
 refine p2p rfl rfl ?_
 refine z5z rfl rfl z3z rfl rfl rfl rfl ?_
 refine x2x rfl ?_
 refine ⟨by kernel_rfl, ?_⟩
 refine y0y ⟨.inr rfl, ?_⟩
 exact ⟨_, _, rfl, .agg rfl (.cl rfl (.cl rfl (.cl rfl (.cl rfl (.cl rfl (.cl rfl (.cl rfl .nil))))))) (.cl rfl .nil)⟩
theorem b6y (c : Bool) (n : Nd) : s8s Tryz.prog 67 [.agg (a0t c n)] (.pv (.int .i64 (b2l n))) := by
 refine z1z x6x (fn := Tryz.f67) (by kernel_rfl) (by kernel_rfl) rfl (outs := [.pv (.int .i64 (b2l n))]) (by rfl) (Nat.le_of_ble_eq_true rfl) 2 ?_
 refine x4x x6x (by rfl) ?_
 refine v1v (id := 0) rfl rfl rfl ?_
 refine x2x rfl ?_
 refine x4x x6x (by rfl) ?_
 refine x2x rfl ?_
 refine x5x fun K1 hK1 => ?_
 refine x4x x6x (by rfl) ?_
 refine y4y rfl z8z rfl rfl rfl ?_
 refine y9y rfl rfl rfl (b1v ..) ?_
 refine w3w rfl ?_
 refine x8x rfl (fun hc2 => ?_) (fun hc2 => ?_)
 ·try simp at hc2
  have fX : ¬ a1t n := a5n (by simpa using hc2)
  refine x4x x6x (by rfl) ?_
  refine x2x rfl ?_
  refine y0y ⟨.inr rfl, ?_⟩
  clear hK1 K1
  refine y8y rfl ?_ rfl
  exact congrArg (fun v : Int => [AV.pv (.int .i64 v)]) (c8t fX).symm
 try simp at hc2
 have fK : a1t n := b2x.1 (by simpa using hc2)
 have fS := fK.1
 have fB := a1l fS
 refine x9x ?_
 refine hK1 _ _ ?_
 clear hK1 K1
 refine x5x fun K3 hK3 => ?_
 refine x4x x6x (by rfl) ?_
 refine x2x rfl ?_
 refine y7y ?_
 refine u5u (ι := Nat) (fun i γ1 => [(3, .pv (.int .i64 (a7f n i))), (4, .pv (.int .i64 (i : Int)))]) (fun i γ1 => [(1, ((γ1 1), .dead))]) (fun i => i ≤ n.lanes.length) (fun i => n.lanes.length - i) (Cov.cons (t := 1) rfl Cov.nil) (HE.same (id := 0) rfl HE.nil) 0 (by omega) [0, _] (Cov.cons (t := 3) rfl (Cov.cons (t := 4) rfl Cov.nil)) (HE.kill rfl HE.nil) rfl fun i γ1 hi => ?_
 try dsimp only [List.cons_append, List.nil_append]
 refine x5x fun K4 hK4 => ?_
 refine x4x x6x (by rfl) ?_
 refine x1x rfl ?_
 refine x0x rfl z8z rfl rfl w4w rfl rfl ?_
 refine x3x rfl w4w rfl rfl ?_
 refine u0u rfl w4w rfl ?_
 refine y1y rfl rfl rfl ?_
 refine x8x rfl (fun hc5 => ?_) (fun hc5 => ?_)
 rotate_left
 ·try simp at hc5
  obtain rfl : i = n.lanes.length := by omega
  refine v0v ?_
  refine hK3 _ _ ?_
  clear hK4 K4 hK3 K3
  refine x4x x6x (by rfl) ?_
  refine x1x rfl ?_
  refine x2x rfl ?_
  refine y0y ⟨.inr rfl, ?_⟩
  refine y8y rfl ?_ rfl
  exact congrArg (fun v : Int => [AV.pv (.int .i64 v)]) (c1n fK).symm
 try simp at hc5
 obtain ⟨l, hl⟩ : ∃ l, n.lanes[i]? = some l := ⟨_, List.getElem?_eq_getElem (by omega)⟩
 have hnc := c1o fK hl
 refine x9x ?_
 refine hK4 _ _ ?_
 clear hK4 K4
 refine x5x fun K6 hK6 => ?_
 refine y7y ?_
 refine x4x x6x (by rfl) ?_
 refine y4y rfl z8z rfl rfl rfl ?_
 refine x1x rfl ?_
 refine y9y rfl rfl rfl (b6x c n fS i l hl) ?_
 refine x1x rfl ?_
 refine p2p rfl rfl ?_
 refine p2p rfl rfl ?_
 refine u8u (id := 1) z3z a7c rfl ?_
 refine z5z rfl rfl z3z rfl rfl rfl rfl ?_
 refine x2x rfl ?_
 rw [b8w ⟨hnc.2.1, hnc.2.2.1⟩]
 refine x4x x6x (by rfl) ?_
 refine x1x rfl ?_
 refine x1x rfl ?_
 refine s1s rfl rfl (fun hg7 => ?_) (fun hg7 => ?_)
 rotate_left
 ·try simp at hg7
  have hno : ¬ ((a1m l (s9s n l.proc)).2 = true ∧ (a1m l (s9s n l.proc)).1.time < a7f n i) := fun h => by have := h.1; simp_all
  refine x7x rfl rfl ?_
  refine x7x rfl rfl ?_
  refine x7x rfl rfl ?_
  refine y2y rfl rfl ?_
  refine x8x rfl (fun hc9 => ?_) (fun hc9 => ?_)
  ·simp at hc9
  try simp at hc9
  have hno : ¬ ((a1m l (s9s n l.proc)).2 = true ∧ (a1m l (s9s n l.proc)).1.time < a7f n i) := by exact hno
  refine x9x ?_
  refine hK6 _ _ ?_
  clear hK6 K6
  refine y3y x6x (by rfl) ?_
  refine x1x rfl ?_
  refine z9z (b := 1) rfl rfl (by omega) ?_
  refine x2x rfl ?_
  exact ⟨i + 1, ⟨by omega, by omega⟩, [0, _], (Cov.cons' (t := 3) rfl (by exact congrArg (fun v : Int => AV.pv (.int .i64 v)) (b8x hl hno).symm) (Cov.cons (t := 4) rfl Cov.nil)), (Cov.cons (t := 1) rfl Cov.nil), (HE.kill rfl HE.nil), (HE.same (id := 0) rfl HE.nil), rfl⟩
 try simp at hg7
 have h2 : (a1m l (s9s n l.proc)).2 = true := by exact hg7
 refine x0x rfl z3z rfl rfl y6y rfl rfl ?_
 refine y5y rfl rfl ?_
 refine x3x rfl y6y rfl rfl ?_
 refine y5y rfl rfl ?_
 refine x1x rfl ?_
 refine y5y rfl rfl ?_
 refine y1y rfl rfl rfl ?_
 refine z0z rfl rfl ?_
 refine x8x rfl (fun hc8 => ?_) (fun hc8 => ?_)
 rotate_left
 ·try simp at hc8
  have hno : ¬ ((a1m l (s9s n l.proc)).2 = true ∧ (a1m l (s9s n l.proc)).1.time < a7f n i) := by (intro h; omega)
  refine x9x ?_
  refine hK6 _ _ ?_
  clear hK6 K6
  refine y3y x6x (by rfl) ?_
  refine x1x rfl ?_
  refine z9z (b := 1) rfl rfl (by omega) ?_
  refine x2x rfl ?_
  exact ⟨i + 1, ⟨by omega, by omega⟩, [0, _], (Cov.cons' (t := 3) rfl (by exact congrArg (fun v : Int => AV.pv (.int .i64 v)) (b8x hl hno).symm) (Cov.cons (t := 4) rfl Cov.nil)), (Cov.cons (t := 1) rfl Cov.nil), (HE.kill rfl HE.nil), (HE.same (id := 0) rfl HE.nil), rfl⟩
 try simp at hc8
 have h3 : (a1m l (s9s n l.proc)).1.time < a7f n i := by omega
 refine y3y x6x (by rfl) ?_
 refine x0x rfl z3z rfl rfl y6y rfl rfl ?_
 refine x3x rfl y6y rfl rfl ?_
 refine x2x rfl ?_
 refine hK6 _ _ ?_
 clear hK6 K6
 refine y3y x6x (by rfl) ?_
 refine x1x rfl ?_
 refine z9z (b := 1) rfl rfl (by omega) ?_
 refine x2x rfl ?_
 exact ⟨i + 1, ⟨by omega, by omega⟩, [0, _], (Cov.cons' (t := 3) rfl (by exact congrArg (fun v : Int => AV.pv (.int .i64 v)) (c8s hl ⟨h2, h3⟩).symm) (Cov.cons (t := 4) rfl Cov.nil)), (Cov.cons (t := 1) rfl Cov.nil), (HE.kill rfl HE.nil), (HE.same (id := 0) rfl HE.nil), rfl⟩
end
section
set_option maxHeartbeats 1000000 in
theorem b2q (c : Bool) (n : Nd) (r : Int) : s8s Tryz.prog 34 [.agg (a0t c n), .pv (.int .i64 r)] (.tup [.agg (a0t true (z2z n r).1), .agg (b6g true (z2z n r).2.1), .pv (.bool (z2z n r).2.2)]) := by
 refine z1z x6x (fn := Tryz.f34) (by kernel_rfl) (by kernel_rfl) rfl (outs := [.agg (a0t true (z2z n r).1), .agg (b6g true (z2z n r).2.1), .pv (.bool (z2z n r).2.2)]) (by rfl) (Nat.le_of_ble_eq_true rfl) 14 ?_
 refine x4x x6x (by rfl) ?_
 refine v1v (id := 0) rfl rfl rfl ?_
 refine u8u (id := 1) z8z a7q rfl ?_
 refine u8u (id := 2) r0r a9t rfl ?_
 refine x2x rfl ?_
 refine x5x fun K1 hK1 => ?_
 refine x4x x6x (by rfl) ?_
 refine y4y rfl z8z rfl rfl rfl ?_
 refine y9y rfl rfl rfl (b1v ..) ?_
 refine w3w rfl ?_
 refine x8x rfl (fun hc2 => ?_) (fun hc2 => ?_)
 ·try simp at hc2
  have fX : ¬ a1t n := a5n (by simpa using hc2)
  refine x4x x6x (by rfl) ?_
  refine q8q z8z rfl a7q rfl (by simp only [pI, y6y, T3, b5u, T4, v7v, T22, w4w, T23, u7u, T24, w6w, T25, p1p, T26, a0f, p4p, AV.okc, AV.one, Value.oneCell', List.map_cons, List.map_nil, List.getElem?_cons_zero, List.getElem?_cons_succ, List.take_succ_cons, List.take_zero, List.drop_succ_cons, List.drop_zero, List.cons_append, List.nil_append, List.length_cons, List.length_nil, if_true, and_self, Nat.reduceAdd, Nat.reduceLeDiff]; rfl) ?_
  refine q8q r0r rfl a9t rfl (by simp only [pI, y6y, T3, v7v, T22, u7u, T24, w6w, T25, a0f, p4p, AV.okc, AV.one, Value.oneCell', List.map_cons, List.map_nil, List.getElem?_cons_zero, List.getElem?_cons_succ, List.take_succ_cons, List.take_zero, List.drop_succ_cons, List.drop_zero, List.cons_append, List.nil_append, List.length_cons, List.length_nil, if_true, and_self, Nat.reduceAdd, Nat.reduceLeDiff]; rfl) ?_
  refine z5z rfl rfl z8z rfl rfl rfl rfl ?_
  refine z5z rfl rfl r0r rfl rfl rfl rfl ?_
  refine x2x rfl ?_
  refine y0y ⟨.inr rfl, ?_⟩
  clear hK1 K1
  (rw [c4n fX]; exact ⟨_, _, rfl, d3n (c3a (.cl rfl .nil))⟩)
 try simp at hc2
 have fK : a1t n := b2x.1 (by simpa using hc2)
 have fS := fK.1
 have fB := a1l fS
 have fV := fS.2.2.2.2.2.1
 have fb := d4z fS
 refine x9x ?_
 refine hK1 _ _ ?_
 clear hK1 K1
 refine x4x x6x (by rfl) ?_
 refine y4y rfl z8z rfl rfl rfl ?_
 refine v5v [9, 10, 11] [_, _, _] (b3n c n fb) rfl rfl rfl (by decide) rfl rfl (by repeat (first | exact InH.nil | refine InH.cons rfl ?_)) (by (simp only [pI, List.map_cons, List.map_nil, u1u, u2u, gl, nx, q4q, Nat.beq, Nat.add_eq, List.getD_cons_zero, List.getD_cons_succ, List.getD_nil, Bool.or_false, Bool.false_or, Bool.true_or, Bool.or_true, Nat.add_zero, Nat.zero_add]; rfl)) (by (simp only [pI, List.map_cons, List.map_nil, u1u, u2u, gl, nx, q4q, Nat.beq, Nat.add_eq, List.getD_cons_zero, List.getD_cons_succ, List.getD_nil, Bool.or_false, Bool.false_or, Bool.true_or, Bool.or_true, Nat.add_zero, Nat.zero_add]; rfl)) ?_
 refine u8u (id := 3) z8z a7q rfl ?_
 refine z5z rfl rfl z8z rfl rfl rfl rfl ?_
 refine x5x fun K3 hK3 => ?_
 refine q7q x6x r4r (by rfl) ?_
 refine x0x rfl z8z rfl rfl b5u rfl rfl ?_
 refine x3x rfl b5u rfl rfl ?_
 refine w3w rfl ?_
 refine x1x rfl ?_
 refine s1s rfl rfl (fun hg4 => ?_) (fun hg4 => ?_)
 rotate_left
 ·try simp at hg4
  have fU : ¬ (n.up = true ∧ n.round + 1 ≤ r ∧ r ≤ 9999) := fun h => by have := h.1; simp_all
  refine x7x rfl rfl ?_
  refine x7x rfl rfl ?_
  refine x7x rfl rfl ?_
  refine x7x rfl rfl ?_
  refine x7x rfl rfl ?_
  refine x7x rfl rfl ?_
  refine z0z rfl rfl ?_
  refine ⟨by kernel_rfl, ?_⟩
  refine x8x rfl (fun hc10 => ?_) (fun hc10 => ?_)
  rotate_left
  ·simp at hc10
  try simp at hc10
  have fU : ¬ (n.up = true ∧ n.round + 1 ≤ r ∧ r ≤ 9999) := by exact fU
  refine x4x x6x (by rfl) ?_
  refine y4y rfl z8z rfl rfl rfl ?_
  refine q8q r0r rfl a9t rfl (by simp only [pI, y6y, T3, v7v, T22, u7u, T24, w6w, T25, a0f, p4p, AV.okc, AV.one, Value.oneCell', List.map_cons, List.map_nil, List.getElem?_cons_zero, List.getElem?_cons_succ, List.take_succ_cons, List.take_zero, List.drop_succ_cons, List.drop_zero, List.cons_append, List.nil_append, List.length_cons, List.length_nil, if_true, and_self, Nat.reduceAdd, Nat.reduceLeDiff]; rfl) ?_
  refine z5z rfl rfl z8z rfl rfl rfl rfl ?_
  refine z5z rfl rfl r0r rfl rfl rfl rfl ?_
  refine x2x rfl ?_
  refine y0y ⟨.inr rfl, ?_⟩
  clear hK3 K3
  (rw [b3u fK fU]; exact ⟨_, _, rfl, c9a rfl rfl rfl (c3a (.cl rfl .nil))⟩)
 try simp at hg4
 have fUp : n.up = true := by exact hg4
 refine x1x rfl ?_
 refine y5y rfl rfl ?_
 refine x0x rfl z8z rfl rfl y6y rfl rfl ?_
 refine y5y rfl rfl ?_
 refine x3x rfl y6y rfl rfl ?_
 refine y5y rfl rfl ?_
 refine a1j (.int .i64 (n.round + 1)) rfl rfl rfl (a7z rfl rfl (by have := fS.1.2.2.2.2.2.1; omega) (by have := fS.1.2.2.2.2.2.1; omega)) ?_
 refine y5y rfl rfl ?_
 refine y9y rfl rfl rfl (a0o ..) ?_
 refine y5y rfl rfl ?_
 refine y9y rfl rfl rfl (p7p ..) ?_
 refine y5y rfl rfl ?_
 refine w3w rfl ?_
 refine y2y rfl rfl ?_
 refine ⟨by kernel_rfl, ?_⟩
 refine x8x rfl (fun hc5 => ?_) (fun hc5 => ?_)
 ·try simp at hc5
  have fU : ¬ (n.up = true ∧ n.round + 1 ≤ r ∧ r ≤ 9999) := by (intro h; omega)
  refine x4x x6x (by rfl) ?_
  refine y4y rfl z8z rfl rfl rfl ?_
  refine q8q r0r rfl a9t rfl (by simp only [pI, y6y, T3, v7v, T22, u7u, T24, w6w, T25, a0f, p4p, AV.okc, AV.one, Value.oneCell', List.map_cons, List.map_nil, List.getElem?_cons_zero, List.getElem?_cons_succ, List.take_succ_cons, List.take_zero, List.drop_succ_cons, List.drop_zero, List.cons_append, List.nil_append, List.length_cons, List.length_nil, if_true, and_self, Nat.reduceAdd, Nat.reduceLeDiff]; rfl) ?_
  refine z5z rfl rfl z8z rfl rfl rfl rfl ?_
  refine z5z rfl rfl r0r rfl rfl rfl rfl ?_
  refine x2x rfl ?_
  refine y0y ⟨.inr rfl, ?_⟩
  clear hK3 K3
  (rw [b3u fK fU]; exact ⟨_, _, rfl, c9a rfl rfl rfl (c3a (.cl rfl .nil))⟩)
 try simp at hc5
 have fU : n.up = true ∧ n.round + 1 ≤ r ∧ r ≤ 9999 := ⟨fUp, by omega⟩
 refine x9x ?_
 refine hK3 _ _ ?_
 clear hK3 K3
 refine x4x x6x (by rfl) ?_
 refine x1x rfl ?_
 refine x0x rfl z8z rfl rfl y6y rfl rfl ?_
 refine u4u rfl rfl y6y rfl rfl rfl rfl rfl (by simp only [List.set_cons_zero, List.set_cons_succ]; rfl) ?_
 refine x4x x6x (by rfl) ?_
 refine x0x rfl z8z rfl rfl y6y rfl rfl ?_
 refine u4u rfl rfl y6y rfl rfl rfl rfl rfl (by simp only [List.set_cons_zero, List.set_cons_succ]; rfl) ?_
 refine q7q x6x r4r (by rfl) ?_
 refine x0x rfl z8z rfl rfl y6y rfl rfl ?_
 refine x3x rfl y6y rfl rfl ?_
 refine x0x rfl z8z rfl rfl y6y rfl rfl ?_
 refine x3x rfl y6y rfl rfl ?_
 refine x1x rfl ?_
 refine y4y rfl z8z rfl rfl rfl ?_
 refine y9y rfl rfl rfl (b6y ..) ?_
 refine q8q r0r rfl a9t rfl (by simp only [pI, y6y, T3, v7v, T22, u7u, T24, w6w, T25, a0f, p4p, AV.okc, AV.one, Value.oneCell', List.map_cons, List.map_nil, List.getElem?_cons_zero, List.getElem?_cons_succ, List.take_succ_cons, List.take_zero, List.drop_succ_cons, List.drop_zero, List.cons_append, List.nil_append, List.length_cons, List.length_nil, if_true, and_self, Nat.reduceAdd, Nat.reduceLeDiff]; rfl) ?_
 refine u8u (id := 4) r0r a9t rfl ?_
 refine z5z rfl rfl r0r rfl rfl rfl rfl ?_
 refine ⟨by kernel_rfl, ?_⟩
 refine x5x fun K6 hK6 => ?_
 refine x4x x6x (by rfl) ?_
 refine x2x rfl ?_
 refine y7y ?_
 refine r6r 4 7 12 3 1 rfl rfl rfl rfl rfl ?_
 refine r6r 4 8 13 3 1 rfl rfl rfl rfl rfl ?_
 refine u5u (ι := Nat) (fun i γ1 => [(9, .pv (.int .i64 (i : Int)))]) (fun i γ1 => [(12, ((γ1 12), .row 3 1 (((n.views.take i).map Vi.inc).map a0x))), (13, ((γ1 13), .row 3 1 (((n.views.take i).map Vi.version).map a0x))), (4, ((0 + 1), .box 52 [pI 3, pI n.id, pI 0, pI n.inc, pI 0, pI r, pI (b2l n), .ref 12 (γ1 12), .ref 13 (γ1 13), .pv (.slice none 0 0), .pv (.slice none 0 0)])), (5, ((γ1 5), .dead)), (6, ((γ1 6), .dead)), (7, ((γ1 7), .dead)), (8, ((γ1 8), .dead))]) (fun i => i ≤ 3) (fun i => 3 - i) (Cov.cons (t := 2) rfl (Cov.cons (t := 4) rfl (Cov.cons (t := 5) rfl (Cov.cons (t := 7) rfl (Cov.cons (t := 8) rfl Cov.nil))))) (HE.same (id := 0) rfl (HE.same (id := 1) rfl (HE.same (id := 2) rfl (HE.same (id := 3) rfl (HE.same (id := 9) rfl (HE.same (id := 10) rfl (HE.same (id := 11) rfl HE.nil))))))) 0 (by omega) [0, 0, 0, 0, 0, _, _, _, _, 0, 0, 0, _, _] (Cov.cons (t := 9) rfl Cov.nil) (HE.row rfl (by rw [List.take_zero]; rfl) (HE.row rfl (by rw [List.take_zero]; rfl) (HE.box rfl rfl (HE.kill rfl (HE.kill rfl (HE.kill rfl (HE.kill rfl HE.nil))))))) rfl fun i γ1 hi => ?_
 try dsimp only [List.cons_append, List.nil_append]
 refine x5x fun K7 hK7 => ?_
 refine x4x x6x (by rfl) ?_
 refine x1x rfl ?_
 refine y1y rfl rfl rfl ?_
 refine x8x rfl (fun hc8 => ?_) (fun hc8 => ?_)
 rotate_left
 ·try simp at hc8
  obtain rfl : i = n.views.length := by omega
  rw [List.take_length]
  refine v0v ?_
  refine hK6 _ _ ?_
  clear hK7 K7 hK6 K6
  refine q7q x6x r4r (by rfl) ?_
  refine y4y rfl z8z rfl rfl rfl ?_
  refine y4y rfl r0r rfl rfl rfl ?_
  refine z5z rfl rfl z8z rfl rfl rfl rfl ?_
  refine z5z rfl rfl r0r rfl rfl rfl rfl ?_
  refine x2x rfl ?_
  refine ⟨by kernel_rfl, ?_⟩
  refine y0y ⟨.inr rfl, ?_⟩
  (rw [c4o fK fU, show d5f n r = { d5f n r with g := b2l n } from by rw [c1n fK]; rfl]; exact ⟨_, _, rfl, c9a (n := { n with round := r, low := 41 }) rfl rfl rfl (.agg rfl (.cl rfl (.cl rfl (.cl rfl (.cl rfl (.cl rfl (.cl rfl (.cl rfl (.ref rfl (Le.ow_map _ (fun _ => rfl) (fun _ => rfl)) (.ref rfl (Le.ow_map _ (fun _ => rfl) (fun _ => rfl)) (.le rfl .nil (.le rfl .nil .nil))))))))))) (.cl rfl .nil))⟩)
 try simp at hc8
 obtain ⟨v, hv⟩ : ∃ v, n.views[i]? = some v := ⟨_, List.getElem?_eq_getElem (by omega)⟩
 refine x9x ?_
 refine hK7 _ _ ?_
 clear hK7 K7
 refine x5x fun K9 hK9 => ?_
 refine y7y ?_
 refine q7q x6x r4r (by rfl) ?_
 refine x0x rfl r0r rfl rfl v7v rfl rfl ?_
 refine x3x rfl v7v rfl rfl ?_
 refine x0x rfl z8z rfl rfl p1p rfl rfl ?_
 refine x3x rfl p1p rfl rfl ?_
 refine x1x rfl ?_
 refine z7z rfl rfl p1p rfl w0w rfl hv ?_
 refine x0x rfl w0w rfl rfl y6y rfl rfl ?_
 refine z4z rfl y6y rfl ?_
 refine a6k (id := 5) v7v rfl y6y rfl rfl rfl rfl rfl ?_
 refine r5r (zs := ((n.views.take i).map Vi.inc ++ [v.inc]).map a0x) rfl rfl v7v rfl y6y rfl rfl rfl rfl (by rfl) (a0c _ _ _) (by (simp only [List.length_map, List.length_append, List.length_cons, List.length_nil, List.length_take, T3]; omega)) ?_
 refine x0x rfl r0r rfl rfl v7v rfl rfl ?_
 refine u4u rfl rfl v7v rfl rfl rfl rfl rfl (by simp only [List.set_cons_zero, List.set_cons_succ]; rfl) ?_
 refine ⟨by kernel_rfl, ?_⟩
 refine a0b x6x r4r (by rfl) ?_
 refine x0x rfl r0r rfl rfl v7v rfl rfl ?_
 refine x3x rfl v7v rfl rfl ?_
 refine x0x rfl z8z rfl rfl p1p rfl rfl ?_
 refine x3x rfl p1p rfl rfl ?_
 refine x1x rfl ?_
 refine z7z rfl rfl p1p rfl w0w rfl hv ?_
 refine x0x rfl w0w rfl rfl y6y rfl rfl ?_
 refine z4z rfl y6y rfl ?_
 refine a6k (id := 7) v7v rfl y6y rfl rfl rfl rfl rfl ?_
 refine r5r (zs := ((n.views.take i).map Vi.version ++ [v.version]).map a0x) rfl rfl v7v rfl y6y rfl rfl rfl rfl (by rfl) (a0c _ _ _) (by (simp only [List.length_map, List.length_append, List.length_cons, List.length_nil, List.length_take, T3]; omega)) ?_
 refine x0x rfl r0r rfl rfl v7v rfl rfl ?_
 refine u4u rfl rfl v7v rfl rfl rfl rfl rfl (by simp only [List.set_cons_zero, List.set_cons_succ]; rfl) ?_
 refine ⟨by kernel_rfl, ?_⟩
 refine hK9 _ _ ?_
 clear hK9 K9
 refine y3y x6x (by rfl) ?_
 refine x1x rfl ?_
 refine y1y rfl rfl rfl ?_
 refine x2x rfl ?_
 exact ⟨i + 1, ⟨by omega, by omega⟩, [0, 0, 0, 0, 0, _, _, _, _, 0, 0, 0, _, _], (Cov.cons' (t := 9) rfl (by rw [v3v (by omega) (by omega)]; rfl) Cov.nil), (Cov.cons (t := 2) rfl (Cov.cons (t := 4) rfl (Cov.cons (t := 5) rfl (Cov.cons (t := 7) rfl (Cov.cons (t := 8) rfl Cov.nil))))), (HE.row rfl (by simp only [p0p hv, List.map_append, List.map_cons, List.map_nil]) (HE.row rfl (by simp only [p0p hv, List.map_append, List.map_cons, List.map_nil]) (HE.box rfl rfl (HE.kill rfl (HE.kill rfl (HE.kill rfl (HE.kill rfl HE.nil))))))), (HE.same (id := 0) rfl (HE.same (id := 1) rfl (HE.same (id := 2) rfl (HE.same (id := 3) rfl (HE.same (id := 9) rfl (HE.same (id := 10) rfl (HE.same (id := 11) rfl HE.nil))))))), rfl⟩
end
section
set_option maxHeartbeats 4000000 in
theorem a6u (n : Nd) (r : Int) : s8s Tryz.prog 7 [.agg (a0t true n), .pv (.int .i64 r)] (.pv (.bool (true))) := by
 refine z1z x6x (fn := Tryz.f7) (by kernel_rfl) (by kernel_rfl) rfl (outs := [.pv (.bool (true))]) (by rfl) (Nat.le_of_ble_eq_true rfl) 46 ?_
 refine x4x x6x (by rfl) ?_
 refine v1v (id := 0) rfl rfl rfl ?_
 refine x2x rfl ?_
 refine x4x x6x (by rfl) ?_
 refine x2x rfl ?_
 refine x4x x6x (by rfl) ?_
 refine y4y rfl a3m rfl rfl rfl ?_
 refine x1x rfl ?_
 refine y9y rfl rfl rfl (b9g true n 1048576 (by omega)) ?_
 refine x2x rfl ?_
 refine x5x fun K1 hK1 => ?_
 refine x4x x6x (by rfl) ?_
 refine x1x rfl ?_
 refine y1y rfl rfl rfl ?_
 refine x8x rfl (fun hc2 => ?_) (fun hc2 => ?_)
 ·try simp at hc2
  refine x4x x6x (by rfl) ?_
  refine x2x rfl ?_
  refine y0y ⟨.inr rfl, ?_⟩
  clear hK1 K1
  exact y8y rfl rfl rfl
 try simp at hc2
 have hs23 : cNd n ≤ 1048576 := b2g (by omega)
 have hl_n : cNd n ≤ 1048576 := by omega
 have := d1u n
 have hzA : 1 + zNd (n) ≤ 900000000 := by omega
 have hzR : 1 + zNd ((z2z n r).1) + zWl ((z2z n r).2.1) ≤ 900000000 := by (have := d1u (z2z n r).1; have := c1p n r; omega)
 refine x9x ?_
 refine hK1 _ _ ?_
 clear hK1 K1
 refine x4x x6x (by rfl) ?_
 refine y4y rfl a3m rfl rfl rfl ?_
 refine v5v [8, 9, 10, 11, 12] [_, _, _, _, _] (a4d true n hl_n) rfl rfl rfl (by decide) rfl rfl (by repeat (first | exact InH.nil | refine InH.cons rfl ?_)) (by (simp only [pI, List.map_cons, List.map_nil, u1u, u2u, gl, nx, q4q, Nat.beq, Nat.add_eq, List.getD_cons_zero, List.getD_cons_succ, List.getD_nil, Bool.or_false, Bool.false_or, Bool.true_or, Bool.or_true, Nat.add_zero, Nat.zero_add]; rfl)) (by (simp only [pI, List.map_cons, List.map_nil, u1u, u2u, gl, nx, q4q, Nat.beq, Nat.add_eq, List.getD_cons_zero, List.getD_cons_succ, List.getD_nil, Bool.or_false, Bool.false_or, Bool.true_or, Bool.or_true, Nat.add_zero, Nat.zero_add]; rfl)) ?_
 refine x1x rfl ?_
 refine a2t rfl rfl rfl (by exact a9f rfl rfl rfl rfl rfl (.cl rfl (.nil))) (b2q false n r) (by exact .tup (a0y (d0r _) (a0y (d0s _) (a0y (.pv _) d1y)))) ?_
 refine x1x rfl ?_
 refine p2p rfl rfl ?_
 refine p2p rfl rfl ?_
 refine p2p rfl rfl ?_
 refine u8u (id := 1) z8z a7q rfl ?_
 refine u8u (id := 2) r0r a9t rfl ?_
 refine z5z rfl rfl z8z rfl rfl rfl rfl ?_
 refine z5z rfl rfl r0r rfl rfl rfl rfl ?_
 refine x2x rfl ?_
 refine x4x x6x (by rfl) ?_
 refine y4y rfl a3m rfl rfl rfl ?_
 refine v5v [13, 14, 15, 16, 17] [_, _, _, _, _] (a4d true n hl_n) rfl rfl rfl (by decide) rfl rfl (by repeat (first | exact InH.nil | refine InH.cons rfl ?_)) (by (simp only [pI, List.map_cons, List.map_nil, u1u, u2u, gl, nx, q4q, Nat.beq, Nat.add_eq, List.getD_cons_zero, List.getD_cons_succ, List.getD_nil, Bool.or_false, Bool.false_or, Bool.true_or, Bool.or_true, Nat.add_zero, Nat.zero_add]; rfl)) (by (simp only [pI, List.map_cons, List.map_nil, u1u, u2u, gl, nx, q4q, Nat.beq, Nat.add_eq, List.getD_cons_zero, List.getD_cons_succ, List.getD_nil, Bool.or_false, Bool.false_or, Bool.true_or, Bool.or_true, Nat.add_zero, Nat.zero_add]; rfl)) ?_
 refine u8u (id := 3) z8z a7q rfl ?_
 refine z5z rfl rfl z8z rfl rfl rfl rfl ?_
 refine x4x x6x (by rfl) ?_
 refine y4y rfl z8z rfl rfl rfl ?_
 refine x1x rfl ?_
 refine c3y [18, 19, 20, 21, 22, 23, 24, 25, 26] [_, _, _, _, _, _, _, _, _] (a6t false n r) rfl rfl rfl (LendM.base (a9f rfl rfl rfl rfl rfl (.cl rfl (.nil)))) rfl (by decide) rfl rfl (by repeat (first | exact InH.nil | refine InH.cons rfl ?_)) (by (simp only [pI, List.map_cons, List.map_nil, u1u, u2u, gl, nx, q4q, Nat.beq, Nat.add_eq, List.getD_cons_zero, List.getD_cons_succ, List.getD_nil, Bool.or_false, Bool.false_or, Bool.true_or, Bool.or_true, Nat.add_zero, Nat.zero_add]; rfl)) (by (simp only [pI, List.map_cons, List.map_nil, u1u, u2u, gl, nx, q4q, Nat.beq, Nat.add_eq, List.getD_cons_zero, List.getD_cons_succ, List.getD_nil, Bool.or_false, Bool.false_or, Bool.true_or, Bool.or_true, Nat.add_zero, Nat.zero_add]; rfl)) rfl rfl (d1m rfl) (by repeat (first | exact StrH.nil | refine StrH.dead ?_)) (by exact d5j (d5k (.nil))) ?_
 refine x1x rfl ?_
 refine p2p rfl rfl ?_
 refine p2p rfl rfl ?_
 refine p2p rfl rfl ?_
 refine u8u (id := 4) z8z a7q rfl ?_
 refine u8u (id := 5) r0r a9t rfl ?_
 refine z5z rfl rfl z8z rfl rfl rfl rfl ?_
 refine z5z rfl rfl r0r rfl rfl rfl rfl ?_
 refine x2x rfl ?_
 refine x5x fun K3 hK3 => ?_
 refine x4x x6x (by rfl) ?_
 refine y4y rfl z8z rfl rfl rfl ?_
 refine y4y rfl z8z rfl rfl rfl ?_
 refine a2t rfl rfl rfl (by exact a9f rfl rfl rfl rfl rfl (c2z rfl rfl .nil)) (a4c false true ((z2z n r).1) ((z2z n r).1)) (by exact .pv _) ?_
 refine w3w rfl ?_
 refine x1x rfl ?_
 refine s1s rfl rfl (fun hg4 => ?_) (fun hg4 => ?_)
 rotate_left
 ·(simp at hg4; done)
 try simp at hg4
 refine y4y rfl r0r rfl rfl rfl ?_
 refine y5y rfl rfl ?_
 refine y4y rfl r0r rfl rfl rfl ?_
 refine y5y rfl rfl ?_
 refine a2t rfl rfl rfl (by exact c1q rfl rfl rfl rfl (c2z rfl rfl .nil)) (a7i false true ((z2z n r).2.1) ((z2z n r).2.1)) (by exact .pv _) ?_
 refine y5y rfl rfl ?_
 refine w3w rfl ?_
 refine y2y rfl rfl ?_
 refine x1x rfl ?_
 refine s1s rfl rfl (fun hg5 => ?_) (fun hg5 => ?_)
 rotate_left
 ·(simp at hg5; done)
 try simp at hg5
 refine x1x rfl ?_
 refine y5y rfl rfl ?_
 refine x1x rfl ?_
 refine y5y rfl rfl ?_
 refine a9v rfl rfl (by intro p q h h'; cases h; cases h'; rfl) (.inr rfl) (b3p Tryz.underlying4 _ _ _ _) ?_
 refine y2y rfl rfl ?_
 refine x8x rfl (fun hc6 => ?_) (fun hc6 => ?_)
 ·(simp at hc6; done)
 try simp at hc6
 refine x9x ?_
 refine hK3 _ _ ?_
 clear hK3 K3
 refine x5x fun K7 hK7 => ?_
 refine q7q x6x r4r (by rfl) ?_
 refine y4y rfl z8z rfl rfl rfl ?_
 refine y4y rfl a3m rfl rfl rfl ?_
 refine v5v [27, 28, 29, 30, 31] [_, _, _, _, _] (a4d true n hl_n) rfl rfl rfl (by decide) rfl rfl (by repeat (first | exact InH.nil | refine InH.cons rfl ?_)) (by (simp only [pI, List.map_cons, List.map_nil, u1u, u2u, gl, nx, q4q, Nat.beq, Nat.add_eq, List.getD_cons_zero, List.getD_cons_succ, List.getD_nil, Bool.or_false, Bool.false_or, Bool.true_or, Bool.or_true, Nat.add_zero, Nat.zero_add]; rfl)) (by (simp only [pI, List.map_cons, List.map_nil, u1u, u2u, gl, nx, q4q, Nat.beq, Nat.add_eq, List.getD_cons_zero, List.getD_cons_succ, List.getD_nil, Bool.or_false, Bool.false_or, Bool.true_or, Bool.or_true, Nat.add_zero, Nat.zero_add]; rfl)) ?_
 refine a2t rfl rfl rfl (by exact a9f rfl rfl rfl rfl rfl (a9f rfl rfl rfl rfl rfl (.nil))) (a4c false false n n) (by exact .pv _) ?_
 refine w3w rfl ?_
 refine ⟨by kernel_rfl, ?_⟩
 refine x8x rfl (fun hc8 => ?_) (fun hc8 => ?_)
 ·(simp at hc8; done)
 try simp at hc8
 refine x9x ?_
 refine hK7 _ _ ?_
 clear hK7 K7
 refine x4x x6x (by rfl) ?_
 refine x2x rfl ?_
 refine x4x x6x (by rfl) ?_
 refine y4y rfl z8z rfl rfl rfl ?_
 refine x1x rfl ?_
 refine v5v [13, 14, 15, 16, 17] [_, _, _, _, _] (a8g (n) (1) (by omega)) rfl rfl rfl (by decide) rfl rfl (by repeat (first | exact InH.nil | refine InH.cons rfl ?_)) (by (simp only [pI, List.map_cons, List.map_nil, u1u, u2u, gl, nx, q4q, Nat.beq, Nat.add_eq, List.getD_cons_zero, List.getD_cons_succ, List.getD_nil, Bool.or_false, Bool.false_or, Bool.true_or, Bool.or_true, Nat.add_zero, Nat.zero_add]; rfl)) (by (simp only [pI, List.map_cons, List.map_nil, u1u, u2u, gl, nx, q4q, Nat.beq, Nat.add_eq, List.getD_cons_zero, List.getD_cons_succ, List.getD_nil, Bool.or_false, Bool.false_or, Bool.true_or, Bool.or_true, Nat.add_zero, Nat.zero_add]; rfl)) ?_
 refine x2x rfl ?_
 refine x5x fun K9 hK9 => ?_
 refine x4x x6x (by rfl) ?_
 refine x1x rfl ?_
 refine y1y rfl rfl rfl ?_
 refine x1x rfl ?_
 refine s1s rfl rfl (fun hg10 => ?_) (fun hg10 => ?_)
 rotate_left
 ·(simp at hg10; omega)
 try simp at hg10
 refine y4y rfl z8z rfl rfl rfl ?_
 refine y5y rfl rfl ?_
 refine y4y rfl z8z rfl rfl rfl ?_
 refine y5y rfl rfl ?_
 refine a2t rfl rfl rfl (by exact a9f rfl rfl rfl rfl rfl (c2z rfl rfl .nil)) (a4c false true ((z2z n r).1) ((z2z n r).1)) (by exact .pv _) ?_
 refine y5y rfl rfl ?_
 refine w3w rfl ?_
 refine y2y rfl rfl ?_
 refine x1x rfl ?_
 refine s1s rfl rfl (fun hg11 => ?_) (fun hg11 => ?_)
 rotate_left
 ·(simp at hg11; done)
 try simp at hg11
 refine y4y rfl r0r rfl rfl rfl ?_
 refine y5y rfl rfl ?_
 refine y4y rfl r0r rfl rfl rfl ?_
 refine y5y rfl rfl ?_
 refine a2t rfl rfl rfl (by exact c1q rfl rfl rfl rfl (c2z rfl rfl .nil)) (a7i false true ((z2z n r).2.1) ((z2z n r).2.1)) (by exact .pv _) ?_
 refine y5y rfl rfl ?_
 refine w3w rfl ?_
 refine y2y rfl rfl ?_
 refine x1x rfl ?_
 refine s1s rfl rfl (fun hg12 => ?_) (fun hg12 => ?_)
 rotate_left
 ·(simp at hg12; done)
 try simp at hg12
 refine x1x rfl ?_
 refine y5y rfl rfl ?_
 refine x1x rfl ?_
 refine y5y rfl rfl ?_
 refine a9v rfl rfl (by intro p q h h'; cases h; cases h'; rfl) (.inr rfl) (b3p Tryz.underlying4 _ _ _ _) ?_
 refine y2y rfl rfl ?_
 refine x8x rfl (fun hc13 => ?_) (fun hc13 => ?_)
 ·(simp at hc13; done)
 try simp at hc13
 refine x9x ?_
 refine hK9 _ _ ?_
 clear hK9 K9
 refine x4x x6x (by rfl) ?_
 refine x2x rfl ?_
 refine x4x x6x (by rfl) ?_
 refine y4y rfl z8z rfl rfl rfl ?_
 refine x1x rfl ?_
 refine v5v [18, 19, 20, 21, 22] [_, _, _, _, _] (a8g ((z2z n r).1) (1) (by omega)) rfl rfl rfl (by decide) rfl rfl (by repeat (first | exact InH.nil | refine InH.cons rfl ?_)) (by (simp only [pI, List.map_cons, List.map_nil, u1u, u2u, gl, nx, q4q, Nat.beq, Nat.add_eq, List.getD_cons_zero, List.getD_cons_succ, List.getD_nil, Bool.or_false, Bool.false_or, Bool.true_or, Bool.or_true, Nat.add_zero, Nat.zero_add]; rfl)) (by (simp only [pI, List.map_cons, List.map_nil, u1u, u2u, gl, nx, q4q, Nat.beq, Nat.add_eq, List.getD_cons_zero, List.getD_cons_succ, List.getD_nil, Bool.or_false, Bool.false_or, Bool.true_or, Bool.or_true, Nat.add_zero, Nat.zero_add]; rfl)) ?_
 refine x2x rfl ?_
 refine x4x x6x (by rfl) ?_
 refine y4y rfl r0r rfl rfl rfl ?_
 refine x1x rfl ?_
 refine v5v [23, 24, 25, 26] [_, _, _, _] (b5j ((z2z n r).2.1) (1 + zNd ((z2z n r).1)) (by omega)) rfl rfl rfl (by decide) rfl rfl (by repeat (first | exact InH.nil | refine InH.cons rfl ?_)) (by (simp only [pI, List.map_cons, List.map_nil, u1u, u2u, gl, nx, q4q, Nat.beq, Nat.add_eq, List.getD_cons_zero, List.getD_cons_succ, List.getD_nil, Bool.or_false, Bool.false_or, Bool.true_or, Bool.or_true, Nat.add_zero, Nat.zero_add]; rfl)) (by (simp only [pI, List.map_cons, List.map_nil, u1u, u2u, gl, nx, q4q, Nat.beq, Nat.add_eq, List.getD_cons_zero, List.getD_cons_succ, List.getD_nil, Bool.or_false, Bool.false_or, Bool.true_or, Bool.or_true, Nat.add_zero, Nat.zero_add]; rfl)) ?_
 refine x2x rfl ?_
 refine x4x x6x (by rfl) ?_
 refine x2x rfl ?_
 refine x4x x6x (by rfl) ?_
 refine y4y rfl z8z rfl rfl rfl ?_
 refine x1x rfl ?_
 refine a2t rfl rfl rfl (by exact a9f (n := (kNd (1) ((z2z n r).1))) rfl rfl rfl rfl rfl (.cl rfl .nil)) (a8h false ((z2z n r).1) (1) (by omega)) (by exact .pv _) ?_
 refine x2x rfl ?_
 refine x5x fun K14 hK14 => ?_
 refine x4x x6x (by rfl) ?_
 refine x1x rfl ?_
 refine y1y rfl rfl rfl ?_
 refine x8x rfl (fun hc15 => ?_) (fun hc15 => ?_)
 ·(simp at hc15; omega)
 try simp at hc15
 refine x9x ?_
 refine hK14 _ _ ?_
 clear hK14 K14
 refine x4x x6x (by rfl) ?_
 refine y4y rfl r0r rfl rfl rfl ?_
 refine x1x rfl ?_
 refine a2t rfl rfl rfl (by exact c1q (w := (kWl (1 + zNd ((z2z n r).1)) ((z2z n r).2.1))) rfl rfl rfl rfl (.cl rfl .nil)) (a8i false ((z2z n r).2.1) (1 + zNd ((z2z n r).1)) (by omega)) (by exact .pv _) ?_
 refine x2x rfl ?_
 refine x5x fun K16 hK16 => ?_
 refine x4x x6x (by rfl) ?_
 refine x1x rfl ?_
 refine y1y rfl rfl rfl ?_
 refine x8x rfl (fun hc17 => ?_) (fun hc17 => ?_)
 ·(simp at hc17; omega)
 try simp at hc17
 refine x9x ?_
 refine hK16 _ _ ?_
 clear hK16 K16
 refine x5x fun K18 hK18 => ?_
 refine x4x x6x (by rfl) ?_
 refine x1x rfl ?_
 refine x1x rfl ?_
 refine y1y rfl rfl rfl ?_
 refine x8x rfl (fun hc19 => ?_) (fun hc19 => ?_)
 ·(simp at hc19; done)
 try simp at hc19
 refine x9x ?_
 refine hK18 _ _ ?_
 clear hK18 K18
 refine x4x x6x (by rfl) ?_
 refine y4y rfl a3m rfl rfl rfl ?_
 refine v5v [32, 33, 34, 35, 36] [_, _, _, _, _] (a4d true n hl_n) rfl rfl rfl (by decide) rfl rfl (by repeat (first | exact InH.nil | refine InH.cons rfl ?_)) (by (simp only [pI, List.map_cons, List.map_nil, u1u, u2u, gl, nx, q4q, Nat.beq, Nat.add_eq, List.getD_cons_zero, List.getD_cons_succ, List.getD_nil, Bool.or_false, Bool.false_or, Bool.true_or, Bool.or_true, Nat.add_zero, Nat.zero_add]; rfl)) (by (simp only [pI, List.map_cons, List.map_nil, u1u, u2u, gl, nx, q4q, Nat.beq, Nat.add_eq, List.getD_cons_zero, List.getD_cons_succ, List.getD_nil, Bool.or_false, Bool.false_or, Bool.true_or, Bool.or_true, Nat.add_zero, Nat.zero_add]; rfl)) ?_
 refine x1x rfl ?_
 refine c3y [37, 38, 39, 40, 41, 42, 43, 44, 45] [_, _, _, _, _, _, _, _, _] (a6t false n r) rfl rfl rfl (LendM.base (a9f rfl rfl rfl rfl rfl (.cl rfl (.nil)))) rfl (by decide) rfl rfl (by repeat (first | exact InH.nil | refine InH.cons rfl ?_)) (by (simp only [pI, List.map_cons, List.map_nil, u1u, u2u, gl, nx, q4q, Nat.beq, Nat.add_eq, List.getD_cons_zero, List.getD_cons_succ, List.getD_nil, Bool.or_false, Bool.false_or, Bool.true_or, Bool.or_true, Nat.add_zero, Nat.zero_add]; rfl)) (by (simp only [pI, List.map_cons, List.map_nil, u1u, u2u, gl, nx, q4q, Nat.beq, Nat.add_eq, List.getD_cons_zero, List.getD_cons_succ, List.getD_nil, Bool.or_false, Bool.false_or, Bool.true_or, Bool.or_true, Nat.add_zero, Nat.zero_add]; rfl)) rfl rfl (d1m rfl) (by repeat (first | exact StrH.nil | refine StrH.dead ?_)) (by exact d5j (d5k (.nil))) ?_
 refine x1x rfl ?_
 refine p2p rfl rfl ?_
 refine p2p rfl rfl ?_
 refine p2p rfl rfl ?_
 refine u8u (id := 6) z8z a7q rfl ?_
 refine u8u (id := 7) r0r a9t rfl ?_
 refine z5z rfl rfl z8z rfl rfl rfl rfl ?_
 refine z5z rfl rfl r0r rfl rfl rfl rfl ?_
 refine x2x rfl ?_
 refine x5x fun K20 hK20 => ?_
 refine x4x x6x (by rfl) ?_
 refine y4y rfl z8z rfl rfl rfl ?_
 refine y4y rfl z8z rfl rfl rfl ?_
 refine a2t rfl rfl rfl (by exact a9f rfl rfl rfl rfl rfl (c2z rfl rfl .nil)) (a4c false true ((z2z n r).1) ((z2z n r).1)) (by exact .pv _) ?_
 refine w3w rfl ?_
 refine x1x rfl ?_
 refine s1s rfl rfl (fun hg21 => ?_) (fun hg21 => ?_)
 rotate_left
 ·(simp at hg21; done)
 try simp at hg21
 refine y4y rfl r0r rfl rfl rfl ?_
 refine y5y rfl rfl ?_
 refine y4y rfl r0r rfl rfl rfl ?_
 refine y5y rfl rfl ?_
 refine a2t rfl rfl rfl (by exact c1q rfl rfl rfl rfl (c2z rfl rfl .nil)) (a7i false true ((z2z n r).2.1) ((z2z n r).2.1)) (by exact .pv _) ?_
 refine y5y rfl rfl ?_
 refine w3w rfl ?_
 refine y2y rfl rfl ?_
 refine x1x rfl ?_
 refine s1s rfl rfl (fun hg22 => ?_) (fun hg22 => ?_)
 rotate_left
 ·(simp at hg22; done)
 try simp at hg22
 refine x1x rfl ?_
 refine y5y rfl rfl ?_
 refine x1x rfl ?_
 refine y5y rfl rfl ?_
 refine a9v rfl rfl (by intro p q h h'; cases h; cases h'; rfl) (.inr rfl) (b3p Tryz.underlying4 _ _ _ _) ?_
 refine y2y rfl rfl ?_
 refine x8x rfl (fun hc23 => ?_) (fun hc23 => ?_)
 ·(simp at hc23; done)
 try simp at hc23
 refine x9x ?_
 refine hK20 _ _ ?_
 clear hK20 K20
 refine x4x x6x (by rfl) ?_
 refine x2x rfl ?_
 refine x4x x6x (by rfl) ?_
 refine y4y rfl z8z rfl rfl rfl ?_
 refine x1x rfl ?_
 refine a2t rfl rfl rfl (by exact a9f (n := (kNd (1) ((z2z n r).1))) rfl rfl rfl rfl rfl (.cl rfl .nil)) (a8h false ((z2z n r).1) (1) (by omega)) (by exact .pv _) ?_
 refine x2x rfl ?_
 refine x5x fun K24 hK24 => ?_
 refine x4x x6x (by rfl) ?_
 refine x1x rfl ?_
 refine y1y rfl rfl rfl ?_
 refine x8x rfl (fun hc25 => ?_) (fun hc25 => ?_)
 ·(simp at hc25; omega)
 try simp at hc25
 refine x9x ?_
 refine hK24 _ _ ?_
 clear hK24 K24
 refine x4x x6x (by rfl) ?_
 refine y4y rfl r0r rfl rfl rfl ?_
 refine x1x rfl ?_
 refine a2t rfl rfl rfl (by exact c1q (w := (kWl (1 + zNd ((z2z n r).1)) ((z2z n r).2.1))) rfl rfl rfl rfl (.cl rfl .nil)) (a8i false ((z2z n r).2.1) (1 + zNd ((z2z n r).1)) (by omega)) (by exact .pv _) ?_
 refine x2x rfl ?_
 refine x5x fun K26 hK26 => ?_
 refine x4x x6x (by rfl) ?_
 refine x1x rfl ?_
 refine y1y rfl rfl rfl ?_
 refine x8x rfl (fun hc27 => ?_) (fun hc27 => ?_)
 ·(simp at hc27; omega)
 try simp at hc27
 refine x9x ?_
 refine hK26 _ _ ?_
 clear hK26 K26
 refine x5x fun K28 hK28 => ?_
 refine x4x x6x (by rfl) ?_
 refine x1x rfl ?_
 refine x1x rfl ?_
 refine y1y rfl rfl rfl ?_
 refine x8x rfl (fun hc29 => ?_) (fun hc29 => ?_)
 ·(simp at hc29; done)
 try simp at hc29
 refine x9x ?_
 refine hK28 _ _ ?_
 clear hK28 K28
 refine x4x x6x (by rfl) ?_
 refine x2x rfl ?_
 refine y0y ⟨.inr rfl, ?_⟩
 exact y8y rfl rfl rfl
end
section
def X0 (w : World) : Cx := ⟨fun b => b < w.heap.size, fun b => b < w.heap.size, fun _ _ => none, fun _ _ => none⟩
theorem d0w (w : World) : SRh (X0 w) ⟨w, fun _ => False, fun b => b < w.heap.size, fun b => b < w.heap.size⟩ (fun _ => none) w := by
 refine ⟨fun _ => [], ?_, ?_, ?_, ?_, ?_, ?_, ?_, ?_, ?_, rfl, rfl, rfl, Nat.le_refl _, fun _ _ _ => rfl⟩
 ·intro id g e h; cases h
 ·intro id ge b h; cases h
 ·intro id id' ge ge' b h; cases h
 ·intro b hb; exact ⟨hb, fun id ge h => by cases h⟩
 ·intro b hb; exact hb
 ·intro b hb; exact .inl hb
 ·intro b hb; exact .inl hb
 ·intro id ge b h; cases h
 ·intro id g h; exact ⟨rfl, rfl⟩
theorem c3e {P : Program} {f : FuncId} {avs : List AV} {u : Value} (hC : s8s P f avs (.pv u)) (w : World) (vs : List Value) (hl : vs.length = avs.length) (hr : ∀ (i : Nat) (a : AV) (v : Value), avs[i]? = some a → vs[i]? = some v → VR (X0 w) w a v) :
  Calls P f vs.toArray w fun e w' => e = .returned u ∧ Below w.heap.size w w' :=
 (hC.2 (X0 w) _ (fun _ => none) w vs (d0w w) hl hr (fun id ge h => by cases h)).mono fun e w' ⟨v, he, X', hX, hS, hk, hv⟩ => by
  rw [hv.pv_inv] at he
  obtain ⟨F, hS⟩ := hS
  exact ⟨he, hS.os, hS.tape, hS.output, hS.size, fun k hk => hS.keep k hk (fun h => h)⟩
def d8o (k : IntKind) (w : World) (a : Option Addr) (len cap : Nat) (zs : List Int) : Prop :=
 (a = none ∧ len = 0 ∧ cap = 0 ∧ zs = []) ∨
 ∃ x, a = some x ∧ len ≤ cap ∧ cap ≤ maxLen ∧ zs.length = cap ∧ (∀ i, i < zs.length → w.cell? (x.add i) = some (.int k (zs.getD i 0))) ∧ ∀ n ∈ zs, (Lit.int k n).wf = true
end
section
variable {H : Type} (enc : TypeId × Value → H) (w : World)
theorem c4r : Rd enc Tryz.prog w 210 3 (fun x : St => a0e x) := by
 refine ⟨by rw [(x6x _ _ b0r).cells]; rfl, fun fuel cs x hx => ?_⟩
 obtain ⟨hl, hf⟩ := a4o (x6x _ _ b0r) rfl hx
 obtain ⟨a0, l0, h0⟩ := hf (j := 0) rfl (a0k (x6x _ _ y6y) rfl)
 obtain ⟨a1, l1, h1⟩ := hf (j := 1) rfl (a0k (x6x _ _ y6y) rfl)
 obtain ⟨a2, l2, h2⟩ := hf (j := 2) rfl (a0k (x6x _ _ y6y) rfl)
 exact ⟨⟨a0, a1, a2⟩, rfl, (q6q (o := 0) h0 l0 (q6q (o := 1) h1 l1 (q6q (o := 2) h2 l2 (a9z hl))))⟩
theorem b3v : Rd enc Tryz.prog w 163 7 (fun x : Ev => v6v x) := by
 refine ⟨by rw [(x6x _ _ a6j).cells]; rfl, fun fuel cs x hx => ?_⟩
 obtain ⟨hl, hf⟩ := a4o (x6x _ _ a6j) rfl hx
 obtain ⟨a0, l0, h0⟩ := hf (j := 0) rfl (a0k (x6x _ _ y6y) rfl)
 obtain ⟨a1, l1, h1⟩ := hf (j := 1) rfl (a0k (x6x _ _ y6y) rfl)
 obtain ⟨a2, l2, h2⟩ := hf (j := 2) rfl (a0k (x6x _ _ y6y) rfl)
 obtain ⟨a3, l3, h3⟩ := hf (j := 3) rfl (a0k (x6x _ _ y6y) rfl)
 obtain ⟨a4, l4, h4⟩ := hf (j := 4) rfl (a0k (x6x _ _ y6y) rfl)
 obtain ⟨a5, l5, h5⟩ := hf (j := 5) rfl (a0k (x6x _ _ y6y) rfl)
 obtain ⟨a6, l6, h6⟩ := hf (j := 6) rfl (a0k (x6x _ _ y6y) rfl)
 exact ⟨⟨a0, a1, a2, a3, a4, a5, a6⟩, rfl, (q6q (o := 0) h0 l0 (q6q (o := 1) h1 l1 (q6q (o := 2) h2 l2 (q6q (o := 3) h3 l3 (q6q (o := 4) h4 l4 (q6q (o := 5) h5 l5 (q6q (o := 6) h6 l6 (a9z hl))))))))⟩
theorem d2a : Rd enc Tryz.prog w 220 5 (fun x : Ou => s2s x) := by
 refine ⟨by rw [(x6x _ _ b0s).cells]; rfl, fun fuel cs x hx => ?_⟩
 obtain ⟨hl, hf⟩ := a4o (x6x _ _ b0s) rfl hx
 obtain ⟨a0, l0, h0⟩ := hf (j := 0) rfl (a0k (x6x _ _ y6y) rfl)
 obtain ⟨a1, l1, h1⟩ := hf (j := 1) rfl (a0k (x6x _ _ y6y) rfl)
 obtain ⟨a2, l2, h2⟩ := hf (j := 2) rfl (a0k (x6x _ _ y6y) rfl)
 obtain ⟨a3, l3, h3⟩ := hf (j := 3) rfl (a0k (x6x _ _ y6y) rfl)
 obtain ⟨a4, l4, h4⟩ := hf (j := 4) rfl (a0k (x6x _ _ y6y) rfl)
 exact ⟨⟨a0, a1, a2, a3, a4⟩, rfl, (q6q (o := 0) h0 l0 (q6q (o := 1) h1 l1 (q6q (o := 2) h2 l2 (q6q (o := 3) h3 l3 (q6q (o := 4) h4 l4 (a9z hl))))))⟩
theorem d3p : Rd enc Tryz.prog w 282 12 (fun x : Pa => a2c true x) := by
 refine ⟨by rw [(x6x _ _ a7j).cells]; rfl, fun fuel cs x hx => ?_⟩
 obtain ⟨hl, hf⟩ := a4o (x6x _ _ a7j) rfl hx
 obtain ⟨a0, l0, h0⟩ := hf (j := 0) rfl (b3v enc w)
 obtain ⟨a1, l1, h1⟩ := hf (j := 1) rfl (c4r enc w)
 obtain ⟨a2, l2, h2⟩ := hf (j := 2) rfl (a3y 76 (by decide) (x6x _ _ a7b) rfl (b3v enc w))
 obtain ⟨a3, l3, h3⟩ := hf (j := 3) rfl (a3y 104 (by decide) (x6x _ _ b0q) rfl (d2a enc w))
 exact ⟨⟨a0, a1, a2, a3⟩, rfl, (q6q (o := 0) h0 l0 (q6q (o := 7) h1 l1 (q6q (o := 10) h2 l2 (q6q (o := 11) h3 l3 (a9z hl)))))⟩
theorem d3q : Rd enc Tryz.prog w 213 5 (fun x : La => a1q true x) := by
 refine ⟨by rw [(x6x _ _ a9b).cells]; rfl, fun fuel cs x hx => ?_⟩
 obtain ⟨hl, hf⟩ := a4o (x6x _ _ a9b) rfl hx
 obtain ⟨a0, l0, h0⟩ := hf (j := 0) rfl (a0k (x6x _ _ y6y) rfl)
 obtain ⟨a1, l1, h1⟩ := hf (j := 1) rfl (c4r enc w)
 obtain ⟨a2, l2, h2⟩ := hf (j := 2) rfl (a3y 78 (by decide) (x6x _ _ a7x) rfl (d3p enc w))
 exact ⟨⟨a0, a1, a2⟩, rfl, (q6q (o := 0) h0 l0 (q6q (o := 1) h1 l1 (q6q (o := 4) h2 l2 (a9z hl))))⟩
theorem d3r : Rd enc Tryz.prog w 216 3 (fun x : Vi => a4b true x) := by
 refine ⟨by rw [(x6x _ _ a9c).cells]; rfl, fun fuel cs x hx => ?_⟩
 obtain ⟨hl, hf⟩ := a4o (x6x _ _ a9c) rfl hx
 obtain ⟨a0, l0, h0⟩ := hf (j := 0) rfl (a0k (x6x _ _ y6y) rfl)
 obtain ⟨a1, l1, h1⟩ := hf (j := 1) rfl (a0k (x6x _ _ y6y) rfl)
 obtain ⟨a2, l2, h2⟩ := hf (j := 2) rfl (a3y 76 (by decide) (x6x _ _ a7b) rfl (b3v enc w))
 exact ⟨⟨a0, a1, a2⟩, rfl, (q6q (o := 0) h0 l0 (q6q (o := 1) h1 l1 (q6q (o := 2) h2 l2 (a9z hl))))⟩
theorem d3s : Rd enc Tryz.prog w 42 13 (fun x : Nd => a0t true x) := by
 refine ⟨by rw [(x6x _ _ a3m).cells]; rfl, fun fuel cs x hx => ?_⟩
 obtain ⟨hl, hf⟩ := a4o (x6x _ _ a3m) rfl hx
 obtain ⟨a0, l0, h0⟩ := hf (j := 0) rfl (a0k (x6x _ _ y6y) rfl)
 obtain ⟨a1, l1, h1⟩ := hf (j := 1) rfl (d2y Tryz.underlying4 (by kernel_rfl))
 obtain ⟨a2, l2, h2⟩ := hf (j := 2) rfl (a0k (x6x _ _ y6y) rfl)
 obtain ⟨a3, l3, h3⟩ := hf (j := 3) rfl (a0k (x6x _ _ y6y) rfl)
 obtain ⟨a4, l4, h4⟩ := hf (j := 4) rfl (a3y 65 (by decide) (x6x _ _ b4j) rfl (d3q enc w))
 obtain ⟨a5, l5, h5⟩ := hf (j := 5) rfl (a3y 76 (by decide) (x6x _ _ a7b) rfl (b3v enc w))
 obtain ⟨a6, l6, h6⟩ := hf (j := 6) rfl (a3y 104 (by decide) (x6x _ _ b0q) rfl (d2a enc w))
 obtain ⟨a7, l7, h7⟩ := hf (j := 7) rfl (a0k (x6x _ _ y6y) rfl)
 obtain ⟨a8, l8, h8⟩ := hf (j := 8) rfl (a0k (x6x _ _ y6y) rfl)
 obtain ⟨a9, l9, h9⟩ := hf (j := 9) rfl (a3y 141 (by decide) (x6x _ _ b4k) rfl (d3r enc w))
 obtain ⟨a10, l10, h10⟩ := hf (j := 10) rfl (a3y 3 (by decide) (x6x _ _ v7v) rfl (a0k (x6x _ _ y6y) rfl))
 obtain ⟨a11, l11, h11⟩ := hf (j := 11) rfl (a0k (x6x _ _ y6y) rfl)
 obtain ⟨a12, l12, h12⟩ := hf (j := 12) rfl (a0k (x6x _ _ y6y) rfl)
 exact ⟨⟨a0, a1, a2, a3, a4, a5, a6, a7, a8, a9, a10, a11, a12⟩, rfl, (q6q (o := 0) h0 l0 (q6q (o := 1) h1 l1 (q6q (o := 2) h2 l2 (q6q (o := 3) h3 l3 (q6q (o := 4) h4 l4 (q6q (o := 5) h5 l5 (q6q (o := 6) h6 l6 (q6q (o := 7) h7 l7 (q6q (o := 8) h8 l8 (q6q (o := 9) h9 l9 (q6q (o := 10) h10 l10 (q6q (o := 11) h11 l11 (q6q (o := 12) h12 l12 (a9z hl))))))))))))))⟩
variable {enc} {w}
theorem d5l {α : Type} {e : α → List AV} {t sz : Nat} {P : Program} (hr : Rd enc P w t sz e) {cs : Array Value} {d : DataW H} {p : List MemPlace} (h : DataW.Trod enc P w 0 (fun _ => true) true t (.agg cs) d p) : ∃ a, VR (X0 w) w (.agg (e a)) (.agg cs) := by
 obtain ⟨fuel, hf⟩ := h
 obtain ⟨a, _, h2⟩ := hr.2 _ _ _ hf
 refine ⟨a, .cl ?_⟩
 have := CR.agg (ok1 := ltw w) (ok2 := ltw w) (w := w) (cs := e a) cs.toList h2.len h2.one h2.rel
 have e : cs.toList.toArray = cs := by simp
 rw [e] at this
 exact this
end
end Go.Proofs.YtpadkogpeobboaaGreat.Am
