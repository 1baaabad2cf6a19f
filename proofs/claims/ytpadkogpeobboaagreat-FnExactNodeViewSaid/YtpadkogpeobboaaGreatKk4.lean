/- Part 4 of the texts that the proof of LawFnExactNodeView leans on, merged by program. -/
import Derived.Test.YtpadkogpeobboaaGreatKk3
set_option linter.unusedVariables false
set_option linter.unusedSimpArgs false
namespace Go.Proofs.YtpadkogpeobboaaGreat.Am
open Go Go.RowKit
section
theorem b1j (e : Ev) : a0z Tryz.prog 136 [.agg (v9v e)] (.agg (v9v e)) := by
 refine z4z x9x (fn := Tryz.f136) (by kernel_rfl) (by kernel_rfl) rfl (outs := [.agg (v9v e)]) (by rfl) (v7v rfl) 3 ?_
 refine x6x x9x (by rfl) ?_
 refine v4v (id := 0) rfl rfl rfl ?_
 refine v3v (id := 1) z3z b7a rfl ?_
 refine x6x x9x (by rfl) ?_
 refine v3v (id := 2) z3z b7a rfl ?_
 refine x6x x9x (by rfl) ?_
 refine x0x rfl a7y rfl rfl y9y rfl rfl ?_
 refine x3x rfl y9y rfl rfl ?_
 refine x0x rfl z3z rfl rfl y9y rfl rfl ?_
 refine u8u rfl rfl y9y rfl rfl rfl rfl rfl (by simp only [a0p]; rfl) ?_
 refine x6x x9x (by rfl) ?_
 refine x0x rfl a7y rfl rfl y9y rfl rfl ?_
 refine x3x rfl y9y rfl rfl ?_
 refine x0x rfl z3z rfl rfl y9y rfl rfl ?_
 refine u8u rfl rfl y9y rfl rfl rfl rfl rfl (by simp only [a0p]; rfl) ?_
 refine x6x x9x (by rfl) ?_
 refine x0x rfl a7y rfl rfl y9y rfl rfl ?_
 refine x3x rfl y9y rfl rfl ?_
 refine x0x rfl z3z rfl rfl y9y rfl rfl ?_
 refine u8u rfl rfl y9y rfl rfl rfl rfl rfl (by simp only [a0p]; rfl) ?_
 refine x6x x9x (by rfl) ?_
 refine x0x rfl a7y rfl rfl y9y rfl rfl ?_
 refine x3x rfl y9y rfl rfl ?_
 refine x0x rfl z3z rfl rfl y9y rfl rfl ?_
 refine u8u rfl rfl y9y rfl rfl rfl rfl rfl (by simp only [a0p]; rfl) ?_
 refine x6x x9x (by rfl) ?_
 refine x0x rfl a7y rfl rfl y9y rfl rfl ?_
 refine x3x rfl y9y rfl rfl ?_
 refine x0x rfl z3z rfl rfl y9y rfl rfl ?_
 refine u8u rfl rfl y9y rfl rfl rfl rfl rfl (by simp only [a0p]; rfl) ?_
 refine x6x x9x (by rfl) ?_
 refine x0x rfl a7y rfl rfl y9y rfl rfl ?_
 refine x3x rfl y9y rfl rfl ?_
 refine x0x rfl z3z rfl rfl y9y rfl rfl ?_
 refine u8u rfl rfl y9y rfl rfl rfl rfl rfl (by simp only [a0p]; rfl) ?_
 refine x6x x9x (by rfl) ?_
 refine x0x rfl a7y rfl rfl y9y rfl rfl ?_
 refine x3x rfl y9y rfl rfl ?_
 refine x0x rfl z3z rfl rfl y9y rfl rfl ?_
 refine u8u rfl rfl y9y rfl rfl rfl rfl rfl (by simp only [a0p]; rfl) ?_
 refine x6x x9x (by rfl) ?_
 refine y8y rfl z3z rfl rfl rfl ?_
 refine u2u rfl rfl z3z rfl rfl rfl rfl ?_
 refine y3y ⟨.inr rfl, ?_⟩
 exact b7g rfl rfl rfl rfl
theorem c4k (e : Ou) : a0z Tryz.prog 185 [.agg (a0y e)] (.agg (a0y e)) := by
 refine z4z x9x (fn := Tryz.f185) (by kernel_rfl) (by kernel_rfl) rfl (outs := [.agg (a0y e)]) (by rfl) (v7v rfl) 3 ?_
 refine x6x x9x (by rfl) ?_
 refine v4v (id := 0) rfl rfl rfl ?_
 refine v3v (id := 1) v5v b9u rfl ?_
 refine x6x x9x (by rfl) ?_
 refine v3v (id := 2) v5v b9u rfl ?_
 refine x6x x9x (by rfl) ?_
 refine x0x rfl b2w rfl rfl y9y rfl rfl ?_
 refine x3x rfl y9y rfl rfl ?_
 refine x0x rfl v5v rfl rfl y9y rfl rfl ?_
 refine u8u rfl rfl y9y rfl rfl rfl rfl rfl (by simp only [a0p]; rfl) ?_
 refine x6x x9x (by rfl) ?_
 refine x0x rfl b2w rfl rfl y9y rfl rfl ?_
 refine x3x rfl y9y rfl rfl ?_
 refine x0x rfl v5v rfl rfl y9y rfl rfl ?_
 refine u8u rfl rfl y9y rfl rfl rfl rfl rfl (by simp only [a0p]; rfl) ?_
 refine x6x x9x (by rfl) ?_
 refine x0x rfl b2w rfl rfl y9y rfl rfl ?_
 refine x3x rfl y9y rfl rfl ?_
 refine x0x rfl v5v rfl rfl y9y rfl rfl ?_
 refine u8u rfl rfl y9y rfl rfl rfl rfl rfl (by simp only [a0p]; rfl) ?_
 refine x6x x9x (by rfl) ?_
 refine x0x rfl b2w rfl rfl y9y rfl rfl ?_
 refine x3x rfl y9y rfl rfl ?_
 refine x0x rfl v5v rfl rfl y9y rfl rfl ?_
 refine u8u rfl rfl y9y rfl rfl rfl rfl rfl (by simp only [a0p]; rfl) ?_
 refine x6x x9x (by rfl) ?_
 refine x0x rfl b2w rfl rfl y9y rfl rfl ?_
 refine x3x rfl y9y rfl rfl ?_
 refine x0x rfl v5v rfl rfl y9y rfl rfl ?_
 refine u8u rfl rfl y9y rfl rfl rfl rfl rfl (by simp only [a0p]; rfl) ?_
 refine x6x x9x (by rfl) ?_
 refine y8y rfl v5v rfl rfl rfl ?_
 refine u2u rfl rfl v5v rfl rfl rfl rfl ?_
 refine y3y ⟨.inr rfl, ?_⟩
 exact b7g rfl rfl rfl rfl
theorem b1k (e : St) : a0z Tryz.prog 227 [.agg (s9s e)] (.agg (s9s e)) := by
 refine z4z x9x (fn := Tryz.f227) (by kernel_rfl) (by kernel_rfl) rfl (outs := [.agg (s9s e)]) (by rfl) (v7v rfl) 3 ?_
 refine x6x x9x (by rfl) ?_
 refine v4v (id := 0) rfl rfl rfl ?_
 refine v3v (id := 1) r4r d7x rfl ?_
 refine x6x x9x (by rfl) ?_
 refine v3v (id := 2) r4r d7x rfl ?_
 refine x6x x9x (by rfl) ?_
 refine x0x rfl b2v rfl rfl y9y rfl rfl ?_
 refine x3x rfl y9y rfl rfl ?_
 refine x0x rfl r4r rfl rfl y9y rfl rfl ?_
 refine u8u rfl rfl y9y rfl rfl rfl rfl rfl (by simp only [a0p]; rfl) ?_
 refine x6x x9x (by rfl) ?_
 refine x0x rfl b2v rfl rfl y9y rfl rfl ?_
 refine x3x rfl y9y rfl rfl ?_
 refine x0x rfl r4r rfl rfl y9y rfl rfl ?_
 refine u8u rfl rfl y9y rfl rfl rfl rfl rfl (by simp only [a0p]; rfl) ?_
 refine x6x x9x (by rfl) ?_
 refine x0x rfl b2v rfl rfl y9y rfl rfl ?_
 refine x3x rfl y9y rfl rfl ?_
 refine x0x rfl r4r rfl rfl y9y rfl rfl ?_
 refine u8u rfl rfl y9y rfl rfl rfl rfl rfl (by simp only [a0p]; rfl) ?_
 refine x6x x9x (by rfl) ?_
 refine y8y rfl r4r rfl rfl rfl ?_
 refine u2u rfl rfl r4r rfl rfl rfl rfl ?_
 refine y3y ⟨.inr rfl, ?_⟩
 exact b7g rfl rfl rfl rfl
theorem a1b (c : Bool) (l : List Ev) (hl : l.length ≤ 1048576) : Meth Tryz.prog 53 1 [] [r7r c l] [(0, (0, .dead))] (.ref 0 0) [(0, (0, .row 76 7 (l.map v9v)))] := by
 refine u7u x9x (fn := Tryz.f53) (by kernel_rfl) (by kernel_rfl) rfl (O0 := [.ref 0 0]) 1 0 (v7v rfl) (by rfl) (by repeat (first | exact BndH.nil | refine BndH.dead ?_)) (by repeat (first | exact BndH.nil | refine BndH.row (u6u fun _ => rfl) ?_)) (by rfl) fun γ => ?_
 show Ex Tryz.prog _ _ [(0, r7r c l)] [(0, ((γ 0), .dead))] _
 refine x6x x9x (by rfl) ?_
 refine x2x rfl ?_
 refine x6x x9x (by rfl) ?_
 refine x1x rfl ?_
 refine u3u rfl a7x rfl ?_
 refine a6f (id := 0) u4u rfl z3z b7a rfl rfl rfl rfl (by (simp only [List.length_map, List.length_append, List.length_cons, List.length_nil, List.length_take, T76]; omega)) rfl ?_
 refine x2x rfl ?_
 refine x7x fun K1 hK1 => ?_
 refine x6x x9x (by rfl) ?_
 refine x2x rfl ?_
 refine y6y ?_
 refine u5u (ι := Nat) (fun i γ1 => [(4, .pv (.int .i64 (i : Int)))]) (fun i γ1 => [(0, ((γ 0 + 1), .row 76 7 ((l.take i).map v9v ++ (l.drop i).map fun _ => [pI 0, pI 0, pI 0, pI 0, pI 0, pI 0, pI 0])))]) (fun i => i ≤ l.length) (fun i => l.length - i) (x4x 0 rfl (x4x 3 rfl Cov.nil)) HE.nil 0 (by omega) [] (x4x 4 rfl Cov.nil) (HE.row rfl (by rw [List.take_zero, List.drop_zero, List.map_const']; rfl) HE.nil) rfl fun i γ1 hi => ?_
 try dsimp only [List.cons_append, List.nil_append]
 refine x7x fun K2 hK2 => ?_
 refine x6x x9x (by rfl) ?_
 refine x1x rfl ?_
 refine x1x rfl ?_
 refine u3u rfl a7x rfl ?_
 refine y4y rfl rfl rfl ?_
 refine y0y rfl (fun hc3 => ?_) (fun hc3 => ?_)
 rotate_left
 ·try simp at hc3
  obtain rfl : i = l.length := by omega
  refine v0v ?_
  refine hK1 _ _ ?_
  clear hK2 K2 hK1 K1
  refine x6x x9x (by rfl) ?_
  refine x1x rfl ?_
  refine x2x rfl ?_
  refine y3y ?_
  exact ⟨.inr rfl, [_], rfl, rfl, HE.row rfl (by rw [List.take_length, List.drop_length, List.map_nil, List.append_nil]) HE.nil⟩
 try simp at hc3
 obtain ⟨p, hp⟩ : ∃ p, l[i]? = some p := w5w (by omega)
 have hAl : ((l.take i).map v9v).length = i := by rw [List.length_map, List.length_take]; omega
 rw [r1r hp, List.map_cons]
 refine y1y ?_
 refine hK2 _ _ ?_
 clear hK2 K2
 refine x7x fun K4 hK4 => ?_
 refine y6y ?_
 refine y2y x9x (by rfl) ?_
 refine x1x rfl ?_
 refine x1x rfl ?_
 refine x1x rfl ?_
 refine x1x rfl ?_
 refine u0u rfl rfl a7x rfl a7y rfl (by assumption) ?_
 refine z5z rfl a7y rfl rfl ?_
 refine z1z rfl rfl rfl (b1j p) ?_
 refine r0r rfl rfl u4u rfl z3z rfl rfl hAl ?_
 refine a2x hAl rfl rfl z3z rfl rfl rfl rfl (a3k _) rfl ?_
 refine hK4 _ _ ?_
 clear hK4 K4
 refine y2y x9x (by rfl) ?_
 refine x1x rfl ?_
 refine y4y rfl rfl rfl ?_
 refine x2x rfl ?_
 exact ⟨i + 1, ⟨by omega, by omega⟩, [], (Cov.cons' (t := 4) rfl (by rw [u9u (by omega) (by omega)]; rfl) Cov.nil), (x4x 0 rfl (x4x 3 rfl Cov.nil)), (HE.row rfl (by rw [p2p hp, List.map_append, List.append_assoc]; rfl) HE.nil), HE.nil, rfl⟩
theorem b3x (c : Bool) (l : List Ou) (hl : l.length ≤ 1048576) : Meth Tryz.prog 101 1 [] [a1j c l] [(0, (0, .dead))] (.ref 0 0) [(0, (0, .row 104 5 (l.map a0y)))] := by
 refine u7u x9x (fn := Tryz.f101) (by kernel_rfl) (by kernel_rfl) rfl (O0 := [.ref 0 0]) 1 0 (v7v rfl) (by rfl) (by repeat (first | exact BndH.nil | refine BndH.dead ?_)) (by repeat (first | exact BndH.nil | refine BndH.row (u6u fun _ => rfl) ?_)) (by rfl) fun γ => ?_
 show Ex Tryz.prog _ _ [(0, a1j c l)] [(0, ((γ 0), .dead))] _
 refine x6x x9x (by rfl) ?_
 refine x2x rfl ?_
 refine x6x x9x (by rfl) ?_
 refine x1x rfl ?_
 refine u3u rfl b2u rfl ?_
 refine a6f (id := 0) p9p rfl v5v b9u rfl rfl rfl rfl (by (simp only [List.length_map, List.length_append, List.length_cons, List.length_nil, List.length_take, T104]; omega)) rfl ?_
 refine x2x rfl ?_
 refine x7x fun K1 hK1 => ?_
 refine x6x x9x (by rfl) ?_
 refine x2x rfl ?_
 refine y6y ?_
 refine u5u (ι := Nat) (fun i γ1 => [(4, .pv (.int .i64 (i : Int)))]) (fun i γ1 => [(0, ((γ 0 + 1), .row 104 5 ((l.take i).map a0y ++ (l.drop i).map fun _ => [pI 0, pI 0, pI 0, pI 0, pI 0])))]) (fun i => i ≤ l.length) (fun i => l.length - i) (x4x 0 rfl (x4x 3 rfl Cov.nil)) HE.nil 0 (by omega) [] (x4x 4 rfl Cov.nil) (HE.row rfl (by rw [List.take_zero, List.drop_zero, List.map_const']; rfl) HE.nil) rfl fun i γ1 hi => ?_
 try dsimp only [List.cons_append, List.nil_append]
 refine x7x fun K2 hK2 => ?_
 refine x6x x9x (by rfl) ?_
 refine x1x rfl ?_
 refine x1x rfl ?_
 refine u3u rfl b2u rfl ?_
 refine y4y rfl rfl rfl ?_
 refine y0y rfl (fun hc3 => ?_) (fun hc3 => ?_)
 rotate_left
 ·try simp at hc3
  obtain rfl : i = l.length := by omega
  refine v0v ?_
  refine hK1 _ _ ?_
  clear hK2 K2 hK1 K1
  refine x6x x9x (by rfl) ?_
  refine x1x rfl ?_
  refine x2x rfl ?_
  refine y3y ?_
  exact ⟨.inr rfl, [_], rfl, rfl, HE.row rfl (by rw [List.take_length, List.drop_length, List.map_nil, List.append_nil]) HE.nil⟩
 try simp at hc3
 obtain ⟨p, hp⟩ : ∃ p, l[i]? = some p := w5w (by omega)
 have hAl : ((l.take i).map a0y).length = i := by rw [List.length_map, List.length_take]; omega
 rw [r1r hp, List.map_cons]
 refine y1y ?_
 refine hK2 _ _ ?_
 clear hK2 K2
 refine x7x fun K4 hK4 => ?_
 refine y6y ?_
 refine y2y x9x (by rfl) ?_
 refine x1x rfl ?_
 refine x1x rfl ?_
 refine x1x rfl ?_
 refine x1x rfl ?_
 refine u0u rfl rfl b2u rfl b2w rfl (by assumption) ?_
 refine z5z rfl b2w rfl rfl ?_
 refine z1z rfl rfl rfl (c4k p) ?_
 refine r0r rfl rfl p9p rfl v5v rfl rfl hAl ?_
 refine a2x hAl rfl rfl v5v rfl rfl rfl rfl (a3k _) rfl ?_
 refine hK4 _ _ ?_
 clear hK4 K4
 refine y2y x9x (by rfl) ?_
 refine x1x rfl ?_
 refine y4y rfl rfl rfl ?_
 refine x2x rfl ?_
 exact ⟨i + 1, ⟨by omega, by omega⟩, [], (Cov.cons' (t := 4) rfl (by rw [u9u (by omega) (by omega)]; rfl) Cov.nil), (x4x 0 rfl (x4x 3 rfl Cov.nil)), (HE.row rfl (by rw [p2p hp, List.map_append, List.append_assoc]; rfl) HE.nil), HE.nil, rfl⟩
theorem c2d (c : Bool) (p : Pa) (hs : p.sends.length ≤ 1048576) (ho : p.outs.length ≤ 1048576) : Meth Tryz.prog 253 2 [] [.agg (a0s c p)] [(0, (0, .dead)), (1, (0, .dead))] (.agg [pI p.ev.time, pI p.ev.to, pI p.ev.from', pI p.ev.count, pI p.ev.n, pI p.ev.kind, pI p.ev.arg, pI p.after.x, pI p.after.y, pI p.after.count, .ref 0 0, .ref 1 0]) [(0, (0, .row 76 7 (p.sends.map v9v))), (1, (0, .row 104 5 (p.outs.map a0y)))] := by
 refine u7u x9x (fn := Tryz.f253) (by kernel_rfl) (by kernel_rfl) rfl (O0 := [.agg [pI p.ev.time, pI p.ev.to, pI p.ev.from', pI p.ev.count, pI p.ev.n, pI p.ev.kind, pI p.ev.arg, pI p.after.x, pI p.after.y, pI p.after.count, .ref 0 0, .ref 1 0]]) 2 3 (v7v rfl) (by rfl) (by repeat (first | exact BndH.nil | refine BndH.dead ?_)) (by repeat (first | exact BndH.nil | refine BndH.row (u6u fun _ => rfl) ?_)) (by rfl) fun γ => ?_
 show Ex Tryz.prog _ _ [(0, .agg (a0s c p))] [(0, ((γ 0), .dead)), (1, ((γ 1), .dead)), (4, (0, .dead)), (3, (0, .dead)), (2, (0, .dead))] _
 refine x6x x9x (by rfl) ?_
 refine v4v (id := 2) rfl rfl rfl ?_
 refine v3v (id := 3) w1w b5o rfl ?_
 refine x6x x9x (by rfl) ?_
 refine v3v (id := 4) w1w b5o rfl ?_
 refine x6x x9x (by rfl) ?_
 refine x0x rfl a8x rfl rfl a7y rfl rfl ?_
 refine x3x (out := .agg (v9v p.ev)) rfl a7y rfl rfl ?_
 refine z1z rfl rfl rfl (b1j ..) ?_
 refine x0x rfl w1w rfl rfl z3z rfl rfl ?_
 refine a4q (cs' := [pI p.ev.time, pI p.ev.to, pI p.ev.from', pI p.ev.count, pI p.ev.n, pI p.ev.kind, pI p.ev.arg, pI 0, pI 0, pI 0, .pv (.slice none 0 0), .pv (.slice none 0 0)]) rfl rfl z3z rfl rfl rfl rfl (v7v rfl) rfl ?_
 refine x6x x9x (by rfl) ?_
 refine x0x rfl a8x rfl rfl b2v rfl rfl ?_
 refine x3x (out := .agg (s9s p.after)) rfl b2v rfl rfl ?_
 refine z1z rfl rfl rfl (b1k ..) ?_
 refine x0x rfl w1w rfl rfl r4r rfl rfl ?_
 refine a4q (cs' := [pI p.ev.time, pI p.ev.to, pI p.ev.from', pI p.ev.count, pI p.ev.n, pI p.ev.kind, pI p.ev.arg, pI p.after.x, pI p.after.y, pI p.after.count, .pv (.slice none 0 0), .pv (.slice none 0 0)]) rfl rfl r4r rfl rfl rfl rfl (v7v rfl) rfl ?_
 refine x6x x9x (by rfl) ?_
 refine x0x rfl a8x rfl rfl a7x rfl rfl ?_
 refine x3x rfl a7x rfl rfl ?_
 refine v2v [0] [_] (a1b c p.sends hs) rfl rfl rfl (by decide) rfl rfl (by repeat (first | exact InH.nil | refine InH.cons rfl ?_)) (by (simp only [pI, z8z, z9z, p8p, gl, nx, p6p, Nat.beq]; rfl)) (by (simp only [pI, z8z, z9z, p8p, gl, nx, p6p, Nat.beq]; rfl)) ?_
 refine x0x rfl w1w rfl rfl u4u rfl rfl ?_
 refine u8u rfl rfl u4u rfl rfl rfl rfl rfl (by simp only [a0p]; rfl) ?_
 refine x6x x9x (by rfl) ?_
 refine x0x rfl a8x rfl rfl b2u rfl rfl ?_
 refine x3x rfl b2u rfl rfl ?_
 refine v2v [1] [_] (b3x c p.outs ho) rfl rfl rfl (by decide) rfl rfl (by repeat (first | exact InH.nil | refine InH.cons rfl ?_)) (by (simp only [pI, z8z, z9z, p8p, gl, nx, p6p, Nat.beq]; rfl)) (by (simp only [pI, z8z, z9z, p8p, gl, nx, p6p, Nat.beq]; rfl)) ?_
 refine x0x rfl w1w rfl rfl p9p rfl rfl ?_
 refine u8u rfl rfl p9p rfl rfl rfl rfl rfl (by simp only [a0p]; rfl) ?_
 refine x6x x9x (by rfl) ?_
 refine y8y rfl w1w rfl rfl rfl ?_
 refine u2u rfl rfl w1w rfl rfl rfl rfl ?_
 refine y3y ?_
 exact ⟨.inr rfl, [_, _], rfl, rfl, HE.row rfl rfl (HE.row rfl rfl HE.nil)⟩
theorem b9e (c : Bool) (l : List Pa) (hl : c1g l ≤ 1048576) : Meth Tryz.prog 228 1 [] [a3p c l] [(0, (0, .dead))] (.ref 0 0) [(0, (0, .row 78 12 (l.map a2z)))] := by
 refine u7u x9x (fn := Tryz.f228) (by kernel_rfl) (by kernel_rfl) rfl (O0 := [.ref 0 0]) 1 2 (v7v rfl) (by rfl) (by repeat (first | exact BndH.nil | refine BndH.dead ?_)) (by repeat (first | exact BndH.nil | refine BndH.row (u6u fun _ => rfl) ?_)) (by rfl) fun γ => ?_
 show Ex Tryz.prog _ _ [(0, a3p c l)] [(0, ((γ 0), .dead)), (2, (0, .dead)), (1, (0, .dead))] _
 have hc : c1g l = l.length + szs cPa l := rfl
 refine x6x x9x (by rfl) ?_
 refine x2x rfl ?_
 refine x6x x9x (by rfl) ?_
 refine x1x rfl ?_
 refine u3u rfl a9t rfl ?_
 refine a6f (id := 0) w0w rfl w1w b5o rfl rfl rfl rfl (by (simp only [List.length_map, List.length_append, List.length_cons, List.length_nil, List.length_take, T78]; omega)) rfl ?_
 refine x2x rfl ?_
 refine x7x fun K1 hK1 => ?_
 refine x6x x9x (by rfl) ?_
 refine x2x rfl ?_
 refine y6y ?_
 refine u5u (ι := Nat) (fun i γ1 => [(4, .pv (.int .i64 (i : Int)))]) (fun i γ1 => [(1, ((γ1 1), .dead)), (2, ((γ1 2), .dead)), (0, ((γ 0 + 1), .row 78 12 ((l.take i).map a2z ++ (l.drop i).map fun _ => [pI 0, pI 0, pI 0, pI 0, pI 0, pI 0, pI 0, pI 0, pI 0, pI 0, .pv (.slice none 0 0), .pv (.slice none 0 0)])))]) (fun i => i ≤ l.length) (fun i => l.length - i) (x4x 0 rfl (x4x 3 rfl Cov.nil)) HE.nil 0 (by omega) [0, _, _] (x4x 4 rfl Cov.nil) (HE.kill rfl (HE.kill rfl (HE.row rfl (by rw [List.take_zero, List.drop_zero, List.map_const']; rfl) HE.nil))) rfl fun i γ1 hi => ?_
 try dsimp only [List.cons_append, List.nil_append]
 refine x7x fun K2 hK2 => ?_
 refine x6x x9x (by rfl) ?_
 refine x1x rfl ?_
 refine x1x rfl ?_
 refine u3u rfl a9t rfl ?_
 refine y4y rfl rfl rfl ?_
 refine y0y rfl (fun hc3 => ?_) (fun hc3 => ?_)
 rotate_left
 ·try simp at hc3
  obtain rfl : i = l.length := by omega
  refine v0v ?_
  refine hK1 _ _ ?_
  clear hK2 K2 hK1 K1
  refine x6x x9x (by rfl) ?_
  refine x1x rfl ?_
  refine x2x rfl ?_
  refine y3y ?_
  exact ⟨.inr rfl, [_], rfl, rfl, HE.row rfl (by rw [List.take_length, List.drop_length, List.map_nil, List.append_nil]) HE.nil⟩
 try simp at hc3
 obtain ⟨p, hp⟩ : ∃ p, l[i]? = some p := w5w (by omega)
 have hAl : ((l.take i).map a2z).length = i := by rw [List.length_map, List.length_take]; omega
 rw [r1r hp, List.map_cons]
 have hat := a3f cPa hp
 have hcp : cPa p = p.sends.length + p.outs.length := rfl
 refine y1y ?_
 refine hK2 _ _ ?_
 clear hK2 K2
 refine x7x fun K4 hK4 => ?_
 refine y6y ?_
 refine y2y x9x (by rfl) ?_
 refine x1x rfl ?_
 refine x1x rfl ?_
 refine x1x rfl ?_
 refine x1x rfl ?_
 refine u0u rfl rfl a9t rfl a8x rfl (by assumption) ?_
 refine z5z rfl a8x rfl rfl ?_
 refine v2v [1, 2] [_, _] (c2d c p (by omega) (by omega)) rfl rfl rfl (by decide) rfl rfl (by repeat (first | exact InH.nil | refine InH.cons rfl ?_)) (by (simp only [pI, z8z, z9z, p8p, gl, nx, p6p, Nat.beq]; rfl)) (by (simp only [pI, z8z, z9z, p8p, gl, nx, p6p, Nat.beq]; rfl)) ?_
 refine r0r rfl rfl w0w rfl w1w rfl rfl hAl ?_
 refine a2x hAl rfl rfl w1w rfl rfl rfl rfl (d5b rfl rfl rfl) rfl ?_
 refine hK4 _ _ ?_
 clear hK4 K4
 refine y2y x9x (by rfl) ?_
 refine x1x rfl ?_
 refine y4y rfl rfl rfl ?_
 refine x2x rfl ?_
 exact ⟨i + 1, ⟨by omega, by omega⟩, [0, _, _], (Cov.cons' (t := 4) rfl (by rw [u9u (by omega) (by omega)]; rfl) Cov.nil), (x4x 0 rfl (x4x 3 rfl Cov.nil)), (HE.kill rfl (HE.kill rfl (HE.row rfl (by rw [p2p hp, List.map_append, List.append_assoc]; rfl) HE.nil))), HE.nil, rfl⟩
theorem c2e (c : Bool) (p : La) (hs : c1g p.done ≤ 1048576) : Meth Tryz.prog 184 1 [] [.agg (a0v c p)] [(0, (0, .dead))] (.agg [pI p.proc, pI p.base.x, pI p.base.y, pI p.base.count, .ref 0 0]) [(0, (0, .row 78 12 (p.done.map a2z)))] := by
 refine u7u x9x (fn := Tryz.f184) (by kernel_rfl) (by kernel_rfl) rfl (O0 := [.agg [pI p.proc, pI p.base.x, pI p.base.y, pI p.base.count, .ref 0 0]]) 1 3 (v7v rfl) (by rfl) (by repeat (first | exact BndH.nil | refine BndH.dead ?_)) (by repeat (first | exact BndH.nil | refine BndH.row (u6u fun _ => rfl) ?_)) (by rfl) fun γ => ?_
 show Ex Tryz.prog _ _ [(0, .agg (a0v c p))] [(0, ((γ 0), .dead)), (3, (0, .dead)), (2, (0, .dead)), (1, (0, .dead))] _
 refine x6x x9x (by rfl) ?_
 refine v4v (id := 1) rfl rfl rfl ?_
 refine v3v (id := 2) v8v a9u rfl ?_
 refine x6x x9x (by rfl) ?_
 refine v3v (id := 3) v8v a9u rfl ?_
 refine x6x x9x (by rfl) ?_
 refine x0x rfl b0z rfl rfl y9y rfl rfl ?_
 refine x3x rfl y9y rfl rfl ?_
 refine x0x rfl v8v rfl rfl y9y rfl rfl ?_
 refine u8u rfl rfl y9y rfl rfl rfl rfl rfl (by simp only [a0p]; rfl) ?_
 refine x6x x9x (by rfl) ?_
 refine x0x rfl b0z rfl rfl b2v rfl rfl ?_
 refine x3x (out := .agg (s9s p.base)) rfl b2v rfl rfl ?_
 refine z1z rfl rfl rfl (b1k ..) ?_
 refine x0x rfl v8v rfl rfl r4r rfl rfl ?_
 refine a4q (cs' := [pI p.proc, pI p.base.x, pI p.base.y, pI p.base.count, .pv (.slice none 0 0)]) rfl rfl r4r rfl rfl rfl rfl (v7v rfl) rfl ?_
 refine x6x x9x (by rfl) ?_
 refine x0x rfl b0z rfl rfl a9t rfl rfl ?_
 refine x3x rfl a9t rfl rfl ?_
 refine v2v [0] [_] (b9e c p.done hs) rfl rfl rfl (by decide) rfl rfl (by repeat (first | exact InH.nil | refine InH.cons rfl ?_)) (by (simp only [pI, z8z, z9z, p8p, gl, nx, p6p, Nat.beq]; rfl)) (by (simp only [pI, z8z, z9z, p8p, gl, nx, p6p, Nat.beq]; rfl)) ?_
 refine x0x rfl v8v rfl rfl w0w rfl rfl ?_
 refine u8u rfl rfl w0w rfl rfl rfl rfl rfl (by simp only [a0p]; rfl) ?_
 refine x6x x9x (by rfl) ?_
 refine y8y rfl v8v rfl rfl rfl ?_
 refine u2u rfl rfl v8v rfl rfl rfl rfl ?_
 refine y3y ?_
 exact ⟨.inr rfl, [_], rfl, rfl, HE.row rfl rfl HE.nil⟩
theorem b9f (c : Bool) (l : List La) (hl : b5m l ≤ 1048576) : Meth Tryz.prog 100 1 [] [c1q c l] [(0, (0, .dead))] (.ref 0 0) [(0, (0, .row 65 5 (l.map a1t)))] := by
 refine u7u x9x (fn := Tryz.f100) (by kernel_rfl) (by kernel_rfl) rfl (O0 := [.ref 0 0]) 1 1 (v7v rfl) (by rfl) (by repeat (first | exact BndH.nil | refine BndH.dead ?_)) (by repeat (first | exact BndH.nil | refine BndH.row (u6u fun _ => rfl) ?_)) (by rfl) fun γ => ?_
 show Ex Tryz.prog _ _ [(0, c1q c l)] [(0, ((γ 0), .dead)), (1, (0, .dead))] _
 have hc : b5m l = l.length + szs cLa l := rfl
 refine x6x x9x (by rfl) ?_
 refine x2x rfl ?_
 refine x6x x9x (by rfl) ?_
 refine x1x rfl ?_
 refine u3u rfl b6v rfl ?_
 refine a6f (id := 0) w2w rfl v8v a9u rfl rfl rfl rfl (by (simp only [List.length_map, List.length_append, List.length_cons, List.length_nil, List.length_take, T65]; omega)) rfl ?_
 refine x2x rfl ?_
 refine x7x fun K1 hK1 => ?_
 refine x6x x9x (by rfl) ?_
 refine x2x rfl ?_
 refine y6y ?_
 refine u5u (ι := Nat) (fun i γ1 => [(4, .pv (.int .i64 (i : Int)))]) (fun i γ1 => [(1, ((γ1 1), .dead)), (0, ((γ 0 + 1), .row 65 5 ((l.take i).map a1t ++ (l.drop i).map fun _ => [pI 0, pI 0, pI 0, pI 0, .pv (.slice none 0 0)])))]) (fun i => i ≤ l.length) (fun i => l.length - i) (x4x 0 rfl (x4x 3 rfl Cov.nil)) HE.nil 0 (by omega) [0, _] (x4x 4 rfl Cov.nil) (HE.kill rfl (HE.row rfl (by rw [List.take_zero, List.drop_zero, List.map_const']; rfl) HE.nil)) rfl fun i γ1 hi => ?_
 try dsimp only [List.cons_append, List.nil_append]
 refine x7x fun K2 hK2 => ?_
 refine x6x x9x (by rfl) ?_
 refine x1x rfl ?_
 refine x1x rfl ?_
 refine u3u rfl b6v rfl ?_
 refine y4y rfl rfl rfl ?_
 refine y0y rfl (fun hc3 => ?_) (fun hc3 => ?_)
 rotate_left
 ·try simp at hc3
  obtain rfl : i = l.length := by omega
  refine v0v ?_
  refine hK1 _ _ ?_
  clear hK2 K2 hK1 K1
  refine x6x x9x (by rfl) ?_
  refine x1x rfl ?_
  refine x2x rfl ?_
  refine y3y ?_
  exact ⟨.inr rfl, [_], rfl, rfl, HE.row rfl (by rw [List.take_length, List.drop_length, List.map_nil, List.append_nil]) HE.nil⟩
 try simp at hc3
 obtain ⟨p, hp⟩ : ∃ p, l[i]? = some p := w5w (by omega)
 have hAl : ((l.take i).map a1t).length = i := by rw [List.length_map, List.length_take]; omega
 rw [r1r hp, List.map_cons]
 have hat := a3f cLa hp
 have hcp : cLa p = c1g p.done := rfl
 refine y1y ?_
 refine hK2 _ _ ?_
 clear hK2 K2
 refine x7x fun K4 hK4 => ?_
 refine y6y ?_
 refine y2y x9x (by rfl) ?_
 refine x1x rfl ?_
 refine x1x rfl ?_
 refine x1x rfl ?_
 refine x1x rfl ?_
 refine u0u rfl rfl b6v rfl b0z rfl (by assumption) ?_
 refine z5z rfl b0z rfl rfl ?_
 refine v2v [1] [_] (c2e c p (by omega)) rfl rfl rfl (by decide) rfl rfl (by repeat (first | exact InH.nil | refine InH.cons rfl ?_)) (by (simp only [pI, z8z, z9z, p8p, gl, nx, p6p, Nat.beq]; rfl)) (by (simp only [pI, z8z, z9z, p8p, gl, nx, p6p, Nat.beq]; rfl)) ?_
 refine r0r rfl rfl w2w rfl v8v rfl rfl hAl ?_
 refine a2x hAl rfl rfl v8v rfl rfl rfl rfl (d5c rfl) rfl ?_
 refine hK4 _ _ ?_
 clear hK4 K4
 refine y2y x9x (by rfl) ?_
 refine x1x rfl ?_
 refine y4y rfl rfl rfl ?_
 refine x2x rfl ?_
 exact ⟨i + 1, ⟨by omega, by omega⟩, [0, _], (Cov.cons' (t := 4) rfl (by rw [u9u (by omega) (by omega)]; rfl) Cov.nil), (x4x 0 rfl (x4x 3 rfl Cov.nil)), (HE.kill rfl (HE.row rfl (by rw [p2p hp, List.map_append, List.append_assoc]; rfl) HE.nil)), HE.nil, rfl⟩
theorem c2f (c : Bool) (p : Vi) (hs : p.events.length ≤ 1048576) : Meth Tryz.prog 186 1 [] [.agg (a1n c p)] [(0, (0, .dead))] (.agg [pI p.inc, pI p.version, .ref 0 0]) [(0, (0, .row 76 7 (p.events.map v9v)))] := by
 refine u7u x9x (fn := Tryz.f186) (by kernel_rfl) (by kernel_rfl) rfl (O0 := [.agg [pI p.inc, pI p.version, .ref 0 0]]) 1 3 (v7v rfl) (by rfl) (by repeat (first | exact BndH.nil | refine BndH.dead ?_)) (by repeat (first | exact BndH.nil | refine BndH.row (u6u fun _ => rfl) ?_)) (by rfl) fun γ => ?_
 show Ex Tryz.prog _ _ [(0, .agg (a1n c p))] [(0, ((γ 0), .dead)), (3, (0, .dead)), (2, (0, .dead)), (1, (0, .dead))] _
 refine x6x x9x (by rfl) ?_
 refine v4v (id := 1) rfl rfl rfl ?_
 refine v3v (id := 2) v6v a3s rfl ?_
 refine x6x x9x (by rfl) ?_
 refine v3v (id := 3) v6v a3s rfl ?_
 refine x6x x9x (by rfl) ?_
 refine x0x rfl b1a rfl rfl y9y rfl rfl ?_
 refine x3x rfl y9y rfl rfl ?_
 refine x0x rfl v6v rfl rfl y9y rfl rfl ?_
 refine u8u rfl rfl y9y rfl rfl rfl rfl rfl (by simp only [a0p]; rfl) ?_
 refine x6x x9x (by rfl) ?_
 refine x0x rfl b1a rfl rfl y9y rfl rfl ?_
 refine x3x rfl y9y rfl rfl ?_
 refine x0x rfl v6v rfl rfl y9y rfl rfl ?_
 refine u8u rfl rfl y9y rfl rfl rfl rfl rfl (by simp only [a0p]; rfl) ?_
 refine x6x x9x (by rfl) ?_
 refine x0x rfl b1a rfl rfl a7x rfl rfl ?_
 refine x3x rfl a7x rfl rfl ?_
 refine v2v [0] [_] (a1b c p.events hs) rfl rfl rfl (by decide) rfl rfl (by repeat (first | exact InH.nil | refine InH.cons rfl ?_)) (by (simp only [pI, z8z, z9z, p8p, gl, nx, p6p, Nat.beq]; rfl)) (by (simp only [pI, z8z, z9z, p8p, gl, nx, p6p, Nat.beq]; rfl)) ?_
 refine x0x rfl v6v rfl rfl u4u rfl rfl ?_
 refine u8u rfl rfl u4u rfl rfl rfl rfl rfl (by simp only [a0p]; rfl) ?_
 refine x6x x9x (by rfl) ?_
 refine y8y rfl v6v rfl rfl rfl ?_
 refine u2u rfl rfl v6v rfl rfl rfl rfl ?_
 refine y3y ?_
 exact ⟨.inr rfl, [_], rfl, rfl, HE.row rfl rfl HE.nil⟩
theorem b9g (c : Bool) (l : List Vi) (hl : c0e l ≤ 1048576) : Meth Tryz.prog 102 1 [] [c1r c l] [(0, (0, .dead))] (.ref 0 0) [(0, (0, .row 141 3 (l.map a1u)))] := by
 refine u7u x9x (fn := Tryz.f102) (by kernel_rfl) (by kernel_rfl) rfl (O0 := [.ref 0 0]) 1 1 (v7v rfl) (by rfl) (by repeat (first | exact BndH.nil | refine BndH.dead ?_)) (by repeat (first | exact BndH.nil | refine BndH.row (u6u fun _ => rfl) ?_)) (by rfl) fun γ => ?_
 show Ex Tryz.prog _ _ [(0, c1r c l)] [(0, ((γ 0), .dead)), (1, (0, .dead))] _
 have hc : c0e l = l.length + szs cVi l := rfl
 refine x6x x9x (by rfl) ?_
 refine x2x rfl ?_
 refine x6x x9x (by rfl) ?_
 refine x1x rfl ?_
 refine u3u rfl b6w rfl ?_
 refine a6f (id := 0) p1p rfl v6v a3s rfl rfl rfl rfl (by (simp only [List.length_map, List.length_append, List.length_cons, List.length_nil, List.length_take, T141]; omega)) rfl ?_
 refine x2x rfl ?_
 refine x7x fun K1 hK1 => ?_
 refine x6x x9x (by rfl) ?_
 refine x2x rfl ?_
 refine y6y ?_
 refine u5u (ι := Nat) (fun i γ1 => [(4, .pv (.int .i64 (i : Int)))]) (fun i γ1 => [(1, ((γ1 1), .dead)), (0, ((γ 0 + 1), .row 141 3 ((l.take i).map a1u ++ (l.drop i).map fun _ => [pI 0, pI 0, .pv (.slice none 0 0)])))]) (fun i => i ≤ l.length) (fun i => l.length - i) (x4x 0 rfl (x4x 3 rfl Cov.nil)) HE.nil 0 (by omega) [0, _] (x4x 4 rfl Cov.nil) (HE.kill rfl (HE.row rfl (by rw [List.take_zero, List.drop_zero, List.map_const']; rfl) HE.nil)) rfl fun i γ1 hi => ?_
 try dsimp only [List.cons_append, List.nil_append]
 refine x7x fun K2 hK2 => ?_
 refine x6x x9x (by rfl) ?_
 refine x1x rfl ?_
 refine x1x rfl ?_
 refine u3u rfl b6w rfl ?_
 refine y4y rfl rfl rfl ?_
 refine y0y rfl (fun hc3 => ?_) (fun hc3 => ?_)
 rotate_left
 ·try simp at hc3
  obtain rfl : i = l.length := by omega
  refine v0v ?_
  refine hK1 _ _ ?_
  clear hK2 K2 hK1 K1
  refine x6x x9x (by rfl) ?_
  refine x1x rfl ?_
  refine x2x rfl ?_
  refine y3y ?_
  exact ⟨.inr rfl, [_], rfl, rfl, HE.row rfl (by rw [List.take_length, List.drop_length, List.map_nil, List.append_nil]) HE.nil⟩
 try simp at hc3
 obtain ⟨p, hp⟩ : ∃ p, l[i]? = some p := w5w (by omega)
 have hAl : ((l.take i).map a1u).length = i := by rw [List.length_map, List.length_take]; omega
 rw [r1r hp, List.map_cons]
 have hat := a3f cVi hp
 have hcp : cVi p = p.events.length := rfl
 refine y1y ?_
 refine hK2 _ _ ?_
 clear hK2 K2
 refine x7x fun K4 hK4 => ?_
 refine y6y ?_
 refine y2y x9x (by rfl) ?_
 refine x1x rfl ?_
 refine x1x rfl ?_
 refine x1x rfl ?_
 refine x1x rfl ?_
 refine u0u rfl rfl b6w rfl b1a rfl (by assumption) ?_
 refine z5z rfl b1a rfl rfl ?_
 refine v2v [1] [_] (c2f c p (by omega)) rfl rfl rfl (by decide) rfl rfl (by repeat (first | exact InH.nil | refine InH.cons rfl ?_)) (by (simp only [pI, z8z, z9z, p8p, gl, nx, p6p, Nat.beq]; rfl)) (by (simp only [pI, z8z, z9z, p8p, gl, nx, p6p, Nat.beq]; rfl)) ?_
 refine r0r rfl rfl p1p rfl v6v rfl rfl hAl ?_
 refine a2x hAl rfl rfl v6v rfl rfl rfl rfl (d5e rfl) rfl ?_
 refine hK4 _ _ ?_
 clear hK4 K4
 refine y2y x9x (by rfl) ?_
 refine x1x rfl ?_
 refine y4y rfl rfl rfl ?_
 refine x2x rfl ?_
 exact ⟨i + 1, ⟨by omega, by omega⟩, [0, _], (Cov.cons' (t := 4) rfl (by rw [u9u (by omega) (by omega)]; rfl) Cov.nil), (x4x 0 rfl (x4x 3 rfl Cov.nil)), (HE.kill rfl (HE.row rfl (by rw [p2p hp, List.map_append, List.append_assoc]; rfl) HE.nil)), HE.nil, rfl⟩
theorem c2g (c : Bool) (l : List Int) (hl : l.length ≤ 1048576) : Meth Tryz.prog 16 1 [] [a4r c l] [(0, (0, .dead))] (.ref 0 0) [(0, (0, .row 3 1 (l.map a2h)))] := by
 refine u7u x9x (fn := Tryz.f16) (by kernel_rfl) (by kernel_rfl) rfl (O0 := [.ref 0 0]) 1 0 (v7v rfl) (by rfl) (by repeat (first | exact BndH.nil | refine BndH.dead ?_)) (by repeat (first | exact BndH.nil | refine BndH.row (u6u fun _ => rfl) ?_)) (by rfl) fun γ => ?_
 show Ex Tryz.prog _ _ [(0, a4r c l)] [(0, ((γ 0), .dead))] _
 refine x6x x9x (by rfl) ?_
 refine x2x rfl ?_
 refine x6x x9x (by rfl) ?_
 refine x1x rfl ?_
 refine u3u rfl p4p rfl ?_
 refine a6f (id := 0) p4p rfl y9y d9j rfl rfl rfl rfl (by (simp only [List.length_map, List.length_append, List.length_cons, List.length_nil, List.length_take, T3]; omega)) rfl ?_
 refine x2x rfl ?_
 refine x7x fun K1 hK1 => ?_
 refine x6x x9x (by rfl) ?_
 refine x2x rfl ?_
 refine y6y ?_
 refine u5u (ι := Nat) (fun i γ1 => [(4, .pv (.int .i64 (i : Int)))]) (fun i γ1 => [(0, ((γ 0 + 1), .row 3 1 ((l.take i).map a2h ++ (l.drop i).map fun _ => [pI 0])))]) (fun i => i ≤ l.length) (fun i => l.length - i) (x4x 0 rfl (x4x 3 rfl Cov.nil)) HE.nil 0 (by omega) [] (x4x 4 rfl Cov.nil) (HE.row rfl (by rw [List.take_zero, List.drop_zero, List.map_const']; rfl) HE.nil) rfl fun i γ1 hi => ?_
 try dsimp only [List.cons_append, List.nil_append]
 refine x7x fun K2 hK2 => ?_
 refine x6x x9x (by rfl) ?_
 refine x1x rfl ?_
 refine x1x rfl ?_
 refine u3u rfl p4p rfl ?_
 refine y4y rfl rfl rfl ?_
 refine y0y rfl (fun hc3 => ?_) (fun hc3 => ?_)
 rotate_left
 ·try simp at hc3
  obtain rfl : i = l.length := by omega
  refine v0v ?_
  refine hK1 _ _ ?_
  clear hK2 K2 hK1 K1
  refine x6x x9x (by rfl) ?_
  refine x1x rfl ?_
  refine x2x rfl ?_
  refine y3y ?_
  exact ⟨.inr rfl, [_], rfl, rfl, HE.row rfl (by rw [List.take_length, List.drop_length, List.map_nil, List.append_nil]) HE.nil⟩
 try simp at hc3
 obtain ⟨p, hp⟩ : ∃ p, l[i]? = some p := w5w (by omega)
 have hAl : ((l.take i).map a2h).length = i := by rw [List.length_map, List.length_take]; omega
 rw [r1r hp, List.map_cons]
 refine y1y ?_
 refine hK2 _ _ ?_
 clear hK2 K2
 refine x7x fun K4 hK4 => ?_
 refine y6y ?_
 refine y2y x9x (by rfl) ?_
 refine x1x rfl ?_
 refine x1x rfl ?_
 refine x1x rfl ?_
 refine x1x rfl ?_
 refine u0u rfl rfl p4p rfl y9y rfl (by assumption) ?_
 refine z7z rfl y9y rfl ?_
 refine r0r rfl rfl p4p rfl y9y rfl rfl hAl ?_
 refine q2q hAl rfl rfl y9y rfl rfl rfl rfl rfl rfl rfl rfl ?_
 refine hK4 _ _ ?_
 clear hK4 K4
 refine y2y x9x (by rfl) ?_
 refine x1x rfl ?_
 refine y4y rfl rfl rfl ?_
 refine x2x rfl ?_
 exact ⟨i + 1, ⟨by omega, by omega⟩, [], (Cov.cons' (t := 4) rfl (by rw [u9u (by omega) (by omega)]; rfl) Cov.nil), (x4x 0 rfl (x4x 3 rfl Cov.nil)), (HE.row rfl (by rw [p2p hp, List.map_append, List.append_assoc]; rfl) HE.nil), HE.nil, rfl⟩
theorem a5q (c : Bool) (n : Nd) (hl : cNd n ≤ 1048576) : Meth Tryz.prog 25 5 [] [.agg (a1i c n)] [(0, (0, .dead)), (1, (0, .dead)), (2, (0, .dead)), (3, (0, .dead)), (4, (0, .dead))] (.agg [pI n.id, .pv (.bool n.up), pI n.inc, pI n.g, .ref 0 0, .ref 1 0, .ref 2 0, pI n.led, pI n.version, .ref 3 0, .ref 4 0, pI n.round, pI n.low]) [(0, (0, .row 65 5 (n.lanes.map a1t))), (1, (0, .row 76 7 (n.kept.map v9v))), (2, (0, .row 104 5 (n.outs.map a0y))), (3, (0, .row 141 3 (n.views.map a1u))), (4, (0, .row 3 1 (n.known.map a2h)))] := by
 refine u7u x9x (fn := Tryz.f25) (by kernel_rfl) (by kernel_rfl) rfl (O0 := [.agg [pI n.id, .pv (.bool n.up), pI n.inc, pI n.g, .ref 0 0, .ref 1 0, .ref 2 0, pI n.led, pI n.version, .ref 3 0, .ref 4 0, pI n.round, pI n.low]]) 5 3 (v7v rfl) (by rfl) (by repeat (first | exact BndH.nil | refine BndH.dead ?_)) (by repeat (first | exact BndH.nil | refine BndH.row (u6u fun _ => rfl) ?_)) (by rfl) fun γ => ?_
 show Ex Tryz.prog _ _ [(0, .agg (a1i c n))] [(0, ((γ 0), .dead)), (1, ((γ 1), .dead)), (2, ((γ 2), .dead)), (3, ((γ 3), .dead)), (4, ((γ 4), .dead)), (7, (0, .dead)), (6, (0, .dead)), (5, (0, .dead))] _
 have hc : cNd n = b5m n.lanes + n.kept.length + n.outs.length + c0e n.views + n.known.length := rfl
 refine x6x x9x (by rfl) ?_
 refine v4v (id := 5) rfl rfl rfl ?_
 refine v3v (id := 6) z6z a4v rfl ?_
 refine x6x x9x (by rfl) ?_
 refine v3v (id := 7) z6z a4v rfl ?_
 refine x6x x9x (by rfl) ?_
 refine x0x rfl a4u rfl rfl y9y rfl rfl ?_
 refine x3x rfl y9y rfl rfl ?_
 refine x0x rfl z6z rfl rfl y9y rfl rfl ?_
 refine u8u rfl rfl y9y rfl rfl rfl rfl rfl (by simp only [a0p]; rfl) ?_
 refine x6x x9x (by rfl) ?_
 refine x0x rfl a4u rfl rfl b5n rfl rfl ?_
 refine x3x rfl b5n rfl rfl ?_
 refine x0x rfl z6z rfl rfl b5n rfl rfl ?_
 refine u8u rfl rfl b5n rfl rfl rfl rfl rfl (by simp only [a0p]; rfl) ?_
 refine x6x x9x (by rfl) ?_
 refine x0x rfl a4u rfl rfl y9y rfl rfl ?_
 refine x3x rfl y9y rfl rfl ?_
 refine x0x rfl z6z rfl rfl y9y rfl rfl ?_
 refine u8u rfl rfl y9y rfl rfl rfl rfl rfl (by simp only [a0p]; rfl) ?_
 refine x6x x9x (by rfl) ?_
 refine x0x rfl a4u rfl rfl y9y rfl rfl ?_
 refine x3x rfl y9y rfl rfl ?_
 refine x0x rfl z6z rfl rfl y9y rfl rfl ?_
 refine u8u rfl rfl y9y rfl rfl rfl rfl rfl (by simp only [a0p]; rfl) ?_
 refine x6x x9x (by rfl) ?_
 refine x0x rfl a4u rfl rfl b6v rfl rfl ?_
 refine x3x rfl b6v rfl rfl ?_
 refine v2v [0] [_] (b9f c n.lanes (by omega)) rfl rfl rfl (by decide) rfl rfl (by repeat (first | exact InH.nil | refine InH.cons rfl ?_)) (by (simp only [pI, z8z, z9z, p8p, gl, nx, p6p, Nat.beq]; rfl)) (by (simp only [pI, z8z, z9z, p8p, gl, nx, p6p, Nat.beq]; rfl)) ?_
 refine x0x rfl z6z rfl rfl w2w rfl rfl ?_
 refine u8u rfl rfl w2w rfl rfl rfl rfl rfl (by simp only [a0p]; rfl) ?_
 refine x6x x9x (by rfl) ?_
 refine x0x rfl a4u rfl rfl a7x rfl rfl ?_
 refine x3x rfl a7x rfl rfl ?_
 refine v2v [1] [_] (a1b c n.kept (by omega)) rfl rfl rfl (by decide) rfl rfl (by repeat (first | exact InH.nil | refine InH.cons rfl ?_)) (by (simp only [pI, z8z, z9z, p8p, gl, nx, p6p, Nat.beq]; rfl)) (by (simp only [pI, z8z, z9z, p8p, gl, nx, p6p, Nat.beq]; rfl)) ?_
 refine x0x rfl z6z rfl rfl u4u rfl rfl ?_
 refine u8u rfl rfl u4u rfl rfl rfl rfl rfl (by simp only [a0p]; rfl) ?_
 refine x6x x9x (by rfl) ?_
 refine x0x rfl a4u rfl rfl b2u rfl rfl ?_
 refine x3x rfl b2u rfl rfl ?_
 refine v2v [2] [_] (b3x c n.outs (by omega)) rfl rfl rfl (by decide) rfl rfl (by repeat (first | exact InH.nil | refine InH.cons rfl ?_)) (by (simp only [pI, z8z, z9z, p8p, gl, nx, p6p, Nat.beq]; rfl)) (by (simp only [pI, z8z, z9z, p8p, gl, nx, p6p, Nat.beq]; rfl)) ?_
 refine x0x rfl z6z rfl rfl p9p rfl rfl ?_
 refine u8u rfl rfl p9p rfl rfl rfl rfl rfl (by simp only [a0p]; rfl) ?_
 refine x6x x9x (by rfl) ?_
 refine x0x rfl a4u rfl rfl y9y rfl rfl ?_
 refine x3x rfl y9y rfl rfl ?_
 refine x0x rfl z6z rfl rfl y9y rfl rfl ?_
 refine u8u rfl rfl y9y rfl rfl rfl rfl rfl (by simp only [a0p]; rfl) ?_
 refine x6x x9x (by rfl) ?_
 refine x0x rfl a4u rfl rfl y9y rfl rfl ?_
 refine x3x rfl y9y rfl rfl ?_
 refine x0x rfl z6z rfl rfl y9y rfl rfl ?_
 refine u8u rfl rfl y9y rfl rfl rfl rfl rfl (by simp only [a0p]; rfl) ?_
 refine x6x x9x (by rfl) ?_
 refine x0x rfl a4u rfl rfl b6w rfl rfl ?_
 refine x3x rfl b6w rfl rfl ?_
 refine v2v [3] [_] (b9g c n.views (by omega)) rfl rfl rfl (by decide) rfl rfl (by repeat (first | exact InH.nil | refine InH.cons rfl ?_)) (by (simp only [pI, z8z, z9z, p8p, gl, nx, p6p, Nat.beq]; rfl)) (by (simp only [pI, z8z, z9z, p8p, gl, nx, p6p, Nat.beq]; rfl)) ?_
 refine x0x rfl z6z rfl rfl p1p rfl rfl ?_
 refine u8u rfl rfl p1p rfl rfl rfl rfl rfl (by simp only [a0p]; rfl) ?_
 refine x6x x9x (by rfl) ?_
 refine x0x rfl a4u rfl rfl p4p rfl rfl ?_
 refine x3x rfl p4p rfl rfl ?_
 refine v2v [4] [_] (c2g c n.known (by omega)) rfl rfl rfl (by decide) rfl rfl (by repeat (first | exact InH.nil | refine InH.cons rfl ?_)) (by (simp only [pI, z8z, z9z, p8p, gl, nx, p6p, Nat.beq]; rfl)) (by (simp only [pI, z8z, z9z, p8p, gl, nx, p6p, Nat.beq]; rfl)) ?_
 refine x0x rfl z6z rfl rfl p4p rfl rfl ?_
 refine u8u rfl rfl p4p rfl rfl rfl rfl rfl (by simp only [a0p]; rfl) ?_
 refine x6x x9x (by rfl) ?_
 refine x0x rfl a4u rfl rfl y9y rfl rfl ?_
 refine x3x rfl y9y rfl rfl ?_
 refine x0x rfl z6z rfl rfl y9y rfl rfl ?_
 refine u8u rfl rfl y9y rfl rfl rfl rfl rfl (by simp only [a0p]; rfl) ?_
 refine x6x x9x (by rfl) ?_
 refine x0x rfl a4u rfl rfl y9y rfl rfl ?_
 refine x3x rfl y9y rfl rfl ?_
 refine x0x rfl z6z rfl rfl y9y rfl rfl ?_
 refine u8u rfl rfl y9y rfl rfl rfl rfl rfl (by simp only [a0p]; rfl) ?_
 refine x6x x9x (by rfl) ?_
 refine y8y rfl z6z rfl rfl rfl ?_
 refine u2u rfl rfl z6z rfl rfl rfl rfl ?_
 refine y3y ?_
 exact ⟨.inr rfl, [_, _, _, _, _], rfl, rfl, HE.row rfl rfl (HE.row rfl rfl (HE.row rfl rfl (HE.row rfl rfl (HE.row rfl rfl HE.nil))))⟩
end
section
def a7e (c : Bool) (vs : List Vi) : List (Value × AV) := vs.zipIdx.map fun p => (.int .i64 (p.2 : Int), .agg (a1n c p.1))
def b2h (n : Nat) : List Int := (List.range n).map fun (i : Nat) => (i : Int)
theorem d7f {c : Bool} {vs : List Vi} {i : Nat} {v : Vi} (h : vs[i]? = some v) : (a7e c vs)[i]? = some (.int .i64 (i : Int), .agg (a1n c v)) := by
 rw [a7e, List.getElem?_map, List.getElem?_zipIdx, h]; simp
theorem a6o (c : Bool) (vs : List Vi) : (a7e c vs).map (·.1) = (b2h vs.length).map fun n => Value.int .i64 n := by
 apply List.ext_getElem?
 intro i
 simp only [a7e, b2h, List.getElem?_map, List.getElem?_zipIdx, List.getElem?_range]
 by_cases h : i < vs.length
 ·simp [h]
 ·rw [List.getElem?_eq_none (by omega : vs.length ≤ i)]; simp [h]
theorem c2h {n i : Nat} (h : i < n) : a4w (b2h n) (i : Int) = some i := by
 obtain ⟨j, hj⟩ := c3d (k := (i : Int)) (ks := b2h n) (List.mem_map.2 ⟨i, List.mem_range.2 h, rfl⟩)
 have := b1w hj
 simp only [b2h, List.getElem?_map] at this
 cases hr : (List.range n)[j]? with
 | none => rw [hr] at this; cases this
 | some k =>
  rw [hr] at this
  obtain ⟨q1, q2⟩ := List.getElem?_eq_some_iff.1 hr
  simp only [List.getElem_range] at q2
  simp only [Option.map_some, Option.some.injEq] at this
  have : j = i := by omega
  rw [hj, this]
theorem d4a (n : Nat) : a4w (b2h n) (n : Int) = none := a9v.2 fun h => by
 obtain ⟨k, h1, h2⟩ := List.mem_map.1 h
 rw [List.mem_range] at h1
 omega
theorem d2b (c : Bool) (vs : List Vi) (v : Vi) : a7e c (vs ++ [v]) = a7e c vs ++ [(.int .i64 (vs.length : Int), .agg (a1n c v))] := by
 simp [a7e, List.zipIdx_append]
theorem b3y {tt : TT} {et : TypeId} {c : Bool} {vs : List Vi} {i : Nat} {v : Vi} (h : vs[i]? = some v) : (∃ j kv, a4w (b2h vs.length) (i : Int) = some j ∧ (a7e c vs)[j]? = some (kv, .agg (a1n c v))) ∨ (a4w (b2h vs.length) (i : Int) = none ∧ ∃ S, tt et = some S ∧ AV.agg (a1n c v) = b4r S) :=
 .inl ⟨i, _, c2h (List.getElem?_eq_some_iff.1 h).1, d7f h⟩
theorem a0t (c : Bool) (vs : List Vi) : ∀ p ∈ a7e c vs, p.2.flatA = true := fun p hp => by
 obtain ⟨q, _, rfl⟩ := List.mem_map.1 hp; rfl
end
section
variable {P : Program} {ev : Operand → Option AV}
theorem d7g {o : Oper} {t t' : Nat} {x y : Operand} {a b c : Int} (ho : o.op = .call { callee := .builtin .max, args := #[x, y], argTypes := #[t, t'] }) (hx : ev x = some (.pv (.int .i64 a))) (hy : ev y = some (.pv (.int .i64 b))) (hc : (if b > a then b else a) = c) : OpS P o ev [] [] (.pv (.int .i64 c)) :=
 .quiet fun X B hF q w hS hop hT => by
  have h1 := (hop x (by simp [ho, Op.operands, Call.operands]) _ hx).pv_inv
  have h2 := (hop y (by simp [ho, Op.operands, Call.operands]) _ hy).pv_inv
  subst hc
  refine ⟨_, ?_, .pv _⟩
  simp [execOp, ho, resolve, invoke, builtin, Builtin.max_, Builtin.max2, h1, h2]
theorem d9e {tt : TT} {ops : Array Oper} {r : List Oper} {fr : Fr} {h : Hp} {lg : Log} {K : Fr → Hp → Log → Prop} {d : Nat} {ty : TypeId} {pos : String} {af : Array Edge} {t t' : Nat} {x y : Operand} {a b c : Int} (hx : evO fr x = some (.pv (.int .i64 a))) (hy : evO fr y = some (.pv (.int .i64 b))) (hc : (if b > a then b else a) = c) (k : q4q P tt ops r ((d, .pv (.int .i64 c)) :: fr) h (([], []) :: lg) K) :
  q4q P tt ops (⟨some d, .call { callee := .builtin .max, args := #[x, y], argTypes := #[t, t'] }, ty, pos, af, none⟩ :: r) fr h lg K :=
 a4p (d7g rfl hx hy hc) .nil .nil k
end
section
theorem c7d (c : Bool) (vs : List Vi) (k : Nat) (v : Vi) : a7e c (vs.set k v) = (a7e c vs).set k (.int .i64 (k : Int), .agg (a1n c v)) := by
 apply List.ext_getElem?
 intro i
 rw [List.getElem?_set, a7e, List.getElem?_map, List.getElem?_zipIdx, List.getElem?_set, a7e, List.getElem?_map, List.getElem?_zipIdx, List.length_map, List.length_zipIdx]
 by_cases e : k = i
 ·subst e
  by_cases h : k < vs.length
  ·simp [h]
  ·simp [h]
 ·simp [e]
theorem d4b {α : Type} {l : List α} {i : Nat} {a : α} (h : l[i]? = some a) : l.set i a = l := by
 obtain ⟨h1, rfl⟩ := List.getElem?_eq_some_iff.1 h
 exact List.set_getElem_self h1
end
section
theorem w9w (v lo hi : Int) : a0z Tryz.prog 111 [.pv (.int .i64 v), .pv (.int .i64 lo), .pv (.int .i64 hi)] (.pv (.bool (decide (lo ≤ v ∧ v ≤ hi)))) := by
 refine z4z x9x (fn := Tryz.f111) (by kernel_rfl) (by kernel_rfl) rfl (outs := [.pv (.bool (decide (lo ≤ v ∧ v ≤ hi)))]) (by rfl) (v7v rfl) 0 ?_
 refine x6x x9x (by rfl) ?_
 refine x2x rfl ?_
 refine x6x x9x (by rfl) ?_
 refine x1x rfl ?_
 refine x1x rfl ?_
 refine y4y rfl rfl rfl ?_
 refine x1x rfl ?_
 refine a0b rfl rfl (fun hg1 => ?_) (fun hg1 => ?_)
 rotate_left
 ·try simp at hg1
  refine x8x rfl rfl ?_
  refine x8x rfl rfl ?_
  refine y5y rfl rfl ?_
  refine x2x rfl ?_
  refine y3y ⟨.inr rfl, ?_⟩
  refine z2z rfl ?_ rfl
  simp; omega
 try simp at hg1
 refine x1x rfl ?_
 refine y7y rfl rfl ?_
 refine x1x rfl ?_
 refine y7y rfl rfl ?_
 refine y4y rfl rfl rfl ?_
 refine z0z rfl rfl ?_
 refine x2x rfl ?_
 refine y3y ⟨.inr rfl, ?_⟩
 refine z2z rfl ?_ rfl
 simp; omega
theorem q3q (v lo hi : Int) : a0z Tryz.prog 75 [.pv (.int .i64 v), .pv (.int .i64 lo), .pv (.int .i64 hi)] (.pv (.bool (decide (lo ≤ v ∧ v ≤ hi)))) := by
 refine z4z x9x (fn := Tryz.f75) (by kernel_rfl) (by kernel_rfl) rfl (outs := [.pv (.bool (decide (lo ≤ v ∧ v ≤ hi)))]) (by rfl) (v7v rfl) 0 ?_
 refine x6x x9x (by rfl) ?_
 refine x2x rfl ?_
 refine x6x x9x (by rfl) ?_
 refine x1x rfl ?_
 refine x1x rfl ?_
 refine y4y rfl rfl rfl ?_
 refine x1x rfl ?_
 refine a0b rfl rfl (fun hg1 => ?_) (fun hg1 => ?_)
 rotate_left
 ·try simp at hg1
  refine x8x rfl rfl ?_
  refine x8x rfl rfl ?_
  refine y5y rfl rfl ?_
  refine x2x rfl ?_
  refine y3y ⟨.inr rfl, ?_⟩
  refine z2z rfl ?_ rfl
  simp; omega
 try simp at hg1
 refine x1x rfl ?_
 refine y7y rfl rfl ?_
 refine x1x rfl ?_
 refine y7y rfl rfl ?_
 refine y4y rfl rfl rfl ?_
 refine z0z rfl rfl ?_
 refine x2x rfl ?_
 refine y3y ⟨.inr rfl, ?_⟩
 refine z2z rfl ?_ rfl
 simp; omega
theorem a5r (p : Int) : a0z Tryz.prog 155 [.pv (.int .i64 p)] (.pv (.bool (decide (0 ≤ p ∧ p ≤ 3)))) := by
 refine z4z x9x (fn := Tryz.f155) (by kernel_rfl) (by kernel_rfl) rfl (outs := [.pv (.bool (decide (0 ≤ p ∧ p ≤ 3)))]) (by rfl) (v7v rfl) 0 ?_
 refine x6x x9x (by rfl) ?_
 refine x2x rfl ?_
 refine x6x x9x (by rfl) ?_
 refine x1x rfl ?_
 refine z1z rfl rfl rfl (w9w ..) ?_
 refine x2x rfl ?_
 refine y3y ⟨.inr rfl, ?_⟩
 exact z2z rfl rfl rfl
theorem a5s (p : Int) : a0z Tryz.prog 127 [.pv (.int .i64 p)] (.pv (.bool (decide (0 ≤ p ∧ p ≤ 3)))) := by
 refine z4z x9x (fn := Tryz.f127) (by kernel_rfl) (by kernel_rfl) rfl (outs := [.pv (.bool (decide (0 ≤ p ∧ p ≤ 3)))]) (by rfl) (v7v rfl) 0 ?_
 refine x6x x9x (by rfl) ?_
 refine x2x rfl ?_
 refine x6x x9x (by rfl) ?_
 refine x1x rfl ?_
 refine z1z rfl rfl rfl (q3q ..) ?_
 refine x2x rfl ?_
 refine y3y ⟨.inr rfl, ?_⟩
 exact z2z rfl rfl rfl
theorem b3z (p : Int) : a0z Tryz.prog 154 [.pv (.int .i64 p)] (.pv (.bool (decide (0 ≤ p ∧ p ≤ 2)))) := by
 refine z4z x9x (fn := Tryz.f154) (by kernel_rfl) (by kernel_rfl) rfl (outs := [.pv (.bool (decide (0 ≤ p ∧ p ≤ 2)))]) (by rfl) (v7v rfl) 0 ?_
 refine x6x x9x (by rfl) ?_
 refine x2x rfl ?_
 refine x6x x9x (by rfl) ?_
 refine x1x rfl ?_
 refine z1z rfl rfl rfl (w9w ..) ?_
 refine x2x rfl ?_
 refine y3y ⟨.inr rfl, ?_⟩
 exact z2z rfl rfl rfl
theorem a5t (p : Int) : a0z Tryz.prog 65 [.pv (.int .i64 p)] (.pv (.int .i64 (s0s p))) := by
 refine z4z x9x (fn := Tryz.f65) (by kernel_rfl) (by kernel_rfl) rfl (outs := [.pv (.int .i64 (s0s p))]) (by rfl) (v7v rfl) 0 ?_
 refine x6x x9x (by rfl) ?_
 refine x2x rfl ?_
 refine x7x fun K1 hK1 => ?_
 refine x6x x9x (by rfl) ?_
 refine x1x rfl ?_
 refine z1z rfl rfl rfl (a5r ..) ?_
 refine w6w rfl ?_
 refine y0y rfl (fun hc2 => ?_) (fun hc2 => ?_)
 ·try simp at hc2
  refine x6x x9x (by rfl) ?_
  refine x2x rfl ?_
  refine y3y ⟨.inr rfl, ?_⟩
  clear hK1 K1
  refine z2z rfl ?_ rfl
  simp [s0s]; omega
 try simp at hc2
 refine y1y ?_
 refine hK1 _ _ ?_
 clear hK1 K1
 refine x6x x9x (by rfl) ?_
 refine x1x rfl ?_
 refine y4y rfl rfl rfl ?_
 refine x2x rfl ?_
 refine y3y ⟨.inr rfl, ?_⟩
 refine z2z rfl ?_ rfl
 simp [s0s]; omega
theorem a5u (p : Int) : a0z Tryz.prog 115 [.pv (.int .i64 p)] (.pv (.int .i64 (s0s p))) := by
 refine z4z x9x (fn := Tryz.f115) (by kernel_rfl) (by kernel_rfl) rfl (outs := [.pv (.int .i64 (s0s p))]) (by rfl) (v7v rfl) 0 ?_
 refine x6x x9x (by rfl) ?_
 refine x2x rfl ?_
 refine x7x fun K1 hK1 => ?_
 refine x6x x9x (by rfl) ?_
 refine x1x rfl ?_
 refine z1z rfl rfl rfl (a5s ..) ?_
 refine w6w rfl ?_
 refine y0y rfl (fun hc2 => ?_) (fun hc2 => ?_)
 ·try simp at hc2
  refine x6x x9x (by rfl) ?_
  refine x2x rfl ?_
  refine y3y ⟨.inr rfl, ?_⟩
  clear hK1 K1
  refine z2z rfl ?_ rfl
  simp [s0s]; omega
 try simp at hc2
 refine y1y ?_
 refine hK1 _ _ ?_
 clear hK1 K1
 refine x6x x9x (by rfl) ?_
 refine x1x rfl ?_
 refine y4y rfl rfl rfl ?_
 refine x2x rfl ?_
 refine y3y ⟨.inr rfl, ?_⟩
 refine z2z rfl ?_ rfl
 simp [s0s]; omega
theorem a4m (id : Int) : a0z Tryz.prog 149 [.pv (.int .i64 id)] (a4r true (a1d id 4)) := by
 refine z4z x9x (fn := Tryz.f149) (by kernel_rfl) (by kernel_rfl) rfl (outs := [a4r true (a1d id 4)]) (by rfl) (v7v rfl) 2 ?_
 refine x6x x9x (by rfl) ?_
 refine x2x rfl ?_
 refine x6x x9x (by rfl) ?_
 refine x2x rfl ?_
 refine x7x fun K1 hK1 => ?_
 refine x6x x9x (by rfl) ?_
 refine x1x rfl ?_
 refine y6y ?_
 refine a2r 3 1 3 1 rfl rfl ?_
 refine u5u (ι := Nat) (fun i γ1 => [(3, .ref 1 (γ1 1)), (5, .pv (.int .i64 (i : Int)))]) (fun i γ1 => [(1, ((γ1 1), .row 3 1 ((a1d id i).map a2h))), (0, ((γ1 0), .dead))]) (fun i => i ≤ 4) (fun i => 4 - i) (x4x 0 rfl Cov.nil) HE.nil 0 (by omega) [_, _] (x4x 3 rfl (x4x 5 rfl Cov.nil)) (HE.row rfl rfl (HE.kill rfl HE.nil)) rfl fun i γ1 hi => ?_
 try dsimp only [List.cons_append, List.nil_append]
 refine x6x x9x (by rfl) ?_
 refine y4y rfl rfl rfl ?_
 refine x7x fun K2 hK2 => ?_
 refine y0y rfl (fun hc3 => ?_) (fun hc3 => ?_)
 rotate_left
 ·try simp at hc3
  refine v0v ?_
  refine hK1 _ _ ?_
  clear hK2 K2 hK1 K1
  refine x6x x9x (by rfl) ?_
  refine x1x rfl ?_
  refine x2x rfl ?_
  refine y3y ⟨.inr rfl, ?_⟩
  refine c9p rfl rfl (fun _ => rfl) ?_
  have : i = 4 := by omega
  rw [this]
 try simp at hc3
 refine y1y ?_
 refine hK2 _ _ ?_
 clear hK2 K2
 refine x7x fun K4 hK4 => ?_
 refine y6y ?_
 refine x6x x9x (by rfl) ?_
 refine x1x rfl ?_
 refine x2x rfl ?_
 refine x6x x9x (by rfl) ?_
 refine x1x rfl ?_
 refine z1z rfl rfl rfl (a5t ..) ?_
 refine x1x rfl ?_
 refine y4y rfl rfl rfl ?_
 refine y0y rfl (fun hc5 => ?_) (fun hc5 => ?_)
 rotate_left
 ·try simp at hc5
  refine y1y ?_
  refine hK4 _ _ ?_
  clear hK4 K4
  refine y2y x9x (by rfl) ?_
  refine y4y rfl rfl rfl ?_
  refine x1x rfl ?_
  exact ⟨i + 1, ⟨by omega, by omega⟩, [_, _], (x4x 3 rfl (Cov.cons' (t := 5) rfl (by rw [u9u (by omega) (by omega)]; rfl) Cov.nil)), (x4x 0 rfl Cov.nil), (HE.row rfl (by simp only [a8e]; rw [if_neg (by assumption)]) (HE.kill rfl HE.nil)), HE.nil, rfl⟩
 try simp at hc5
 refine y2y x9x (by rfl) ?_
 refine x1x rfl ?_
 refine x1x rfl ?_
 refine b7d (id := 0) p4p rfl y9y rfl rfl rfl rfl rfl ?_
 refine s5s rfl rfl p4p rfl y9y rfl rfl rfl rfl (by rfl) (by exact a1c _ _ _) (by simp only [List.length_map, List.length_append, List.length_cons, List.length_nil, T3]; have := a6n id i; omega) ?_
 refine x2x rfl ?_
 refine hK4 _ _ ?_
 clear hK4 K4
 refine y2y x9x (by rfl) ?_
 refine y4y rfl rfl rfl ?_
 refine x1x rfl ?_
 exact ⟨i + 1, ⟨by omega, by omega⟩, [_, _], (x4x 3 rfl (Cov.cons' (t := 5) rfl (by rw [u9u (by omega) (by omega)]; rfl) Cov.nil)), (x4x 0 rfl Cov.nil), (HE.row rfl (by simp only [a8e]; rw [if_pos (by assumption)]) (HE.kill rfl HE.nil)), HE.nil, rfl⟩
end
section
theorem b0g (x : Int) : a0z Tryz.prog 258 [.pv (.int .i64 x)] (.pv (.bool (false))) := by
 refine z4z x9x (fn := Tryz.f258) (by kernel_rfl) (by kernel_rfl) rfl (outs := [.pv (.bool (false))]) (by rfl) (v7v rfl) 0 ?_
 refine x6x x9x (by rfl) ?_
 refine x2x rfl ?_
 refine x6x x9x (by rfl) ?_
 refine x1x rfl ?_
 refine x1x rfl ?_
 refine y4y rfl rfl rfl ?_
 refine x2x rfl ?_
 refine y3y ⟨.inr rfl, ?_⟩
 refine z2z rfl ?_ rfl
 simp
theorem b5a (x y : Int) : a0z Tryz.prog 240 [.pv (.int .i64 x), .pv (.int .i64 y)] (.pv (.int .i64 (if x < y then -1 else if y < x then 1 else 0))) := by
 refine z4z x9x (fn := Tryz.f240) (by kernel_rfl) (by kernel_rfl) rfl (outs := [.pv (.int .i64 (if x < y then -1 else if y < x then 1 else 0))]) (by rfl) (v7v rfl) 0 ?_
 refine x6x x9x (by rfl) ?_
 refine x2x rfl ?_
 refine x6x x9x (by rfl) ?_
 refine x1x rfl ?_
 refine z1z rfl rfl rfl (b0g ..) ?_
 refine x2x rfl ?_
 refine x6x x9x (by rfl) ?_
 refine x1x rfl ?_
 refine z1z rfl rfl rfl (b0g ..) ?_
 refine x2x rfl ?_
 refine x7x fun K1 hK1 => ?_
 refine x6x x9x (by rfl) ?_
 refine x1x rfl ?_
 refine y0y rfl (fun hc2 => ?_) (fun hc2 => ?_)
 ·simp at hc2
 try simp at hc2
 refine y1y ?_
 refine hK1 _ _ ?_
 clear hK1 K1
 refine x7x fun K3 hK3 => ?_
 refine x6x x9x (by rfl) ?_
 refine x1x rfl ?_
 refine y0y rfl (fun hc4 => ?_) (fun hc4 => ?_)
 ·simp at hc4
 try simp at hc4
 refine y1y ?_
 refine hK3 _ _ ?_
 clear hK3 K3
 refine x7x fun K5 hK5 => ?_
 refine x6x x9x (by rfl) ?_
 refine x1x rfl ?_
 refine x1x rfl ?_
 refine y4y rfl rfl rfl ?_
 refine y0y rfl (fun hc6 => ?_) (fun hc6 => ?_)
 ·try simp at hc6
  refine x6x x9x (by rfl) ?_
  refine x2x rfl ?_
  refine y3y ⟨.inr rfl, ?_⟩
  clear hK5 K5
  refine z2z rfl ?_ rfl
  simp only [List.cons.injEq, and_true, AV.pv.injEq, Value.int.injEq, true_and]
  split <;> (try split) <;> omega
 try simp at hc6
 refine y1y ?_
 refine hK5 _ _ ?_
 clear hK5 K5
 refine x7x fun K7 hK7 => ?_
 refine x6x x9x (by rfl) ?_
 refine x1x rfl ?_
 refine x1x rfl ?_
 refine y4y rfl rfl rfl ?_
 refine y0y rfl (fun hc8 => ?_) (fun hc8 => ?_)
 ·try simp at hc8
  refine x6x x9x (by rfl) ?_
  refine x2x rfl ?_
  refine y3y ⟨.inr rfl, ?_⟩
  clear hK7 K7
  refine z2z rfl ?_ rfl
  simp only [List.cons.injEq, and_true, AV.pv.injEq, Value.int.injEq, true_and]
  split <;> (try split) <;> omega
 try simp at hc8
 refine y1y ?_
 refine hK7 _ _ ?_
 clear hK7 K7
 refine x6x x9x (by rfl) ?_
 refine x2x rfl ?_
 refine y3y ⟨.inr rfl, ?_⟩
 refine z2z rfl ?_ rfl
 simp only [List.cons.injEq, and_true, AV.pv.injEq, Value.int.injEq, true_and]
 split <;> (try split) <;> omega
theorem a3n (u v : List Int) (hab : u.length = v.length) (hn : u.length ≤ 1000000) (ty : Nat) : Meth Tryz.prog 213 2 [0, 1] [.bsl 0 0 0 u.length, .bsl 1 0 0 u.length] [(0, (0, .box ty (u.map pI))), (1, (0, .box ty (v.map pI)))] (.pv (.int .i64 (d2f u v))) [] := by
 refine u7u x9x (fn := Tryz.f213) (by kernel_rfl) (by kernel_rfl) rfl (O0 := [.pv (.int .i64 (d2f u v))]) 2 0 (v7v rfl) (by rfl) (by exact .box (c3g _ _) (.box (c3g _ _) .nil)) (by exact .nil) (by rfl) fun γ => ?_
 have hI : List.map (a6g idf γ) [(0, (0, .box ty (u.map pI))), (1, (0, .box ty (v.map pI)))] = [(0, ((γ 0), .box ty (u.map pI))), (1, ((γ 1), .box ty (v.map pI)))] := by simp only [List.map_cons, List.map_nil, a6g, inE, d3a]; rfl
 rw [hI]
 show Ex Tryz.prog _ _ [(0, .bsl 0 (γ 0) 0 u.length), (1, .bsl 1 (γ 1) 0 u.length)] [(0, ((γ 0), .box ty (u.map pI))), (1, ((γ 1), .box ty (v.map pI)))] _
 refine x6x x9x (by rfl) ?_
 refine x2x rfl ?_
 refine x7x fun K1 hK1 => ?_
 refine x6x x9x (by rfl) ?_
 refine x1x rfl ?_
 refine c2z rfl p4p rfl rfl (by intro s hs; cases hs) rfl ?_
 refine x1x rfl ?_
 refine y6y ?_
 refine u5u (ι := Nat) (fun i γ1 => [(11, .pv (.int .i64 (i : Int)))]) (fun i γ1 => []) (fun i => i ≤ u.length ∧ d2f u v = d2f (u.drop i) (v.drop i)) (fun i => u.length - i) (x4x 0 rfl (x4x 1 rfl (x4x 9 rfl (x4x 10 rfl Cov.nil)))) (x5x 0 rfl (x5x 1 rfl HE.nil)) 0 ⟨by omega, rfl⟩ [] (x4x 11 rfl Cov.nil) HE.nil rfl fun i γ1 hi => ?_
 try dsimp only [List.cons_append, List.nil_append]
 obtain ⟨h1, h2⟩ := hi
 refine x6x x9x (by rfl) ?_
 refine y4y rfl rfl rfl ?_
 refine x7x fun K2 hK2 => ?_
 refine y0y rfl (fun hc3 => ?_) (fun hc3 => ?_)
 rotate_left
 ·try simp at hc3
  refine v0v ?_
  refine hK1 _ _ ?_
  clear hK2 K2 hK1 K1
  refine x7x fun K8 hK8 => ?_
  refine x6x x9x (by rfl) ?_
  refine x1x rfl ?_
  refine c2z rfl p4p rfl rfl (by intro s hs; cases hs) rfl ?_
  refine x1x rfl ?_
  refine c2z rfl p4p rfl rfl (by intro s hs; cases hs) rfl ?_
  refine y4y rfl rfl rfl ?_
  refine y0y rfl (fun hc9 => ?_) (fun hc9 => ?_)
  ·simp at hc9
  try simp at hc9
  refine y1y ?_
  refine hK8 _ _ ?_
  clear hK8 K8
  refine x6x x9x (by rfl) ?_
  refine x2x rfl ?_
  refine y3y ?_
  exact ⟨.inr rfl, [γ 0, γ 1], rfl, congrArg (fun z => some [AV.pv (.int .i64 z)]) (by rw [h2, List.drop_of_length_le (by omega), List.drop_of_length_le (by omega)]; rfl), HE.cast hI (HE.same rfl (HE.same rfl HE.nil))⟩
 try simp at hc3
 obtain ⟨a, ha1⟩ : ∃ a, u[i]? = some a := w5w (by omega)
 obtain ⟨b, hb1⟩ : ∃ b, v[i]? = some b := w5w (by omega)
 refine y1y ?_
 refine hK2 _ _ ?_
 clear hK2 K2
 refine x7x fun K4 hK4 => ?_
 refine y6y ?_
 refine x6x x9x (by rfl) ?_
 refine x1x rfl ?_
 refine c9y x9x rfl rfl p4p rfl y9y rfl (by omega) ?_
 refine x3x rfl y9y rfl (c6m rfl ha1) ?_
 refine x2x rfl ?_
 refine x2x rfl ?_
 refine x7x fun K5 hK5 => ?_
 refine x6x x9x (by rfl) ?_
 refine x1x rfl ?_
 refine x1x rfl ?_
 refine c2z rfl p4p rfl rfl (by intro s hs; cases hs) rfl ?_
 refine y4y rfl rfl rfl ?_
 refine y0y rfl (fun hc6 => ?_) (fun hc6 => ?_)
 ·try simp at hc6
  omega
 try simp at hc6
 refine y1y ?_
 refine hK5 _ _ ?_
 clear hK5 K5
 refine x6x x9x (by rfl) ?_
 refine x1x rfl ?_
 refine x1x rfl ?_
 refine c9y x9x rfl rfl p4p rfl y9y rfl (by omega) ?_
 refine x3x rfl y9y rfl (c6m rfl hb1) ?_
 refine x2x rfl ?_
 refine x6x x9x (by rfl) ?_
 refine x1x rfl ?_
 refine x1x rfl ?_
 refine z1z rfl rfl rfl (b5a ..) ?_
 refine x2x rfl ?_
 refine x6x x9x (by rfl) ?_
 refine x1x rfl ?_
 refine y4y rfl rfl rfl ?_
 refine y0y rfl (fun hc7 => ?_) (fun hc7 => ?_)
 ·try simp at hc7
  have hz := hc7
  refine x6x x9x (by rfl) ?_
  refine x1x rfl ?_
  refine x2x rfl ?_
  refine y3y ?_
  exact ⟨.inr rfl, [γ 0, γ 1], rfl, congrArg (fun z => some [AV.pv (.int .i64 z)]) (by rw [h2, c3q ha1 hb1]; exact (d8l hz).symm), HE.cast hI (HE.same rfl (HE.same rfl HE.nil))⟩
 try simp at hc7
 have hz := hc7
 refine y1y ?_
 refine hK4 _ _ ?_
 clear hK4 K4
 refine y2y x9x (by rfl) ?_
 refine y4y rfl rfl rfl ?_
 refine x1x rfl ?_
 exact ⟨i + 1, ⟨⟨by omega, by rw [h2, c3q ha1 hb1, d8m hz]⟩, by omega⟩, [], (Cov.cons' (t := 11) rfl (by rw [u9u (by omega) (by omega)]; rfl) Cov.nil), (x4x 0 rfl (x4x 1 rfl (x4x 9 rfl (x4x 10 rfl Cov.nil)))), HE.nil, (x5x 0 rfl (x5x 1 rfl HE.nil)), rfl⟩
theorem b0h (e : Ev) : a0z Tryz.prog 147 [.agg (v9v e)] (.agg (v9v e)) := by
 refine z4z x9x (fn := Tryz.f147) (by kernel_rfl) (by kernel_rfl) rfl (outs := [.agg (v9v e)]) (by rfl) (v7v rfl) 2 ?_
 refine x6x x9x (by rfl) ?_
 refine v4v (id := 0) rfl rfl rfl ?_
 refine v3v (id := 1) p5p b9v rfl ?_
 refine x6x x9x (by rfl) ?_
 refine x0x rfl z3z rfl rfl y9y rfl rfl ?_
 refine x3x rfl y9y rfl rfl ?_
 refine x0x rfl z3z rfl rfl y9y rfl rfl ?_
 refine x3x rfl y9y rfl rfl ?_
 refine x0x rfl z3z rfl rfl y9y rfl rfl ?_
 refine x3x rfl y9y rfl rfl ?_
 refine x0x rfl z3z rfl rfl y9y rfl rfl ?_
 refine x3x rfl y9y rfl rfl ?_
 refine x0x rfl z3z rfl rfl y9y rfl rfl ?_
 refine x3x rfl y9y rfl rfl ?_
 refine x0x rfl z3z rfl rfl y9y rfl rfl ?_
 refine x3x rfl y9y rfl rfl ?_
 refine x0x rfl z3z rfl rfl y9y rfl rfl ?_
 refine x3x rfl y9y rfl rfl ?_
 refine b1x x9x p5p rfl y9y b9v rfl (by simp only [pI, y9y, b4s, List.range, List.range.loop, List.map_cons, List.map_nil, a2w, r2r, AV.okc, AV.one, Value.oneCell', T3, T4, List.getElem?_cons_zero, List.getElem?_cons_succ, List.take_succ_cons, List.take_zero, List.drop_succ_cons, List.drop_zero, List.cons_append, List.nil_append, List.length_cons, List.length_nil, if_true, and_self, Nat.reduceAdd, Nat.reduceMul, Nat.reduceLeDiff]; rfl) ?_
 refine u2u rfl rfl p5p rfl rfl rfl rfl ?_
 refine y3y ⟨.inr rfl, ?_⟩
 exact b7g rfl rfl rfl rfl
theorem b0i (e : Ev) : a0z Tryz.prog 169 [.agg (v9v e)] (.agg (v9v e)) := by
 refine z4z x9x (fn := Tryz.f169) (by kernel_rfl) (by kernel_rfl) rfl (outs := [.agg (v9v e)]) (by rfl) (v7v rfl) 2 ?_
 refine x6x x9x (by rfl) ?_
 refine v4v (id := 0) rfl rfl rfl ?_
 refine v3v (id := 1) z3z b7a rfl ?_
 refine x6x x9x (by rfl) ?_
 refine b1y x9x (j := 0) rfl rfl p5p rfl y9y (by decide) rfl ?_
 refine x3x rfl y9y rfl rfl ?_
 refine b1y x9x (j := 1) rfl rfl p5p rfl y9y (by decide) rfl ?_
 refine x3x rfl y9y rfl rfl ?_
 refine b1y x9x (j := 2) rfl rfl p5p rfl y9y (by decide) rfl ?_
 refine x3x rfl y9y rfl rfl ?_
 refine b1y x9x (j := 3) rfl rfl p5p rfl y9y (by decide) rfl ?_
 refine x3x rfl y9y rfl rfl ?_
 refine b1y x9x (j := 4) rfl rfl p5p rfl y9y (by decide) rfl ?_
 refine x3x rfl y9y rfl rfl ?_
 refine b1y x9x (j := 5) rfl rfl p5p rfl y9y (by decide) rfl ?_
 refine x3x rfl y9y rfl rfl ?_
 refine b1y x9x (j := 6) rfl rfl p5p rfl y9y (by decide) rfl ?_
 refine x3x rfl y9y rfl rfl ?_
 refine a0c z3z rfl b7a rfl (by simp only [pI, a2w, r2r, AV.okc, AV.one, T3, T4, List.getElem?_cons_zero, List.getElem?_cons_succ, List.take_succ_cons, List.take_zero, List.drop_succ_cons, List.drop_zero, List.cons_append, List.nil_append, List.length_cons, List.length_nil, if_true, and_self, Nat.reduceAdd, Nat.reduceLeDiff]; rfl) ?_
 refine u2u rfl rfl z3z rfl rfl rfl rfl ?_
 refine y3y ⟨.inr rfl, ?_⟩
 exact b7g rfl rfl rfl rfl
theorem a4n (a b : Ev) : a0z Tryz.prog 146 [.agg (v9v a), .agg (v9v b)] (.pv (.bool (a2p a b))) := by
 refine z4z x9x (fn := Tryz.f146) (by kernel_rfl) (by kernel_rfl) rfl (outs := [.pv (.bool (a2p a b))]) (by rfl) (v7v rfl) 2 ?_
 refine x6x x9x (by rfl) ?_
 refine v4v (id := 0) rfl rfl rfl ?_
 refine v4v (id := 1) rfl rfl rfl ?_
 refine x2x rfl ?_
 refine q5q x9x r6r (by rfl) ?_
 refine c6l x9x rfl p5p rfl y9y rfl ?_
 refine c6l x9x rfl p5p rfl y9y rfl ?_
 refine v2v [0, 1] [_, _] (a3n (evN a) (evN b) rfl (v7v rfl) 179) rfl rfl rfl (by decide) rfl rfl (by repeat (first | exact InH.nil | refine InH.cons rfl ?_)) (by (simp only [pI, z8z, z9z, p8p, gl, nx, p6p, Nat.beq]; rfl)) (by (simp only [pI, z8z, z9z, p8p, gl, nx, p6p, Nat.beq]; rfl)) ?_
 refine y4y rfl rfl rfl ?_
 refine x2x rfl ?_
 refine ⟨by kernel_rfl, ?_⟩
 refine y3y ⟨.inr rfl, ?_⟩
 refine z2z rfl ?_ rfl
 simp only [a2p, ← c1f (evN a) (evN b) rfl]
theorem a9b (a b : Ev) : a0z Tryz.prog 60 [.agg (v9v a), .agg (v9v b)] (.pv (.bool (a2p a b))) := by
 refine z4z x9x (fn := Tryz.f60) (by kernel_rfl) (by kernel_rfl) rfl (outs := [.pv (.bool (a2p a b))]) (by rfl) (v7v rfl) 2 ?_
 refine x6x x9x (by rfl) ?_
 refine v4v (id := 0) rfl rfl rfl ?_
 refine v4v (id := 1) rfl rfl rfl ?_
 refine x2x rfl ?_
 refine q5q x9x r6r (by rfl) ?_
 refine y8y rfl z3z rfl rfl rfl ?_
 refine z1z rfl rfl rfl (b0h ..) ?_
 refine y8y rfl z3z rfl rfl rfl ?_
 refine z1z rfl rfl rfl (b0h ..) ?_
 refine z1z rfl rfl rfl (a4n ..) ?_
 refine x2x rfl ?_
 refine ⟨by kernel_rfl, ?_⟩
 refine y3y ⟨.inr rfl, ?_⟩
 exact z2z rfl rfl rfl
end
section
theorem a7f (v : Int) : a0z Tryz.prog 235 [.pv (.int .i64 v)] (.pv (.bool (decide (0 ≤ v ∧ v ≤ 999)))) := by
 refine z4z x9x (fn := Tryz.f235) (by kernel_rfl) (by kernel_rfl) rfl (outs := [.pv (.bool (decide (0 ≤ v ∧ v ≤ 999)))]) (by rfl) (v7v rfl) 0 ?_
 refine x6x x9x (by rfl) ?_
 refine x2x rfl ?_
 refine x6x x9x (by rfl) ?_
 refine x1x rfl ?_
 refine z1z rfl rfl rfl (w9w ..) ?_
 refine x2x rfl ?_
 refine y3y ⟨.inr rfl, ?_⟩
 exact z2z rfl rfl rfl
theorem a7g (v : Int) : a0z Tryz.prog 200 [.pv (.int .i64 v)] (.pv (.bool (decide (0 ≤ v ∧ v ≤ 999)))) := by
 refine z4z x9x (fn := Tryz.f200) (by kernel_rfl) (by kernel_rfl) rfl (outs := [.pv (.bool (decide (0 ≤ v ∧ v ≤ 999)))]) (by rfl) (v7v rfl) 0 ?_
 refine x6x x9x (by rfl) ?_
 refine x2x rfl ?_
 refine x6x x9x (by rfl) ?_
 refine x1x rfl ?_
 refine z1z rfl rfl rfl (q3q ..) ?_
 refine x2x rfl ?_
 refine y3y ⟨.inr rfl, ?_⟩
 exact z2z rfl rfl rfl
theorem c2i (v : Int) : a0z Tryz.prog 256 [.pv (.int .i64 v)] (.pv (.bool (decide (0 ≤ v ∧ v ≤ 3)))) := by
 refine z4z x9x (fn := Tryz.f256) (by kernel_rfl) (by kernel_rfl) rfl (outs := [.pv (.bool (decide (0 ≤ v ∧ v ≤ 3)))]) (by rfl) (v7v rfl) 0 ?_
 refine x6x x9x (by rfl) ?_
 refine x2x rfl ?_
 refine x6x x9x (by rfl) ?_
 refine x1x rfl ?_
 refine z1z rfl rfl rfl (w9w ..) ?_
 refine x2x rfl ?_
 refine y3y ⟨.inr rfl, ?_⟩
 exact z2z rfl rfl rfl
theorem b1l (s : St) : a0z Tryz.prog 196 [.agg (s9s s)] (.pv (.bool (decide (c0f s)))) := by
 refine z4z x9x (fn := Tryz.f196) (by kernel_rfl) (by kernel_rfl) rfl (outs := [.pv (.bool (decide (c0f s)))]) (by rfl) (v7v rfl) 1 ?_
 refine x6x x9x (by rfl) ?_
 refine v4v (id := 0) rfl rfl rfl ?_
 refine x2x rfl ?_
 refine x6x x9x (by rfl) ?_
 refine x0x rfl r4r rfl rfl y9y rfl rfl ?_
 refine x3x rfl y9y rfl rfl ?_
 refine z1z rfl rfl rfl (a7f ..) ?_
 refine x1x rfl ?_
 refine a0b rfl rfl (fun hg1 => ?_) (fun hg1 => ?_)
 rotate_left
 ·try simp at hg1
  refine x8x rfl rfl ?_
  refine x8x rfl rfl ?_
  refine y5y rfl rfl ?_
  refine x1x rfl ?_
  refine x8x rfl rfl ?_
  refine x8x rfl rfl ?_
  refine x8x rfl rfl ?_
  refine y5y rfl rfl ?_
  refine x2x rfl ?_
  refine y3y ⟨.inr rfl, ?_⟩
  refine z2z rfl ?_ rfl
  exact kF (by unfold c0f; omega)
 try simp at hg1
 refine x0x rfl r4r rfl rfl y9y rfl rfl ?_
 refine y7y rfl rfl ?_
 refine x3x rfl y9y rfl rfl ?_
 refine y7y rfl rfl ?_
 refine z1z rfl rfl rfl (a7f ..) ?_
 refine z0z rfl rfl ?_
 refine x1x rfl ?_
 refine a0b rfl rfl (fun hg2 => ?_) (fun hg2 => ?_)
 rotate_left
 ·try simp at hg2
  refine x8x rfl rfl ?_
  refine x8x rfl rfl ?_
  refine y5y rfl rfl ?_
  refine x2x rfl ?_
  refine y3y ⟨.inr rfl, ?_⟩
  refine z2z rfl ?_ rfl
  exact kF (by unfold c0f; omega)
 try simp at hg2
 refine x0x rfl r4r rfl rfl y9y rfl rfl ?_
 refine y7y rfl rfl ?_
 refine x3x rfl y9y rfl rfl ?_
 refine y7y rfl rfl ?_
 refine z1z rfl rfl rfl (w9w ..) ?_
 refine z0z rfl rfl ?_
 refine x2x rfl ?_
 refine y3y ⟨.inr rfl, ?_⟩
 refine z2z rfl ?_ rfl
 exact congrArg (fun b : Bool => [AV.pv (.bool b)]) (decide_eq_decide.2 (by unfold c0f; omega))
theorem a9c (s : St) : a0z Tryz.prog 128 [.agg (s9s s)] (.pv (.bool (decide (c0f s)))) := by
 refine z4z x9x (fn := Tryz.f128) (by kernel_rfl) (by kernel_rfl) rfl (outs := [.pv (.bool (decide (c0f s)))]) (by rfl) (v7v rfl) 1 ?_
 refine x6x x9x (by rfl) ?_
 refine v4v (id := 0) rfl rfl rfl ?_
 refine x2x rfl ?_
 refine x6x x9x (by rfl) ?_
 refine x0x rfl r4r rfl rfl y9y rfl rfl ?_
 refine x3x rfl y9y rfl rfl ?_
 refine z1z rfl rfl rfl (a7g ..) ?_
 refine x1x rfl ?_
 refine a0b rfl rfl (fun hg1 => ?_) (fun hg1 => ?_)
 rotate_left
 ·try simp at hg1
  refine x8x rfl rfl ?_
  refine x8x rfl rfl ?_
  refine y5y rfl rfl ?_
  refine x1x rfl ?_
  refine x8x rfl rfl ?_
  refine x8x rfl rfl ?_
  refine x8x rfl rfl ?_
  refine y5y rfl rfl ?_
  refine x2x rfl ?_
  refine y3y ⟨.inr rfl, ?_⟩
  refine z2z rfl ?_ rfl
  exact kF (by unfold c0f; omega)
 try simp at hg1
 refine x0x rfl r4r rfl rfl y9y rfl rfl ?_
 refine y7y rfl rfl ?_
 refine x3x rfl y9y rfl rfl ?_
 refine y7y rfl rfl ?_
 refine z1z rfl rfl rfl (a7g ..) ?_
 refine z0z rfl rfl ?_
 refine x1x rfl ?_
 refine a0b rfl rfl (fun hg2 => ?_) (fun hg2 => ?_)
 rotate_left
 ·try simp at hg2
  refine x8x rfl rfl ?_
  refine x8x rfl rfl ?_
  refine y5y rfl rfl ?_
  refine x2x rfl ?_
  refine y3y ⟨.inr rfl, ?_⟩
  refine z2z rfl ?_ rfl
  exact kF (by unfold c0f; omega)
 try simp at hg2
 refine x0x rfl r4r rfl rfl y9y rfl rfl ?_
 refine y7y rfl rfl ?_
 refine x3x rfl y9y rfl rfl ?_
 refine y7y rfl rfl ?_
 refine z1z rfl rfl rfl (q3q ..) ?_
 refine z0z rfl rfl ?_
 refine x2x rfl ?_
 refine y3y ⟨.inr rfl, ?_⟩
 refine z2z rfl ?_ rfl
 exact congrArg (fun b : Bool => [AV.pv (.bool b)]) (decide_eq_decide.2 (by unfold c0f; omega))
theorem b1m (e : Ev) : a0z Tryz.prog 236 [.agg (v9v e)] (.pv (.bool (decide (b7u e)))) := by
 refine z4z x9x (fn := Tryz.f236) (by kernel_rfl) (by kernel_rfl) rfl (outs := [.pv (.bool (decide (b7u e)))]) (by rfl) (v7v rfl) 1 ?_
 refine x6x x9x (by rfl) ?_
 refine v4v (id := 0) rfl rfl rfl ?_
 refine x2x rfl ?_
 refine x6x x9x (by rfl) ?_
 refine x0x rfl z3z rfl rfl y9y rfl rfl ?_
 refine x3x rfl y9y rfl rfl ?_
 refine z1z rfl rfl rfl (w9w ..) ?_
 refine x1x rfl ?_
 refine a0b rfl rfl (fun hg1 => ?_) (fun hg1 => ?_)
 rotate_left
 ·try simp at hg1
  refine x8x rfl rfl ?_
  refine x8x rfl rfl ?_
  refine y5y rfl rfl ?_
  refine x1x rfl ?_
  refine x8x rfl rfl ?_
  refine x8x rfl rfl ?_
  refine x8x rfl rfl ?_
  refine y5y rfl rfl ?_
  refine x1x rfl ?_
  refine x8x rfl rfl ?_
  refine x8x rfl rfl ?_
  refine x8x rfl rfl ?_
  refine y5y rfl rfl ?_
  refine x1x rfl ?_
  refine x8x rfl rfl ?_
  refine x8x rfl rfl ?_
  refine x8x rfl rfl ?_
  refine y5y rfl rfl ?_
  refine x1x rfl ?_
  refine x8x rfl rfl ?_
  refine x8x rfl rfl ?_
  refine x8x rfl rfl ?_
  refine y5y rfl rfl ?_
  refine x1x rfl ?_
  refine x8x rfl rfl ?_
  refine x8x rfl rfl ?_
  refine x8x rfl rfl ?_
  refine y5y rfl rfl ?_
  refine x2x rfl ?_
  refine y3y ⟨.inr rfl, ?_⟩
  refine z2z rfl ?_ rfl
  exact kF (by unfold b7u; omega)
 try simp at hg1
 refine x0x rfl z3z rfl rfl y9y rfl rfl ?_
 refine y7y rfl rfl ?_
 refine x3x rfl y9y rfl rfl ?_
 refine y7y rfl rfl ?_
 refine z1z rfl rfl rfl (a5r ..) ?_
 refine z0z rfl rfl ?_
 refine x1x rfl ?_
 refine a0b rfl rfl (fun hg2 => ?_) (fun hg2 => ?_)
 rotate_left
 ·try simp at hg2
  refine x8x rfl rfl ?_
  refine x8x rfl rfl ?_
  refine y5y rfl rfl ?_
  refine x1x rfl ?_
  refine x8x rfl rfl ?_
  refine x8x rfl rfl ?_
  refine x8x rfl rfl ?_
  refine y5y rfl rfl ?_
  refine x1x rfl ?_
  refine x8x rfl rfl ?_
  refine x8x rfl rfl ?_
  refine x8x rfl rfl ?_
  refine y5y rfl rfl ?_
  refine x1x rfl ?_
  refine x8x rfl rfl ?_
  refine x8x rfl rfl ?_
  refine x8x rfl rfl ?_
  refine y5y rfl rfl ?_
  refine x1x rfl ?_
  refine x8x rfl rfl ?_
  refine x8x rfl rfl ?_
  refine x8x rfl rfl ?_
  refine y5y rfl rfl ?_
  refine x2x rfl ?_
  refine y3y ⟨.inr rfl, ?_⟩
  refine z2z rfl ?_ rfl
  exact kF (by unfold b7u; omega)
 try simp at hg2
 refine x0x rfl z3z rfl rfl y9y rfl rfl ?_
 refine y7y rfl rfl ?_
 refine x3x rfl y9y rfl rfl ?_
 refine y7y rfl rfl ?_
 refine z1z rfl rfl rfl (w9w ..) ?_
 refine z0z rfl rfl ?_
 refine x1x rfl ?_
 refine a0b rfl rfl (fun hg3 => ?_) (fun hg3 => ?_)
 rotate_left
 ·try simp at hg3
  refine x8x rfl rfl ?_
  refine x8x rfl rfl ?_
  refine y5y rfl rfl ?_
  refine x1x rfl ?_
  refine x8x rfl rfl ?_
  refine x8x rfl rfl ?_
  refine x8x rfl rfl ?_
  refine y5y rfl rfl ?_
  refine x1x rfl ?_
  refine x8x rfl rfl ?_
  refine x8x rfl rfl ?_
  refine x8x rfl rfl ?_
  refine y5y rfl rfl ?_
  refine x1x rfl ?_
  refine x8x rfl rfl ?_
  refine x8x rfl rfl ?_
  refine x8x rfl rfl ?_
  refine y5y rfl rfl ?_
  refine x2x rfl ?_
  refine y3y ⟨.inr rfl, ?_⟩
  refine z2z rfl ?_ rfl
  exact kF (by unfold b7u; omega)
 try simp at hg3
 refine x0x rfl z3z rfl rfl y9y rfl rfl ?_
 refine y7y rfl rfl ?_
 refine x3x rfl y9y rfl rfl ?_
 refine y7y rfl rfl ?_
 refine z1z rfl rfl rfl (w9w ..) ?_
 refine z0z rfl rfl ?_
 refine x1x rfl ?_
 refine a0b rfl rfl (fun hg4 => ?_) (fun hg4 => ?_)
 rotate_left
 ·try simp at hg4
  refine x8x rfl rfl ?_
  refine x8x rfl rfl ?_
  refine y5y rfl rfl ?_
  refine x1x rfl ?_
  refine x8x rfl rfl ?_
  refine x8x rfl rfl ?_
  refine x8x rfl rfl ?_
  refine y5y rfl rfl ?_
  refine x1x rfl ?_
  refine x8x rfl rfl ?_
  refine x8x rfl rfl ?_
  refine x8x rfl rfl ?_
  refine y5y rfl rfl ?_
  refine x2x rfl ?_
  refine y3y ⟨.inr rfl, ?_⟩
  refine z2z rfl ?_ rfl
  exact kF (by unfold b7u; omega)
 try simp at hg4
 refine x0x rfl z3z rfl rfl y9y rfl rfl ?_
 refine y7y rfl rfl ?_
 refine x3x rfl y9y rfl rfl ?_
 refine y7y rfl rfl ?_
 refine z1z rfl rfl rfl (w9w ..) ?_
 refine z0z rfl rfl ?_
 refine x1x rfl ?_
 refine a0b rfl rfl (fun hg5 => ?_) (fun hg5 => ?_)
 rotate_left
 ·try simp at hg5
  refine x8x rfl rfl ?_
  refine x8x rfl rfl ?_
  refine y5y rfl rfl ?_
  refine x1x rfl ?_
  refine x8x rfl rfl ?_
  refine x8x rfl rfl ?_
  refine x8x rfl rfl ?_
  refine y5y rfl rfl ?_
  refine x2x rfl ?_
  refine y3y ⟨.inr rfl, ?_⟩
  refine z2z rfl ?_ rfl
  exact kF (by unfold b7u; omega)
 try simp at hg5
 refine x0x rfl z3z rfl rfl y9y rfl rfl ?_
 refine y7y rfl rfl ?_
 refine x3x rfl y9y rfl rfl ?_
 refine y7y rfl rfl ?_
 refine z1z rfl rfl rfl (c2i ..) ?_
 refine z0z rfl rfl ?_
 refine x1x rfl ?_
 refine a0b rfl rfl (fun hg6 => ?_) (fun hg6 => ?_)
 rotate_left
 ·try simp at hg6
  refine x8x rfl rfl ?_
  refine x8x rfl rfl ?_
  refine y5y rfl rfl ?_
  refine x2x rfl ?_
  refine y3y ⟨.inr rfl, ?_⟩
  refine z2z rfl ?_ rfl
  exact kF (by unfold b7u; omega)
 try simp at hg6
 refine x0x rfl z3z rfl rfl y9y rfl rfl ?_
 refine y7y rfl rfl ?_
 refine x3x rfl y9y rfl rfl ?_
 refine y7y rfl rfl ?_
 refine z1z rfl rfl rfl (a7f ..) ?_
 refine z0z rfl rfl ?_
 refine x2x rfl ?_
 refine y3y ⟨.inr rfl, ?_⟩
 refine z2z rfl ?_ rfl
 exact congrArg (fun b : Bool => [AV.pv (.bool b)]) (decide_eq_decide.2 (by unfold b7u; omega))
theorem a9d (e : Ev) : a0z Tryz.prog 201 [.agg (v9v e)] (.pv (.bool (decide (b7u e)))) := by
 refine z4z x9x (fn := Tryz.f201) (by kernel_rfl) (by kernel_rfl) rfl (outs := [.pv (.bool (decide (b7u e)))]) (by rfl) (v7v rfl) 1 ?_
 refine x6x x9x (by rfl) ?_
 refine v4v (id := 0) rfl rfl rfl ?_
 refine x2x rfl ?_
 refine x6x x9x (by rfl) ?_
 refine x0x rfl z3z rfl rfl y9y rfl rfl ?_
 refine x3x rfl y9y rfl rfl ?_
 refine z1z rfl rfl rfl (q3q ..) ?_
 refine x1x rfl ?_
 refine a0b rfl rfl (fun hg1 => ?_) (fun hg1 => ?_)
 rotate_left
 ·try simp at hg1
  refine x8x rfl rfl ?_
  refine x8x rfl rfl ?_
  refine y5y rfl rfl ?_
  refine x1x rfl ?_
  refine x8x rfl rfl ?_
  refine x8x rfl rfl ?_
  refine x8x rfl rfl ?_
  refine y5y rfl rfl ?_
  refine x1x rfl ?_
  refine x8x rfl rfl ?_
  refine x8x rfl rfl ?_
  refine x8x rfl rfl ?_
  refine y5y rfl rfl ?_
  refine x1x rfl ?_
  refine x8x rfl rfl ?_
  refine x8x rfl rfl ?_
  refine x8x rfl rfl ?_
  refine y5y rfl rfl ?_
  refine x1x rfl ?_
  refine x8x rfl rfl ?_
  refine x8x rfl rfl ?_
  refine x8x rfl rfl ?_
  refine y5y rfl rfl ?_
  refine x1x rfl ?_
  refine x8x rfl rfl ?_
  refine x8x rfl rfl ?_
  refine x8x rfl rfl ?_
  refine y5y rfl rfl ?_
  refine x2x rfl ?_
  refine y3y ⟨.inr rfl, ?_⟩
  refine z2z rfl ?_ rfl
  exact kF (by unfold b7u; omega)
 try simp at hg1
 refine x0x rfl z3z rfl rfl y9y rfl rfl ?_
 refine y7y rfl rfl ?_
 refine x3x rfl y9y rfl rfl ?_
 refine y7y rfl rfl ?_
 refine z1z rfl rfl rfl (a5s ..) ?_
 refine z0z rfl rfl ?_
 refine x1x rfl ?_
 refine a0b rfl rfl (fun hg2 => ?_) (fun hg2 => ?_)
 rotate_left
 ·try simp at hg2
  refine x8x rfl rfl ?_
  refine x8x rfl rfl ?_
  refine y5y rfl rfl ?_
  refine x1x rfl ?_
  refine x8x rfl rfl ?_
  refine x8x rfl rfl ?_
  refine x8x rfl rfl ?_
  refine y5y rfl rfl ?_
  refine x1x rfl ?_
  refine x8x rfl rfl ?_
  refine x8x rfl rfl ?_
  refine x8x rfl rfl ?_
  refine y5y rfl rfl ?_
  refine x1x rfl ?_
  refine x8x rfl rfl ?_
  refine x8x rfl rfl ?_
  refine x8x rfl rfl ?_
  refine y5y rfl rfl ?_
  refine x1x rfl ?_
  refine x8x rfl rfl ?_
  refine x8x rfl rfl ?_
  refine x8x rfl rfl ?_
  refine y5y rfl rfl ?_
  refine x2x rfl ?_
  refine y3y ⟨.inr rfl, ?_⟩
  refine z2z rfl ?_ rfl
  exact kF (by unfold b7u; omega)
 try simp at hg2
 refine x0x rfl z3z rfl rfl y9y rfl rfl ?_
 refine y7y rfl rfl ?_
 refine x3x rfl y9y rfl rfl ?_
 refine y7y rfl rfl ?_
 refine z1z rfl rfl rfl (q3q ..) ?_
 refine z0z rfl rfl ?_
 refine x1x rfl ?_
 refine a0b rfl rfl (fun hg3 => ?_) (fun hg3 => ?_)
 rotate_left
 ·try simp at hg3
  refine x8x rfl rfl ?_
  refine x8x rfl rfl ?_
  refine y5y rfl rfl ?_
  refine x1x rfl ?_
  refine x8x rfl rfl ?_
  refine x8x rfl rfl ?_
  refine x8x rfl rfl ?_
  refine y5y rfl rfl ?_
  refine x1x rfl ?_
  refine x8x rfl rfl ?_
  refine x8x rfl rfl ?_
  refine x8x rfl rfl ?_
  refine y5y rfl rfl ?_
  refine x1x rfl ?_
  refine x8x rfl rfl ?_
  refine x8x rfl rfl ?_
  refine x8x rfl rfl ?_
  refine y5y rfl rfl ?_
  refine x2x rfl ?_
  refine y3y ⟨.inr rfl, ?_⟩
  refine z2z rfl ?_ rfl
  exact kF (by unfold b7u; omega)
 try simp at hg3
 refine x0x rfl z3z rfl rfl y9y rfl rfl ?_
 refine y7y rfl rfl ?_
 refine x3x rfl y9y rfl rfl ?_
 refine y7y rfl rfl ?_
 refine z1z rfl rfl rfl (q3q ..) ?_
 refine z0z rfl rfl ?_
 refine x1x rfl ?_
 refine a0b rfl rfl (fun hg4 => ?_) (fun hg4 => ?_)
 rotate_left
 ·try simp at hg4
  refine x8x rfl rfl ?_
  refine x8x rfl rfl ?_
  refine y5y rfl rfl ?_
  refine x1x rfl ?_
  refine x8x rfl rfl ?_
  refine x8x rfl rfl ?_
  refine x8x rfl rfl ?_
  refine y5y rfl rfl ?_
  refine x1x rfl ?_
  refine x8x rfl rfl ?_
  refine x8x rfl rfl ?_
  refine x8x rfl rfl ?_
  refine y5y rfl rfl ?_
  refine x2x rfl ?_
  refine y3y ⟨.inr rfl, ?_⟩
  refine z2z rfl ?_ rfl
  exact kF (by unfold b7u; omega)
 try simp at hg4
 refine x0x rfl z3z rfl rfl y9y rfl rfl ?_
 refine y7y rfl rfl ?_
 refine x3x rfl y9y rfl rfl ?_
 refine y7y rfl rfl ?_
 refine z1z rfl rfl rfl (q3q ..) ?_
 refine z0z rfl rfl ?_
 refine x1x rfl ?_
 refine a0b rfl rfl (fun hg5 => ?_) (fun hg5 => ?_)
 rotate_left
 ·try simp at hg5
  refine x8x rfl rfl ?_
  refine x8x rfl rfl ?_
  refine y5y rfl rfl ?_
  refine x1x rfl ?_
  refine x8x rfl rfl ?_
  refine x8x rfl rfl ?_
  refine x8x rfl rfl ?_
  refine y5y rfl rfl ?_
  refine x2x rfl ?_
  refine y3y ⟨.inr rfl, ?_⟩
  refine z2z rfl ?_ rfl
  exact kF (by unfold b7u; omega)
 try simp at hg5
 refine x0x rfl z3z rfl rfl y9y rfl rfl ?_
 refine y7y rfl rfl ?_
 refine x3x rfl y9y rfl rfl ?_
 refine y7y rfl rfl ?_
 refine z1z rfl rfl rfl (q3q ..) ?_
 refine z0z rfl rfl ?_
 refine x1x rfl ?_
 refine a0b rfl rfl (fun hg6 => ?_) (fun hg6 => ?_)
 rotate_left
 ·try simp at hg6
  refine x8x rfl rfl ?_
  refine x8x rfl rfl ?_
  refine y5y rfl rfl ?_
  refine x2x rfl ?_
  refine y3y ⟨.inr rfl, ?_⟩
  refine z2z rfl ?_ rfl
  exact kF (by unfold b7u; omega)
 try simp at hg6
 refine x0x rfl z3z rfl rfl y9y rfl rfl ?_
 refine y7y rfl rfl ?_
 refine x3x rfl y9y rfl rfl ?_
 refine y7y rfl rfl ?_
 refine z1z rfl rfl rfl (a7g ..) ?_
 refine z0z rfl rfl ?_
 refine x2x rfl ?_
 refine y3y ⟨.inr rfl, ?_⟩
 refine z2z rfl ?_ rfl
 exact congrArg (fun b : Bool => [AV.pv (.bool b)]) (decide_eq_decide.2 (by unfold b7u; omega))
theorem a5b (a b : Ev) : a0z Tryz.prog 131 [.agg (v9v a), .agg (v9v b)] (.pv (.bool (a2p a b))) := by
 refine z4z x9x (fn := Tryz.f131) (by kernel_rfl) (by kernel_rfl) rfl (outs := [.pv (.bool (a2p a b))]) (by rfl) (v7v rfl) 2 ?_
 refine x6x x9x (by rfl) ?_
 refine v4v (id := 0) rfl rfl rfl ?_
 refine v4v (id := 1) rfl rfl rfl ?_
 refine x2x rfl ?_
 refine x7x fun K1 hK1 => ?_
 refine y6y ?_
 refine x6x x9x (by rfl) ?_
 refine x0x rfl z3z rfl rfl y9y rfl rfl ?_
 refine x3x rfl y9y rfl rfl ?_
 refine x0x rfl z3z rfl rfl y9y rfl rfl ?_
 refine x3x rfl y9y rfl rfl ?_
 refine y4y rfl rfl rfl ?_
 refine x2x rfl ?_
 refine y0y rfl (fun hc2 => ?_) (fun hc2 => ?_)
 ·try simp at hc2
  refine x6x x9x (by rfl) ?_
  refine x0x rfl z3z rfl rfl y9y rfl rfl ?_
  refine x3x rfl y9y rfl rfl ?_
  refine x0x rfl z3z rfl rfl y9y rfl rfl ?_
  refine x3x rfl y9y rfl rfl ?_
  refine y4y rfl rfl rfl ?_
  refine x2x rfl ?_
  refine y3y ⟨.inr rfl, ?_⟩
  clear hK1 K1
  refine z2z rfl ?_ rfl
  rw [a8t]
  exact congrArg (fun b : Bool => [AV.pv (.bool b)]) (decide_eq_decide.2 (by unfold d0z; omega))
 try simp at hc2
 refine x6x x9x (by rfl) ?_
 refine x0x rfl z3z rfl rfl y9y rfl rfl ?_
 refine x3x rfl y9y rfl rfl ?_
 refine x0x rfl z3z rfl rfl y9y rfl rfl ?_
 refine x3x rfl y9y rfl rfl ?_
 refine y4y rfl rfl rfl ?_
 refine x2x rfl ?_
 refine y0y rfl (fun hc3 => ?_) (fun hc3 => ?_)
 ·try simp at hc3
  refine x6x x9x (by rfl) ?_
  refine x0x rfl z3z rfl rfl y9y rfl rfl ?_
  refine x3x rfl y9y rfl rfl ?_
  refine x0x rfl z3z rfl rfl y9y rfl rfl ?_
  refine x3x rfl y9y rfl rfl ?_
  refine y4y rfl rfl rfl ?_
  refine x2x rfl ?_
  refine y3y ⟨.inr rfl, ?_⟩
  clear hK1 K1
  refine z2z rfl ?_ rfl
  rw [a8t]
  exact congrArg (fun b : Bool => [AV.pv (.bool b)]) (decide_eq_decide.2 (by unfold d0z; omega))
 try simp at hc3
 refine x6x x9x (by rfl) ?_
 refine x0x rfl z3z rfl rfl y9y rfl rfl ?_
 refine x3x rfl y9y rfl rfl ?_
 refine x0x rfl z3z rfl rfl y9y rfl rfl ?_
 refine x3x rfl y9y rfl rfl ?_
 refine y4y rfl rfl rfl ?_
 refine x2x rfl ?_
 refine y0y rfl (fun hc4 => ?_) (fun hc4 => ?_)
 ·try simp at hc4
  refine x6x x9x (by rfl) ?_
  refine x0x rfl z3z rfl rfl y9y rfl rfl ?_
  refine x3x rfl y9y rfl rfl ?_
  refine x0x rfl z3z rfl rfl y9y rfl rfl ?_
  refine x3x rfl y9y rfl rfl ?_
  refine y4y rfl rfl rfl ?_
  refine x2x rfl ?_
  refine y3y ⟨.inr rfl, ?_⟩
  clear hK1 K1
  refine z2z rfl ?_ rfl
  rw [a8t]
  exact congrArg (fun b : Bool => [AV.pv (.bool b)]) (decide_eq_decide.2 (by unfold d0z; omega))
 try simp at hc4
 refine x6x x9x (by rfl) ?_
 refine x0x rfl z3z rfl rfl y9y rfl rfl ?_
 refine x3x rfl y9y rfl rfl ?_
 refine x0x rfl z3z rfl rfl y9y rfl rfl ?_
 refine x3x rfl y9y rfl rfl ?_
 refine y4y rfl rfl rfl ?_
 refine x2x rfl ?_
 refine y0y rfl (fun hc5 => ?_) (fun hc5 => ?_)
 ·try simp at hc5
  refine x6x x9x (by rfl) ?_
  refine x0x rfl z3z rfl rfl y9y rfl rfl ?_
  refine x3x rfl y9y rfl rfl ?_
  refine x0x rfl z3z rfl rfl y9y rfl rfl ?_
  refine x3x rfl y9y rfl rfl ?_
  refine y4y rfl rfl rfl ?_
  refine x2x rfl ?_
  refine y3y ⟨.inr rfl, ?_⟩
  clear hK1 K1
  refine z2z rfl ?_ rfl
  rw [a8t]
  exact congrArg (fun b : Bool => [AV.pv (.bool b)]) (decide_eq_decide.2 (by unfold d0z; omega))
 try simp at hc5
 refine x6x x9x (by rfl) ?_
 refine x0x rfl z3z rfl rfl y9y rfl rfl ?_
 refine x3x rfl y9y rfl rfl ?_
 refine x0x rfl z3z rfl rfl y9y rfl rfl ?_
 refine x3x rfl y9y rfl rfl ?_
 refine y4y rfl rfl rfl ?_
 refine x2x rfl ?_
 refine y0y rfl (fun hc6 => ?_) (fun hc6 => ?_)
 ·try simp at hc6
  refine x6x x9x (by rfl) ?_
  refine x0x rfl z3z rfl rfl y9y rfl rfl ?_
  refine x3x rfl y9y rfl rfl ?_
  refine x0x rfl z3z rfl rfl y9y rfl rfl ?_
  refine x3x rfl y9y rfl rfl ?_
  refine y4y rfl rfl rfl ?_
  refine x2x rfl ?_
  refine y3y ⟨.inr rfl, ?_⟩
  clear hK1 K1
  refine z2z rfl ?_ rfl
  rw [a8t]
  exact congrArg (fun b : Bool => [AV.pv (.bool b)]) (decide_eq_decide.2 (by unfold d0z; omega))
 try simp at hc6
 refine x6x x9x (by rfl) ?_
 refine x0x rfl z3z rfl rfl y9y rfl rfl ?_
 refine x3x rfl y9y rfl rfl ?_
 refine x0x rfl z3z rfl rfl y9y rfl rfl ?_
 refine x3x rfl y9y rfl rfl ?_
 refine y4y rfl rfl rfl ?_
 refine x2x rfl ?_
 refine y0y rfl (fun hc7 => ?_) (fun hc7 => ?_)
 ·try simp at hc7
  refine x6x x9x (by rfl) ?_
  refine x0x rfl z3z rfl rfl y9y rfl rfl ?_
  refine x3x rfl y9y rfl rfl ?_
  refine x0x rfl z3z rfl rfl y9y rfl rfl ?_
  refine x3x rfl y9y rfl rfl ?_
  refine y4y rfl rfl rfl ?_
  refine x2x rfl ?_
  refine y3y ⟨.inr rfl, ?_⟩
  clear hK1 K1
  refine z2z rfl ?_ rfl
  rw [a8t]
  exact congrArg (fun b : Bool => [AV.pv (.bool b)]) (decide_eq_decide.2 (by unfold d0z; omega))
 try simp at hc7
 refine y1y ?_
 refine hK1 _ _ ?_
 clear hK1 K1
 refine x6x x9x (by rfl) ?_
 refine x0x rfl z3z rfl rfl y9y rfl rfl ?_
 refine x3x rfl y9y rfl rfl ?_
 refine x0x rfl z3z rfl rfl y9y rfl rfl ?_
 refine x3x rfl y9y rfl rfl ?_
 refine y4y rfl rfl rfl ?_
 refine x2x rfl ?_
 refine y3y ⟨.inr rfl, ?_⟩
 refine z2z rfl ?_ rfl
 rw [a8t]
 exact congrArg (fun b : Bool => [AV.pv (.bool b)]) (decide_eq_decide.2 (by unfold d0z; omega))
theorem b9h (a b : Ou) : a0z Tryz.prog 191 [.agg (a0y a), .agg (a0y b)] (.pv (.bool (b2d a b))) := by
 refine z4z x9x (fn := Tryz.f191) (by kernel_rfl) (by kernel_rfl) rfl (outs := [.pv (.bool (b2d a b))]) (by rfl) (v7v rfl) 2 ?_
 refine x6x x9x (by rfl) ?_
 refine v4v (id := 0) rfl rfl rfl ?_
 refine v4v (id := 1) rfl rfl rfl ?_
 refine x2x rfl ?_
 refine x7x fun K1 hK1 => ?_
 refine y6y ?_
 refine x6x x9x (by rfl) ?_
 refine x0x rfl v5v rfl rfl y9y rfl rfl ?_
 refine x3x rfl y9y rfl rfl ?_
 refine x0x rfl v5v rfl rfl y9y rfl rfl ?_
 refine x3x rfl y9y rfl rfl ?_
 refine y4y rfl rfl rfl ?_
 refine x2x rfl ?_
 refine y0y rfl (fun hc2 => ?_) (fun hc2 => ?_)
 ·try simp at hc2
  refine x6x x9x (by rfl) ?_
  refine x0x rfl v5v rfl rfl y9y rfl rfl ?_
  refine x3x rfl y9y rfl rfl ?_
  refine x0x rfl v5v rfl rfl y9y rfl rfl ?_
  refine x3x rfl y9y rfl rfl ?_
  refine y4y rfl rfl rfl ?_
  refine x2x rfl ?_
  refine y3y ⟨.inr rfl, ?_⟩
  clear hK1 K1
  refine z2z rfl ?_ rfl
  rw [b0s]
  exact congrArg (fun b : Bool => [AV.pv (.bool b)]) (decide_eq_decide.2 (by unfold d2g; omega))
 try simp at hc2
 refine x6x x9x (by rfl) ?_
 refine x0x rfl v5v rfl rfl y9y rfl rfl ?_
 refine x3x rfl y9y rfl rfl ?_
 refine x0x rfl v5v rfl rfl y9y rfl rfl ?_
 refine x3x rfl y9y rfl rfl ?_
 refine y4y rfl rfl rfl ?_
 refine x2x rfl ?_
 refine y0y rfl (fun hc3 => ?_) (fun hc3 => ?_)
 ·try simp at hc3
  refine x6x x9x (by rfl) ?_
  refine x0x rfl v5v rfl rfl y9y rfl rfl ?_
  refine x3x rfl y9y rfl rfl ?_
  refine x0x rfl v5v rfl rfl y9y rfl rfl ?_
  refine x3x rfl y9y rfl rfl ?_
  refine y4y rfl rfl rfl ?_
  refine x2x rfl ?_
  refine y3y ⟨.inr rfl, ?_⟩
  clear hK1 K1
  refine z2z rfl ?_ rfl
  rw [b0s]
  exact congrArg (fun b : Bool => [AV.pv (.bool b)]) (decide_eq_decide.2 (by unfold d2g; omega))
 try simp at hc3
 refine x6x x9x (by rfl) ?_
 refine x0x rfl v5v rfl rfl y9y rfl rfl ?_
 refine x3x rfl y9y rfl rfl ?_
 refine x0x rfl v5v rfl rfl y9y rfl rfl ?_
 refine x3x rfl y9y rfl rfl ?_
 refine y4y rfl rfl rfl ?_
 refine x2x rfl ?_
 refine y0y rfl (fun hc4 => ?_) (fun hc4 => ?_)
 ·try simp at hc4
  refine x6x x9x (by rfl) ?_
  refine x0x rfl v5v rfl rfl y9y rfl rfl ?_
  refine x3x rfl y9y rfl rfl ?_
  refine x0x rfl v5v rfl rfl y9y rfl rfl ?_
  refine x3x rfl y9y rfl rfl ?_
  refine y4y rfl rfl rfl ?_
  refine x2x rfl ?_
  refine y3y ⟨.inr rfl, ?_⟩
  clear hK1 K1
  refine z2z rfl ?_ rfl
  rw [b0s]
  exact congrArg (fun b : Bool => [AV.pv (.bool b)]) (decide_eq_decide.2 (by unfold d2g; omega))
 try simp at hc4
 refine x6x x9x (by rfl) ?_
 refine x0x rfl v5v rfl rfl y9y rfl rfl ?_
 refine x3x rfl y9y rfl rfl ?_
 refine x0x rfl v5v rfl rfl y9y rfl rfl ?_
 refine x3x rfl y9y rfl rfl ?_
 refine y4y rfl rfl rfl ?_
 refine x2x rfl ?_
 refine y0y rfl (fun hc5 => ?_) (fun hc5 => ?_)
 ·try simp at hc5
  refine x6x x9x (by rfl) ?_
  refine x0x rfl v5v rfl rfl y9y rfl rfl ?_
  refine x3x rfl y9y rfl rfl ?_
  refine x0x rfl v5v rfl rfl y9y rfl rfl ?_
  refine x3x rfl y9y rfl rfl ?_
  refine y4y rfl rfl rfl ?_
  refine x2x rfl ?_
  refine y3y ⟨.inr rfl, ?_⟩
  clear hK1 K1
  refine z2z rfl ?_ rfl
  rw [b0s]
  exact congrArg (fun b : Bool => [AV.pv (.bool b)]) (decide_eq_decide.2 (by unfold d2g; omega))
 try simp at hc5
 refine y1y ?_
 refine hK1 _ _ ?_
 clear hK1 K1
 refine x6x x9x (by rfl) ?_
 refine x0x rfl v5v rfl rfl y9y rfl rfl ?_
 refine x3x rfl y9y rfl rfl ?_
 refine x0x rfl v5v rfl rfl y9y rfl rfl ?_
 refine x3x rfl y9y rfl rfl ?_
 refine y4y rfl rfl rfl ?_
 refine x2x rfl ?_
 refine y3y ⟨.inr rfl, ?_⟩
 refine z2z rfl ?_ rfl
 rw [b0s]
 exact congrArg (fun b : Bool => [AV.pv (.bool b)]) (decide_eq_decide.2 (by unfold d2g; omega))
theorem b9i (a b : Ou) : a0z Tryz.prog 231 [.agg (a0y a), .agg (a0y b)] (.pv (.bool (b2d a b))) := by
 refine z4z x9x (fn := Tryz.f231) (by kernel_rfl) (by kernel_rfl) rfl (outs := [.pv (.bool (b2d a b))]) (by rfl) (v7v rfl) 4 ?_
 refine x6x x9x (by rfl) ?_
 refine v4v (id := 0) rfl rfl rfl ?_
 refine v4v (id := 1) rfl rfl rfl ?_
 refine x2x rfl ?_
 refine x6x x9x (by rfl) ?_
 refine x0x rfl v5v rfl rfl y9y rfl rfl ?_
 refine x3x rfl y9y rfl rfl ?_
 refine x0x rfl v5v rfl rfl y9y rfl rfl ?_
 refine x3x rfl y9y rfl rfl ?_
 refine x0x rfl v5v rfl rfl y9y rfl rfl ?_
 refine x3x rfl y9y rfl rfl ?_
 refine x0x rfl v5v rfl rfl y9y rfl rfl ?_
 refine x3x rfl y9y rfl rfl ?_
 refine x0x rfl v5v rfl rfl y9y rfl rfl ?_
 refine x3x rfl y9y rfl rfl ?_
 refine b1x x9x b5j rfl y9y c6h rfl (by simp only [pI, y9y, b4s, List.range, List.range.loop, List.map_cons, List.map_nil, a2w, r2r, AV.okc, AV.one, Value.oneCell', T3, T4, List.getElem?_cons_zero, List.getElem?_cons_succ, List.take_succ_cons, List.take_zero, List.drop_succ_cons, List.drop_zero, List.cons_append, List.nil_append, List.length_cons, List.length_nil, if_true, and_self, Nat.reduceAdd, Nat.reduceMul, Nat.reduceLeDiff]; rfl) ?_
 refine v3v (id := 2) b5j c6h rfl ?_
 refine u2u rfl rfl b5j rfl rfl rfl rfl ?_
 refine x6x x9x (by rfl) ?_
 refine x0x rfl v5v rfl rfl y9y rfl rfl ?_
 refine x3x rfl y9y rfl rfl ?_
 refine x0x rfl v5v rfl rfl y9y rfl rfl ?_
 refine x3x rfl y9y rfl rfl ?_
 refine x0x rfl v5v rfl rfl y9y rfl rfl ?_
 refine x3x rfl y9y rfl rfl ?_
 refine x0x rfl v5v rfl rfl y9y rfl rfl ?_
 refine x3x rfl y9y rfl rfl ?_
 refine x0x rfl v5v rfl rfl y9y rfl rfl ?_
 refine x3x rfl y9y rfl rfl ?_
 refine b1x x9x b5j rfl y9y c6h rfl (by simp only [pI, y9y, b4s, List.range, List.range.loop, List.map_cons, List.map_nil, a2w, r2r, AV.okc, AV.one, Value.oneCell', T3, T4, List.getElem?_cons_zero, List.getElem?_cons_succ, List.take_succ_cons, List.take_zero, List.drop_succ_cons, List.drop_zero, List.cons_append, List.nil_append, List.length_cons, List.length_nil, if_true, and_self, Nat.reduceAdd, Nat.reduceMul, Nat.reduceLeDiff]; rfl) ?_
 refine v3v (id := 3) b5j c6h rfl ?_
 refine u2u rfl rfl b5j rfl rfl rfl rfl ?_
 refine q5q x9x r6r (by rfl) ?_
 refine c6l x9x rfl b5j rfl y9y rfl ?_
 refine c6l x9x rfl b5j rfl y9y rfl ?_
 refine v2v [2, 3] [_, _] (a3n (ouL a) (ouL b) rfl (v7v rfl) 286) rfl rfl rfl (by decide) rfl rfl (by repeat (first | exact InH.nil | refine InH.cons rfl ?_)) (by (simp only [pI, z8z, z9z, p8p, gl, nx, p6p, Nat.beq]; rfl)) (by (simp only [pI, z8z, z9z, p8p, gl, nx, p6p, Nat.beq]; rfl)) ?_
 refine y4y rfl rfl rfl ?_
 refine x2x rfl ?_
 refine ⟨by kernel_rfl, ?_⟩
 refine y3y ⟨.inr rfl, ?_⟩
 refine z2z rfl ?_ rfl
 simp only [b2d, ← c1f (ouL a) (ouL b) rfl]
theorem a4c (c : Bool) (l : List Ev) (most : Int) : a0z Tryz.prog 203 [r7r c l, .pv (.int .i64 most)] (.pv (.bool (a8k okE a2p l most))) := by
 refine z4z x9x (fn := Tryz.f203) (by kernel_rfl) (by kernel_rfl) rfl (outs := [.pv (.bool (a8k okE a2p l most))]) (by rfl) (v7v rfl) 1 ?_
 refine w4w 0 rfl fun hlen => ?_
 refine x6x x9x (by rfl) ?_
 refine x2x rfl ?_
 refine x7x fun K1 hK1 => ?_
 refine x6x x9x (by rfl) ?_
 refine x1x rfl ?_
 refine u3u rfl u4u rfl ?_
 refine x1x rfl ?_
 refine y4y rfl rfl rfl ?_
 refine y0y rfl (fun hc2 => ?_) (fun hc2 => ?_)
 ·try simp at hc2
  refine x6x x9x (by rfl) ?_
  refine x2x rfl ?_
  refine y3y ⟨.inr rfl, ?_⟩
  clear hK1 K1
  refine z2z rfl ?_ rfl
  exact congrArg (fun b : Bool => [AV.pv (.bool b)]) (a9y (by omega)).symm
 try simp at hc2
 refine y1y ?_
 refine hK1 _ _ ?_
 clear hK1 K1
 refine x7x fun K3 hK3 => ?_
 refine x6x x9x (by rfl) ?_
 refine x1x rfl ?_
 refine u3u rfl u4u rfl ?_
 refine x1x rfl ?_
 refine y6y ?_
 refine u5u (ι := Nat) (fun i γ1 => [(13, .pv (.int .i64 (i : Int)))]) (fun i γ1 => [(0, ((γ1 0), .dead))]) (fun i => i ≤ l.length ∧ a8k okE a2p l most = a8z okE a2p (a9l l i) (l.drop i)) (fun i => l.length - i) (x4x 0 rfl (x4x 11 rfl (x4x 12 rfl Cov.nil))) HE.nil 0 ⟨by omega, b7v (by omega)⟩ [_] (x4x 13 rfl Cov.nil) (HE.kill rfl HE.nil) rfl fun i γ1 hi => ?_
 try dsimp only [List.cons_append, List.nil_append]
 obtain ⟨h1, h2⟩ := hi
 refine x6x x9x (by rfl) ?_
 refine y4y rfl rfl rfl ?_
 refine x7x fun K4 hK4 => ?_
 refine y0y rfl (fun hc5 => ?_) (fun hc5 => ?_)
 rotate_left
 ·try simp at hc5
  obtain rfl : i = l.length := by omega
  rw [List.drop_length] at h2
  refine v0v ?_
  refine hK3 _ _ ?_
  clear hK4 K4 hK3 K3
  refine x6x x9x (by rfl) ?_
  refine x2x rfl ?_
  refine y3y ⟨.inr rfl, ?_⟩
  refine z2z rfl ?_ rfl
  exact congrArg (fun b : Bool => [AV.pv (.bool b)]) h2.symm
 try simp at hc5
 obtain ⟨p, hp⟩ : ∃ p, l[i]? = some p := w5w (by omega)
 rw [r1r hp] at h2
 refine y1y ?_
 refine hK4 _ _ ?_
 clear hK4 K4
 refine x7x fun K6 hK6 => ?_
 refine y6y ?_
 refine x6x x9x (by rfl) ?_
 refine x1x rfl ?_
 refine u0u rfl rfl u4u rfl z3z rfl hp ?_
 refine z5z rfl z3z rfl rfl ?_
 refine v3v (id := 0) z3z b7a rfl ?_
 refine x2x rfl ?_
 refine u2u rfl rfl z3z rfl rfl rfl rfl ?_
 refine q5q x9x r6r (by rfl) ?_
 refine y8y rfl z3z rfl rfl rfl ?_
 refine z1z rfl rfl rfl (b1m ..) ?_
 refine w6w rfl ?_
 refine x1x rfl ?_
 refine a0b rfl rfl (fun hg7 => ?_) (fun hg7 => ?_)
 rotate_left
 ·try simp at hg7
  have hbad : okE p = false := by simpa [okE] using hg7
  refine x8x rfl rfl ?_
  refine x8x rfl rfl ?_
  refine p0p rfl rfl ?_
  refine p0p rfl rfl ?_
  refine p0p rfl rfl ?_
  refine p0p rfl rfl ?_
  refine p0p rfl rfl ?_
  refine p0p rfl rfl ?_
  refine p0p rfl rfl ?_
  refine p0p rfl rfl ?_
  refine x8x rfl rfl ?_
  refine z0z rfl rfl ?_
  refine ⟨by kernel_rfl, ?_⟩
  refine y0y rfl (fun hc11 => ?_) (fun hc11 => ?_)
  rotate_left
  ·simp at hc11
  try simp at hc11
  try have hlt := hc11
  refine x6x x9x (by rfl) ?_
  refine x2x rfl ?_
  refine y3y ⟨.inr rfl, ?_⟩
  clear hK6 K6 hK3 K3
  refine z2z rfl ?_ rfl
  exact congrArg (fun b : Bool => [AV.pv (.bool b)]) (h2.trans (a4l _ _ hbad)).symm
 try simp at hg7
 have hok : okE p = true := by simpa [okE] using hg7
 refine x1x rfl ?_
 refine y7y rfl rfl ?_
 refine y4y rfl rfl rfl ?_
 refine y7y rfl rfl ?_
 refine x1x rfl ?_
 refine a0b rfl rfl (fun hg8 => ?_) (fun hg8 => ?_)
 rotate_left
 ·try simp at hg8
  have hi0 : i = 0 := by omega
  have hlast : a9l l i = none := by rw [hi0]; rfl
  rw [hlast] at h2
  refine x8x rfl rfl ?_
  refine x8x rfl rfl ?_
  refine x8x rfl rfl ?_
  refine x8x rfl rfl ?_
  refine x8x rfl rfl ?_
  refine x8x rfl rfl ?_
  refine x8x rfl rfl ?_
  refine y7y rfl rfl ?_
  refine y5y rfl rfl ?_
  refine y5y rfl rfl ?_
  refine ⟨by kernel_rfl, ?_⟩
  refine y0y rfl (fun hc10 => ?_) (fun hc10 => ?_)
  ·simp at hc10
  try simp at hc10
  try have hlt := hc10
  refine y1y ?_
  refine hK6 _ _ ?_
  clear hK6 K6
  refine y2y x9x (by rfl) ?_
  refine u1u (b := 1) rfl rfl (by omega) ?_
  refine x1x rfl ?_
  exact ⟨i + 1, ⟨⟨by omega, by rw [h2]; show _ = a8z okE a2p l[i]? _; rw [hp]; exact a5z _ _ hok⟩, by omega⟩, [_], (x4x 13 rfl Cov.nil), (x4x 0 rfl (x4x 11 rfl (x4x 12 rfl Cov.nil))), (HE.kill rfl HE.nil), HE.nil, rfl⟩
 try simp at hg8
 have hi0 : 0 < i := by omega
 obtain ⟨b, hb⟩ : ∃ b, l[i - 1]? = some b := w5w (by omega)
 have hlast : a9l l i = some b := by obtain ⟨j, rfl⟩ : ∃ j, i = j + 1 := ⟨i - 1, by omega⟩; exact hb
 rw [hlast] at h2
 refine x1x rfl ?_
 refine y7y rfl rfl ?_
 refine x1x rfl ?_
 refine y7y rfl rfl ?_
 refine a1w (b := 1) rfl rfl (by omega) (by omega) ?_
 refine y7y rfl rfl ?_
 refine u0u rfl rfl u4u rfl z3z rfl hb ?_
 refine y7y rfl rfl ?_
 refine z5z rfl z3z rfl rfl ?_
 refine y7y rfl rfl ?_
 refine y8y rfl z3z rfl rfl rfl ?_
 refine y7y rfl rfl ?_
 refine z1z rfl rfl rfl (a9b ..) ?_
 refine y7y rfl rfl ?_
 refine w6w rfl ?_
 refine y7y rfl rfl ?_
 refine z0z rfl rfl ?_
 refine y5y rfl rfl ?_
 refine ⟨by kernel_rfl, ?_⟩
 refine y0y rfl (fun hc9 => ?_) (fun hc9 => ?_)
 rotate_left
 ·try simp at hc9
  try have hlt := hc9
  refine y1y ?_
  refine hK6 _ _ ?_
  clear hK6 K6
  refine y2y x9x (by rfl) ?_
  refine u1u (b := 1) rfl rfl (by omega) ?_
  refine x1x rfl ?_
  exact ⟨i + 1, ⟨⟨by omega, by rw [h2]; show _ = a8z okE a2p l[i]? _; rw [hp]; exact a8g _ _ hok hlt⟩, by omega⟩, [_], (x4x 13 rfl Cov.nil), (x4x 0 rfl (x4x 11 rfl (x4x 12 rfl Cov.nil))), (HE.kill rfl HE.nil), HE.nil, rfl⟩
 try simp at hc9
 try have hlt := hc9
 refine x6x x9x (by rfl) ?_
 refine x2x rfl ?_
 refine y3y ⟨.inr rfl, ?_⟩
 clear hK6 K6 hK3 K3
 refine z2z rfl ?_ rfl
 exact congrArg (fun b : Bool => [AV.pv (.bool b)]) (h2.trans (b4v _ _ hlt)).symm
theorem a6p (c : Bool) (l : List Ev) (most : Int) : a0z Tryz.prog 158 [r7r c l, .pv (.int .i64 most)] (.pv (.bool (a8k okE a2p l most))) := by
 refine z4z x9x (fn := Tryz.f158) (by kernel_rfl) (by kernel_rfl) rfl (outs := [.pv (.bool (a8k okE a2p l most))]) (by rfl) (v7v rfl) 0 ?_
 refine w4w 0 rfl fun hlen => ?_
 refine x6x x9x (by rfl) ?_
 refine x2x rfl ?_
 refine x7x fun K1 hK1 => ?_
 refine x6x x9x (by rfl) ?_
 refine x1x rfl ?_
 refine u3u rfl u4u rfl ?_
 refine x1x rfl ?_
 refine y4y rfl rfl rfl ?_
 refine y0y rfl (fun hc2 => ?_) (fun hc2 => ?_)
 ·try simp at hc2
  refine x6x x9x (by rfl) ?_
  refine x2x rfl ?_
  refine y3y ⟨.inr rfl, ?_⟩
  clear hK1 K1
  refine z2z rfl ?_ rfl
  exact congrArg (fun b : Bool => [AV.pv (.bool b)]) (a9y (by omega)).symm
 try simp at hc2
 refine y1y ?_
 refine hK1 _ _ ?_
 clear hK1 K1
 refine x7x fun K3 hK3 => ?_
 refine x6x x9x (by rfl) ?_
 refine x2x rfl ?_
 refine y6y ?_
 refine u5u (ι := Nat) (fun i γ1 => [(5, .pv (.int .i64 (i : Int)))]) (fun i γ1 => []) (fun i => i ≤ l.length ∧ a8k okE a2p l most = a8z okE a2p (a9l l i) (l.drop i)) (fun i => l.length - i) (x4x 0 rfl Cov.nil) HE.nil 0 ⟨by omega, b7v (by omega)⟩ [] (x4x 5 rfl Cov.nil) HE.nil rfl fun i γ1 hi => ?_
 try dsimp only [List.cons_append, List.nil_append]
 obtain ⟨h1, h2⟩ := hi
 refine x7x fun K4 hK4 => ?_
 refine x6x x9x (by rfl) ?_
 refine x1x rfl ?_
 refine x1x rfl ?_
 refine u3u rfl u4u rfl ?_
 refine y4y rfl rfl rfl ?_
 refine y0y rfl (fun hc5 => ?_) (fun hc5 => ?_)
 rotate_left
 ·try simp at hc5
  obtain rfl : i = l.length := by omega
  rw [List.drop_length] at h2
  refine v0v ?_
  refine hK3 _ _ ?_
  clear hK4 K4 hK3 K3
  refine x6x x9x (by rfl) ?_
  refine x2x rfl ?_
  refine y3y ⟨.inr rfl, ?_⟩
  refine z2z rfl ?_ rfl
  exact congrArg (fun b : Bool => [AV.pv (.bool b)]) h2.symm
 try simp at hc5
 obtain ⟨p, hp⟩ : ∃ p, l[i]? = some p := w5w (by omega)
 rw [r1r hp] at h2
 refine y1y ?_
 refine hK4 _ _ ?_
 clear hK4 K4
 refine x7x fun K6 hK6 => ?_
 refine y6y ?_
 refine q5q x9x r6r (by rfl) ?_
 refine x1x rfl ?_
 refine x1x rfl ?_
 refine u0u rfl rfl u4u rfl z3z rfl hp ?_
 refine z5z rfl z3z rfl rfl ?_
 refine z1z rfl rfl rfl (a9d ..) ?_
 refine w6w rfl ?_
 refine x1x rfl ?_
 refine a0b rfl rfl (fun hg7 => ?_) (fun hg7 => ?_)
 rotate_left
 ·try simp at hg7
  have hbad : okE p = false := by simpa [okE] using hg7
  refine x8x rfl rfl ?_
  refine x8x rfl rfl ?_
  refine p0p rfl rfl ?_
  refine p0p rfl rfl ?_
  refine p0p rfl rfl ?_
  refine p0p rfl rfl ?_
  refine p0p rfl rfl ?_
  refine p0p rfl rfl ?_
  refine p0p rfl rfl ?_
  refine p0p rfl rfl ?_
  refine p0p rfl rfl ?_
  refine p0p rfl rfl ?_
  refine p0p rfl rfl ?_
  refine x8x rfl rfl ?_
  refine z0z rfl rfl ?_
  refine ⟨by kernel_rfl, ?_⟩
  refine y0y rfl (fun hc11 => ?_) (fun hc11 => ?_)
  rotate_left
  ·simp at hc11
  try simp at hc11
  try have hlt := hc11
  refine x6x x9x (by rfl) ?_
  refine x2x rfl ?_
  refine y3y ⟨.inr rfl, ?_⟩
  clear hK6 K6 hK3 K3
  refine z2z rfl ?_ rfl
  exact congrArg (fun b : Bool => [AV.pv (.bool b)]) (h2.trans (a4l _ _ hbad)).symm
 try simp at hg7
 have hok : okE p = true := by simpa [okE] using hg7
 refine x1x rfl ?_
 refine y7y rfl rfl ?_
 refine y4y rfl rfl rfl ?_
 refine y7y rfl rfl ?_
 refine x1x rfl ?_
 refine a0b rfl rfl (fun hg8 => ?_) (fun hg8 => ?_)
 rotate_left
 ·try simp at hg8
  have hi0 : i = 0 := by omega
  have hlast : a9l l i = none := by rw [hi0]; rfl
  rw [hlast] at h2
  refine x8x rfl rfl ?_
  refine x8x rfl rfl ?_
  refine x8x rfl rfl ?_
  refine x8x rfl rfl ?_
  refine x8x rfl rfl ?_
  refine x8x rfl rfl ?_
  refine x8x rfl rfl ?_
  refine x8x rfl rfl ?_
  refine x8x rfl rfl ?_
  refine x8x rfl rfl ?_
  refine y7y rfl rfl ?_
  refine y5y rfl rfl ?_
  refine y5y rfl rfl ?_
  refine ⟨by kernel_rfl, ?_⟩
  refine y0y rfl (fun hc10 => ?_) (fun hc10 => ?_)
  ·simp at hc10
  try simp at hc10
  try have hlt := hc10
  refine y1y ?_
  refine hK6 _ _ ?_
  clear hK6 K6
  refine y2y x9x (by rfl) ?_
  refine x1x rfl ?_
  refine u1u (b := 1) rfl rfl (by omega) ?_
  refine x2x rfl ?_
  exact ⟨i + 1, ⟨⟨by omega, by rw [h2]; show _ = a8z okE a2p l[i]? _; rw [hp]; exact a5z _ _ hok⟩, by omega⟩, [], (x4x 5 rfl Cov.nil), (x4x 0 rfl Cov.nil), HE.nil, HE.nil, rfl⟩
 try simp at hg8
 have hi0 : 0 < i := by omega
 obtain ⟨b, hb⟩ : ∃ b, l[i - 1]? = some b := w5w (by omega)
 have hlast : a9l l i = some b := by obtain ⟨j, rfl⟩ : ∃ j, i = j + 1 := ⟨i - 1, by omega⟩; exact hb
 rw [hlast] at h2
 refine x1x rfl ?_
 refine y7y rfl rfl ?_
 refine x1x rfl ?_
 refine y7y rfl rfl ?_
 refine a1w (b := 1) rfl rfl (by omega) (by omega) ?_
 refine y7y rfl rfl ?_
 refine u0u rfl rfl u4u rfl z3z rfl hb ?_
 refine y7y rfl rfl ?_
 refine z5z rfl z3z rfl rfl ?_
 refine y7y rfl rfl ?_
 refine x1x rfl ?_
 refine y7y rfl rfl ?_
 refine x1x rfl ?_
 refine y7y rfl rfl ?_
 refine u0u rfl rfl u4u rfl z3z rfl hp ?_
 refine y7y rfl rfl ?_
 refine z5z rfl z3z rfl rfl ?_
 refine y7y rfl rfl ?_
 refine z1z rfl rfl rfl (a5b ..) ?_
 refine y7y rfl rfl ?_
 refine w6w rfl ?_
 refine y7y rfl rfl ?_
 refine z0z rfl rfl ?_
 refine y5y rfl rfl ?_
 refine ⟨by kernel_rfl, ?_⟩
 refine y0y rfl (fun hc9 => ?_) (fun hc9 => ?_)
 rotate_left
 ·try simp at hc9
  try have hlt := hc9
  refine y1y ?_
  refine hK6 _ _ ?_
  clear hK6 K6
  refine y2y x9x (by rfl) ?_
  refine x1x rfl ?_
  refine u1u (b := 1) rfl rfl (by omega) ?_
  refine x2x rfl ?_
  exact ⟨i + 1, ⟨⟨by omega, by rw [h2]; show _ = a8z okE a2p l[i]? _; rw [hp]; exact a8g _ _ hok hlt⟩, by omega⟩, [], (x4x 5 rfl Cov.nil), (x4x 0 rfl Cov.nil), HE.nil, HE.nil, rfl⟩
 try simp at hc9
 try have hlt := hc9
 refine x6x x9x (by rfl) ?_
 refine x2x rfl ?_
 refine y3y ⟨.inr rfl, ?_⟩
 clear hK6 K6 hK3 K3
 refine z2z rfl ?_ rfl
 exact congrArg (fun b : Bool => [AV.pv (.bool b)]) (h2.trans (b4v _ _ hlt)).symm
theorem b4a (c : Bool) (l : List Ou) (most : Int) : a0z Tryz.prog 215 [a1j c l, .pv (.int .i64 most)] (.pv (.bool (a8k okO b2d l most))) := by
 refine z4z x9x (fn := Tryz.f215) (by kernel_rfl) (by kernel_rfl) rfl (outs := [.pv (.bool (a8k okO b2d l most))]) (by rfl) (v7v rfl) 1 ?_
 refine w4w 0 rfl fun hlen => ?_
 refine x6x x9x (by rfl) ?_
 refine x2x rfl ?_
 refine x7x fun K1 hK1 => ?_
 refine x6x x9x (by rfl) ?_
 refine x1x rfl ?_
 refine u3u rfl p9p rfl ?_
 refine x1x rfl ?_
 refine y4y rfl rfl rfl ?_
 refine y0y rfl (fun hc2 => ?_) (fun hc2 => ?_)
 ·try simp at hc2
  refine x6x x9x (by rfl) ?_
  refine x2x rfl ?_
  refine y3y ⟨.inr rfl, ?_⟩
  clear hK1 K1
  refine z2z rfl ?_ rfl
  exact congrArg (fun b : Bool => [AV.pv (.bool b)]) (a9y (by omega)).symm
 try simp at hc2
 refine y1y ?_
 refine hK1 _ _ ?_
 clear hK1 K1
 refine x7x fun K3 hK3 => ?_
 refine x6x x9x (by rfl) ?_
 refine x1x rfl ?_
 refine u3u rfl p9p rfl ?_
 refine x1x rfl ?_
 refine y6y ?_
 refine u5u (ι := Nat) (fun i γ1 => [(14, .pv (.int .i64 (i : Int)))]) (fun i γ1 => [(0, ((γ1 0), .dead))]) (fun i => i ≤ l.length ∧ a8k okO b2d l most = a8z okO b2d (a9l l i) (l.drop i)) (fun i => l.length - i) (x4x 0 rfl (x4x 12 rfl (x4x 13 rfl Cov.nil))) HE.nil 0 ⟨by omega, b7v (by omega)⟩ [_] (x4x 14 rfl Cov.nil) (HE.kill rfl HE.nil) rfl fun i γ1 hi => ?_
 try dsimp only [List.cons_append, List.nil_append]
 obtain ⟨h1, h2⟩ := hi
 refine x6x x9x (by rfl) ?_
 refine y4y rfl rfl rfl ?_
 refine x7x fun K4 hK4 => ?_
 refine y0y rfl (fun hc5 => ?_) (fun hc5 => ?_)
 rotate_left
 ·try simp at hc5
  obtain rfl : i = l.length := by omega
  rw [List.drop_length] at h2
  refine v0v ?_
  refine hK3 _ _ ?_
  clear hK4 K4 hK3 K3
  refine x6x x9x (by rfl) ?_
  refine x2x rfl ?_
  refine y3y ⟨.inr rfl, ?_⟩
  refine z2z rfl ?_ rfl
  exact congrArg (fun b : Bool => [AV.pv (.bool b)]) h2.symm
 try simp at hc5
 obtain ⟨p, hp⟩ : ∃ p, l[i]? = some p := w5w (by omega)
 rw [r1r hp] at h2
 refine y1y ?_
 refine hK4 _ _ ?_
 clear hK4 K4
 refine x7x fun K6 hK6 => ?_
 refine y6y ?_
 refine x6x x9x (by rfl) ?_
 refine x1x rfl ?_
 refine u0u rfl rfl p9p rfl v5v rfl hp ?_
 refine z5z rfl v5v rfl rfl ?_
 refine v3v (id := 0) v5v b9u rfl ?_
 refine x2x rfl ?_
 refine u2u rfl rfl v5v rfl rfl rfl rfl ?_
 refine a8q (ι := Unit) (fun _i γ2 => [(7, .pv (.bool (okO p)))]) (fun _i γ2 => []) (fun _i => True) (x4x 0 rfl (x4x 5 rfl (x4x 6 rfl (x4x 12 rfl (x4x 13 rfl (x4x 14 rfl Cov.nil)))))) (x5x 0 rfl HE.nil) ?_ fun _i γ2 hi => ?_
 ·refine y2y x9x (by rfl) ?_
  refine x0x rfl v5v rfl rfl y9y rfl rfl ?_
  refine x3x rfl y9y rfl rfl ?_
  refine z1z rfl rfl rfl (w9w ..) ?_
  refine x1x rfl ?_
  refine a0b rfl rfl (fun hg7 => ?_) (fun hg7 => ?_)
  rotate_left
  ·try simp at hg7
   refine x8x rfl rfl ?_
   refine x8x rfl rfl ?_
   refine y5y rfl rfl ?_
   refine x1x rfl ?_
   refine x8x rfl rfl ?_
   refine x8x rfl rfl ?_
   refine x8x rfl rfl ?_
   refine y5y rfl rfl ?_
   refine x1x rfl ?_
   refine x8x rfl rfl ?_
   refine x8x rfl rfl ?_
   refine x8x rfl rfl ?_
   refine y5y rfl rfl ?_
   refine x1x rfl ?_
   refine x8x rfl rfl ?_
   refine x8x rfl rfl ?_
   refine x8x rfl rfl ?_
   refine y5y rfl rfl ?_
   refine x2x rfl ?_
   exact ⟨(), trivial, [], (Cov.cons' (t := 7) rfl (by exact congrArg (fun b : Bool => AV.pv (.bool b)) (decide_eq_false (by unfold c6t; omega)).symm) Cov.nil), (x4x 0 rfl (x4x 5 rfl (x4x 6 rfl (x4x 12 rfl (x4x 13 rfl (x4x 14 rfl Cov.nil)))))), HE.nil, (x5x 0 rfl HE.nil), rfl⟩
  try simp at hg7
  refine x0x rfl v5v rfl rfl y9y rfl rfl ?_
  refine y7y rfl rfl ?_
  refine x3x rfl y9y rfl rfl ?_
  refine y7y rfl rfl ?_
  refine z1z rfl rfl rfl (a5r ..) ?_
  refine z0z rfl rfl ?_
  refine x1x rfl ?_
  refine a0b rfl rfl (fun hg8 => ?_) (fun hg8 => ?_)
  rotate_left
  ·try simp at hg8
   refine x8x rfl rfl ?_
   refine x8x rfl rfl ?_
   refine y5y rfl rfl ?_
   refine x1x rfl ?_
   refine x8x rfl rfl ?_
   refine x8x rfl rfl ?_
   refine x8x rfl rfl ?_
   refine y5y rfl rfl ?_
   refine x1x rfl ?_
   refine x8x rfl rfl ?_
   refine x8x rfl rfl ?_
   refine x8x rfl rfl ?_
   refine y5y rfl rfl ?_
   refine x2x rfl ?_
   exact ⟨(), trivial, [], (Cov.cons' (t := 7) rfl (by exact congrArg (fun b : Bool => AV.pv (.bool b)) (decide_eq_false (by unfold c6t; omega)).symm) Cov.nil), (x4x 0 rfl (x4x 5 rfl (x4x 6 rfl (x4x 12 rfl (x4x 13 rfl (x4x 14 rfl Cov.nil)))))), HE.nil, (x5x 0 rfl HE.nil), rfl⟩
  try simp at hg8
  refine x0x rfl v5v rfl rfl y9y rfl rfl ?_
  refine y7y rfl rfl ?_
  refine x3x rfl y9y rfl rfl ?_
  refine y7y rfl rfl ?_
  refine z1z rfl rfl rfl (w9w ..) ?_
  refine z0z rfl rfl ?_
  refine x1x rfl ?_
  refine a0b rfl rfl (fun hg9 => ?_) (fun hg9 => ?_)
  rotate_left
  ·try simp at hg9
   refine x8x rfl rfl ?_
   refine x8x rfl rfl ?_
   refine y5y rfl rfl ?_
   refine x1x rfl ?_
   refine x8x rfl rfl ?_
   refine x8x rfl rfl ?_
   refine x8x rfl rfl ?_
   refine y5y rfl rfl ?_
   refine x2x rfl ?_
   exact ⟨(), trivial, [], (Cov.cons' (t := 7) rfl (by exact congrArg (fun b : Bool => AV.pv (.bool b)) (decide_eq_false (by unfold c6t; omega)).symm) Cov.nil), (x4x 0 rfl (x4x 5 rfl (x4x 6 rfl (x4x 12 rfl (x4x 13 rfl (x4x 14 rfl Cov.nil)))))), HE.nil, (x5x 0 rfl HE.nil), rfl⟩
  try simp at hg9
  refine x0x rfl v5v rfl rfl y9y rfl rfl ?_
  refine y7y rfl rfl ?_
  refine x3x rfl y9y rfl rfl ?_
  refine y7y rfl rfl ?_
  refine z1z rfl rfl rfl (w9w ..) ?_
  refine z0z rfl rfl ?_
  refine x1x rfl ?_
  refine a0b rfl rfl (fun hg10 => ?_) (fun hg10 => ?_)
  rotate_left
  ·try simp at hg10
   refine x8x rfl rfl ?_
   refine x8x rfl rfl ?_
   refine y5y rfl rfl ?_
   refine x2x rfl ?_
   exact ⟨(), trivial, [], (Cov.cons' (t := 7) rfl (by exact congrArg (fun b : Bool => AV.pv (.bool b)) (decide_eq_false (by unfold c6t; omega)).symm) Cov.nil), (x4x 0 rfl (x4x 5 rfl (x4x 6 rfl (x4x 12 rfl (x4x 13 rfl (x4x 14 rfl Cov.nil)))))), HE.nil, (x5x 0 rfl HE.nil), rfl⟩
  try simp at hg10
  refine x0x rfl v5v rfl rfl y9y rfl rfl ?_
  refine y7y rfl rfl ?_
  refine x3x rfl y9y rfl rfl ?_
  refine y7y rfl rfl ?_
  refine z1z rfl rfl rfl (a7f ..) ?_
  refine z0z rfl rfl ?_
  refine x2x rfl ?_
  exact ⟨(), trivial, [], (Cov.cons' (t := 7) rfl (by exact congrArg (fun b : Bool => AV.pv (.bool b)) (decide_eq_decide.2 (by unfold c6t; omega))) Cov.nil), (x4x 0 rfl (x4x 5 rfl (x4x 6 rfl (x4x 12 rfl (x4x 13 rfl (x4x 14 rfl Cov.nil)))))), HE.nil, (x5x 0 rfl HE.nil), rfl⟩
 ·try dsimp only [List.cons_append, List.nil_append]
  refine q5q x9x r6r (by rfl) ?_
  refine x1x rfl ?_
  refine w6w rfl ?_
  refine x1x rfl ?_
  refine a0b rfl rfl (fun hg11 => ?_) (fun hg11 => ?_)
  rotate_left
  ·try simp at hg11
   have hbad : okO p = false := by simpa [okO] using hg11
   refine x8x rfl rfl ?_
   refine x8x rfl rfl ?_
   refine p0p rfl rfl ?_
   refine p0p rfl rfl ?_
   refine p0p rfl rfl ?_
   refine p0p rfl rfl ?_
   refine p0p rfl rfl ?_
   refine p0p rfl rfl ?_
   refine p0p rfl rfl ?_
   refine p0p rfl rfl ?_
   refine x8x rfl rfl ?_
   refine z0z rfl rfl ?_
   refine ⟨by kernel_rfl, ?_⟩
   refine y0y rfl (fun hc15 => ?_) (fun hc15 => ?_)
   rotate_left
   ·simp at hc15
   try simp at hc15
   try have hlt := hc15
   refine x6x x9x (by rfl) ?_
   refine x2x rfl ?_
   refine y3y ⟨.inr rfl, ?_⟩
   clear hK6 K6 hK3 K3
   refine z2z rfl ?_ rfl
   exact congrArg (fun b : Bool => [AV.pv (.bool b)]) (h2.trans (a4l _ _ hbad)).symm
  try simp at hg11
  have hok : okO p = true := by simpa [okO] using hg11
  refine x1x rfl ?_
  refine y7y rfl rfl ?_
  refine y4y rfl rfl rfl ?_
  refine y7y rfl rfl ?_
  refine x1x rfl ?_
  refine a0b rfl rfl (fun hg12 => ?_) (fun hg12 => ?_)
  rotate_left
  ·try simp at hg12
   have hi0 : i = 0 := by omega
   have hlast : a9l l i = none := by rw [hi0]; rfl
   rw [hlast] at h2
   refine x8x rfl rfl ?_
   refine x8x rfl rfl ?_
   refine x8x rfl rfl ?_
   refine x8x rfl rfl ?_
   refine x8x rfl rfl ?_
   refine x8x rfl rfl ?_
   refine x8x rfl rfl ?_
   refine y7y rfl rfl ?_
   refine y5y rfl rfl ?_
   refine y5y rfl rfl ?_
   refine ⟨by kernel_rfl, ?_⟩
   refine y0y rfl (fun hc14 => ?_) (fun hc14 => ?_)
   ·simp at hc14
   try simp at hc14
   try have hlt := hc14
   refine y1y ?_
   refine hK6 _ _ ?_
   clear hK6 K6
   refine y2y x9x (by rfl) ?_
   refine u1u (b := 1) rfl rfl (by omega) ?_
   refine x1x rfl ?_
   exact ⟨i + 1, ⟨⟨by omega, by rw [h2]; show _ = a8z okO b2d l[i]? _; rw [hp]; exact a5z _ _ hok⟩, by omega⟩, [_], (x4x 14 rfl Cov.nil), (x4x 0 rfl (x4x 12 rfl (x4x 13 rfl Cov.nil))), (HE.kill rfl HE.nil), HE.nil, rfl⟩
  try simp at hg12
  have hi0 : 0 < i := by omega
  obtain ⟨b, hb⟩ : ∃ b, l[i - 1]? = some b := w5w (by omega)
  have hlast : a9l l i = some b := by obtain ⟨j, rfl⟩ : ∃ j, i = j + 1 := ⟨i - 1, by omega⟩; exact hb
  rw [hlast] at h2
  refine x1x rfl ?_
  refine y7y rfl rfl ?_
  refine x1x rfl ?_
  refine y7y rfl rfl ?_
  refine a1w (b := 1) rfl rfl (by omega) (by omega) ?_
  refine y7y rfl rfl ?_
  refine u0u rfl rfl p9p rfl v5v rfl hb ?_
  refine y7y rfl rfl ?_
  refine z5z rfl v5v rfl rfl ?_
  refine y7y rfl rfl ?_
  refine y8y rfl v5v rfl rfl rfl ?_
  refine y7y rfl rfl ?_
  refine z1z rfl rfl rfl (b9i ..) ?_
  refine y7y rfl rfl ?_
  refine w6w rfl ?_
  refine y7y rfl rfl ?_
  refine z0z rfl rfl ?_
  refine y5y rfl rfl ?_
  refine ⟨by kernel_rfl, ?_⟩
  refine y0y rfl (fun hc13 => ?_) (fun hc13 => ?_)
  rotate_left
  ·try simp at hc13
   try have hlt := hc13
   refine y1y ?_
   refine hK6 _ _ ?_
   clear hK6 K6
   refine y2y x9x (by rfl) ?_
   refine u1u (b := 1) rfl rfl (by omega) ?_
   refine x1x rfl ?_
   exact ⟨i + 1, ⟨⟨by omega, by rw [h2]; show _ = a8z okO b2d l[i]? _; rw [hp]; exact a8g _ _ hok hlt⟩, by omega⟩, [_], (x4x 14 rfl Cov.nil), (x4x 0 rfl (x4x 12 rfl (x4x 13 rfl Cov.nil))), (HE.kill rfl HE.nil), HE.nil, rfl⟩
  try simp at hc13
  try have hlt := hc13
  refine x6x x9x (by rfl) ?_
  refine x2x rfl ?_
  refine y3y ⟨.inr rfl, ?_⟩
  clear hK6 K6 hK3 K3
  refine z2z rfl ?_ rfl
  exact congrArg (fun b : Bool => [AV.pv (.bool b)]) (h2.trans (b4v _ _ hlt)).symm
theorem b4c (c : Bool) (l : List Ou) (most : Int) : a0z Tryz.prog 159 [a1j c l, .pv (.int .i64 most)] (.pv (.bool (a8k okO b2d l most))) := by
 refine z4z x9x (fn := Tryz.f159) (by kernel_rfl) (by kernel_rfl) rfl (outs := [.pv (.bool (a8k okO b2d l most))]) (by rfl) (v7v rfl) 1 ?_
 refine w4w 0 rfl fun hlen => ?_
 refine x6x x9x (by rfl) ?_
 refine x2x rfl ?_
 refine x7x fun K1 hK1 => ?_
 refine x6x x9x (by rfl) ?_
 refine x1x rfl ?_
 refine u3u rfl p9p rfl ?_
 refine x1x rfl ?_
 refine y4y rfl rfl rfl ?_
 refine y0y rfl (fun hc2 => ?_) (fun hc2 => ?_)
 ·try simp at hc2
  refine x6x x9x (by rfl) ?_
  refine x2x rfl ?_
  refine y3y ⟨.inr rfl, ?_⟩
  clear hK1 K1
  refine z2z rfl ?_ rfl
  exact congrArg (fun b : Bool => [AV.pv (.bool b)]) (a9y (by omega)).symm
 try simp at hc2
 refine y1y ?_
 refine hK1 _ _ ?_
 clear hK1 K1
 refine x7x fun K3 hK3 => ?_
 refine x6x x9x (by rfl) ?_
 refine x2x rfl ?_
 refine y6y ?_
 refine u5u (ι := Nat) (fun i γ1 => [(5, .pv (.int .i64 (i : Int)))]) (fun i γ1 => [(0, ((γ1 0), .dead))]) (fun i => i ≤ l.length ∧ a8k okO b2d l most = a8z okO b2d (a9l l i) (l.drop i)) (fun i => l.length - i) (x4x 0 rfl Cov.nil) HE.nil 0 ⟨by omega, b7v (by omega)⟩ [_] (x4x 5 rfl Cov.nil) (HE.kill rfl HE.nil) rfl fun i γ1 hi => ?_
 try dsimp only [List.cons_append, List.nil_append]
 obtain ⟨h1, h2⟩ := hi
 refine x7x fun K4 hK4 => ?_
 refine x6x x9x (by rfl) ?_
 refine x1x rfl ?_
 refine x1x rfl ?_
 refine u3u rfl p9p rfl ?_
 refine y4y rfl rfl rfl ?_
 refine y0y rfl (fun hc5 => ?_) (fun hc5 => ?_)
 rotate_left
 ·try simp at hc5
  obtain rfl : i = l.length := by omega
  rw [List.drop_length] at h2
  refine v0v ?_
  refine hK3 _ _ ?_
  clear hK4 K4 hK3 K3
  refine x6x x9x (by rfl) ?_
  refine x2x rfl ?_
  refine y3y ⟨.inr rfl, ?_⟩
  refine z2z rfl ?_ rfl
  exact congrArg (fun b : Bool => [AV.pv (.bool b)]) h2.symm
 try simp at hc5
 obtain ⟨p, hp⟩ : ∃ p, l[i]? = some p := w5w (by omega)
 rw [r1r hp] at h2
 refine y1y ?_
 refine hK4 _ _ ?_
 clear hK4 K4
 refine x7x fun K6 hK6 => ?_
 refine y6y ?_
 refine x6x x9x (by rfl) ?_
 refine x1x rfl ?_
 refine x1x rfl ?_
 refine u0u rfl rfl p9p rfl v5v rfl hp ?_
 refine z5z rfl v5v rfl rfl ?_
 refine v3v (id := 0) v5v b9u rfl ?_
 refine u2u rfl rfl v5v rfl rfl rfl rfl ?_
 refine q5q x9x r6r (by rfl) ?_
 refine x0x rfl v5v rfl rfl y9y rfl rfl ?_
 refine x3x rfl y9y rfl rfl ?_
 refine z1z rfl rfl rfl (q3q ..) ?_
 refine w6w rfl ?_
 refine x1x rfl ?_
 refine a0b rfl rfl (fun hg7 => ?_) (fun hg7 => ?_)
 rotate_left
 ·try simp at hg7
  refine x8x rfl rfl ?_
  refine x8x rfl rfl ?_
  refine x8x rfl rfl ?_
  refine z0z rfl rfl ?_
  refine x1x rfl ?_
  refine x8x rfl rfl ?_
  refine x8x rfl rfl ?_
  refine x8x rfl rfl ?_
  refine x8x rfl rfl ?_
  refine z0z rfl rfl ?_
  refine x1x rfl ?_
  refine x8x rfl rfl ?_
  refine x8x rfl rfl ?_
  refine x8x rfl rfl ?_
  refine x8x rfl rfl ?_
  refine z0z rfl rfl ?_
  refine x1x rfl ?_
  refine x8x rfl rfl ?_
  refine x8x rfl rfl ?_
  refine x8x rfl rfl ?_
  refine x8x rfl rfl ?_
  refine z0z rfl rfl ?_
  refine x1x rfl ?_
  refine x8x rfl rfl ?_
  refine x8x rfl rfl ?_
  refine x8x rfl rfl ?_
  refine p0p rfl rfl ?_
  refine p0p rfl rfl ?_
  refine p0p rfl rfl ?_
  refine p0p rfl rfl ?_
  refine p0p rfl rfl ?_
  refine p0p rfl rfl ?_
  refine p0p rfl rfl ?_
  refine p0p rfl rfl ?_
  refine x8x rfl rfl ?_
  refine z0z rfl rfl ?_
  refine ⟨by kernel_rfl, ?_⟩
  refine y0y rfl (fun hc19 => ?_) (fun hc19 => ?_)
  rotate_left
  ·simp at hc19
  try simp at hc19
  try have hlt := hc19
  refine x6x x9x (by rfl) ?_
  refine x2x rfl ?_
  refine y3y ⟨.inr rfl, ?_⟩
  clear hK6 K6 hK3 K3
  refine z2z rfl ?_ rfl
  exact congrArg (fun b : Bool => [AV.pv (.bool b)]) (h2.trans (a4l _ _ (decide_eq_false (by unfold c6t; omega)))).symm
 try simp at hg7
 refine x0x rfl v5v rfl rfl y9y rfl rfl ?_
 refine y7y rfl rfl ?_
 refine x3x rfl y9y rfl rfl ?_
 refine y7y rfl rfl ?_
 refine z1z rfl rfl rfl (a5s ..) ?_
 refine y7y rfl rfl ?_
 refine w6w rfl ?_
 refine y5y rfl rfl ?_
 refine x1x rfl ?_
 refine a0b rfl rfl (fun hg8 => ?_) (fun hg8 => ?_)
 rotate_left
 ·try simp at hg8
  refine x8x rfl rfl ?_
  refine x8x rfl rfl ?_
  refine x8x rfl rfl ?_
  refine z0z rfl rfl ?_
  refine x1x rfl ?_
  refine x8x rfl rfl ?_
  refine x8x rfl rfl ?_
  refine x8x rfl rfl ?_
  refine x8x rfl rfl ?_
  refine z0z rfl rfl ?_
  refine x1x rfl ?_
  refine x8x rfl rfl ?_
  refine x8x rfl rfl ?_
  refine x8x rfl rfl ?_
  refine x8x rfl rfl ?_
  refine z0z rfl rfl ?_
  refine x1x rfl ?_
  refine x8x rfl rfl ?_
  refine x8x rfl rfl ?_
  refine x8x rfl rfl ?_
  refine p0p rfl rfl ?_
  refine p0p rfl rfl ?_
  refine p0p rfl rfl ?_
  refine p0p rfl rfl ?_
  refine p0p rfl rfl ?_
  refine p0p rfl rfl ?_
  refine p0p rfl rfl ?_
  refine p0p rfl rfl ?_
  refine x8x rfl rfl ?_
  refine z0z rfl rfl ?_
  refine ⟨by kernel_rfl, ?_⟩
  refine y0y rfl (fun hc18 => ?_) (fun hc18 => ?_)
  rotate_left
  ·simp at hc18
  try simp at hc18
  try have hlt := hc18
  refine x6x x9x (by rfl) ?_
  refine x2x rfl ?_
  refine y3y ⟨.inr rfl, ?_⟩
  clear hK6 K6 hK3 K3
  refine z2z rfl ?_ rfl
  exact congrArg (fun b : Bool => [AV.pv (.bool b)]) (h2.trans (a4l _ _ (decide_eq_false (by unfold c6t; omega)))).symm
 try simp at hg8
 refine x0x rfl v5v rfl rfl y9y rfl rfl ?_
 refine y7y rfl rfl ?_
 refine x3x rfl y9y rfl rfl ?_
 refine y7y rfl rfl ?_
 refine z1z rfl rfl rfl (q3q ..) ?_
 refine y7y rfl rfl ?_
 refine w6w rfl ?_
 refine y5y rfl rfl ?_
 refine x1x rfl ?_
 refine a0b rfl rfl (fun hg9 => ?_) (fun hg9 => ?_)
 rotate_left
 ·try simp at hg9
  refine x8x rfl rfl ?_
  refine x8x rfl rfl ?_
  refine x8x rfl rfl ?_
  refine z0z rfl rfl ?_
  refine x1x rfl ?_
  refine x8x rfl rfl ?_
  refine x8x rfl rfl ?_
  refine x8x rfl rfl ?_
  refine x8x rfl rfl ?_
  refine z0z rfl rfl ?_
  refine x1x rfl ?_
  refine x8x rfl rfl ?_
  refine x8x rfl rfl ?_
  refine x8x rfl rfl ?_
  refine p0p rfl rfl ?_
  refine p0p rfl rfl ?_
  refine p0p rfl rfl ?_
  refine p0p rfl rfl ?_
  refine p0p rfl rfl ?_
  refine p0p rfl rfl ?_
  refine p0p rfl rfl ?_
  refine p0p rfl rfl ?_
  refine x8x rfl rfl ?_
  refine z0z rfl rfl ?_
  refine ⟨by kernel_rfl, ?_⟩
  refine y0y rfl (fun hc17 => ?_) (fun hc17 => ?_)
  rotate_left
  ·simp at hc17
  try simp at hc17
  try have hlt := hc17
  refine x6x x9x (by rfl) ?_
  refine x2x rfl ?_
  refine y3y ⟨.inr rfl, ?_⟩
  clear hK6 K6 hK3 K3
  refine z2z rfl ?_ rfl
  exact congrArg (fun b : Bool => [AV.pv (.bool b)]) (h2.trans (a4l _ _ (decide_eq_false (by unfold c6t; omega)))).symm
 try simp at hg9
 refine x0x rfl v5v rfl rfl y9y rfl rfl ?_
 refine y7y rfl rfl ?_
 refine x3x rfl y9y rfl rfl ?_
 refine y7y rfl rfl ?_
 refine z1z rfl rfl rfl (q3q ..) ?_
 refine y7y rfl rfl ?_
 refine w6w rfl ?_
 refine y5y rfl rfl ?_
 refine x1x rfl ?_
 refine a0b rfl rfl (fun hg10 => ?_) (fun hg10 => ?_)
 rotate_left
 ·try simp at hg10
  refine x8x rfl rfl ?_
  refine x8x rfl rfl ?_
  refine x8x rfl rfl ?_
  refine z0z rfl rfl ?_
  refine x1x rfl ?_
  refine x8x rfl rfl ?_
  refine x8x rfl rfl ?_
  refine x8x rfl rfl ?_
  refine p0p rfl rfl ?_
  refine p0p rfl rfl ?_
  refine p0p rfl rfl ?_
  refine p0p rfl rfl ?_
  refine p0p rfl rfl ?_
  refine p0p rfl rfl ?_
  refine p0p rfl rfl ?_
  refine p0p rfl rfl ?_
  refine x8x rfl rfl ?_
  refine z0z rfl rfl ?_
  refine ⟨by kernel_rfl, ?_⟩
  refine y0y rfl (fun hc16 => ?_) (fun hc16 => ?_)
  rotate_left
  ·simp at hc16
  try simp at hc16
  try have hlt := hc16
  refine x6x x9x (by rfl) ?_
  refine x2x rfl ?_
  refine y3y ⟨.inr rfl, ?_⟩
  clear hK6 K6 hK3 K3
  refine z2z rfl ?_ rfl
  exact congrArg (fun b : Bool => [AV.pv (.bool b)]) (h2.trans (a4l _ _ (decide_eq_false (by unfold c6t; omega)))).symm
 try simp at hg10
 refine x0x rfl v5v rfl rfl y9y rfl rfl ?_
 refine y7y rfl rfl ?_
 refine x3x rfl y9y rfl rfl ?_
 refine y7y rfl rfl ?_
 refine z1z rfl rfl rfl (a7g ..) ?_
 refine y7y rfl rfl ?_
 refine w6w rfl ?_
 refine y5y rfl rfl ?_
 refine x1x rfl ?_
 refine a0b rfl rfl (fun hg11 => ?_) (fun hg11 => ?_)
 rotate_left
 ·try simp at hg11
  refine x8x rfl rfl ?_
  refine x8x rfl rfl ?_
  refine p0p rfl rfl ?_
  refine p0p rfl rfl ?_
  refine p0p rfl rfl ?_
  refine p0p rfl rfl ?_
  refine p0p rfl rfl ?_
  refine p0p rfl rfl ?_
  refine p0p rfl rfl ?_
  refine p0p rfl rfl ?_
  refine x8x rfl rfl ?_
  refine z0z rfl rfl ?_
  refine ⟨by kernel_rfl, ?_⟩
  refine y0y rfl (fun hc15 => ?_) (fun hc15 => ?_)
  rotate_left
  ·simp at hc15
  try simp at hc15
  try have hlt := hc15
  refine x6x x9x (by rfl) ?_
  refine x2x rfl ?_
  refine y3y ⟨.inr rfl, ?_⟩
  clear hK6 K6 hK3 K3
  refine z2z rfl ?_ rfl
  exact congrArg (fun b : Bool => [AV.pv (.bool b)]) (h2.trans (a4l _ _ (decide_eq_false (by unfold c6t; omega)))).symm
 try simp at hg11
 have hok : okO p = true := decide_eq_true (by unfold c6t; omega)
 refine x1x rfl ?_
 refine y7y rfl rfl ?_
 refine y4y rfl rfl rfl ?_
 refine y7y rfl rfl ?_
 refine x1x rfl ?_
 refine a0b rfl rfl (fun hg12 => ?_) (fun hg12 => ?_)
 rotate_left
 ·try simp at hg12
  have hi0 : i = 0 := by omega
  have hlast : a9l l i = none := by rw [hi0]; rfl
  rw [hlast] at h2
  refine x8x rfl rfl ?_
  refine x8x rfl rfl ?_
  refine x8x rfl rfl ?_
  refine x8x rfl rfl ?_
  refine x8x rfl rfl ?_
  refine x8x rfl rfl ?_
  refine x8x rfl rfl ?_
  refine y7y rfl rfl ?_
  refine y5y rfl rfl ?_
  refine y5y rfl rfl ?_
  refine ⟨by kernel_rfl, ?_⟩
  refine y0y rfl (fun hc14 => ?_) (fun hc14 => ?_)
  ·simp at hc14
  try simp at hc14
  try have hlt := hc14
  refine y1y ?_
  refine hK6 _ _ ?_
  clear hK6 K6
  refine y2y x9x (by rfl) ?_
  refine x1x rfl ?_
  refine u1u (b := 1) rfl rfl (by omega) ?_
  refine x2x rfl ?_
  exact ⟨i + 1, ⟨⟨by omega, by rw [h2]; show _ = a8z okO b2d l[i]? _; rw [hp]; exact a5z _ _ hok⟩, by omega⟩, [_], (x4x 5 rfl Cov.nil), (x4x 0 rfl Cov.nil), (HE.kill rfl HE.nil), HE.nil, rfl⟩
 try simp at hg12
 have hi0 : 0 < i := by omega
 obtain ⟨b, hb⟩ : ∃ b, l[i - 1]? = some b := w5w (by omega)
 have hlast : a9l l i = some b := by obtain ⟨j, rfl⟩ : ∃ j, i = j + 1 := ⟨i - 1, by omega⟩; exact hb
 rw [hlast] at h2
 refine x1x rfl ?_
 refine y7y rfl rfl ?_
 refine x1x rfl ?_
 refine y7y rfl rfl ?_
 refine a1w (b := 1) rfl rfl (by omega) (by omega) ?_
 refine y7y rfl rfl ?_
 refine u0u rfl rfl p9p rfl v5v rfl hb ?_
 refine y7y rfl rfl ?_
 refine z5z rfl v5v rfl rfl ?_
 refine y7y rfl rfl ?_
 refine y8y rfl v5v rfl rfl rfl ?_
 refine y7y rfl rfl ?_
 refine z1z rfl rfl rfl (b9h ..) ?_
 refine y7y rfl rfl ?_
 refine w6w rfl ?_
 refine y7y rfl rfl ?_
 refine z0z rfl rfl ?_
 refine y5y rfl rfl ?_
 refine ⟨by kernel_rfl, ?_⟩
 refine y0y rfl (fun hc13 => ?_) (fun hc13 => ?_)
 rotate_left
 ·try simp at hc13
  try have hlt := hc13
  refine y1y ?_
  refine hK6 _ _ ?_
  clear hK6 K6
  refine y2y x9x (by rfl) ?_
  refine x1x rfl ?_
  refine u1u (b := 1) rfl rfl (by omega) ?_
  refine x2x rfl ?_
  exact ⟨i + 1, ⟨⟨by omega, by rw [h2]; show _ = a8z okO b2d l[i]? _; rw [hp]; exact a8g _ _ hok hlt⟩, by omega⟩, [_], (x4x 5 rfl Cov.nil), (x4x 0 rfl Cov.nil), (HE.kill rfl HE.nil), HE.nil, rfl⟩
 try simp at hc13
 try have hlt := hc13
 refine x6x x9x (by rfl) ?_
 refine x2x rfl ?_
 refine y3y ⟨.inr rfl, ?_⟩
 clear hK6 K6 hK3 K3
 refine z2z rfl ?_ rfl
 exact congrArg (fun b : Bool => [AV.pv (.bool b)]) (h2.trans (b4v _ _ hlt)).symm
end
section
theorem c2j (c : Bool) (p : Pa) (proc : Int) : a0z Tryz.prog 197 [.agg (a0s c p), .pv (.int .i64 proc)] (.pv (.bool (b4w proc p))) := by
 refine z4z x9x (fn := Tryz.f197) (by kernel_rfl) (by kernel_rfl) rfl (outs := [.pv (.bool (b4w proc p))]) (by rfl) (v7v rfl) 1 ?_
 refine x6x x9x (by rfl) ?_
 refine v4v (id := 0) rfl rfl rfl ?_
 refine x2x rfl ?_
 refine x6x x9x (by rfl) ?_
 refine x0x rfl w1w rfl rfl z3z rfl rfl ?_
 refine x3x (out := .agg (v9v p.ev)) rfl z3z rfl rfl ?_
 refine z1z rfl rfl rfl (b1m ..) ?_
 refine x1x rfl ?_
 refine a0b rfl rfl (fun hg1 => ?_) (fun hg1 => ?_)
 rotate_left
 ·try simp at hg1
  refine x8x rfl rfl ?_
  refine x8x rfl rfl ?_
  refine x8x rfl rfl ?_
  refine x8x rfl rfl ?_
  refine y5y rfl rfl ?_
  refine x1x rfl ?_
  refine x8x rfl rfl ?_
  refine x8x rfl rfl ?_
  refine x8x rfl rfl ?_
  refine y5y rfl rfl ?_
  refine x1x rfl ?_
  refine x8x rfl rfl ?_
  refine x8x rfl rfl ?_
  refine x8x rfl rfl ?_
  refine y5y rfl rfl ?_
  refine x1x rfl ?_
  refine x8x rfl rfl ?_
  refine x8x rfl rfl ?_
  refine x8x rfl rfl ?_
  refine y5y rfl rfl ?_
  refine x2x rfl ?_
  refine y3y ⟨.inr rfl, ?_⟩
  refine z2z rfl ?_ rfl
  simp [b4w, *]
 try simp at hg1
 refine x0x rfl w1w rfl rfl z3z rfl rfl ?_
 refine y7y rfl rfl ?_
 refine x0x rfl z3z rfl rfl y9y rfl rfl ?_
 refine y7y rfl rfl ?_
 refine x3x rfl y9y rfl rfl ?_
 refine y7y rfl rfl ?_
 refine x1x rfl ?_
 refine y7y rfl rfl ?_
 refine y4y rfl rfl rfl ?_
 refine z0z rfl rfl ?_
 refine x1x rfl ?_
 refine a0b rfl rfl (fun hg2 => ?_) (fun hg2 => ?_)
 rotate_left
 ·try simp at hg2
  refine x8x rfl rfl ?_
  refine x8x rfl rfl ?_
  refine y5y rfl rfl ?_
  refine x1x rfl ?_
  refine x8x rfl rfl ?_
  refine x8x rfl rfl ?_
  refine x8x rfl rfl ?_
  refine y5y rfl rfl ?_
  refine x1x rfl ?_
  refine x8x rfl rfl ?_
  refine x8x rfl rfl ?_
  refine x8x rfl rfl ?_
  refine y5y rfl rfl ?_
  refine x2x rfl ?_
  refine y3y ⟨.inr rfl, ?_⟩
  refine z2z rfl ?_ rfl
  simp [b4w, *]
 try simp at hg2
 refine x0x rfl w1w rfl rfl r4r rfl rfl ?_
 refine y7y rfl rfl ?_
 refine x3x (out := .agg (s9s p.after)) rfl r4r rfl rfl ?_
 refine y7y rfl rfl ?_
 refine z1z rfl rfl rfl (b1l ..) ?_
 refine z0z rfl rfl ?_
 refine x1x rfl ?_
 refine a0b rfl rfl (fun hg3 => ?_) (fun hg3 => ?_)
 rotate_left
 ·try simp at hg3
  refine x8x rfl rfl ?_
  refine x8x rfl rfl ?_
  refine y5y rfl rfl ?_
  refine x1x rfl ?_
  refine x8x rfl rfl ?_
  refine x8x rfl rfl ?_
  refine x8x rfl rfl ?_
  refine y5y rfl rfl ?_
  refine x2x rfl ?_
  refine y3y ⟨.inr rfl, ?_⟩
  refine z2z rfl ?_ rfl
  simp [b4w, *]
 try simp at hg3
 refine x0x rfl w1w rfl rfl u4u rfl rfl ?_
 refine y7y rfl rfl ?_
 refine x3x rfl u4u rfl rfl ?_
 refine y7y rfl rfl ?_
 refine z1z rfl rfl rfl (a4c ..) ?_
 refine z0z rfl rfl ?_
 refine x1x rfl ?_
 refine a0b rfl rfl (fun hg4 => ?_) (fun hg4 => ?_)
 rotate_left
 ·try simp at hg4
  refine x8x rfl rfl ?_
  refine x8x rfl rfl ?_
  refine y5y rfl rfl ?_
  refine x2x rfl ?_
  refine y3y ⟨.inr rfl, ?_⟩
  refine z2z rfl ?_ rfl
  simp [b4w, *]
 try simp at hg4
 refine x0x rfl w1w rfl rfl p9p rfl rfl ?_
 refine y7y rfl rfl ?_
 refine x3x rfl p9p rfl rfl ?_
 refine y7y rfl rfl ?_
 refine z1z rfl rfl rfl (b4a ..) ?_
 refine z0z rfl rfl ?_
 refine x2x rfl ?_
 refine y3y ⟨.inr rfl, ?_⟩
 refine z2z rfl ?_ rfl
 simp [b4w, *]
theorem b5x (c : Bool) (p : Pa) (proc : Int) : a0z Tryz.prog 130 [.agg (a0s c p), .pv (.int .i64 proc)] (.pv (.bool (b4w proc p))) := by
 refine z4z x9x (fn := Tryz.f130) (by kernel_rfl) (by kernel_rfl) rfl (outs := [.pv (.bool (b4w proc p))]) (by rfl) (v7v rfl) 1 ?_
 refine x6x x9x (by rfl) ?_
 refine v4v (id := 0) rfl rfl rfl ?_
 refine x2x rfl ?_
 refine x6x x9x (by rfl) ?_
 refine x0x rfl w1w rfl rfl z3z rfl rfl ?_
 refine x3x (out := .agg (v9v p.ev)) rfl z3z rfl rfl ?_
 refine z1z rfl rfl rfl (a9d ..) ?_
 refine x1x rfl ?_
 refine a0b rfl rfl (fun hg1 => ?_) (fun hg1 => ?_)
 rotate_left
 ·try simp at hg1
  refine x8x rfl rfl ?_
  refine x8x rfl rfl ?_
  refine x8x rfl rfl ?_
  refine x8x rfl rfl ?_
  refine y5y rfl rfl ?_
  refine x1x rfl ?_
  refine x8x rfl rfl ?_
  refine x8x rfl rfl ?_
  refine x8x rfl rfl ?_
  refine y5y rfl rfl ?_
  refine x1x rfl ?_
  refine x8x rfl rfl ?_
  refine x8x rfl rfl ?_
  refine x8x rfl rfl ?_
  refine y5y rfl rfl ?_
  refine x1x rfl ?_
  refine x8x rfl rfl ?_
  refine x8x rfl rfl ?_
  refine x8x rfl rfl ?_
  refine y5y rfl rfl ?_
  refine x2x rfl ?_
  refine y3y ⟨.inr rfl, ?_⟩
  refine z2z rfl ?_ rfl
  simp [b4w, *]
 try simp at hg1
 refine x0x rfl w1w rfl rfl z3z rfl rfl ?_
 refine y7y rfl rfl ?_
 refine x0x rfl z3z rfl rfl y9y rfl rfl ?_
 refine y7y rfl rfl ?_
 refine x3x rfl y9y rfl rfl ?_
 refine y7y rfl rfl ?_
 refine x1x rfl ?_
 refine y7y rfl rfl ?_
 refine y4y rfl rfl rfl ?_
 refine z0z rfl rfl ?_
 refine x1x rfl ?_
 refine a0b rfl rfl (fun hg2 => ?_) (fun hg2 => ?_)
 rotate_left
 ·try simp at hg2
  refine x8x rfl rfl ?_
  refine x8x rfl rfl ?_
  refine y5y rfl rfl ?_
  refine x1x rfl ?_
  refine x8x rfl rfl ?_
  refine x8x rfl rfl ?_
  refine x8x rfl rfl ?_
  refine y5y rfl rfl ?_
  refine x1x rfl ?_
  refine x8x rfl rfl ?_
  refine x8x rfl rfl ?_
  refine x8x rfl rfl ?_
  refine y5y rfl rfl ?_
  refine x2x rfl ?_
  refine y3y ⟨.inr rfl, ?_⟩
  refine z2z rfl ?_ rfl
  simp [b4w, *]
 try simp at hg2
 refine x0x rfl w1w rfl rfl r4r rfl rfl ?_
 refine y7y rfl rfl ?_
 refine x3x (out := .agg (s9s p.after)) rfl r4r rfl rfl ?_
 refine y7y rfl rfl ?_
 refine z1z rfl rfl rfl (a9c ..) ?_
 refine z0z rfl rfl ?_
 refine x1x rfl ?_
 refine a0b rfl rfl (fun hg3 => ?_) (fun hg3 => ?_)
 rotate_left
 ·try simp at hg3
  refine x8x rfl rfl ?_
  refine x8x rfl rfl ?_
  refine y5y rfl rfl ?_
  refine x1x rfl ?_
  refine x8x rfl rfl ?_
  refine x8x rfl rfl ?_
  refine x8x rfl rfl ?_
  refine y5y rfl rfl ?_
  refine x2x rfl ?_
  refine y3y ⟨.inr rfl, ?_⟩
  refine z2z rfl ?_ rfl
  simp [b4w, *]
 try simp at hg3
 refine x0x rfl w1w rfl rfl u4u rfl rfl ?_
 refine y7y rfl rfl ?_
 refine x3x rfl u4u rfl rfl ?_
 refine y7y rfl rfl ?_
 refine z1z rfl rfl rfl (a6p ..) ?_
 refine z0z rfl rfl ?_
 refine x1x rfl ?_
 refine a0b rfl rfl (fun hg4 => ?_) (fun hg4 => ?_)
 rotate_left
 ·try simp at hg4
  refine x8x rfl rfl ?_
  refine x8x rfl rfl ?_
  refine y5y rfl rfl ?_
  refine x2x rfl ?_
  refine y3y ⟨.inr rfl, ?_⟩
  refine z2z rfl ?_ rfl
  simp [b4w, *]
 try simp at hg4
 refine x0x rfl w1w rfl rfl p9p rfl rfl ?_
 refine y7y rfl rfl ?_
 refine x3x rfl p9p rfl rfl ?_
 refine y7y rfl rfl ?_
 refine z1z rfl rfl rfl (b4c ..) ?_
 refine z0z rfl rfl ?_
 refine x2x rfl ?_
 refine y3y ⟨.inr rfl, ?_⟩
 refine z2z rfl ?_ rfl
 simp [b4w, *]
theorem a5v  : a0z Tryz.prog 129 [] (.pv (.int .i64 100)) := by
 refine z4z x9x (fn := Tryz.f129) (by kernel_rfl) (by kernel_rfl) rfl (outs := [.pv (.int .i64 100)]) (by rfl) (v7v rfl) 0 ?_
 refine x6x x9x (by rfl) ?_
 refine x2x rfl ?_
 refine x6x x9x (by rfl) ?_
 refine x2x rfl ?_
 refine y3y ⟨.inr rfl, ?_⟩
 exact z2z rfl rfl rfl
theorem c2k (c : Bool) (l : La) : a0z Tryz.prog 123 [.agg (a0v c l)] (.pv (.bool (b4x l))) := by
 refine z4z x9x (fn := Tryz.f123) (by kernel_rfl) (by kernel_rfl) rfl (outs := [.pv (.bool (b4x l))]) (by rfl) (v7v rfl) 2 ?_
 refine x6x x9x (by rfl) ?_
 refine v4v (id := 0) rfl rfl rfl ?_
 refine x2x rfl ?_
 refine x7x fun K1 hK1 => ?_
 refine x6x x9x (by rfl) ?_
 refine x0x rfl v8v rfl rfl y9y rfl rfl ?_
 refine x3x rfl y9y rfl rfl ?_
 refine z1z rfl rfl rfl (a5r ..) ?_
 refine w6w rfl ?_
 refine x1x rfl ?_
 refine a0b rfl rfl (fun hg2 => ?_) (fun hg2 => ?_)
 rotate_left
 ·try simp at hg2
  have hn1 : ¬ (0 ≤ l.proc ∧ l.proc ≤ 3) := by omega
  refine x8x rfl rfl ?_
  refine x8x rfl rfl ?_
  refine x8x rfl rfl ?_
  refine z0z rfl rfl ?_
  refine x1x rfl ?_
  refine x8x rfl rfl ?_
  refine x8x rfl rfl ?_
  refine x8x rfl rfl ?_
  refine x8x rfl rfl ?_
  refine z0z rfl rfl ?_
  refine y0y rfl (fun hc15 => ?_) (fun hc15 => ?_)
  rotate_left
  ·simp at hc15
  try simp at hc15
  try have hn3 : ¬ l.done.length ≤ 100 := by omega
  refine x6x x9x (by rfl) ?_
  refine x2x rfl ?_
  refine y3y ⟨.inr rfl, ?_⟩
  clear hK1 K1
  refine z2z rfl ?_ rfl
  exact congrArg (fun b : Bool => [AV.pv (.bool b)]) (d4u hn1).symm
 try simp at hg2
 have hc1 : 0 ≤ l.proc ∧ l.proc ≤ 3 := by exact hg2
 refine x0x rfl v8v rfl rfl r4r rfl rfl ?_
 refine y7y rfl rfl ?_
 refine x3x (out := .agg (s9s l.base)) rfl r4r rfl rfl ?_
 refine y7y rfl rfl ?_
 refine z1z rfl rfl rfl (b1l ..) ?_
 refine y7y rfl rfl ?_
 refine w6w rfl ?_
 refine y5y rfl rfl ?_
 refine x1x rfl ?_
 refine a0b rfl rfl (fun hg3 => ?_) (fun hg3 => ?_)
 rotate_left
 ·try simp at hg3
  have hn2 : ¬ c0f l.base := by exact hg3
  refine x8x rfl rfl ?_
  refine x8x rfl rfl ?_
  refine x8x rfl rfl ?_
  refine z0z rfl rfl ?_
  refine y0y rfl (fun hc14 => ?_) (fun hc14 => ?_)
  rotate_left
  ·simp at hc14
  try simp at hc14
  try have hn3 : ¬ l.done.length ≤ 100 := by omega
  refine x6x x9x (by rfl) ?_
  refine x2x rfl ?_
  refine y3y ⟨.inr rfl, ?_⟩
  clear hK1 K1
  refine z2z rfl ?_ rfl
  exact congrArg (fun b : Bool => [AV.pv (.bool b)]) (d4v hn2).symm
 try simp at hg3
 have hc2 : c0f l.base := by exact hg3
 refine x0x rfl v8v rfl rfl w0w rfl rfl ?_
 refine y7y rfl rfl ?_
 refine x3x rfl w0w rfl rfl ?_
 refine y7y rfl rfl ?_
 refine u3u rfl w0w rfl ?_
 refine y7y rfl rfl ?_
 refine y4y rfl rfl rfl ?_
 refine y5y rfl rfl ?_
 refine y0y rfl (fun hc4 => ?_) (fun hc4 => ?_)
 ·try simp at hc4
  try have hn3 : ¬ l.done.length ≤ 100 := by omega
  refine x6x x9x (by rfl) ?_
  refine x2x rfl ?_
  refine y3y ⟨.inr rfl, ?_⟩
  clear hK1 K1
  refine z2z rfl ?_ rfl
  exact congrArg (fun b : Bool => [AV.pv (.bool b)]) (d4w hn3).symm
 try simp at hc4
 have hc3 : l.done.length ≤ 100 := by omega
 refine y1y ?_
 refine hK1 _ _ ?_
 clear hK1 K1
 refine x7x fun K5 hK5 => ?_
 refine x6x x9x (by rfl) ?_
 refine x0x rfl v8v rfl rfl w0w rfl rfl ?_
 refine x3x rfl w0w rfl rfl ?_
 refine u3u rfl w0w rfl ?_
 refine x1x rfl ?_
 refine y6y ?_
 refine u5u (ι := Nat) (fun i γ1 => [(24, .pv (.int .i64 (i : Int)))]) (fun i γ1 => [(1, ((γ1 1), .dead))]) (fun i => i ≤ l.done.length ∧ b4x l = a8z (b4w l.proc) d4t (a9l l.done i) (l.done.drop i)) (fun i => l.done.length - i) (x4x 1 rfl (x4x 22 rfl (x4x 23 rfl Cov.nil))) (x5x 0 rfl HE.nil) 0 ⟨by omega, d1a hc1 hc2 hc3⟩ [0, _] (x4x 24 rfl Cov.nil) (HE.kill rfl HE.nil) rfl fun i γ1 hi => ?_
 try dsimp only [List.cons_append, List.nil_append]
 obtain ⟨h1, h2⟩ := hi
 refine x6x x9x (by rfl) ?_
 refine y4y rfl rfl rfl ?_
 refine x7x fun K6 hK6 => ?_
 refine y0y rfl (fun hc7 => ?_) (fun hc7 => ?_)
 rotate_left
 ·try simp at hc7
  obtain rfl : i = l.done.length := by omega
  rw [List.drop_length] at h2
  refine v0v ?_
  refine hK5 _ _ ?_
  clear hK6 K6 hK5 K5
  refine x6x x9x (by rfl) ?_
  refine x2x rfl ?_
  refine y3y ⟨.inr rfl, ?_⟩
  refine z2z rfl ?_ rfl
  exact congrArg (fun b : Bool => [AV.pv (.bool b)]) h2.symm
 try simp at hc7
 obtain ⟨p, hp⟩ : ∃ p, l.done[i]? = some p := w5w (by omega)
 rw [r1r hp] at h2
 refine y1y ?_
 refine hK6 _ _ ?_
 clear hK6 K6
 refine x7x fun K8 hK8 => ?_
 refine y6y ?_
 refine x6x x9x (by rfl) ?_
 refine x1x rfl ?_
 refine u0u rfl rfl w0w rfl w1w rfl hp ?_
 refine z5z rfl w1w rfl rfl ?_
 refine v3v (id := 1) w1w b5o rfl ?_
 refine x2x rfl ?_
 refine u2u rfl rfl w1w rfl rfl rfl rfl ?_
 refine q5q x9x r6r (by rfl) ?_
 refine y8y rfl w1w rfl rfl rfl ?_
 refine x0x rfl v8v rfl rfl y9y rfl rfl ?_
 refine x3x rfl y9y rfl rfl ?_
 refine z1z rfl rfl rfl (c2j ..) ?_
 refine w6w rfl ?_
 refine x1x rfl ?_
 refine a0b rfl rfl (fun hg9 => ?_) (fun hg9 => ?_)
 rotate_left
 ·try simp at hg9
  have hbad : b4w l.proc p = false := by simpa using hg9
  refine x8x rfl rfl ?_
  refine x8x rfl rfl ?_
  refine p0p rfl rfl ?_
  refine p0p rfl rfl ?_
  refine p0p rfl rfl ?_
  refine p0p rfl rfl ?_
  refine p0p rfl rfl ?_
  refine p0p rfl rfl ?_
  refine p0p rfl rfl ?_
  refine p0p rfl rfl ?_
  refine p0p rfl rfl ?_
  refine p0p rfl rfl ?_
  refine p0p rfl rfl ?_
  refine x8x rfl rfl ?_
  refine z0z rfl rfl ?_
  refine ⟨by kernel_rfl, ?_⟩
  refine y0y rfl (fun hc13 => ?_) (fun hc13 => ?_)
  rotate_left
  ·simp at hc13
  try simp at hc13
  try have hlt := hc13
  refine x6x x9x (by rfl) ?_
  refine x2x rfl ?_
  refine y3y ⟨.inr rfl, ?_⟩
  clear hK8 K8 hK5 K5
  refine z2z rfl ?_ rfl
  exact congrArg (fun b : Bool => [AV.pv (.bool b)]) (h2.trans (a4l _ _ hbad)).symm
 try simp at hg9
 have hok : b4w l.proc p = true := by simpa using hg9
 refine x1x rfl ?_
 refine y7y rfl rfl ?_
 refine y4y rfl rfl rfl ?_
 refine y7y rfl rfl ?_
 refine x1x rfl ?_
 refine a0b rfl rfl (fun hg10 => ?_) (fun hg10 => ?_)
 rotate_left
 ·try simp at hg10
  have hi0 : i = 0 := by omega
  have hlast : a9l l.done i = none := by rw [hi0]; rfl
  rw [hlast] at h2
  refine x8x rfl rfl ?_
  refine x8x rfl rfl ?_
  refine x8x rfl rfl ?_
  refine x8x rfl rfl ?_
  refine x8x rfl rfl ?_
  refine x8x rfl rfl ?_
  refine x8x rfl rfl ?_
  refine x8x rfl rfl ?_
  refine x8x rfl rfl ?_
  refine x8x rfl rfl ?_
  refine y7y rfl rfl ?_
  refine y5y rfl rfl ?_
  refine y5y rfl rfl ?_
  refine ⟨by kernel_rfl, ?_⟩
  refine y0y rfl (fun hc12 => ?_) (fun hc12 => ?_)
  ·simp at hc12
  try simp at hc12
  try have hlt := hc12
  refine y1y ?_
  refine hK8 _ _ ?_
  clear hK8 K8
  refine y2y x9x (by rfl) ?_
  refine u1u (b := 1) rfl rfl (by omega) ?_
  refine x1x rfl ?_
  exact ⟨i + 1, ⟨⟨by omega, by rw [h2]; show _ = a8z (b4w l.proc) d4t l.done[i]? _; rw [hp]; exact a5z _ _ hok⟩, by omega⟩, [0, _], (x4x 24 rfl Cov.nil), (x4x 1 rfl (x4x 22 rfl (x4x 23 rfl Cov.nil))), (HE.kill rfl HE.nil), (x5x 0 rfl HE.nil), rfl⟩
 try simp at hg10
 have hi0 : 0 < i := by omega
 obtain ⟨b, hb⟩ : ∃ b, l.done[i - 1]? = some b := w5w (by omega)
 have hlast : a9l l.done i = some b := by obtain ⟨j, rfl⟩ : ∃ j, i = j + 1 := ⟨i - 1, by omega⟩; exact hb
 rw [hlast] at h2
 refine x0x rfl v8v rfl rfl w0w rfl rfl ?_
 refine y7y rfl rfl ?_
 refine x3x rfl w0w rfl rfl ?_
 refine y7y rfl rfl ?_
 refine x1x rfl ?_
 refine y7y rfl rfl ?_
 refine a1w (b := 1) rfl rfl (by omega) (by omega) ?_
 refine y7y rfl rfl ?_
 refine u0u rfl rfl w0w rfl w1w rfl hb ?_
 refine y7y rfl rfl ?_
 refine x0x rfl w1w rfl rfl z3z rfl rfl ?_
 refine y7y rfl rfl ?_
 refine z7z (out := .agg (v9v b.ev)) rfl z3z rfl ?_
 refine y7y rfl rfl ?_
 refine x0x rfl w1w rfl rfl z3z rfl rfl ?_
 refine y7y rfl rfl ?_
 refine x3x (out := .agg (v9v p.ev)) rfl z3z rfl rfl ?_
 refine y7y rfl rfl ?_
 refine z1z rfl rfl rfl (a9b ..) ?_
 refine y7y rfl rfl ?_
 refine w6w rfl ?_
 refine y7y rfl rfl ?_
 refine z0z rfl rfl ?_
 refine y5y rfl rfl ?_
 refine ⟨by kernel_rfl, ?_⟩
 refine y0y rfl (fun hc11 => ?_) (fun hc11 => ?_)
 rotate_left
 ·try simp at hc11
  try have hlt := hc11
  refine y1y ?_
  refine hK8 _ _ ?_
  clear hK8 K8
  refine y2y x9x (by rfl) ?_
  refine u1u (b := 1) rfl rfl (by omega) ?_
  refine x1x rfl ?_
  exact ⟨i + 1, ⟨⟨by omega, by rw [h2]; show _ = a8z (b4w l.proc) d4t l.done[i]? _; rw [hp]; exact a8g _ _ hok hlt⟩, by omega⟩, [0, _], (x4x 24 rfl Cov.nil), (x4x 1 rfl (x4x 22 rfl (x4x 23 rfl Cov.nil))), (HE.kill rfl HE.nil), (x5x 0 rfl HE.nil), rfl⟩
 try simp at hc11
 try have hlt := hc11
 refine x6x x9x (by rfl) ?_
 refine x2x rfl ?_
 refine y3y ⟨.inr rfl, ?_⟩
 clear hK8 K8 hK5 K5
 refine z2z rfl ?_ rfl
 exact congrArg (fun b : Bool => [AV.pv (.bool b)]) (h2.trans (b4v _ _ hlt)).symm
theorem c2l (c : Bool) (l : La) : a0z Tryz.prog 49 [.agg (a0v c l)] (.pv (.bool (b4x l))) := by
 refine z4z x9x (fn := Tryz.f49) (by kernel_rfl) (by kernel_rfl) rfl (outs := [.pv (.bool (b4x l))]) (by rfl) (v7v rfl) 1 ?_
 refine x6x x9x (by rfl) ?_
 refine v4v (id := 0) rfl rfl rfl ?_
 refine x2x rfl ?_
 refine x7x fun K1 hK1 => ?_
 refine q5q x9x r6r (by rfl) ?_
 refine x0x rfl v8v rfl rfl y9y rfl rfl ?_
 refine x3x rfl y9y rfl rfl ?_
 refine z1z rfl rfl rfl (a5s ..) ?_
 refine w6w rfl ?_
 refine x1x rfl ?_
 refine a0b rfl rfl (fun hg2 => ?_) (fun hg2 => ?_)
 rotate_left
 ·try simp at hg2
  have hn1 : ¬ (0 ≤ l.proc ∧ l.proc ≤ 3) := by omega
  refine x8x rfl rfl ?_
  refine x8x rfl rfl ?_
  refine x8x rfl rfl ?_
  refine z0z rfl rfl ?_
  refine x1x rfl ?_
  refine x8x rfl rfl ?_
  refine x8x rfl rfl ?_
  refine x8x rfl rfl ?_
  refine x8x rfl rfl ?_
  refine x8x rfl rfl ?_
  refine z0z rfl rfl ?_
  refine ⟨by kernel_rfl, ?_⟩
  refine y0y rfl (fun hc15 => ?_) (fun hc15 => ?_)
  rotate_left
  ·simp at hc15
  try simp at hc15
  try have hn3 : ¬ l.done.length ≤ 100 := by omega
  refine x6x x9x (by rfl) ?_
  refine x2x rfl ?_
  refine y3y ⟨.inr rfl, ?_⟩
  clear hK1 K1
  refine z2z rfl ?_ rfl
  exact congrArg (fun b : Bool => [AV.pv (.bool b)]) (d4u hn1).symm
 try simp at hg2
 have hc1 : 0 ≤ l.proc ∧ l.proc ≤ 3 := by exact hg2
 refine x0x rfl v8v rfl rfl r4r rfl rfl ?_
 refine y7y rfl rfl ?_
 refine x3x (out := .agg (s9s l.base)) rfl r4r rfl rfl ?_
 refine y7y rfl rfl ?_
 refine z1z rfl rfl rfl (a9c ..) ?_
 refine y7y rfl rfl ?_
 refine w6w rfl ?_
 refine y5y rfl rfl ?_
 refine x1x rfl ?_
 refine a0b rfl rfl (fun hg3 => ?_) (fun hg3 => ?_)
 rotate_left
 ·try simp at hg3
  have hn2 : ¬ c0f l.base := by exact hg3
  refine x8x rfl rfl ?_
  refine x8x rfl rfl ?_
  refine x8x rfl rfl ?_
  refine x8x rfl rfl ?_
  refine z0z rfl rfl ?_
  refine ⟨by kernel_rfl, ?_⟩
  refine y0y rfl (fun hc14 => ?_) (fun hc14 => ?_)
  rotate_left
  ·simp at hc14
  try simp at hc14
  try have hn3 : ¬ l.done.length ≤ 100 := by omega
  refine x6x x9x (by rfl) ?_
  refine x2x rfl ?_
  refine y3y ⟨.inr rfl, ?_⟩
  clear hK1 K1
  refine z2z rfl ?_ rfl
  exact congrArg (fun b : Bool => [AV.pv (.bool b)]) (d4v hn2).symm
 try simp at hg3
 have hc2 : c0f l.base := by exact hg3
 refine x0x rfl v8v rfl rfl w0w rfl rfl ?_
 refine y7y rfl rfl ?_
 refine x3x rfl w0w rfl rfl ?_
 refine y7y rfl rfl ?_
 refine u3u rfl w0w rfl ?_
 refine y7y rfl rfl ?_
 refine z1z rfl rfl rfl (a5v ..) ?_
 refine y7y rfl rfl ?_
 refine y4y rfl rfl rfl ?_
 refine y5y rfl rfl ?_
 refine ⟨by kernel_rfl, ?_⟩
 refine y0y rfl (fun hc4 => ?_) (fun hc4 => ?_)
 ·try simp at hc4
  try have hn3 : ¬ l.done.length ≤ 100 := by omega
  refine x6x x9x (by rfl) ?_
  refine x2x rfl ?_
  refine y3y ⟨.inr rfl, ?_⟩
  clear hK1 K1
  refine z2z rfl ?_ rfl
  exact congrArg (fun b : Bool => [AV.pv (.bool b)]) (d4w hn3).symm
 try simp at hc4
 have hc3 : l.done.length ≤ 100 := by omega
 refine y1y ?_
 refine hK1 _ _ ?_
 clear hK1 K1
 refine x7x fun K5 hK5 => ?_
 refine x6x x9x (by rfl) ?_
 refine x2x rfl ?_
 refine y6y ?_
 refine u5u (ι := Nat) (fun i γ1 => [(3, .pv (.int .i64 (i : Int)))]) (fun i γ1 => []) (fun i => i ≤ l.done.length ∧ b4x l = a8z (b4w l.proc) d4t (a9l l.done i) (l.done.drop i)) (fun i => l.done.length - i) (x4x 1 rfl Cov.nil) (x5x 0 rfl HE.nil) 0 ⟨by omega, d1a hc1 hc2 hc3⟩ [] (x4x 3 rfl Cov.nil) HE.nil rfl fun i γ1 hi => ?_
 try dsimp only [List.cons_append, List.nil_append]
 obtain ⟨h1, h2⟩ := hi
 refine x7x fun K6 hK6 => ?_
 refine x6x x9x (by rfl) ?_
 refine x1x rfl ?_
 refine x0x rfl v8v rfl rfl w0w rfl rfl ?_
 refine x3x rfl w0w rfl rfl ?_
 refine u3u rfl w0w rfl ?_
 refine y4y rfl rfl rfl ?_
 refine y0y rfl (fun hc7 => ?_) (fun hc7 => ?_)
 rotate_left
 ·try simp at hc7
  obtain rfl : i = l.done.length := by omega
  rw [List.drop_length] at h2
  refine v0v ?_
  refine hK5 _ _ ?_
  clear hK6 K6 hK5 K5
  refine x6x x9x (by rfl) ?_
  refine x2x rfl ?_
  refine y3y ⟨.inr rfl, ?_⟩
  refine z2z rfl ?_ rfl
  exact congrArg (fun b : Bool => [AV.pv (.bool b)]) h2.symm
 try simp at hc7
 obtain ⟨p, hp⟩ : ∃ p, l.done[i]? = some p := w5w (by omega)
 rw [r1r hp] at h2
 refine y1y ?_
 refine hK6 _ _ ?_
 clear hK6 K6
 refine x7x fun K8 hK8 => ?_
 refine y6y ?_
 refine q5q x9x r6r (by rfl) ?_
 refine x0x rfl v8v rfl rfl w0w rfl rfl ?_
 refine x3x rfl w0w rfl rfl ?_
 refine x1x rfl ?_
 refine u0u rfl rfl w0w rfl w1w rfl hp ?_
 refine z5z rfl w1w rfl rfl ?_
 refine x0x rfl v8v rfl rfl y9y rfl rfl ?_
 refine x3x rfl y9y rfl rfl ?_
 refine z1z rfl rfl rfl (b5x ..) ?_
 refine w6w rfl ?_
 refine x1x rfl ?_
 refine a0b rfl rfl (fun hg9 => ?_) (fun hg9 => ?_)
 rotate_left
 ·try simp at hg9
  have hbad : b4w l.proc p = false := by simpa using hg9
  refine x8x rfl rfl ?_
  refine x8x rfl rfl ?_
  refine p0p rfl rfl ?_
  refine p0p rfl rfl ?_
  refine p0p rfl rfl ?_
  refine p0p rfl rfl ?_
  refine p0p rfl rfl ?_
  refine p0p rfl rfl ?_
  refine p0p rfl rfl ?_
  refine p0p rfl rfl ?_
  refine p0p rfl rfl ?_
  refine p0p rfl rfl ?_
  refine p0p rfl rfl ?_
  refine p0p rfl rfl ?_
  refine p0p rfl rfl ?_
  refine p0p rfl rfl ?_
  refine p0p rfl rfl ?_
  refine x8x rfl rfl ?_
  refine z0z rfl rfl ?_
  refine ⟨by kernel_rfl, ?_⟩
  refine y0y rfl (fun hc13 => ?_) (fun hc13 => ?_)
  rotate_left
  ·simp at hc13
  try simp at hc13
  try have hlt := hc13
  refine x6x x9x (by rfl) ?_
  refine x2x rfl ?_
  refine y3y ⟨.inr rfl, ?_⟩
  clear hK8 K8 hK5 K5
  refine z2z rfl ?_ rfl
  exact congrArg (fun b : Bool => [AV.pv (.bool b)]) (h2.trans (a4l _ _ hbad)).symm
 try simp at hg9
 have hok : b4w l.proc p = true := by simpa using hg9
 refine x1x rfl ?_
 refine y7y rfl rfl ?_
 refine y4y rfl rfl rfl ?_
 refine y7y rfl rfl ?_
 refine x1x rfl ?_
 refine a0b rfl rfl (fun hg10 => ?_) (fun hg10 => ?_)
 rotate_left
 ·try simp at hg10
  have hi0 : i = 0 := by omega
  have hlast : a9l l.done i = none := by rw [hi0]; rfl
  rw [hlast] at h2
  refine x8x rfl rfl ?_
  refine x8x rfl rfl ?_
  refine x8x rfl rfl ?_
  refine x8x rfl rfl ?_
  refine x8x rfl rfl ?_
  refine x8x rfl rfl ?_
  refine x8x rfl rfl ?_
  refine x8x rfl rfl ?_
  refine x8x rfl rfl ?_
  refine x8x rfl rfl ?_
  refine x8x rfl rfl ?_
  refine x8x rfl rfl ?_
  refine x8x rfl rfl ?_
  refine x8x rfl rfl ?_
  refine y7y rfl rfl ?_
  refine y5y rfl rfl ?_
  refine y5y rfl rfl ?_
  refine ⟨by kernel_rfl, ?_⟩
  refine y0y rfl (fun hc12 => ?_) (fun hc12 => ?_)
  ·simp at hc12
  try simp at hc12
  try have hlt := hc12
  refine y1y ?_
  refine hK8 _ _ ?_
  clear hK8 K8
  refine y2y x9x (by rfl) ?_
  refine x1x rfl ?_
  refine u1u (b := 1) rfl rfl (by omega) ?_
  refine x2x rfl ?_
  exact ⟨i + 1, ⟨⟨by omega, by rw [h2]; show _ = a8z (b4w l.proc) d4t l.done[i]? _; rw [hp]; exact a5z _ _ hok⟩, by omega⟩, [], (x4x 3 rfl Cov.nil), (x4x 1 rfl Cov.nil), HE.nil, (x5x 0 rfl HE.nil), rfl⟩
 try simp at hg10
 have hi0 : 0 < i := by omega
 obtain ⟨b, hb⟩ : ∃ b, l.done[i - 1]? = some b := w5w (by omega)
 have hlast : a9l l.done i = some b := by obtain ⟨j, rfl⟩ : ∃ j, i = j + 1 := ⟨i - 1, by omega⟩; exact hb
 rw [hlast] at h2
 refine x0x rfl v8v rfl rfl w0w rfl rfl ?_
 refine y7y rfl rfl ?_
 refine x3x rfl w0w rfl rfl ?_
 refine y7y rfl rfl ?_
 refine x1x rfl ?_
 refine y7y rfl rfl ?_
 refine a1w (b := 1) rfl rfl (by omega) (by omega) ?_
 refine y7y rfl rfl ?_
 refine u0u rfl rfl w0w rfl w1w rfl hb ?_
 refine y7y rfl rfl ?_
 refine x0x rfl w1w rfl rfl z3z rfl rfl ?_
 refine y7y rfl rfl ?_
 refine z7z (out := .agg (v9v b.ev)) rfl z3z rfl ?_
 refine y7y rfl rfl ?_
 refine x0x rfl v8v rfl rfl w0w rfl rfl ?_
 refine y7y rfl rfl ?_
 refine x3x rfl w0w rfl rfl ?_
 refine y7y rfl rfl ?_
 refine x1x rfl ?_
 refine y7y rfl rfl ?_
 refine u0u rfl rfl w0w rfl w1w rfl hp ?_
 refine y7y rfl rfl ?_
 refine x0x rfl w1w rfl rfl z3z rfl rfl ?_
 refine y7y rfl rfl ?_
 refine z7z (out := .agg (v9v p.ev)) rfl z3z rfl ?_
 refine y7y rfl rfl ?_
 refine z1z rfl rfl rfl (a5b ..) ?_
 refine y7y rfl rfl ?_
 refine w6w rfl ?_
 refine y7y rfl rfl ?_
 refine z0z rfl rfl ?_
 refine y5y rfl rfl ?_
 refine ⟨by kernel_rfl, ?_⟩
 refine y0y rfl (fun hc11 => ?_) (fun hc11 => ?_)
 rotate_left
 ·try simp at hc11
  try have hlt := hc11
  refine y1y ?_
  refine hK8 _ _ ?_
  clear hK8 K8
  refine y2y x9x (by rfl) ?_
  refine x1x rfl ?_
  refine u1u (b := 1) rfl rfl (by omega) ?_
  refine x2x rfl ?_
  exact ⟨i + 1, ⟨⟨by omega, by rw [h2]; show _ = a8z (b4w l.proc) d4t l.done[i]? _; rw [hp]; exact a8g _ _ hok hlt⟩, by omega⟩, [], (x4x 3 rfl Cov.nil), (x4x 1 rfl Cov.nil), HE.nil, (x5x 0 rfl HE.nil), rfl⟩
 try simp at hc11
 try have hlt := hc11
 refine x6x x9x (by rfl) ?_
 refine x2x rfl ?_
 refine y3y ⟨.inr rfl, ?_⟩
 clear hK8 K8 hK5 K5
 refine z2z rfl ?_ rfl
 exact congrArg (fun b : Bool => [AV.pv (.bool b)]) (h2.trans (b4v _ _ hlt)).symm
end
section
theorem b5y (c : Bool) (n : Nd) : a0z Tryz.prog 214 [.agg (a1i c n)] (.pv (.bool (decide (a7d n)))) := by
 refine z4z x9x (fn := Tryz.f214) (by kernel_rfl) (by kernel_rfl) rfl (outs := [.pv (.bool (decide (a7d n)))]) (by rfl) (v7v rfl) 1 ?_
 refine x6x x9x (by rfl) ?_
 refine v4v (id := 0) rfl rfl rfl ?_
 refine x2x rfl ?_
 refine x6x x9x (by rfl) ?_
 refine x0x rfl z6z rfl rfl y9y rfl rfl ?_
 refine x3x rfl y9y rfl rfl ?_
 refine z1z rfl rfl rfl (b3z ..) ?_
 refine x1x rfl ?_
 refine a0b rfl rfl (fun hg1 => ?_) (fun hg1 => ?_)
 rotate_left
 ·try simp at hg1
  refine x8x rfl rfl ?_
  refine x8x rfl rfl ?_
  refine y5y rfl rfl ?_
  refine x1x rfl ?_
  refine x8x rfl rfl ?_
  refine x8x rfl rfl ?_
  refine x8x rfl rfl ?_
  refine y5y rfl rfl ?_
  refine x1x rfl ?_
  refine x8x rfl rfl ?_
  refine x8x rfl rfl ?_
  refine x8x rfl rfl ?_
  refine y5y rfl rfl ?_
  refine x1x rfl ?_
  refine x8x rfl rfl ?_
  refine x8x rfl rfl ?_
  refine x8x rfl rfl ?_
  refine y5y rfl rfl ?_
  refine x1x rfl ?_
  refine x8x rfl rfl ?_
  refine x8x rfl rfl ?_
  refine x8x rfl rfl ?_
  refine y5y rfl rfl ?_
  refine x1x rfl ?_
  refine x8x rfl rfl ?_
  refine x8x rfl rfl ?_
  refine x8x rfl rfl ?_
  refine y5y rfl rfl ?_
  refine x2x rfl ?_
  refine y3y ⟨.inr rfl, ?_⟩
  refine z2z rfl ?_ rfl
  exact kF (by unfold a7d; omega)
 try simp at hg1
 refine x0x rfl z6z rfl rfl y9y rfl rfl ?_
 refine y7y rfl rfl ?_
 refine x3x rfl y9y rfl rfl ?_
 refine y7y rfl rfl ?_
 refine z1z rfl rfl rfl (w9w ..) ?_
 refine z0z rfl rfl ?_
 refine x1x rfl ?_
 refine a0b rfl rfl (fun hg2 => ?_) (fun hg2 => ?_)
 rotate_left
 ·try simp at hg2
  refine x8x rfl rfl ?_
  refine x8x rfl rfl ?_
  refine y5y rfl rfl ?_
  refine x1x rfl ?_
  refine x8x rfl rfl ?_
  refine x8x rfl rfl ?_
  refine x8x rfl rfl ?_
  refine y5y rfl rfl ?_
  refine x1x rfl ?_
  refine x8x rfl rfl ?_
  refine x8x rfl rfl ?_
  refine x8x rfl rfl ?_
  refine y5y rfl rfl ?_
  refine x1x rfl ?_
  refine x8x rfl rfl ?_
  refine x8x rfl rfl ?_
  refine x8x rfl rfl ?_
  refine y5y rfl rfl ?_
  refine x1x rfl ?_
  refine x8x rfl rfl ?_
  refine x8x rfl rfl ?_
  refine x8x rfl rfl ?_
  refine y5y rfl rfl ?_
  refine x2x rfl ?_
  refine y3y ⟨.inr rfl, ?_⟩
  refine z2z rfl ?_ rfl
  exact kF (by unfold a7d; omega)
 try simp at hg2
 refine x0x rfl z6z rfl rfl y9y rfl rfl ?_
 refine y7y rfl rfl ?_
 refine x3x rfl y9y rfl rfl ?_
 refine y7y rfl rfl ?_
 refine z1z rfl rfl rfl (w9w ..) ?_
 refine z0z rfl rfl ?_
 refine x1x rfl ?_
 refine a0b rfl rfl (fun hg3 => ?_) (fun hg3 => ?_)
 rotate_left
 ·try simp at hg3
  refine x8x rfl rfl ?_
  refine x8x rfl rfl ?_
  refine y5y rfl rfl ?_
  refine x1x rfl ?_
  refine x8x rfl rfl ?_
  refine x8x rfl rfl ?_
  refine x8x rfl rfl ?_
  refine y5y rfl rfl ?_
  refine x1x rfl ?_
  refine x8x rfl rfl ?_
  refine x8x rfl rfl ?_
  refine x8x rfl rfl ?_
  refine y5y rfl rfl ?_
  refine x1x rfl ?_
  refine x8x rfl rfl ?_
  refine x8x rfl rfl ?_
  refine x8x rfl rfl ?_
  refine y5y rfl rfl ?_
  refine x2x rfl ?_
  refine y3y ⟨.inr rfl, ?_⟩
  refine z2z rfl ?_ rfl
  exact kF (by unfold a7d; omega)
 try simp at hg3
 refine x0x rfl z6z rfl rfl y9y rfl rfl ?_
 refine y7y rfl rfl ?_
 refine x3x rfl y9y rfl rfl ?_
 refine y7y rfl rfl ?_
 refine z1z rfl rfl rfl (w9w ..) ?_
 refine z0z rfl rfl ?_
 refine x1x rfl ?_
 refine a0b rfl rfl (fun hg4 => ?_) (fun hg4 => ?_)
 rotate_left
 ·try simp at hg4
  refine x8x rfl rfl ?_
  refine x8x rfl rfl ?_
  refine y5y rfl rfl ?_
  refine x1x rfl ?_
  refine x8x rfl rfl ?_
  refine x8x rfl rfl ?_
  refine x8x rfl rfl ?_
  refine y5y rfl rfl ?_
  refine x1x rfl ?_
  refine x8x rfl rfl ?_
  refine x8x rfl rfl ?_
  refine x8x rfl rfl ?_
  refine y5y rfl rfl ?_
  refine x2x rfl ?_
  refine y3y ⟨.inr rfl, ?_⟩
  refine z2z rfl ?_ rfl
  exact kF (by unfold a7d; omega)
 try simp at hg4
 refine x0x rfl z6z rfl rfl y9y rfl rfl ?_
 refine y7y rfl rfl ?_
 refine x3x rfl y9y rfl rfl ?_
 refine y7y rfl rfl ?_
 refine z1z rfl rfl rfl (w9w ..) ?_
 refine z0z rfl rfl ?_
 refine x1x rfl ?_
 refine a0b rfl rfl (fun hg5 => ?_) (fun hg5 => ?_)
 rotate_left
 ·try simp at hg5
  refine x8x rfl rfl ?_
  refine x8x rfl rfl ?_
  refine y5y rfl rfl ?_
  refine x1x rfl ?_
  refine x8x rfl rfl ?_
  refine x8x rfl rfl ?_
  refine x8x rfl rfl ?_
  refine y5y rfl rfl ?_
  refine x2x rfl ?_
  refine y3y ⟨.inr rfl, ?_⟩
  refine z2z rfl ?_ rfl
  exact kF (by unfold a7d; omega)
 try simp at hg5
 refine x0x rfl z6z rfl rfl y9y rfl rfl ?_
 refine y7y rfl rfl ?_
 refine x3x rfl y9y rfl rfl ?_
 refine y7y rfl rfl ?_
 refine z1z rfl rfl rfl (w9w ..) ?_
 refine z0z rfl rfl ?_
 refine x1x rfl ?_
 refine a0b rfl rfl (fun hg6 => ?_) (fun hg6 => ?_)
 rotate_left
 ·try simp at hg6
  refine x8x rfl rfl ?_
  refine x8x rfl rfl ?_
  refine y5y rfl rfl ?_
  refine x2x rfl ?_
  refine y3y ⟨.inr rfl, ?_⟩
  refine z2z rfl ?_ rfl
  exact kF (by unfold a7d; omega)
 try simp at hg6
 refine x0x rfl z6z rfl rfl y9y rfl rfl ?_
 refine y7y rfl rfl ?_
 refine x3x rfl y9y rfl rfl ?_
 refine y7y rfl rfl ?_
 refine z1z rfl rfl rfl (w9w ..) ?_
 refine z0z rfl rfl ?_
 refine x2x rfl ?_
 refine y3y ⟨.inr rfl, ?_⟩
 refine z2z rfl ?_ rfl
 exact congrArg (fun b : Bool => [AV.pv (.bool b)]) (decide_eq_decide.2 (by unfold a7d; omega))
theorem a1z  : a0z Tryz.prog 109 [] (.pv (.int .i64 9999)) := by
 refine z4z x9x (fn := Tryz.f109) (by kernel_rfl) (by kernel_rfl) rfl (outs := [.pv (.int .i64 9999)]) (by rfl) (v7v rfl) 0 ?_
 refine x6x x9x (by rfl) ?_
 refine x2x rfl ?_
 refine x6x x9x (by rfl) ?_
 refine x2x rfl ?_
 refine y3y ⟨.inr rfl, ?_⟩
 exact z2z rfl rfl rfl
theorem a9e (c : Bool) (v : Vi) : a0z Tryz.prog 132 [.agg (a1n c v)] (.pv (.bool (kb (c8n v)))) := by
 refine z4z x9x (fn := Tryz.f132) (by kernel_rfl) (by kernel_rfl) rfl (outs := [.pv (.bool (kb (c8n v)))]) (by rfl) (v7v rfl) 1 ?_
 refine x6x x9x (by rfl) ?_
 refine v4v (id := 0) rfl rfl rfl ?_
 refine x2x rfl ?_
 refine q5q x9x r6r (by rfl) ?_
 refine x0x rfl v6v rfl rfl y9y rfl rfl ?_
 refine x3x rfl y9y rfl rfl ?_
 refine z1z rfl rfl rfl (a1z ..) ?_
 refine z1z rfl rfl rfl (q3q ..) ?_
 refine x1x rfl ?_
 refine a0b rfl rfl (fun hg1 => ?_) (fun hg1 => ?_)
 rotate_left
 ·try simp at hg1
  refine x8x rfl rfl ?_
  refine x8x rfl rfl ?_
  refine x8x rfl rfl ?_
  refine y5y rfl rfl ?_
  refine x1x rfl ?_
  refine x8x rfl rfl ?_
  refine x8x rfl rfl ?_
  refine x8x rfl rfl ?_
  refine x8x rfl rfl ?_
  refine y5y rfl rfl ?_
  refine x2x rfl ?_
  refine ⟨by kernel_rfl, ?_⟩
  refine y3y ⟨.inr rfl, ?_⟩
  refine z2z rfl ?_ rfl
  exact congrArg (fun b : Bool => [AV.pv (.bool b)]) (a5l (fun h => by obtain ⟨q1, q2, q3⟩ := h; omega))
 try simp at hg1
 refine x0x rfl v6v rfl rfl y9y rfl rfl ?_
 refine y7y rfl rfl ?_
 refine x3x rfl y9y rfl rfl ?_
 refine y7y rfl rfl ?_
 refine z1z rfl rfl rfl (a1z ..) ?_
 refine y7y rfl rfl ?_
 refine z1z rfl rfl rfl (q3q ..) ?_
 refine z0z rfl rfl ?_
 refine x1x rfl ?_
 refine a0b rfl rfl (fun hg2 => ?_) (fun hg2 => ?_)
 rotate_left
 ·try simp at hg2
  refine x8x rfl rfl ?_
  refine x8x rfl rfl ?_
  refine x8x rfl rfl ?_
  refine y5y rfl rfl ?_
  refine x2x rfl ?_
  refine ⟨by kernel_rfl, ?_⟩
  refine y3y ⟨.inr rfl, ?_⟩
  refine z2z rfl ?_ rfl
  exact congrArg (fun b : Bool => [AV.pv (.bool b)]) (a5l (fun h => by obtain ⟨q1, q2, q3⟩ := h; omega))
 try simp at hg2
 refine x0x rfl v6v rfl rfl u4u rfl rfl ?_
 refine y7y rfl rfl ?_
 refine x3x rfl u4u rfl rfl ?_
 refine y7y rfl rfl ?_
 refine z1z rfl rfl rfl (a5v ..) ?_
 refine y7y rfl rfl ?_
 refine z1z rfl rfl rfl (a6p ..) ?_
 refine z0z rfl rfl ?_
 refine x2x rfl ?_
 refine ⟨by kernel_rfl, ?_⟩
 refine y3y ⟨.inr rfl, ?_⟩
 refine z2z rfl ?_ rfl
 exact congrArg (fun b : Bool => [AV.pv (.bool b)]) (d6m ⟨fun h => ⟨by omega, by omega, h⟩, fun h => h.2.2⟩)
theorem b8h (c : Bool) (n : Nd) : a0z Tryz.prog 160 [.agg (a1i c n)] (.pv (.bool (kb (a7k n)))) := by
 refine z4z x9x (fn := Tryz.f160) (by kernel_rfl) (by kernel_rfl) rfl (outs := [.pv (.bool (kb (a7k n)))]) (by rfl) (v7v rfl) 1 ?_
 refine x6x x9x (by rfl) ?_
 refine v4v (id := 0) rfl rfl rfl ?_
 refine x2x rfl ?_
 refine x7x fun K1 hK1 => ?_
 refine q5q x9x r6r (by rfl) ?_
 refine x0x rfl z6z rfl rfl p1p rfl rfl ?_
 refine x3x rfl p1p rfl rfl ?_
 refine u3u rfl p1p rfl ?_
 refine y4y rfl rfl rfl ?_
 refine x1x rfl ?_
 refine a0b rfl rfl (fun hg2 => ?_) (fun hg2 => ?_)
 rotate_left
 ·try simp at hg2
  refine x8x rfl rfl ?_
  refine x8x rfl rfl ?_
  refine x8x rfl rfl ?_
  refine z0z rfl rfl ?_
  refine x1x rfl ?_
  refine x8x rfl rfl ?_
  refine x8x rfl rfl ?_
  refine x8x rfl rfl ?_
  refine x8x rfl rfl ?_
  refine x8x rfl rfl ?_
  refine z0z rfl rfl ?_
  refine x1x rfl ?_
  refine x8x rfl rfl ?_
  refine x8x rfl rfl ?_
  refine x8x rfl rfl ?_
  refine x8x rfl rfl ?_
  refine x8x rfl rfl ?_
  refine z0z rfl rfl ?_
  refine x1x rfl ?_
  refine x8x rfl rfl ?_
  refine x8x rfl rfl ?_
  refine x8x rfl rfl ?_
  refine x8x rfl rfl ?_
  refine z0z rfl rfl ?_
  refine ⟨by kernel_rfl, ?_⟩
  refine y0y rfl (fun hc17 => ?_) (fun hc17 => ?_)
  rotate_left
  ·simp at hc17
  try simp at hc17
  refine x6x x9x (by rfl) ?_
  refine x2x rfl ?_
  refine y3y ⟨.inr rfl, ?_⟩
  clear hK1 K1
  refine z2z rfl ?_ rfl
  exact congrArg (fun b : Bool => [AV.pv (.bool b)]) (a5l (fun h => by obtain ⟨q1, q2, q3, q4, q5, q6⟩ := h; omega))
 try simp at hg2
 refine x0x rfl z6z rfl rfl p4p rfl rfl ?_
 refine y7y rfl rfl ?_
 refine x3x rfl p4p rfl rfl ?_
 refine y7y rfl rfl ?_
 refine u3u rfl p4p rfl ?_
 refine y7y rfl rfl ?_
 refine y4y rfl rfl rfl ?_
 refine y5y rfl rfl ?_
 refine x1x rfl ?_
 refine a0b rfl rfl (fun hg3 => ?_) (fun hg3 => ?_)
 rotate_left
 ·try simp at hg3
  refine x8x rfl rfl ?_
  refine x8x rfl rfl ?_
  refine x8x rfl rfl ?_
  refine x8x rfl rfl ?_
  refine z0z rfl rfl ?_
  refine x1x rfl ?_
  refine x8x rfl rfl ?_
  refine x8x rfl rfl ?_
  refine x8x rfl rfl ?_
  refine x8x rfl rfl ?_
  refine x8x rfl rfl ?_
  refine z0z rfl rfl ?_
  refine x1x rfl ?_
  refine x8x rfl rfl ?_
  refine x8x rfl rfl ?_
  refine x8x rfl rfl ?_
  refine x8x rfl rfl ?_
  refine z0z rfl rfl ?_
  refine ⟨by kernel_rfl, ?_⟩
  refine y0y rfl (fun hc16 => ?_) (fun hc16 => ?_)
  rotate_left
  ·simp at hc16
  try simp at hc16
  refine x6x x9x (by rfl) ?_
  refine x2x rfl ?_
  refine y3y ⟨.inr rfl, ?_⟩
  clear hK1 K1
  refine z2z rfl ?_ rfl
  exact congrArg (fun b : Bool => [AV.pv (.bool b)]) (a5l (fun h => by obtain ⟨q1, q2, q3, q4, q5, q6⟩ := h; omega))
 try simp at hg3
 refine x0x rfl z6z rfl rfl y9y rfl rfl ?_
 refine y7y rfl rfl ?_
 refine x3x rfl y9y rfl rfl ?_
 refine y7y rfl rfl ?_
 refine z1z rfl rfl rfl (a1z ..) ?_
 refine y7y rfl rfl ?_
 refine z1z rfl rfl rfl (q3q ..) ?_
 refine y7y rfl rfl ?_
 refine w6w rfl ?_
 refine y5y rfl rfl ?_
 refine x1x rfl ?_
 refine a0b rfl rfl (fun hg4 => ?_) (fun hg4 => ?_)
 rotate_left
 ·try simp at hg4
  refine x8x rfl rfl ?_
  refine x8x rfl rfl ?_
  refine x8x rfl rfl ?_
  refine x8x rfl rfl ?_
  refine z0z rfl rfl ?_
  refine x1x rfl ?_
  refine x8x rfl rfl ?_
  refine x8x rfl rfl ?_
  refine x8x rfl rfl ?_
  refine x8x rfl rfl ?_
  refine z0z rfl rfl ?_
  refine ⟨by kernel_rfl, ?_⟩
  refine y0y rfl (fun hc15 => ?_) (fun hc15 => ?_)
  rotate_left
  ·simp at hc15
  try simp at hc15
  refine x6x x9x (by rfl) ?_
  refine x2x rfl ?_
  refine y3y ⟨.inr rfl, ?_⟩
  clear hK1 K1
  refine z2z rfl ?_ rfl
  exact congrArg (fun b : Bool => [AV.pv (.bool b)]) (a5l (fun h => by obtain ⟨q1, q2, q3, q4, q5, q6⟩ := h; omega))
 try simp at hg4
 refine x0x rfl z6z rfl rfl y9y rfl rfl ?_
 refine y7y rfl rfl ?_
 refine x3x rfl y9y rfl rfl ?_
 refine y7y rfl rfl ?_
 refine z1z rfl rfl rfl (a1z ..) ?_
 refine y7y rfl rfl ?_
 refine z1z rfl rfl rfl (q3q ..) ?_
 refine y7y rfl rfl ?_
 refine w6w rfl ?_
 refine y5y rfl rfl ?_
 refine x1x rfl ?_
 refine a0b rfl rfl (fun hg5 => ?_) (fun hg5 => ?_)
 rotate_left
 ·try simp at hg5
  refine x8x rfl rfl ?_
  refine x8x rfl rfl ?_
  refine x8x rfl rfl ?_
  refine z0z rfl rfl ?_
  refine ⟨by kernel_rfl, ?_⟩
  refine y0y rfl (fun hc14 => ?_) (fun hc14 => ?_)
  rotate_left
  ·simp at hc14
  try simp at hc14
  refine x6x x9x (by rfl) ?_
  refine x2x rfl ?_
  refine y3y ⟨.inr rfl, ?_⟩
  clear hK1 K1
  refine z2z rfl ?_ rfl
  exact congrArg (fun b : Bool => [AV.pv (.bool b)]) (a5l (fun h => by obtain ⟨q1, q2, q3, q4, q5, q6⟩ := h; omega))
 try simp at hg5
 refine x0x rfl z6z rfl rfl y9y rfl rfl ?_
 refine y7y rfl rfl ?_
 refine x3x rfl y9y rfl rfl ?_
 refine y7y rfl rfl ?_
 refine z1z rfl rfl rfl (q3q ..) ?_
 refine y7y rfl rfl ?_
 refine w6w rfl ?_
 refine y5y rfl rfl ?_
 refine ⟨by kernel_rfl, ?_⟩
 refine y0y rfl (fun hc6 => ?_) (fun hc6 => ?_)
 ·try simp at hc6
  refine x6x x9x (by rfl) ?_
  refine x2x rfl ?_
  refine y3y ⟨.inr rfl, ?_⟩
  clear hK1 K1
  refine z2z rfl ?_ rfl
  exact congrArg (fun b : Bool => [AV.pv (.bool b)]) (a5l (fun h => by obtain ⟨q1, q2, q3, q4, q5, q6⟩ := h; omega))
 try simp at hc6
 have hL : n.views.length = 3 ∧ n.known.length = 3 ∧ (0 ≤ n.version ∧ n.version ≤ 9999) ∧ (0 ≤ n.round ∧ n.round ≤ 9999) ∧ (0 ≤ n.low ∧ n.low ≤ 41) := by omega
 refine y1y ?_
 refine hK1 _ _ ?_
 clear hK1 K1
 refine x7x fun K7 hK7 => ?_
 refine x6x x9x (by rfl) ?_
 refine x2x rfl ?_
 refine y6y ?_
 refine u5u (ι := Nat) (fun i γ1 => [(3, .pv (.int .i64 (i : Int)))]) (fun i γ1 => []) (fun i => i ≤ 3 ∧ c8f n.views (fun j v => ∀ k, n.known[j]? = some k → c8n v ∧ 0 ≤ k ∧ k ≤ 41) i) (fun i => 3 - i) (x4x 1 rfl Cov.nil) (x5x 0 rfl HE.nil) 0 ⟨by omega, a3x⟩ [] (x4x 3 rfl Cov.nil) HE.nil rfl fun i γ1 hi => ?_
 try dsimp only [List.cons_append, List.nil_append]
 obtain ⟨h1, h2⟩ := hi
 refine x7x fun K8 hK8 => ?_
 refine x6x x9x (by rfl) ?_
 refine x1x rfl ?_
 refine y4y rfl rfl rfl ?_
 refine y0y rfl (fun hc9 => ?_) (fun hc9 => ?_)
 rotate_left
 ·try simp at hc9
  obtain rfl : i = 3 := by omega
  refine v0v ?_
  refine hK7 _ _ ?_
  clear hK8 K8 hK7 K7
  refine x6x x9x (by rfl) ?_
  refine x2x rfl ?_
  refine y3y ⟨.inr rfl, ?_⟩
  refine z2z rfl ?_ rfl
  exact congrArg (fun b : Bool => [AV.pv (.bool b)]) (d6l ⟨hL.1, hL.2.1, hL.2.2.1, hL.2.2.2.1, hL.2.2.2.2, fun i v k a b => a5m h2 (by omega) i v a k b⟩)
 try simp at hc9
 obtain ⟨v, hv⟩ : ∃ v, n.views[i]? = some v := w5w (by omega)
 obtain ⟨k, hk⟩ : ∃ k, n.known[i]? = some k := w5w (by omega)
 refine y1y ?_
 refine hK8 _ _ ?_
 clear hK8 K8
 refine x7x fun K10 hK10 => ?_
 refine y6y ?_
 refine x6x x9x (by rfl) ?_
 refine x0x rfl z6z rfl rfl p1p rfl rfl ?_
 refine x3x rfl p1p rfl rfl ?_
 refine x1x rfl ?_
 refine u0u rfl rfl p1p rfl v6v rfl (by assumption) ?_
 refine z5z rfl v6v rfl rfl ?_
 refine z1z rfl rfl rfl (a9e ..) ?_
 refine w6w rfl ?_
 refine x1x rfl ?_
 refine a0b rfl rfl (fun hg11 => ?_) (fun hg11 => ?_)
 rotate_left
 ·try simp at hg11
  have hbad : ¬ c8n v := a5g (by simpa using hg11)
  refine x8x rfl rfl ?_
  refine x8x rfl rfl ?_
  refine x8x rfl rfl ?_
  refine x8x rfl rfl ?_
  refine x8x rfl rfl ?_
  refine x8x rfl rfl ?_
  refine z0z rfl rfl ?_
  refine y0y rfl (fun hc13 => ?_) (fun hc13 => ?_)
  rotate_left
  ·simp at hc13
  try simp at hc13
  refine x6x x9x (by rfl) ?_
  refine x2x rfl ?_
  refine y3y ⟨.inr rfl, ?_⟩
  clear hK10 K10 hK7 K7
  refine z2z rfl ?_ rfl
  exact congrArg (fun b : Bool => [AV.pv (.bool b)]) (a5l (fun h => hbad (h.2.2.2.2.2 _ _ _ hv hk).1))
 try simp at hg11
 have hvo : c8n v := b1e.1 (by simpa using hg11)
 refine x0x rfl z6z rfl rfl p4p rfl rfl ?_
 refine y7y rfl rfl ?_
 refine x3x rfl p4p rfl rfl ?_
 refine y7y rfl rfl ?_
 refine x1x rfl ?_
 refine y7y rfl rfl ?_
 refine u0u rfl rfl p4p rfl y9y rfl (by assumption) ?_
 refine y7y rfl rfl ?_
 refine z7z rfl y9y rfl ?_
 refine y7y rfl rfl ?_
 refine z1z rfl rfl rfl (q3q ..) ?_
 refine y7y rfl rfl ?_
 refine w6w rfl ?_
 refine y5y rfl rfl ?_
 refine y0y rfl (fun hc12 => ?_) (fun hc12 => ?_)
 rotate_left
 ·try simp at hc12
  refine y1y ?_
  refine hK10 _ _ ?_
  clear hK10 K10
  refine y2y x9x (by rfl) ?_
  refine x1x rfl ?_
  refine u1u (b := 1) rfl rfl (by omega) ?_
  refine x2x rfl ?_
  exact ⟨i + 1, ⟨⟨by omega, a2t h2 hv (fun k2 hk2 => by rw [hk] at hk2; cases hk2; exact ⟨hvo, by omega⟩)⟩, by omega⟩, [], (x4x 3 rfl Cov.nil), (x4x 1 rfl Cov.nil), HE.nil, (x5x 0 rfl HE.nil), rfl⟩
 try simp at hc12
 refine x6x x9x (by rfl) ?_
 refine x2x rfl ?_
 refine y3y ⟨.inr rfl, ?_⟩
 clear hK10 K10 hK7 K7
 refine z2z rfl ?_ rfl
 exact congrArg (fun b : Bool => [AV.pv (.bool b)]) (a5l (fun h => by have := (h.2.2.2.2.2 _ _ _ hv hk).2; omega))
theorem b9j (c : Bool) (n : Nd) : a0z Tryz.prog 148 [.agg (a1i c n)] (.pv (.bool (kb (a8u n)))) := by
 refine z4z x9x (fn := Tryz.f148) (by kernel_rfl) (by kernel_rfl) rfl (outs := [.pv (.bool (kb (a8u n)))]) (by rfl) (v7v rfl) 4 ?_
 refine x6x x9x (by rfl) ?_
 refine v4v (id := 0) rfl rfl rfl ?_
 refine x2x rfl ?_
 refine x7x fun K1 hK1 => ?_
 refine x6x x9x (by rfl) ?_
 refine y8y rfl z6z rfl rfl rfl ?_
 refine z1z rfl rfl rfl (b5y ..) ?_
 refine w6w rfl ?_
 refine x1x rfl ?_
 refine a0b rfl rfl (fun hg2 => ?_) (fun hg2 => ?_)
 rotate_left
 ·try simp at hg2
  have hX : ¬ a7d n := by exact hg2
  refine x8x rfl rfl ?_
  refine x8x rfl rfl ?_
  refine x8x rfl rfl ?_
  refine z0z rfl rfl ?_
  refine x1x rfl ?_
  refine x8x rfl rfl ?_
  refine x8x rfl rfl ?_
  refine x8x rfl rfl ?_
  refine x8x rfl rfl ?_
  refine z0z rfl rfl ?_
  refine y0y rfl (fun hc33 => ?_) (fun hc33 => ?_)
  rotate_left
  ·simp at hc33
  try simp at hc33
  try have hX : ¬ a8k okO b2d n.outs 96 = true := by first | exact hc33 | simpa using hc33
  refine x6x x9x (by rfl) ?_
  refine x2x rfl ?_
  refine y3y ⟨.inr rfl, ?_⟩
  clear hK1 K1
  refine z2z rfl ?_ rfl
  exact congrArg (fun b : Bool => [AV.pv (.bool b)]) (a5l (fun h => by obtain ⟨q1, q2, q3, q4, q5, q6, q7, q8, q9⟩ := h; exact hX q1))
 try simp at hg2
 have hA1 : a7d n := by exact hg2
 refine x0x rfl z6z rfl rfl u4u rfl rfl ?_
 refine y7y rfl rfl ?_
 refine x3x rfl u4u rfl rfl ?_
 refine y7y rfl rfl ?_
 refine z1z rfl rfl rfl (a4c ..) ?_
 refine y7y rfl rfl ?_
 refine w6w rfl ?_
 refine y5y rfl rfl ?_
 refine x1x rfl ?_
 refine a0b rfl rfl (fun hg3 => ?_) (fun hg3 => ?_)
 rotate_left
 ·try simp at hg3
  have hX : ¬ a8k okE a2p n.kept 100 = true := by simpa using hg3
  refine x8x rfl rfl ?_
  refine x8x rfl rfl ?_
  refine x8x rfl rfl ?_
  refine z0z rfl rfl ?_
  refine y0y rfl (fun hc32 => ?_) (fun hc32 => ?_)
  rotate_left
  ·simp at hc32
  try simp at hc32
  try have hX : ¬ a8k okO b2d n.outs 96 = true := by first | exact hc32 | simpa using hc32
  refine x6x x9x (by rfl) ?_
  refine x2x rfl ?_
  refine y3y ⟨.inr rfl, ?_⟩
  clear hK1 K1
  refine z2z rfl ?_ rfl
  exact congrArg (fun b : Bool => [AV.pv (.bool b)]) (a5l (fun h => by obtain ⟨q1, q2, q3, q4, q5, q6, q7, q8, q9⟩ := h; exact hX q2))
 try simp at hg3
 have hA2 : a8k okE a2p n.kept 100 = true := by exact hg3
 refine x0x rfl z6z rfl rfl p9p rfl rfl ?_
 refine y7y rfl rfl ?_
 refine x3x rfl p9p rfl rfl ?_
 refine y7y rfl rfl ?_
 refine z1z rfl rfl rfl (b4a ..) ?_
 refine y7y rfl rfl ?_
 refine w6w rfl ?_
 refine y5y rfl rfl ?_
 refine y0y rfl (fun hc4 => ?_) (fun hc4 => ?_)
 ·try simp at hc4
  try have hX : ¬ a8k okO b2d n.outs 96 = true := by simpa using hc4
  refine x6x x9x (by rfl) ?_
  refine x2x rfl ?_
  refine y3y ⟨.inr rfl, ?_⟩
  clear hK1 K1
  refine z2z rfl ?_ rfl
  exact congrArg (fun b : Bool => [AV.pv (.bool b)]) (a5l (fun h => by obtain ⟨q1, q2, q3, q4, q5, q6, q7, q8, q9⟩ := h; exact hX q3))
 try simp at hc4
 have hA3 : a8k okO b2d n.outs 96 = true := by exact hc4
 refine y1y ?_
 refine hK1 _ _ ?_
 clear hK1 K1
 refine x7x fun K5 hK5 => ?_
 refine x6x x9x (by rfl) ?_
 refine x0x rfl z6z rfl rfl p9p rfl rfl ?_
 refine x3x rfl p9p rfl rfl ?_
 refine u3u rfl p9p rfl ?_
 refine x1x rfl ?_
 refine y6y ?_
 refine w4w 27 rfl fun hlen0 => ?_
 refine u5u (ι := Nat) (fun i γ1 => [(29, .pv (.int .i64 (i : Int)))]) (fun i γ1 => [(1, ((γ1 1), .dead))]) (fun i => i ≤ n.outs.length ∧ c8f n.outs (fun _ o => o.time < n.g) i) (fun i => n.outs.length - i) (x4x 1 rfl (x4x 27 rfl (x4x 28 rfl Cov.nil))) (x5x 0 rfl (x5x 2 rfl (x5x 3 rfl HE.nil))) 0 ⟨by omega, a3x⟩ [0, _] (x4x 29 rfl Cov.nil) (HE.kill rfl HE.nil) rfl fun i γ1 hi => ?_
 try dsimp only [List.cons_append, List.nil_append]
 obtain ⟨a1, a2⟩ := hi
 refine x6x x9x (by rfl) ?_
 refine y4y rfl rfl rfl ?_
 refine x7x fun K6 hK6 => ?_
 refine y0y rfl (fun hc7 => ?_) (fun hc7 => ?_)
 ·try simp at hc7
  obtain ⟨o, ho⟩ : ∃ o, n.outs[i]? = some o := w5w (by omega)
  refine y1y ?_
  refine hK6 _ _ ?_
  clear hK6 K6
  refine x7x fun K8 hK8 => ?_
  refine y6y ?_
  refine x6x x9x (by rfl) ?_
  refine u0u rfl rfl p9p rfl v5v rfl (by assumption) ?_
  refine z5z rfl v5v rfl rfl ?_
  refine v3v (id := 1) v5v b9u rfl ?_
  refine u2u rfl rfl v5v rfl rfl rfl rfl ?_
  refine x6x x9x (by rfl) ?_
  refine x0x rfl v5v rfl rfl y9y rfl rfl ?_
  refine x3x rfl y9y rfl rfl ?_
  refine x0x rfl z6z rfl rfl y9y rfl rfl ?_
  refine x3x rfl y9y rfl rfl ?_
  refine y4y rfl rfl rfl ?_
  refine y0y rfl (fun hc9 => ?_) (fun hc9 => ?_)
  rotate_left
  ·try simp at hc9
   have hlt : o.time < n.g := by omega
   refine y1y ?_
   refine hK8 _ _ ?_
   clear hK8 K8
   refine y2y x9x (by rfl) ?_
   refine u1u (b := 1) rfl rfl (by omega) ?_
   refine x1x rfl ?_
   exact ⟨i + 1, ⟨⟨by omega, a2t a2 ho hlt⟩, by omega⟩, [0, _], (x4x 29 rfl Cov.nil), (x4x 1 rfl (x4x 27 rfl (x4x 28 rfl Cov.nil))), (HE.kill rfl HE.nil), (x5x 0 rfl (x5x 2 rfl (x5x 3 rfl HE.nil))), rfl⟩
  try simp at hc9
  have hX : ¬ o.time < n.g := by omega
  refine x6x x9x (by rfl) ?_
  refine x2x rfl ?_
  refine y3y ⟨.inr rfl, ?_⟩
  clear hK8 K8 hK5 K5
  refine z2z rfl ?_ rfl
  exact congrArg (fun b : Bool => [AV.pv (.bool b)]) (a5l (fun h => by obtain ⟨q1, q2, q3, q4, q5, q6, q7, q8, q9⟩ := h; exact hX (q4 _ _ ho)))
 try simp at hc7
 have hO : ∀ (i : Nat) o, n.outs[i]? = some o → o.time < n.g := a5m a2 (by omega)
 refine v0v ?_
 refine hK5 _ _ ?_
 clear hK6 K6 hK5 K5
 refine x6x x9x (by rfl) ?_
 refine x0x rfl z6z rfl rfl y9y rfl rfl ?_
 refine x3x rfl y9y rfl rfl ?_
 refine z1z rfl rfl rfl (a4m ..) ?_
 refine x2x rfl ?_
 refine x7x fun K10 hK10 => ?_
 refine x6x x9x (by rfl) ?_
 refine x0x rfl z6z rfl rfl w2w rfl rfl ?_
 refine x3x rfl w2w rfl rfl ?_
 refine u3u rfl w2w rfl ?_
 refine x1x rfl ?_
 refine u3u rfl p4p rfl ?_
 refine y4y rfl rfl rfl ?_
 refine x1x rfl ?_
 refine a0b rfl rfl (fun hg11 => ?_) (fun hg11 => ?_)
 rotate_left
 ·try simp at hg11
  refine x8x rfl rfl ?_
  refine x8x rfl rfl ?_
  refine x8x rfl rfl ?_
  refine z0z rfl rfl ?_
  refine x1x rfl ?_
  refine x8x rfl rfl ?_
  refine x8x rfl rfl ?_
  refine x8x rfl rfl ?_
  refine x8x rfl rfl ?_
  refine z0z rfl rfl ?_
  refine y0y rfl (fun hc31 => ?_) (fun hc31 => ?_)
  rotate_left
  ·simp at hc31
  try simp at hc31
  refine x6x x9x (by rfl) ?_
  refine x2x rfl ?_
  refine y3y ⟨.inr rfl, ?_⟩
  clear hK10 K10
  refine z2z rfl ?_ rfl
  exact congrArg (fun b : Bool => [AV.pv (.bool b)]) (a5l (fun h => by obtain ⟨q1, q2, q3, q4, q5, q6, q7, q8, q9⟩ := h; omega))
 try simp at hg11
 refine x0x rfl z6z rfl rfl p1p rfl rfl ?_
 refine y7y rfl rfl ?_
 refine x3x rfl p1p rfl rfl ?_
 refine y7y rfl rfl ?_
 refine u3u rfl p1p rfl ?_
 refine y7y rfl rfl ?_
 refine y4y rfl rfl rfl ?_
 refine y5y rfl rfl ?_
 refine x1x rfl ?_
 refine a0b rfl rfl (fun hg12 => ?_) (fun hg12 => ?_)
 rotate_left
 ·try simp at hg12
  refine x8x rfl rfl ?_
  refine x8x rfl rfl ?_
  refine x8x rfl rfl ?_
  refine z0z rfl rfl ?_
  refine y0y rfl (fun hc30 => ?_) (fun hc30 => ?_)
  rotate_left
  ·simp at hc30
  try simp at hc30
  refine x6x x9x (by rfl) ?_
  refine x2x rfl ?_
  refine y3y ⟨.inr rfl, ?_⟩
  clear hK10 K10
  refine z2z rfl ?_ rfl
  exact congrArg (fun b : Bool => [AV.pv (.bool b)]) (a5l (fun h => by obtain ⟨q1, q2, q3, q4, q5, q6, q7, q8, q9⟩ := h; omega))
 try simp at hg12
 refine x0x rfl z6z rfl rfl p4p rfl rfl ?_
 refine y7y rfl rfl ?_
 refine x3x rfl p4p rfl rfl ?_
 refine y7y rfl rfl ?_
 refine u3u rfl p4p rfl ?_
 refine y7y rfl rfl ?_
 refine y4y rfl rfl rfl ?_
 refine y5y rfl rfl ?_
 refine y0y rfl (fun hc13 => ?_) (fun hc13 => ?_)
 ·try simp at hc13
  refine x6x x9x (by rfl) ?_
  refine x2x rfl ?_
  refine y3y ⟨.inr rfl, ?_⟩
  clear hK10 K10
  refine z2z rfl ?_ rfl
  exact congrArg (fun b : Bool => [AV.pv (.bool b)]) (a5l (fun h => by obtain ⟨q1, q2, q3, q4, q5, q6, q7, q8, q9⟩ := h; omega))
 try simp at hc13
 have hL : n.lanes.length = (a1d n.id 4).length ∧ n.views.length = 3 ∧ n.known.length = 3 := by omega
 refine y1y ?_
 refine hK10 _ _ ?_
 clear hK10 K10
 refine x7x fun K14 hK14 => ?_
 refine x6x x9x (by rfl) ?_
 refine x0x rfl z6z rfl rfl w2w rfl rfl ?_
 refine x3x rfl w2w rfl rfl ?_
 refine u3u rfl w2w rfl ?_
 refine x1x rfl ?_
 refine y6y ?_
 refine w4w 61 rfl fun hlen1 => ?_
 refine u5u (ι := Nat) (fun j γ2 => [(63, .pv (.int .i64 (j : Int)))]) (fun j γ2 => [(2, ((γ2 2), .dead))]) (fun j => j ≤ n.lanes.length ∧ c8f n.lanes (fun j l => (a1d n.id 4)[j]? = some l.proc ∧ b4x l = true) j) (fun j => n.lanes.length - j) (x4x 1 rfl (x4x 5 rfl (x4x 61 rfl (x4x 62 rfl Cov.nil)))) (x5x 0 rfl (x5x 1 rfl (x5x 3 rfl HE.nil))) 0 ⟨by omega, a3x⟩ [0, 0, _] (x4x 63 rfl Cov.nil) (HE.kill rfl HE.nil) rfl fun j γ2 hi => ?_
 try dsimp only [List.cons_append, List.nil_append]
 obtain ⟨b1, b2⟩ := hi
 refine x6x x9x (by rfl) ?_
 refine y4y rfl rfl rfl ?_
 refine x7x fun K15 hK15 => ?_
 refine y0y rfl (fun hc16 => ?_) (fun hc16 => ?_)
 ·try simp at hc16
  obtain ⟨l, hl⟩ : ∃ l, n.lanes[j]? = some l := w5w (by omega)
  obtain ⟨q, hq⟩ : ∃ q, (a1d n.id 4)[j]? = some q := w5w (by omega)
  refine y1y ?_
  refine hK15 _ _ ?_
  clear hK15 K15
  refine x7x fun K17 hK17 => ?_
  refine y6y ?_
  refine x6x x9x (by rfl) ?_
  refine x1x rfl ?_
  refine u0u rfl rfl w2w rfl v8v rfl (by assumption) ?_
  refine z5z rfl v8v rfl rfl ?_
  refine v3v (id := 2) v8v a9u rfl ?_
  refine x2x rfl ?_
  refine u2u rfl rfl v8v rfl rfl rfl rfl ?_
  refine q5q x9x r6r (by rfl) ?_
  refine x0x rfl v8v rfl rfl y9y rfl rfl ?_
  refine x3x rfl y9y rfl rfl ?_
  refine x1x rfl ?_
  refine x1x rfl ?_
  refine u0u rfl rfl p4p rfl y9y rfl (by assumption) ?_
  refine z7z rfl y9y rfl ?_
  refine y4y rfl rfl rfl ?_
  refine x1x rfl ?_
  refine a0b rfl rfl (fun hg18 => ?_) (fun hg18 => ?_)
  rotate_left
  ·try simp at hg18
   have hX : ¬ l.proc = q := by exact hg18
   refine x8x rfl rfl ?_
   refine x8x rfl rfl ?_
   refine z0z rfl rfl ?_
   refine ⟨by kernel_rfl, ?_⟩
   refine y0y rfl (fun hc20 => ?_) (fun hc20 => ?_)
   rotate_left
   ·simp at hc20
   try simp at hc20
   try have hX : ¬ b4x l = true := by first | exact hc20 | simpa using hc20
   refine x6x x9x (by rfl) ?_
   refine x2x rfl ?_
   refine y3y ⟨.inr rfl, ?_⟩
   clear hK17 K17 hK14 K14
   refine z2z rfl ?_ rfl
   exact congrArg (fun b : Bool => [AV.pv (.bool b)]) (a5l (fun h => by obtain ⟨q1, q2, q3, q4, q5, q6, q7, q8, q9⟩ := h; have := (q8 _ _ hl).1; rw [hq] at this; exact hX (Option.some.inj this).symm))
  try simp at hg18
  have hpe : l.proc = q := by exact hg18
  refine y8y rfl v8v rfl rfl rfl ?_
  refine y7y rfl rfl ?_
  refine z1z rfl rfl rfl (c2k ..) ?_
  refine y7y rfl rfl ?_
  refine w6w rfl ?_
  refine y5y rfl rfl ?_
  refine ⟨by kernel_rfl, ?_⟩
  refine y0y rfl (fun hc19 => ?_) (fun hc19 => ?_)
  rotate_left
  ·try simp at hc19
   have hlo : b4x l = true := by exact hc19
   refine y1y ?_
   refine hK17 _ _ ?_
   clear hK17 K17
   refine y2y x9x (by rfl) ?_
   refine u1u (b := 1) rfl rfl (by omega) ?_
   refine x1x rfl ?_
   exact ⟨j + 1, ⟨⟨by omega, a2t b2 hl ⟨by rw [hq, hpe], hlo⟩⟩, by omega⟩, [0, 0, _], (x4x 63 rfl Cov.nil), (x4x 1 rfl (x4x 5 rfl (x4x 61 rfl (x4x 62 rfl Cov.nil)))), (HE.kill rfl HE.nil), (x5x 0 rfl (x5x 1 rfl (x5x 3 rfl HE.nil))), rfl⟩
  try simp at hc19
  try have hX : ¬ b4x l = true := by simpa using hc19
  refine x6x x9x (by rfl) ?_
  refine x2x rfl ?_
  refine y3y ⟨.inr rfl, ?_⟩
  clear hK17 K17 hK14 K14
  refine z2z rfl ?_ rfl
  exact congrArg (fun b : Bool => [AV.pv (.bool b)]) (a5l (fun h => by obtain ⟨q1, q2, q3, q4, q5, q6, q7, q8, q9⟩ := h; exact hX (q8 _ _ hl).2))
 try simp at hc16
 have hN : d3o n := a5m b2 (by omega)
 refine v0v ?_
 refine hK14 _ _ ?_
 clear hK15 K15 hK14 K14
 refine x7x fun K21 hK21 => ?_
 refine x6x x9x (by rfl) ?_
 refine x0x rfl z6z rfl rfl p1p rfl rfl ?_
 refine x3x rfl p1p rfl rfl ?_
 refine u3u rfl p1p rfl ?_
 refine x1x rfl ?_
 refine y6y ?_
 refine w4w 82 rfl fun hlen2 => ?_
 refine u5u (ι := Nat) (fun k γ3 => [(84, .pv (.int .i64 (k : Int)))]) (fun k γ3 => [(3, ((γ3 3), .dead))]) (fun k => k ≤ n.views.length ∧ c8f n.views (fun j v => ∀ k, n.known[j]? = some k → c8n v ∧ 0 ≤ k ∧ k ≤ 41) k) (fun k => n.views.length - k) (x4x 1 rfl (x4x 82 rfl (x4x 83 rfl Cov.nil))) (x5x 0 rfl (x5x 1 rfl (x5x 2 rfl HE.nil))) 0 ⟨by omega, a3x⟩ [0, 0, 0, _] (x4x 84 rfl Cov.nil) (HE.kill rfl HE.nil) rfl fun k γ3 hi => ?_
 try dsimp only [List.cons_append, List.nil_append]
 obtain ⟨c1, c2⟩ := hi
 refine x6x x9x (by rfl) ?_
 refine y4y rfl rfl rfl ?_
 refine x7x fun K22 hK22 => ?_
 refine y0y rfl (fun hc23 => ?_) (fun hc23 => ?_)
 rotate_left
 ·try simp at hc23
  have hV : d3n n := fun i v k0 a b => a5m c2 (by omega) i v a k0 b
  refine v0v ?_
  refine hK21 _ _ ?_
  clear hK22 K22 hK21 K21
  refine x6x x9x (by rfl) ?_
  refine x2x rfl ?_
  refine y3y ⟨.inr rfl, ?_⟩
  refine z2z rfl ?_ rfl
  exact congrArg (fun b : Bool => [AV.pv (.bool b)]) (d6l ⟨hA1, hA2, hA3, hO, hL.1, hL.2.1, hL.2.2, hN, hV⟩)
 try simp at hc23
 obtain ⟨v, hv⟩ : ∃ v, n.views[k]? = some v := w5w (by omega)
 obtain ⟨k0, hk⟩ : ∃ k0, n.known[k]? = some k0 := w5w (by omega)
 refine y1y ?_
 refine hK22 _ _ ?_
 clear hK22 K22
 refine x7x fun K24 hK24 => ?_
 refine y6y ?_
 refine x6x x9x (by rfl) ?_
 refine x1x rfl ?_
 refine u0u rfl rfl p1p rfl v6v rfl (by assumption) ?_
 refine z5z rfl v6v rfl rfl ?_
 refine v3v (id := 3) v6v a3s rfl ?_
 refine x2x rfl ?_
 refine u2u rfl rfl v6v rfl rfl rfl rfl ?_
 refine a8q (ι := Unit) (fun _i γ4 => [(10, .pv (.bool (kb (c8n v))))]) (fun _i γ4 => []) (fun _i => True) (x4x 1 rfl (x4x 8 rfl (x4x 82 rfl (x4x 83 rfl (x4x 84 rfl Cov.nil))))) (x5x 0 rfl (x5x 1 rfl (x5x 2 rfl (x5x 3 rfl HE.nil)))) ?_ fun _i γ4 hi => ?_
 ·refine y2y x9x (by rfl) ?_
  refine x0x rfl v6v rfl rfl y9y rfl rfl ?_
  refine x3x rfl y9y rfl rfl ?_
  refine z1z rfl rfl rfl (w9w ..) ?_
  refine x1x rfl ?_
  refine a0b rfl rfl (fun hg25 => ?_) (fun hg25 => ?_)
  rotate_left
  ·try simp at hg25
   refine x8x rfl rfl ?_
   refine x8x rfl rfl ?_
   refine y5y rfl rfl ?_
   refine x1x rfl ?_
   refine x8x rfl rfl ?_
   refine x8x rfl rfl ?_
   refine x8x rfl rfl ?_
   refine y5y rfl rfl ?_
   refine x2x rfl ?_
   exact ⟨(), trivial, [], (Cov.cons' (t := 10) rfl (by exact congrArg (fun b : Bool => AV.pv (.bool b)) (a5l (fun h => by obtain ⟨q1, q2, q3⟩ := h; omega))) Cov.nil), (x4x 1 rfl (x4x 8 rfl (x4x 82 rfl (x4x 83 rfl (x4x 84 rfl Cov.nil))))), HE.nil, (x5x 0 rfl (x5x 1 rfl (x5x 2 rfl (x5x 3 rfl HE.nil)))), rfl⟩
  try simp at hg25
  refine x0x rfl v6v rfl rfl y9y rfl rfl ?_
  refine y7y rfl rfl ?_
  refine x3x rfl y9y rfl rfl ?_
  refine y7y rfl rfl ?_
  refine z1z rfl rfl rfl (w9w ..) ?_
  refine z0z rfl rfl ?_
  refine x1x rfl ?_
  refine a0b rfl rfl (fun hg26 => ?_) (fun hg26 => ?_)
  rotate_left
  ·try simp at hg26
   refine x8x rfl rfl ?_
   refine x8x rfl rfl ?_
   refine y5y rfl rfl ?_
   refine x2x rfl ?_
   exact ⟨(), trivial, [], (Cov.cons' (t := 10) rfl (by exact congrArg (fun b : Bool => AV.pv (.bool b)) (a5l (fun h => by obtain ⟨q1, q2, q3⟩ := h; omega))) Cov.nil), (x4x 1 rfl (x4x 8 rfl (x4x 82 rfl (x4x 83 rfl (x4x 84 rfl Cov.nil))))), HE.nil, (x5x 0 rfl (x5x 1 rfl (x5x 2 rfl (x5x 3 rfl HE.nil)))), rfl⟩
  try simp at hg26
  refine x0x rfl v6v rfl rfl u4u rfl rfl ?_
  refine y7y rfl rfl ?_
  refine x3x rfl u4u rfl rfl ?_
  refine y7y rfl rfl ?_
  refine z1z rfl rfl rfl (a4c ..) ?_
  refine z0z rfl rfl ?_
  refine x2x rfl ?_
  exact ⟨(), trivial, [], (Cov.cons' (t := 10) rfl (by exact congrArg (fun b : Bool => AV.pv (.bool b)) (d6m ⟨fun h => ⟨by omega, by omega, h⟩, fun h => h.2.2⟩)) Cov.nil), (x4x 1 rfl (x4x 8 rfl (x4x 82 rfl (x4x 83 rfl (x4x 84 rfl Cov.nil))))), HE.nil, (x5x 0 rfl (x5x 1 rfl (x5x 2 rfl (x5x 3 rfl HE.nil)))), rfl⟩
 ·try dsimp only [List.cons_append, List.nil_append]
  refine x6x x9x (by rfl) ?_
  refine x1x rfl ?_
  refine w6w rfl ?_
  refine x1x rfl ?_
  refine a0b rfl rfl (fun hg27 => ?_) (fun hg27 => ?_)
  rotate_left
  ·try simp at hg27
   have hX : ¬ c8n v := a5g (by simpa using hg27)
   refine x8x rfl rfl ?_
   refine x8x rfl rfl ?_
   refine x8x rfl rfl ?_
   refine x8x rfl rfl ?_
   refine x8x rfl rfl ?_
   refine x8x rfl rfl ?_
   refine z0z rfl rfl ?_
   refine y0y rfl (fun hc29 => ?_) (fun hc29 => ?_)
   rotate_left
   ·simp at hc29
   try simp at hc29
   refine x6x x9x (by rfl) ?_
   refine x2x rfl ?_
   refine y3y ⟨.inr rfl, ?_⟩
   clear hK24 K24 hK21 K21
   refine z2z rfl ?_ rfl
   exact congrArg (fun b : Bool => [AV.pv (.bool b)]) (a5l (fun h => by obtain ⟨q1, q2, q3, q4, q5, q6, q7, q8, q9⟩ := h; exact hX (q9 _ _ _ hv hk).1))
  try simp at hg27
  have hvo : c8n v := b1e.1 (by simpa using hg27)
  refine x0x rfl z6z rfl rfl p4p rfl rfl ?_
  refine y7y rfl rfl ?_
  refine x3x rfl p4p rfl rfl ?_
  refine y7y rfl rfl ?_
  refine x1x rfl ?_
  refine y7y rfl rfl ?_
  refine u0u rfl rfl p4p rfl y9y rfl (by assumption) ?_
  refine y7y rfl rfl ?_
  refine z7z rfl y9y rfl ?_
  refine y7y rfl rfl ?_
  refine z1z rfl rfl rfl (w9w ..) ?_
  refine y7y rfl rfl ?_
  refine w6w rfl ?_
  refine y5y rfl rfl ?_
  refine y0y rfl (fun hc28 => ?_) (fun hc28 => ?_)
  rotate_left
  ·try simp at hc28
   refine y1y ?_
   refine hK24 _ _ ?_
   clear hK24 K24
   refine y2y x9x (by rfl) ?_
   refine u1u (b := 1) rfl rfl (by omega) ?_
   refine x1x rfl ?_
   exact ⟨k + 1, ⟨⟨by omega, a2t c2 hv (fun k2 hk2 => by rw [hk] at hk2; cases hk2; exact ⟨hvo, by omega⟩)⟩, by omega⟩, [0, 0, 0, _], (x4x 84 rfl Cov.nil), (x4x 1 rfl (x4x 82 rfl (x4x 83 rfl Cov.nil))), (HE.kill rfl HE.nil), (x5x 0 rfl (x5x 1 rfl (x5x 2 rfl HE.nil))), rfl⟩
  try simp at hc28
  refine x6x x9x (by rfl) ?_
  refine x2x rfl ?_
  refine y3y ⟨.inr rfl, ?_⟩
  clear hK24 K24 hK21 K21
  refine z2z rfl ?_ rfl
  exact congrArg (fun b : Bool => [AV.pv (.bool b)]) (a5l (fun h => by obtain ⟨q1, q2, q3, q4, q5, q6, q7, q8, q9⟩ := h; have := (q9 _ _ _ hv hk).2; omega))
end
section
def a7n (l : List Ev) : List (Value × AV) := (r9r l).map fun k => (b8q (evN k), pI (l.count k : Nat))
def a3c (l : List Ev) (e : Ev) : Nat := (a4w (r9r l) e).getD (r9r l).length
def b2i (l : List Ev) (e : Ev) : List (Value × AV) := if e ∈ l then a7n l else a7n l ++ [(b8q (evN e), pI (l.count e : Nat))]
theorem a1o (l : List Ev) : (a7n l).map (·.1) = (r9r l).map fun k => b8q (evN k) := by
 rw [a7n, List.map_map]; rfl
theorem c7e {l : List Ev} {e : Ev} {j : Nat} (h : a4w (r9r l) e = some j) : (a7n l)[j]? = some (b8q (evN e), pI (l.count e : Nat)) := by
 rw [a7n, List.getElem?_map, b1w h]; rfl
theorem c2m {l : List Ev} {e : Ev} (h : a4w (r9r l) e = none) : e ∉ l ∧ l.count e = 0 := by
 have := a9v.1 h
 rw [a1l] at this
 exact ⟨this, List.count_eq_zero.2 this⟩
theorem b5c {tt : TT} {et : TypeId} {S : TS} (hs : tt et = some S) (hz : b4r S = pI 0) (l : List Ev) (e : Ev) : (∃ j kv, a4w (r9r l) e = some j ∧ (a7n l)[j]? = some (kv, pI (l.count e : Nat))) ∨ (a4w (r9r l) e = none ∧ ∃ S, tt et = some S ∧ pI (l.count e : Nat) = b4r S) := by
 cases h : a4w (r9r l) e with
 | some j => exact .inl ⟨j, _, rfl, c7e h⟩
 | none => exact .inr ⟨rfl, S, hs, by rw [hz, (c2m h).2]; rfl⟩
theorem a3l {tt : TT} {et : TypeId} {S : TS} (hs : tt et = some S) (hz : b4r S = pI 0) (l : List Ev) (e : Ev) :
  (a4w (r9r l) e = some (a3c l e) ∧ (a7n l)[a3c l e]? = some (b8q (evN e), pI (l.count e : Nat)) ∧ b2i l e = a7n l) ∨
   (a4w (r9r l) e = none ∧ a3c l e = (a7n l).length ∧ b2i l e = a7n l ++ [(b8q (evN e), pI (l.count e : Nat))] ∧ ∃ S, tt et = some S ∧ pI (l.count e : Nat) = b4r S) := by
 cases h : a4w (r9r l) e with
 | some j =>
  have hm : e ∈ l := by
   rw [← a1l]; exact List.mem_of_getElem? (b1w h)
  have hp : a3c l e = j := by rw [a3c, h]; rfl
  exact .inl ⟨by rw [hp], by rw [hp]; exact c7e h, if_pos hm⟩
 | none =>
  have hn := c2m h
  exact .inr ⟨rfl, by rw [a3c, h, a7n, List.length_map]; rfl, if_neg hn.1, S, hs, by rw [hz, hn.2]; rfl⟩
theorem a1p (l : List Ev) (e : Ev) : (b2i l e)[a3c l e]? = some (b8q (evN e), pI (l.count e : Nat)) := by
 rcases a3l (tt := fun _ => some ⟨.oth, 1, 8, [.int .i64 0]⟩) (et := 0) rfl rfl l e with ⟨h1, h2, h3⟩ | ⟨h1, h2, h3, _⟩
 ·rw [h3]; exact h2
 ·rw [h3, h2, List.getElem?_append_right (Nat.le_refl _), Nat.sub_self]; rfl
def d4c (l : List Ev) (e : Ev) : List Ev := if e ∈ l then r9r l else r9r l ++ [e]
theorem b0u (l : List Ev) (e : Ev) : (b2i l e).map (·.1) = (d4c l e).map fun k => b8q (evN k) := by
 unfold b2i d4c
 split
 ·exact a1o l
 ·rw [List.map_append, List.map_append, a1o]; rfl
theorem c4l {κ : Type} [DecidableEq κ] {k : κ} : ∀ {ks : List κ}, a4w ks k = none → a4w (ks ++ [k]) k = some ks.length
 | [], _ => by simp [a4w]
 | a :: r, h => by
  simp only [a4w] at h
  split at h
  ·cases h
  ·rename_i hne
   simp only [List.cons_append, a4w, if_neg hne, List.length_cons]
   rw [c4l (by simpa using h)]; rfl
theorem b0v {tt : TT} {et : TypeId} (l : List Ev) (e : Ev) : (∃ j kv, a4w (d4c l e) e = some j ∧ (b2i l e)[j]? = some (kv, pI (l.count e : Nat))) ∨ (a4w (d4c l e) e = none ∧ ∃ S, tt et = some S ∧ pI (l.count e : Nat) = b4r S) := by
 refine .inl ⟨a3c l e, _, ?_, a1p l e⟩
 unfold d4c
 cases h : a4w (r9r l) e with
 | some j =>
  have hm : e ∈ l := by rw [← a1l]; exact List.mem_of_getElem? (b1w h)
  rw [if_pos hm, a3c, h]; rfl
 | none => rw [if_neg (c2m h).1, c4l h, a3c, h]; rfl
theorem a2e (l : List Ev) (e : Ev) : (b2i l e).set (a3c l e) (b8q (evN e), pI ((l.count e + 1 : Nat) : Int)) = a7n (l ++ [e]) := by
 have hc : ∀ k, k ≠ e → (l ++ [e]).count k = l.count k := fun k hk => by
  rw [List.count_append, List.count_singleton]
  simp [Ne.symm hk]
 have hce : (l ++ [e]).count e = l.count e + 1 := by
  rw [List.count_append, List.count_singleton]; simp
 by_cases hm : e ∈ l
 ·have ho : r9r (l ++ [e]) = r9r l := by rw [a8s, if_pos ((a1l e l).2 hm)]
  obtain ⟨j, hj⟩ := c3d ((a1l e l).2 hm)
  have hp : a3c l e = j := by rw [a3c, hj]; rfl
  have hg := b1w hj
  rw [b2i, if_pos hm, hp, a7n, a7n, ho]
  apply List.ext_getElem?
  intro i
  rw [List.getElem?_set, List.getElem?_map, List.length_map]
  by_cases hi : j = i
  ·subst hi
   rw [if_pos rfl, if_pos (List.getElem?_eq_some_iff.1 hg).1, List.getElem?_map, hg]
   simp only [Option.map_some, hce]
  ·rw [if_neg hi, List.getElem?_map]
   cases hk : (r9r l)[i]? with
   | none => rfl
   | some k =>
    have hne : k ≠ e := fun h => by
     subst h
     exact hi ((List.getElem?_inj (List.getElem?_eq_some_iff.1 hg).1 (b5l l)).1 (hg.trans hk.symm))
    simp only [Option.map_some, hc k hne]
 ·have h0 : a4w (r9r l) e = none := a9v.2 (by rw [a1l]; exact hm)
  have ho : r9r (l ++ [e]) = r9r l ++ [e] := by rw [a8s, if_neg (by rw [a1l]; exact hm)]
  have hp : a3c l e = (a7n l).length := by rw [a3c, h0, a7n, List.length_map]; rfl
  rw [b2i, if_neg hm, hp, List.set_append_right _ _ (Nat.le_refl _), Nat.sub_self, List.set_cons_zero, a7n, a7n, ho, List.map_append]
  congr 1
  ·refine List.map_congr_left fun k hk => ?_
   rw [hc k (fun h => hm ((a1l e l).1 (h ▸ hk)))]
  ·simp only [List.map_cons, List.map_nil, hce]
theorem c5s {l : List Ev} {e : Ev} : (l ++ [e]).count e = 1 → b0w a2p (r9r (l ++ [e])) = b5p a2p (b0w a2p (r9r l)) e := fun h => by
 have : e ∉ l := by
  rw [List.count_append, List.count_singleton] at h
  exact List.count_eq_zero.1 (by simpa using h)
 rw [a8s, if_neg (by rw [a1l]; exact this), c8d]
theorem c5t {l : List Ev} {e : Ev} : ¬ (l ++ [e]).count e = 1 → r9r (l ++ [e]) = r9r l := fun h => by
 have : e ∈ l := by
  rw [List.count_append, List.count_singleton] at h
  refine Classical.byContradiction fun hn => h ?_
  rw [List.count_eq_zero.2 hn]; simp
 rw [a8s, if_pos (by rw [a1l]; exact this)]
end
section
theorem a4s (l : List Ev) (x : Ev) (hl : l.length ≤ 1000000000) : Meth Tryz.prog 229 2 [0] [.ptr 0 0 0, .agg (v9v x)] [(0, (0, .box 255 [.ref 1 0, .fn (.func 146) [] []])), (1, (0, .row 179 7 ((l).map v9v)))] (.tup []) [(0, (0, .box 255 [.ref 1 0, .fn (.func 146) [] []])), (1, (0, .row 179 7 ((b5p a2p l x).map v9v)))] := by
 refine u7u x9x (fn := Tryz.f229) (by kernel_rfl) (by kernel_rfl) rfl (O0 := []) 2 3 (v7v rfl) (by rfl) (by repeat (first | exact BndH.nil | refine BndH.box rfl ?_ | refine BndH.row (u6u fun _ => rfl) ?_)) (by repeat (first | exact BndH.nil | refine BndH.box rfl ?_ | refine BndH.row (u6u fun _ => rfl) ?_)) (by rfl) fun γ => ?_
 show Ex Tryz.prog _ _ [(0, .ptr 0 (γ 0) 0), (1, .agg (v9v x))] [(0, ((γ 0), .box 255 [.ref 1 (γ 1), .fn (.func 146) [] []])), (1, ((γ 1), .row 179 7 ((l).map v9v))), (4, (0, .dead)), (3, (0, .dead)), (2, (0, .dead))] _
 refine x6x x9x (by rfl) ?_
 refine v4v (id := 2) rfl rfl rfl ?_
 refine q5q x9x r6r (by rfl) ?_
 refine x1x rfl ?_
 refine x1x rfl ?_
 refine w3w rfl rfl ?_
 refine x0x rfl a0w rfl rfl w7w rfl rfl ?_
 refine x3x rfl w7w rfl rfl ?_
 refine y8y rfl p5p rfl rfl rfl ?_
 refine s4s (id := 3) w7w rfl p5p rfl rfl rfl rfl rfl rfl ?_
 refine s5s rfl rfl w7w rfl p5p rfl rfl rfl rfl (by rfl) (by exact a1c _ _ _) (by (simp only [List.length_map, List.length_append, List.length_cons, List.length_nil, T179]; omega)) ?_
 refine w3w rfl rfl ?_
 refine x0x rfl a0w rfl rfl w7w rfl rfl ?_
 refine u8u rfl rfl w7w rfl rfl rfl rfl rfl (by simp only [a0p]; rfl) ?_
 refine ⟨by kernel_rfl, ?_⟩
 refine x6x x9x (by rfl) ?_
 refine x1x rfl ?_
 refine w3w rfl rfl ?_
 refine x0x rfl a0w rfl rfl w7w rfl rfl ?_
 refine x3x rfl w7w rfl rfl ?_
 refine a1v rfl w7w rfl rfl (by exact List.length_map _) ?_
 refine a1w (b := 1) rfl rfl (by (simp; done)) (by (simp; omega)) ?_
 refine x2x rfl ?_
 refine y6y ?_
 refine u5u (ι := Nat × List Ev) (fun i γ1 => [(4, .pv (.int .i64 (i.1 : Int)))]) (fun i γ1 => [(1, ((γ1 1), .row 179 7 ((i.2).map v9v))), (0, ((γ 0), .box 255 [.ref 1 (γ1 1), .fn (.func 146) [] []]))]) (fun i => a7c a2p i.2 i.1 = b5p a2p l x ∧ i.1 < i.2.length ∧ i.2.length = l.length + 1) (fun i => i.1) (x4x 0 rfl Cov.nil) (x5x 2 rfl (x5x 3 rfl (x5x 4 rfl HE.nil))) (l.length, l ++ [x]) ⟨rfl, by simp, by simp⟩ [0, _] (Cov.cons' (t := 4) rfl (by simp) Cov.nil) (HE.row rfl rfl (HE.box rfl rfl HE.nil)) rfl fun i γ1 hi => ?_
 try dsimp only [List.cons_append, List.nil_append]
 obtain ⟨k, m⟩ := i
 obtain ⟨h1, h2, h3⟩ := hi
 dsimp only at h1 h2 h3 ⊢
 refine x7x fun K1 hK1 => ?_
 refine x6x x9x (by rfl) ?_
 refine x1x rfl ?_
 refine y4y rfl rfl rfl ?_
 refine y0y rfl (fun hc2 => ?_) (fun hc2 => ?_)
 rotate_left
 ·try simp at hc2
  have hk : k = 0 := by omega
  subst hk
  have hfin := siftUp_zero.symm.trans h1
  refine v0v ?_
  exact ⟨.inl rfl, [γ 0, _], rfl, rfl, HE.box rfl rfl (HE.row rfl (by rw [← hfin]) HE.nil)⟩
 try simp at hc2
 obtain ⟨a, ha⟩ : ∃ a, m[k]? = some a := w5w (by omega)
 obtain ⟨b, hb⟩ : ∃ b, m[(k - 1) / 2]? = some b := w5w (by omega)
 have hp : (k - 1) / 2 < k := by omega
 refine y1y ?_
 refine hK1 _ _ ?_
 clear hK1 K1
 refine y6y ?_
 refine x6x x9x (by rfl) ?_
 refine x1x rfl ?_
 refine a1w (b := 1) rfl rfl (by omega) (by omega) ?_
 refine d5y (b := 2) rfl rfl (by omega) (by omega) ?_
 refine x2x rfl ?_
 refine x7x fun K3 hK3 => ?_
 refine q5q x9x r6r (by rfl) ?_
 refine x1x rfl ?_
 refine w3w rfl rfl ?_
 refine x0x rfl a0w rfl rfl b6z rfl rfl ?_
 refine x3x rfl b6z rfl rfl ?_
 refine x1x rfl ?_
 refine w3w rfl rfl ?_
 refine x0x rfl a0w rfl rfl w7w rfl rfl ?_
 refine x3x rfl w7w rfl rfl ?_
 refine x1x rfl ?_
 refine q6q (j := k) rfl rfl w7w rfl p5p rfl rfl (by omega) ?_
 refine a0d rfl p5p rfl ha rfl rfl ?_
 refine x1x rfl ?_
 refine w3w rfl rfl ?_
 refine x0x rfl a0w rfl rfl w7w rfl rfl ?_
 refine x3x rfl w7w rfl rfl ?_
 refine x1x rfl ?_
 refine q6q (j := (k - 1) / 2) rfl rfl w7w rfl p5p rfl rfl (by omega) ?_
 refine a0d rfl p5p rfl hb rfl rfl ?_
 refine z1z rfl rfl rfl (a4n _ _) ?_
 refine w6w rfl ?_
 refine ⟨by kernel_rfl, ?_⟩
 refine y0y rfl (fun hc4 => ?_) (fun hc4 => ?_)
 ·try simp at hc4
  have hfin := (b7p ha hb hc4).symm.trans h1
  refine v0v ?_
  exact ⟨.inl rfl, [γ 0, _], rfl, rfl, HE.box rfl rfl (HE.row rfl (by rw [← hfin]) HE.nil)⟩
 try simp at hc4
 have hg := hc4
 refine y1y ?_
 refine hK3 _ _ ?_
 clear hK3 K3
 refine q5q x9x r6r (by rfl) ?_
 refine x1x rfl ?_
 refine w3w rfl rfl ?_
 refine x0x rfl a0w rfl rfl w7w rfl rfl ?_
 refine x3x rfl w7w rfl rfl ?_
 refine x1x rfl ?_
 refine x1x rfl ?_
 refine w3w rfl rfl ?_
 refine x0x rfl a0w rfl rfl w7w rfl rfl ?_
 refine x3x rfl w7w rfl rfl ?_
 refine x1x rfl ?_
 refine x1x rfl ?_
 refine w3w rfl rfl ?_
 refine x0x rfl a0w rfl rfl w7w rfl rfl ?_
 refine x3x rfl w7w rfl rfl ?_
 refine x1x rfl ?_
 refine q6q (j := (k - 1) / 2) rfl rfl w7w rfl p5p rfl rfl (by omega) ?_
 refine a0d rfl p5p rfl hb rfl rfl ?_
 refine x1x rfl ?_
 refine w3w rfl rfl ?_
 refine x0x rfl a0w rfl rfl w7w rfl rfl ?_
 refine x3x rfl w7w rfl rfl ?_
 refine x1x rfl ?_
 refine q6q (j := k) rfl rfl w7w rfl p5p rfl rfl (by omega) ?_
 refine a0d rfl p5p rfl ha rfl rfl ?_
 refine q6q (j := k) rfl rfl w7w rfl p5p rfl rfl (by omega) ?_
 refine a0n (el' := b) rfl rfl p5p rfl rfl rfl ha rfl (a3k _) rfl rfl ?_
 refine q6q (j := (k - 1) / 2) rfl rfl w7w rfl p5p rfl rfl (by rw [List.length_set]; omega) ?_
 refine a0n (el' := a) rfl rfl p5p rfl rfl rfl (by rw [List.getElem?_set_ne (by omega)]; exact hb) rfl (a3k _) rfl rfl ?_
 refine ⟨by kernel_rfl, ?_⟩
 refine y2y x9x (by rfl) ?_
 refine x1x rfl ?_
 refine x2x rfl ?_
 exact ⟨((k - 1) / 2, sw m k ((k - 1) / 2)), ⟨⟨by rw [← h1, b7o (by omega) ha hb hg], by rw [b1d]; dsimp only; omega, by rw [b1d]; exact h3⟩, (by dsimp only; omega)⟩, [0, _], (x4x 4 rfl Cov.nil), (x4x 0 rfl Cov.nil), (HE.row rfl (by rw [d6h ha hb]) (HE.box rfl rfl HE.nil)), (x5x 2 rfl (x5x 3 rfl (x5x 4 rfl HE.nil))), rfl⟩
theorem a5c (m : Ev) (r : List Ev) (hl : r.length ≤ 1000000000) : Meth Tryz.prog 254 2 [0] [.ptr 0 0 0] [(0, (0, .box 255 [.ref 1 0, .fn (.func 146) [] []])), (1, (0, .row 179 7 ((m :: r).map v9v)))] (.agg (v9v m)) [(0, (0, .box 255 [.ref 1 0, .fn (.func 146) [] []])), (1, (0, .row 179 7 ((b2c a2p (m :: r)).map v9v)))] := by
 refine u7u x9x (fn := Tryz.f254) (by kernel_rfl) (by kernel_rfl) rfl (O0 := [.agg (v9v m)]) 2 2 (v7v rfl) (by rfl) (by repeat (first | exact BndH.nil | refine BndH.box rfl ?_ | refine BndH.row (u6u fun _ => rfl) ?_)) (by repeat (first | exact BndH.nil | refine BndH.box rfl ?_ | refine BndH.row (u6u fun _ => rfl) ?_)) (by rfl) fun γ => ?_
 show Ex Tryz.prog _ _ [(0, .ptr 0 (γ 0) 0)] [(0, ((γ 0), .box 255 [.ref 1 (γ 1), .fn (.func 146) [] []])), (1, ((γ 1), .row 179 7 ((m :: r).map v9v))), (3, (0, .dead)), (2, (0, .dead))] _
 obtain ⟨T0, hT⟩ : ∃ T0, T0 = ((m :: r).set 0 ((m :: r).getLast (by simp))).take r.length := ⟨_, rfl⟩
 have hres : b2c a2p (m :: r) = a1x a2p T0 0 := by rw [hT]; rfl
 have hTl : T0.length = r.length := by rw [hT]; simp
 have hlast : (m :: r)[(m :: r).length - 1]? = some ((m :: r).getLast (by simp)) := by rw [← List.getLast?_eq_getElem?, List.getLast?_eq_some_getLast]
 refine x6x x9x (by rfl) ?_
 refine v3v (id := 2) p5p b9v rfl ?_
 refine x6x x9x (by rfl) ?_
 refine x1x rfl ?_
 refine w3w rfl rfl ?_
 refine x0x rfl a0w rfl rfl w7w rfl rfl ?_
 refine x3x rfl w7w rfl rfl ?_
 refine q6q (j := 0) rfl rfl w7w rfl p5p rfl rfl (by simp) ?_
 refine a0d rfl p5p rfl (show (m :: r)[0]? = some m from rfl) rfl rfl ?_
 refine v3v (id := 3) p5p b9v rfl ?_
 refine u2u rfl rfl p5p rfl rfl rfl rfl ?_
 refine x6x x9x (by rfl) ?_
 refine x1x rfl ?_
 refine w3w rfl rfl ?_
 refine x0x rfl a0w rfl rfl w7w rfl rfl ?_
 refine x3x rfl w7w rfl rfl ?_
 refine a1v rfl w7w rfl rfl (by exact List.length_map _) ?_
 refine a1w (b := 1) rfl rfl (by (simp; done)) (by (simp; omega)) ?_
 refine x2x rfl ?_
 refine q5q x9x r6r (by rfl) ?_
 refine x1x rfl ?_
 refine w3w rfl rfl ?_
 refine x0x rfl a0w rfl rfl w7w rfl rfl ?_
 refine x3x rfl w7w rfl rfl ?_
 refine x1x rfl ?_
 refine w3w rfl rfl ?_
 refine x0x rfl a0w rfl rfl w7w rfl rfl ?_
 refine x3x rfl w7w rfl rfl ?_
 refine x1x rfl ?_
 refine q6q (j := (m :: r).length - 1) rfl rfl w7w rfl p5p rfl rfl (by simp) ?_
 refine a0d rfl p5p rfl hlast rfl rfl ?_
 refine q6q (j := 0) rfl rfl w7w rfl p5p rfl rfl (by simp) ?_
 refine a0n (el' := ((m :: r).getLast (by simp))) rfl rfl p5p rfl rfl rfl (show (m :: r)[0]? = some m from rfl) rfl (a3k _) rfl rfl ?_
 refine ⟨by kernel_rfl, ?_⟩
 refine x6x x9x (by rfl) ?_
 refine x1x rfl ?_
 refine x1x rfl ?_
 refine w3w rfl rfl ?_
 refine x0x rfl a0w rfl rfl w7w rfl rfl ?_
 refine x3x rfl w7w rfl rfl ?_
 refine x1x rfl ?_
 refine d2y x9x (u := (m :: r).length - 1) (ys := T0.map v9v) rfl w7w rfl p5p rfl rfl rfl (by (simp; done)) (by rw [hT, List.map_take]; rfl) ?_
 refine w3w rfl rfl ?_
 refine x0x rfl a0w rfl rfl w7w rfl rfl ?_
 refine u8u rfl rfl w7w rfl rfl rfl rfl rfl (by simp only [a0p]; rfl) ?_
 refine x6x x9x (by rfl) ?_
 refine x2x rfl ?_
 refine y6y ?_
 refine u5u (ι := Nat × List Ev) (fun i γ1 => [(5, .pv (.int .i64 (i.1 : Int)))]) (fun i γ1 => [(1, ((γ1 1), .row 179 7 ((i.2).map v9v))), (0, ((γ 0), .box 255 [.ref 1 (γ1 1), .fn (.func 146) [] []]))]) (fun i => a1x a2p i.2 i.1 = b2c a2p (m :: r) ∧ i.2.length = r.length ∧ i.1 ≤ r.length) (fun i => i.2.length - i.1) (x4x 0 rfl (x4x 2 rfl (x4x 3 rfl (x4x 4 rfl Cov.nil)))) (x5x 2 rfl (x5x 3 rfl HE.nil)) (0, T0) ⟨hres.symm, hTl, by omega⟩ [0, _] (x4x 5 rfl Cov.nil) (HE.row rfl rfl (HE.box rfl rfl HE.nil)) rfl fun i γ1 hi => ?_
 try dsimp only [List.cons_append, List.nil_append]
 obtain ⟨k, t⟩ := i
 obtain ⟨h1, h2, h3⟩ := hi
 dsimp only at h1 h2 h3 ⊢
 refine y6y ?_
 refine x6x x9x (by rfl) ?_
 refine x1x rfl ?_
 refine d5x (a := 2) rfl rfl (by omega) ?_
 refine u1u (b := 1) rfl rfl (by omega) ?_
 refine x2x rfl ?_
 refine x7x fun K1 hK1 => ?_
 refine x6x x9x (by rfl) ?_
 refine x1x rfl ?_
 refine x1x rfl ?_
 refine y4y rfl rfl rfl ?_
 refine y0y rfl (fun hc2 => ?_) (fun hc2 => ?_)
 ·try simp at hc2
  have hfin := (a5k (lt := a2p) (l := t) (k := k) (by omega)).symm.trans h1
  refine x6x x9x (by rfl) ?_
  refine y8y rfl p5p rfl rfl rfl ?_
  refine u2u rfl rfl p5p rfl rfl rfl rfl ?_
  refine y3y ?_
  exact ⟨.inr rfl, [γ 0, _], rfl, rfl, HE.box rfl rfl (HE.row rfl (by rw [← hfin]) HE.nil)⟩
 try simp at hc2
 have hlt : 2 * k + 1 < t.length := by omega
 refine y1y ?_
 refine hK1 _ _ ?_
 clear hK1 K1
 refine a8q (ι := Unit) (fun _i γ2 => [(6, .pv (.int .i64 (a3o a2p t k : Int)))]) (fun _i γ2 => []) (fun _i => True) (x4x 0 rfl (x4x 2 rfl (x4x 3 rfl (x4x 4 rfl (x4x 5 rfl Cov.nil))))) (x5x 0 rfl (x5x 1 rfl (x5x 2 rfl (x5x 3 rfl HE.nil)))) ?_ fun _i γ2 hi => ?_
 ·refine q5q x9x r6r (by rfl) ?_
  refine x1x rfl ?_
  refine u1u (b := 1) rfl rfl (by omega) ?_
  refine x1x rfl ?_
  refine y4y rfl rfl rfl ?_
  refine x1x rfl ?_
  refine a0b rfl rfl (fun hg3 => ?_) (fun hg3 => ?_)
  rotate_left
  ·try simp at hg3
   have hlt2 : ¬ 2 * k + 2 < t.length := by omega
   refine x8x rfl rfl ?_
   refine x8x rfl rfl ?_
   refine x8x rfl rfl ?_
   refine x8x rfl rfl ?_
   refine x8x rfl rfl ?_
   refine x8x rfl rfl ?_
   refine x8x rfl rfl ?_
   refine x8x rfl rfl ?_
   refine x8x rfl rfl ?_
   refine x8x rfl rfl ?_
   refine x8x rfl rfl ?_
   refine x8x rfl rfl ?_
   refine x8x rfl rfl ?_
   refine x8x rfl rfl ?_
   refine x8x rfl rfl ?_
   refine x8x rfl rfl ?_
   refine x8x rfl rfl ?_
   refine x8x rfl rfl ?_
   refine x8x rfl rfl ?_
   refine y5y rfl rfl ?_
   refine ⟨by kernel_rfl, ?_⟩
   refine y0y rfl (fun hc5 => ?_) (fun hc5 => ?_)
   ·simp at hc5
   try simp at hc5
   try have hl1 := hc5
   refine y1y ?_
   exact ⟨(), trivial, [], (Cov.cons' (t := 6) rfl (by rw [d6k (by omega)]) Cov.nil), (x4x 0 rfl (x4x 2 rfl (x4x 3 rfl (x4x 4 rfl (x4x 5 rfl Cov.nil))))), HE.nil, (x5x 0 rfl (x5x 1 rfl (x5x 2 rfl (x5x 3 rfl HE.nil)))), rfl⟩
  try simp at hg3
  have hlt2 : 2 * k + 1 + 1 < t.length := by omega
  obtain ⟨c1, hc1⟩ : ∃ c1, t[2 * k + 1 + 1]? = some c1 := w5w (by omega)
  obtain ⟨d1, hd1⟩ : ∃ d1, t[2 * k + 1]? = some d1 := w5w (by omega)
  refine x1x rfl ?_
  refine y7y rfl rfl ?_
  refine w3w rfl rfl ?_
  refine y7y rfl rfl ?_
  refine x0x rfl a0w rfl rfl b6z rfl rfl ?_
  refine y7y rfl rfl ?_
  refine x3x rfl b6z rfl rfl ?_
  refine y7y rfl rfl ?_
  refine x1x rfl ?_
  refine y7y rfl rfl ?_
  refine w3w rfl rfl ?_
  refine y7y rfl rfl ?_
  refine x0x rfl a0w rfl rfl w7w rfl rfl ?_
  refine y7y rfl rfl ?_
  refine x3x rfl w7w rfl rfl ?_
  refine y7y rfl rfl ?_
  refine x1x rfl ?_
  refine y7y rfl rfl ?_
  refine u1u (b := 1) rfl rfl (by omega) ?_
  refine y7y rfl rfl ?_
  refine q6q (j := 2 * k + 1 + 1) rfl rfl w7w rfl p5p rfl rfl (by omega) ?_
  refine y7y rfl rfl ?_
  refine a0d rfl p5p rfl hc1 rfl rfl ?_
  refine y7y rfl rfl ?_
  refine x1x rfl ?_
  refine y7y rfl rfl ?_
  refine w3w rfl rfl ?_
  refine y7y rfl rfl ?_
  refine x0x rfl a0w rfl rfl w7w rfl rfl ?_
  refine y7y rfl rfl ?_
  refine x3x rfl w7w rfl rfl ?_
  refine y7y rfl rfl ?_
  refine x1x rfl ?_
  refine y7y rfl rfl ?_
  refine q6q (j := 2 * k + 1) rfl rfl w7w rfl p5p rfl rfl (by omega) ?_
  refine y7y rfl rfl ?_
  refine a0d rfl p5p rfl hd1 rfl rfl ?_
  refine y7y rfl rfl ?_
  refine z1z rfl rfl rfl (a4n _ _) ?_
  refine z0z rfl rfl ?_
  refine ⟨by kernel_rfl, ?_⟩
  refine y0y rfl (fun hc4 => ?_) (fun hc4 => ?_)
  rotate_left
  ·try simp at hc4
   try have hl1 := hc4
   refine y1y ?_
   exact ⟨(), trivial, [], (Cov.cons' (t := 6) rfl (by rw [d6j hc1 hd1 hl1]) Cov.nil), (x4x 0 rfl (x4x 2 rfl (x4x 3 rfl (x4x 4 rfl (x4x 5 rfl Cov.nil))))), HE.nil, (x5x 0 rfl (x5x 1 rfl (x5x 2 rfl (x5x 3 rfl HE.nil)))), rfl⟩
  try simp at hc4
  have hl1 := hc4
  refine y2y x9x (by rfl) ?_
  refine x1x rfl ?_
  refine u1u (b := 1) rfl rfl (by omega) ?_
  refine x2x rfl ?_
  exact ⟨(), trivial, [], (Cov.cons' (t := 6) rfl (by rw [d6i hc1 hd1 hl1]) Cov.nil), (x4x 0 rfl (x4x 2 rfl (x4x 3 rfl (x4x 4 rfl (x4x 5 rfl Cov.nil))))), HE.nil, (x5x 0 rfl (x5x 1 rfl (x5x 2 rfl (x5x 3 rfl HE.nil)))), rfl⟩
 ·try dsimp only [List.cons_append, List.nil_append]
  have hch := b0r (lt := a2p) t k
  obtain ⟨a, ha⟩ : ∃ a, t[a3o a2p t k]? = some a := w5w (by omega)
  obtain ⟨b, hb⟩ : ∃ b, t[k]? = some b := w5w (by omega)
  refine x7x fun K6 hK6 => ?_
  refine q5q x9x r6r (by rfl) ?_
  refine x1x rfl ?_
  refine w3w rfl rfl ?_
  refine x0x rfl a0w rfl rfl b6z rfl rfl ?_
  refine x3x rfl b6z rfl rfl ?_
  refine x1x rfl ?_
  refine w3w rfl rfl ?_
  refine x0x rfl a0w rfl rfl w7w rfl rfl ?_
  refine x3x rfl w7w rfl rfl ?_
  refine x1x rfl ?_
  refine q6q (j := a3o a2p t k) rfl rfl w7w rfl p5p rfl rfl (by omega) ?_
  refine a0d rfl p5p rfl ha rfl rfl ?_
  refine x1x rfl ?_
  refine w3w rfl rfl ?_
  refine x0x rfl a0w rfl rfl w7w rfl rfl ?_
  refine x3x rfl w7w rfl rfl ?_
  refine x1x rfl ?_
  refine q6q (j := k) rfl rfl w7w rfl p5p rfl rfl (by omega) ?_
  refine a0d rfl p5p rfl hb rfl rfl ?_
  refine z1z rfl rfl rfl (a4n _ _) ?_
  refine w6w rfl ?_
  refine ⟨by kernel_rfl, ?_⟩
  refine y0y rfl (fun hc7 => ?_) (fun hc7 => ?_)
  ·try simp at hc7
   have hfin := (b3m ha hb hc7).symm.trans h1
   refine x6x x9x (by rfl) ?_
   refine y8y rfl p5p rfl rfl rfl ?_
   refine u2u rfl rfl p5p rfl rfl rfl rfl ?_
   refine y3y ?_
   exact ⟨.inr rfl, [γ 0, _], rfl, rfl, HE.box rfl rfl (HE.row rfl (by rw [← hfin]) HE.nil)⟩
  try simp at hc7
  have hg := hc7
  refine y1y ?_
  refine hK6 _ _ ?_
  clear hK6 K6
  refine q5q x9x r6r (by rfl) ?_
  refine x1x rfl ?_
  refine w3w rfl rfl ?_
  refine x0x rfl a0w rfl rfl w7w rfl rfl ?_
  refine x3x rfl w7w rfl rfl ?_
  refine x1x rfl ?_
  refine x1x rfl ?_
  refine w3w rfl rfl ?_
  refine x0x rfl a0w rfl rfl w7w rfl rfl ?_
  refine x3x rfl w7w rfl rfl ?_
  refine x1x rfl ?_
  refine x1x rfl ?_
  refine w3w rfl rfl ?_
  refine x0x rfl a0w rfl rfl w7w rfl rfl ?_
  refine x3x rfl w7w rfl rfl ?_
  refine x1x rfl ?_
  refine q6q (j := a3o a2p t k) rfl rfl w7w rfl p5p rfl rfl (by omega) ?_
  refine a0d rfl p5p rfl ha rfl rfl ?_
  refine x1x rfl ?_
  refine w3w rfl rfl ?_
  refine x0x rfl a0w rfl rfl w7w rfl rfl ?_
  refine x3x rfl w7w rfl rfl ?_
  refine x1x rfl ?_
  refine q6q (j := k) rfl rfl w7w rfl p5p rfl rfl (by omega) ?_
  refine a0d rfl p5p rfl hb rfl rfl ?_
  refine q6q (j := k) rfl rfl w7w rfl p5p rfl rfl (by omega) ?_
  refine a0n (el' := a) rfl rfl p5p rfl rfl rfl hb rfl (a3k _) rfl rfl ?_
  refine q6q (j := a3o a2p t k) rfl rfl w7w rfl p5p rfl rfl (by rw [List.length_set]; omega) ?_
  refine a0n (el' := b) rfl rfl p5p rfl rfl rfl (by rw [List.getElem?_set_ne (by omega)]; exact ha) rfl (a3k _) rfl rfl ?_
  refine ⟨by kernel_rfl, ?_⟩
  refine y2y x9x (by rfl) ?_
  refine x1x rfl ?_
  refine x2x rfl ?_
  exact ⟨(a3o a2p t k, sw t (a3o a2p t k) k), ⟨⟨by rw [← h1, b3l (by omega) ha hb hg], by rw [b1d]; exact h2, by dsimp only; omega⟩, (by dsimp only; rw [b1d]; omega)⟩, [0, _], (x4x 5 rfl Cov.nil), (x4x 0 rfl (x4x 2 rfl (x4x 3 rfl (x4x 4 rfl Cov.nil)))), (HE.row rfl (by rw [d6h ha hb, List.set_comm _ _ (by omega)]) (HE.box rfl rfl HE.nil)), (x5x 2 rfl (x5x 3 rfl HE.nil)), rfl⟩
theorem a4j (l : List Ev) (hl : l.length ≤ 1000000000) : Meth Tryz.prog 230 2 [0] [.ptr 0 0 0] [(0, (0, .box 255 [.ref 1 0, .fn (.func 146) [] []])), (1, (0, .row 179 7 ((l).map v9v)))] (.row (.rd true) 179 7 ((a6m a2p l.length l).map v9v)) [(0, (0, .box 255 [.ref 1 0, .fn (.func 146) [] []])), (1, (0, .row 179 7 ((([] : List Ev)).map v9v)))] := by
 refine u7u x9x (fn := Tryz.f230) (by kernel_rfl) (by kernel_rfl) rfl (O0 := [.row (.rd true) 179 7 ((a6m a2p l.length l).map v9v)]) 2 3 (v7v rfl) (by rfl) (by repeat (first | exact BndH.nil | refine BndH.box rfl ?_ | refine BndH.row (u6u fun _ => rfl) ?_)) (by repeat (first | exact BndH.nil | refine BndH.box rfl ?_ | refine BndH.row (u6u fun _ => rfl) ?_)) (by rfl) fun γ => ?_
 show Ex Tryz.prog _ _ [(0, .ptr 0 (γ 0) 0)] [(0, ((γ 0), .box 255 [.ref 1 (γ 1), .fn (.func 146) [] []])), (1, ((γ 1), .row 179 7 ((l).map v9v))), (4, (0, .dead)), (3, (0, .dead)), (2, (0, .dead))] _
 refine x6x x9x (by rfl) ?_
 refine x2x rfl ?_
 refine x6x x9x (by rfl) ?_
 refine x1x rfl ?_
 refine w3w rfl rfl ?_
 refine x0x rfl a0w rfl rfl w7w rfl rfl ?_
 refine x3x rfl w7w rfl rfl ?_
 refine a1v rfl w7w rfl rfl (by exact List.length_map _) ?_
 refine c6k x9x (id := 2) w7w rfl p5p rfl rfl (by (simp only [List.length_map, List.length_append, List.length_cons, List.length_nil, T179]; omega)) (by (unfold maxLen; omega)) rfl ?_
 refine x2x rfl ?_
 refine x7x fun K1 hK1 => ?_
 refine y6y ?_
 refine u5u (ι := List Ev × List Ev) (fun i γ1 => [(3, .ref 2 (γ1 2))]) (fun i γ1 => [(1, ((γ1 1), .row 179 7 ((i.1).map v9v))), (2, ((γ1 2), .row 179 7 ((i.2).map v9v))), (0, ((γ 0), .box 255 [.ref 1 (γ1 1), .fn (.func 146) [] []])), (3, ((γ1 3), .dead)), (4, ((γ1 4), .dead))]) (fun i => i.2 ++ a6m a2p i.1.length i.1 = a6m a2p l.length l ∧ i.1.length + i.2.length = l.length) (fun i => i.1.length) (x4x 0 rfl Cov.nil) HE.nil (l, []) ⟨rfl, rfl⟩ [0, _, _, _, _] (x4x 3 rfl Cov.nil) (HE.row rfl rfl (HE.row rfl rfl (HE.box rfl rfl (HE.kill rfl (HE.kill rfl HE.nil))))) rfl fun i γ1 hi => ?_
 try dsimp only [List.cons_append, List.nil_append]
 obtain ⟨ls, o⟩ := i
 obtain ⟨h1, h2⟩ := hi
 dsimp only at h1 h2 ⊢
 refine x7x fun K2 hK2 => ?_
 refine x6x x9x (by rfl) ?_
 refine x1x rfl ?_
 refine w3w rfl rfl ?_
 refine x0x rfl a0w rfl rfl w7w rfl rfl ?_
 refine x3x rfl w7w rfl rfl ?_
 refine a1v rfl w7w rfl rfl (by exact List.length_map _) ?_
 refine y4y rfl rfl rfl ?_
 refine y0y rfl (fun hc3 => ?_) (fun hc3 => ?_)
 rotate_left
 ·try simp at hc3
  obtain rfl : ls = [] := by exact hc3
  have ho : o = a6m a2p l.length l := by rw [← h1]; simp [a6m]
  subst ho
  refine v0v ?_
  refine hK1 _ _ ?_
  clear hK2 K2 hK1 K1
  refine a3v 3 rfl rfl (fun _ => rfl) ?_
  refine x6x x9x (by rfl) ?_
  refine x1x rfl ?_
  refine x2x rfl ?_
  refine y3y ?_
  exact ⟨.inr rfl, [γ 0, _], rfl, rfl, HE.box rfl rfl (HE.row rfl rfl HE.nil)⟩
 try simp at hc3
 obtain ⟨m, r, rfl⟩ : ∃ m r, ls = m :: r := by cases ls with | nil => simp at hc3 | cons m r => exact ⟨m, r, rfl⟩
 simp only [List.length_cons] at h2
 refine y1y ?_
 refine hK2 _ _ ?_
 clear hK2 K2
 refine y6y ?_
 refine y2y x9x (by rfl) ?_
 refine x1x rfl ?_
 refine x1x rfl ?_
 refine v2v [0, 1] [_, _] (a5c m r (by omega)) rfl rfl rfl (by decide) rfl rfl (by repeat (first | exact InH.nil | refine InH.cons rfl ?_)) (by (simp only [pI, z8z, z9z, p8p, gl, nx, p6p, Nat.beq]; rfl)) (by (simp only [pI, z8z, z9z, p8p, gl, nx, p6p, Nat.beq]; rfl)) ?_
 refine s4s (id := 3) w7w rfl p5p rfl rfl rfl rfl rfl rfl ?_
 refine s5s rfl rfl w7w rfl p5p rfl rfl rfl rfl (by rfl) (by exact a1c _ _ _) (by (simp only [List.length_map, List.length_append, List.length_cons, List.length_nil, T179]; omega)) ?_
 refine x2x rfl ?_
 exact ⟨(b2c a2p (m :: r), o ++ [m]), ⟨⟨by rw [← h1, b3n, List.append_assoc]; rfl, by rw [b3n, List.length_append]; simp only [List.length_cons, List.length_nil] at h2 ⊢; omega⟩, (by dsimp only; rw [b3n]; simp)⟩, [0, _, _, _, _], (x4x 3 rfl Cov.nil), (x4x 0 rfl Cov.nil), (HE.row rfl rfl (HE.row rfl (by simp) (HE.box rfl rfl (HE.kill rfl (HE.kill rfl HE.nil))))), HE.nil, rfl⟩
end
section
theorem a5d (c : Bool) (l : List Ev) (hl : l.length ≤ 1000000000) : Meth Tryz.prog 187 1 [] [r7r c l] [(0, (0, .dead))] (.ref 0 0) [(0, (0, .row 76 7 ((s2s l).map v9v)))] := by
 refine u7u x9x (fn := Tryz.f187) (by kernel_rfl) (by kernel_rfl) rfl (O0 := [.ref 0 0]) 1 8 (v7v rfl) (by rfl) (by repeat (first | exact BndH.nil | refine BndH.dead ?_)) (by repeat (first | exact BndH.nil | refine BndH.row (u6u fun _ => rfl) ?_)) (by rfl) fun γ => ?_
 show Ex Tryz.prog _ _ [(0, r7r c l)] [(0, ((γ 0), .dead)), (8, (0, .dead)), (7, (0, .dead)), (6, (0, .dead)), (5, (0, .dead)), (4, (0, .dead)), (3, (0, .dead)), (2, (0, .dead)), (1, (0, .dead))] _
 refine x6x x9x (by rfl) ?_
 refine x2x rfl ?_
 refine x6x x9x (by rfl) ?_
 refine a0c a0w rfl d4n rfl (by simp only [pI, b6z, d9v, w7w, d9x, a2w, r2r, AV.okc, AV.one, Value.oneCell', List.map_cons, List.map_nil, List.getElem?_cons_zero, List.getElem?_cons_succ, List.take_succ_cons, List.take_zero, List.drop_succ_cons, List.drop_zero, List.cons_append, List.nil_append, List.length_cons, List.length_nil, if_true, and_self, Nat.reduceAdd, Nat.reduceLeDiff]; rfl) ?_
 refine v3v (id := 1) a0w d4n rfl ?_
 refine u2u rfl rfl a0w rfl rfl rfl rfl ?_
 refine x6x x9x (by rfl) ?_
 refine b9y (id := 2) rfl ?_
 refine x2x rfl ?_
 refine x7x fun K1 hK1 => ?_
 refine x6x x9x (by rfl) ?_
 refine x1x rfl ?_
 refine u3u rfl u4u rfl ?_
 refine x1x rfl ?_
 refine y6y ?_
 refine a4g 1 0 7 179 7 rfl rfl rfl rfl rfl ?_
 refine u5u (ι := Nat) (fun i γ1 => [(15, .pv (.int .i64 (i : Int)))]) (fun i γ1 => [(7, ((γ1 7), .row 179 7 ((b0w a2p (r9r (l.take i))).map v9v))), (1, ((0 + 1), .box 255 [.ref 7 (γ1 7), .fn (.func 146) [] []])), (2, ((0 + 1), .map (a7n (l.take i)))), (3, ((γ1 3), .dead)), (4, ((γ1 4), .dead))]) (fun i => i ≤ l.length) (fun i => l.length - i) (x4x 3 rfl (x4x 4 rfl (x4x 13 rfl (x4x 14 rfl Cov.nil)))) (x5x 0 rfl (x5x 5 rfl (x5x 6 rfl (x5x 8 rfl HE.nil)))) 0 (by omega) [0, 0, 0, _, _, 0, 0, _] (x4x 15 rfl Cov.nil) (HE.row rfl (by rw [List.take_zero]; try rfl) (HE.box rfl rfl (HE.map rfl (by rw [List.take_zero]; try rfl) (HE.kill rfl (HE.kill rfl HE.nil))))) rfl fun i γ1 hi => ?_
 try dsimp only [List.cons_append, List.nil_append]
 refine x6x x9x (by rfl) ?_
 refine y4y rfl rfl rfl ?_
 refine x7x fun K2 hK2 => ?_
 refine y0y rfl (fun hc3 => ?_) (fun hc3 => ?_)
 rotate_left
 ·try simp at hc3
  obtain rfl : i = l.length := by omega
  obtain ⟨H, hH⟩ : ∃ H, H = b0w a2p (r9r (l.take l.length)) := ⟨_, rfl⟩
  rw [← hH]
  have hhl : H.length ≤ 1000000000 := by rw [hH, b3o]; exact Nat.le_trans (b4u _) (by rw [List.length_take]; omega)
  refine v0v ?_
  refine hK1 _ _ ?_
  clear hK2 K2 hK1 K1
  refine x6x x9x (by rfl) ?_
  refine x0x rfl a0w rfl rfl w7w rfl rfl ?_
  refine x3x rfl w7w rfl rfl ?_
  refine a1v rfl w7w rfl rfl (by exact List.length_map _) ?_
  refine c6k x9x (id := 0) u4u rfl z3z rfl rfl (by (simp only [List.length_map, List.length_append, List.length_cons, List.length_nil, T76]; omega)) (by (unfold maxLen; omega)) rfl ?_
  refine x2x rfl ?_
  refine x7x fun K6 hK6 => ?_
  refine x6x x9x (by rfl) ?_
  refine v2v [1, 7] [_, _] (a4j _ hhl) rfl rfl rfl (by decide) rfl rfl (by repeat (first | exact InH.nil | refine InH.cons rfl ?_)) (by (simp only [pI, z8z, z9z, p8p, gl, nx, p6p, Nat.beq]; rfl)) (by (simp only [pI, z8z, z9z, p8p, gl, nx, p6p, Nat.beq]; rfl)) ?_
  refine u3u rfl w7w rfl ?_
  refine x1x rfl ?_
  refine y6y ?_
  obtain ⟨D, hD⟩ : ∃ D, D = a6m a2p H.length H := ⟨_, rfl⟩
  rw [← hD]
  have hDl : D.length ≤ 1000000000 := Nat.le_trans (by rw [hD]; exact b7r _ _) hhl
  refine u5u (ι := Nat) (fun i γ3 => [(8, .ref 0 (γ3 0)), (40, .pv (.int .i64 (i : Int)))]) (fun i γ3 => [(0, ((γ3 0), .row 76 7 ((D.take i).map v9v))), (5, ((γ3 5), .dead)), (6, ((γ3 6), .dead)), (7, ((γ3 7), .dead))]) (fun i => i ≤ D.length) (fun i => D.length - i) (x4x 38 rfl (x4x 39 rfl Cov.nil)) (x5x 1 rfl (x5x 2 rfl (x5x 3 rfl (x5x 4 rfl (x5x 8 rfl HE.nil))))) 0 (by omega) [_, 0, 0, 0, 0, _, _, _] (x4x 8 rfl (x4x 40 rfl Cov.nil)) (HE.row rfl (by rw [List.take_zero]; try rfl) (HE.kill rfl (HE.kill rfl (HE.kill rfl HE.nil)))) rfl fun i γ3 hi => ?_
  try dsimp only [List.cons_append, List.nil_append]
  refine x6x x9x (by rfl) ?_
  refine y4y rfl rfl rfl ?_
  refine x7x fun K7 hK7 => ?_
  refine y0y rfl (fun hc8 => ?_) (fun hc8 => ?_)
  rotate_left
  ·try simp at hc8
   refine v0v ?_
   refine hK6 _ _ ?_
   clear hK7 K7 hK6 K6
   refine x6x x9x (by rfl) ?_
   refine x1x rfl ?_
   refine x2x rfl ?_
   refine y3y ?_
   exact ⟨.inr rfl, [_], rfl, rfl, HE.row rfl (by rw [List.take_of_length_le (by omega), hD, hH, List.take_length, b3o, b7t]) HE.nil⟩
  try simp at hc8
  obtain ⟨k1, hk1⟩ : ∃ k1, D[i]? = some k1 := w5w (by omega)
  have hDi : (D.take i).length ≤ 1000000000 := by rw [List.length_take]; omega
  refine y1y ?_
  refine hK7 _ _ ?_
  clear hK7 K7
  refine x7x fun K9 hK9 => ?_
  refine y6y ?_
  refine x6x x9x (by rfl) ?_
  refine u0u rfl rfl w7w rfl p5p rfl (by assumption) ?_
  refine z5z rfl p5p rfl rfl ?_
  refine v3v (id := 5) p5p b9v rfl ?_
  refine u2u rfl rfl p5p rfl rfl rfl rfl ?_
  refine y2y x9x (by rfl) ?_
  refine x1x rfl ?_
  refine y8y rfl p5p rfl rfl rfl ?_
  refine z1z rfl rfl rfl (b0i ..) ?_
  refine s4s (id := 6) u4u rfl z3z rfl rfl rfl rfl rfl rfl ?_
  refine s5s rfl rfl u4u rfl z3z rfl rfl rfl rfl (by rfl) (by exact a1c _ _ _) (by (simp only [List.length_map, List.length_append, List.length_cons, List.length_nil, T76]; omega)) ?_
  refine x2x rfl ?_
  refine hK9 _ _ ?_
  clear hK9 K9
  refine y2y x9x (by rfl) ?_
  refine u1u (b := 1) rfl rfl (by omega) ?_
  refine x1x rfl ?_
  exact ⟨i + 1, ⟨by omega, by omega⟩, [_, 0, 0, 0, 0, _, _, _], (x4x 8 rfl (x4x 40 rfl Cov.nil)), (x4x 38 rfl (x4x 39 rfl Cov.nil)), (HE.row rfl (by rw [p2p hk1]) (HE.kill rfl (HE.kill rfl (HE.kill rfl HE.nil)))), (x5x 1 rfl (x5x 2 rfl (x5x 3 rfl (x5x 4 rfl (x5x 8 rfl HE.nil))))), rfl⟩
 try simp at hc3
 obtain ⟨e, he⟩ : ∃ e, l[i]? = some e := w5w (by omega)
 have hcnt : (l.take i).count e ≤ 1000000000 := Nat.le_trans List.count_le_length (by rw [List.length_take]; omega)
 refine y1y ?_
 refine hK2 _ _ ?_
 clear hK2 K2
 refine x7x fun K4 hK4 => ?_
 refine y6y ?_
 refine x6x x9x (by rfl) ?_
 refine u0u rfl rfl u4u rfl z3z rfl (by assumption) ?_
 refine z5z rfl z3z rfl rfl ?_
 refine v3v (id := 3) z3z b7a rfl ?_
 refine u2u rfl rfl z3z rfl rfl rfl rfl ?_
 refine x6x x9x (by rfl) ?_
 refine y8y rfl z3z rfl rfl rfl ?_
 refine z1z rfl rfl rfl (b0h ..) ?_
 refine v3v (id := 4) p5p b9v rfl ?_
 refine u2u rfl rfl p5p rfl rfl rfl rfl ?_
 refine a8q (ι := Unit) (fun _i γ2 => []) (fun _i γ2 => [(2, ((0 + 1), .map (a7n (l.take i ++ [e]))))]) (fun _i => True) (x4x 3 rfl (x4x 4 rfl (x4x 7 rfl (x4x 13 rfl (x4x 14 rfl (x4x 15 rfl Cov.nil)))))) (x5x 0 rfl (x5x 1 rfl (x5x 3 rfl (x5x 4 rfl (x5x 5 rfl (x5x 6 rfl (x5x 7 rfl (x5x 8 rfl HE.nil)))))))) ?_ fun _i γ2 hi => ?_
 ·refine b8v r6r rfl fun B X0 w0 => ?_
  refine w8w x9x (l := [0, 1]) (by kernel_rfl) (by decide) ?_
  refine .cons rfl rfl rfl ?_ ?_
  ·refine x1x rfl ?_
   refine p7p ?_
   refine w8w x9x (l := [1]) (by kernel_rfl) (by decide) ?_
   refine .cons rfl rfl rfl ?_ ?_
   ·refine y8y rfl p5p rfl rfl rfl ?_
    refine p7p ?_
    refine w8w x9x (l := [2, 4]) (by kernel_rfl) (by decide) ?_
    refine .cons rfl rfl rfl ?_ ?_
    ·refine a2s x9x (ks := r9r (l.take i)) (k := e) Tryz.underlying256 evF rfl rfl (fun _ _ _ h => a4f h) rfl (a1o (l.take i)) (b5c y9y rfl (l.take i) e) ?_
     refine p7p ?_
     refine w8w x9x (l := [3, 4]) (by kernel_rfl) (by decide) ?_
     refine .cons rfl rfl rfl ?_ ?_
     ·refine u1u (b := 1) rfl rfl (by omega) ?_
      refine p7p ?_
      refine w8w x9x (l := [4]) (by kernel_rfl) (by decide) ?_
      refine .cons rfl rfl rfl ?_ ?_
      ·refine a4e x9x (es' := b2i (l.take i) e) (j := a3c (l.take i) e) (out := pI ((l.take i).count e : Nat)) (ks := r9r (l.take i)) (k := e) Tryz.underlying256 evF rfl rfl (fun _ _ _ h => a4f h) rfl (a1o _) (a3l y9y rfl _ _) ?_
       refine p7p ?_
       refine w8w x9x (l := [5]) (by kernel_rfl) (by decide) ?_
       refine .cons rfl rfl rfl ?_ ?_
       ·refine a0e rfl rfl ?_
        refine p7p ?_
        refine w8w x9x (l := [6]) (by kernel_rfl) (by decide) ?_
        refine .cons rfl rfl rfl ?_ ?_
        ·refine s6s (j := a3c (l.take i) e) rfl rfl rfl rfl (a1p _ _) (a2e _ _) ?_
         refine p7p ?_
         refine a2d (by kernel_rfl) ?_
         exact ⟨(), trivial, [], Cov.nil, (x4x 3 rfl (x4x 4 rfl (x4x 7 rfl (x4x 13 rfl (x4x 14 rfl (x4x 15 rfl Cov.nil)))))), (HE.map rfl rfl HE.nil), (x5x 0 rfl (x5x 1 rfl (x5x 3 rfl (x5x 4 rfl (x5x 5 rfl (x5x 6 rfl (x5x 7 rfl (x5x 8 rfl HE.nil)))))))), rfl⟩
        exact .nil
       exact .nil
      exact .nil
     refine .cons rfl rfl rfl ?_ ?_
     ·refine a4e x9x (es' := b2i (l.take i) e) (j := a3c (l.take i) e) (out := pI ((l.take i).count e : Nat)) (ks := r9r (l.take i)) (k := e) Tryz.underlying256 evF rfl rfl (fun _ _ _ h => a4f h) rfl (a1o _) (a3l y9y rfl _ _) ?_
      refine p7p ?_
      refine w8w x9x (l := [3, 5]) (by kernel_rfl) (by decide) ?_
      refine .cons rfl rfl rfl ?_ ?_
      ·refine u1u (b := 1) rfl rfl (by omega) ?_
       refine p7p ?_
       refine w8w x9x (l := [5]) (by kernel_rfl) (by decide) ?_
       refine .cons rfl rfl rfl ?_ ?_
       ·refine a0e rfl rfl ?_
        refine p7p ?_
        refine w8w x9x (l := [6]) (by kernel_rfl) (by decide) ?_
        refine .cons rfl rfl rfl ?_ ?_
        ·refine s6s (j := a3c (l.take i) e) rfl rfl rfl rfl (a1p _ _) (a2e _ _) ?_
         refine p7p ?_
         refine a2d (by kernel_rfl) ?_
         exact ⟨(), trivial, [], Cov.nil, (x4x 3 rfl (x4x 4 rfl (x4x 7 rfl (x4x 13 rfl (x4x 14 rfl (x4x 15 rfl Cov.nil)))))), (HE.map rfl rfl HE.nil), (x5x 0 rfl (x5x 1 rfl (x5x 3 rfl (x5x 4 rfl (x5x 5 rfl (x5x 6 rfl (x5x 7 rfl (x5x 8 rfl HE.nil)))))))), rfl⟩
        exact .nil
       exact .nil
      refine .cons rfl rfl rfl ?_ ?_
      ·refine a0e rfl rfl ?_
       refine p7p ?_
       refine w8w x9x (l := [3]) (by kernel_rfl) (by decide) ?_
       refine .cons rfl rfl rfl ?_ ?_
       ·refine u1u (b := 1) rfl rfl (by omega) ?_
        refine p7p ?_
        refine w8w x9x (l := [6]) (by kernel_rfl) (by decide) ?_
        refine .cons rfl rfl rfl ?_ ?_
        ·refine s6s (j := a3c (l.take i) e) rfl rfl rfl rfl (a1p _ _) (a2e _ _) ?_
         refine p7p ?_
         refine a2d (by kernel_rfl) ?_
         exact ⟨(), trivial, [], Cov.nil, (x4x 3 rfl (x4x 4 rfl (x4x 7 rfl (x4x 13 rfl (x4x 14 rfl (x4x 15 rfl Cov.nil)))))), (HE.map rfl rfl HE.nil), (x5x 0 rfl (x5x 1 rfl (x5x 3 rfl (x5x 4 rfl (x5x 5 rfl (x5x 6 rfl (x5x 7 rfl (x5x 8 rfl HE.nil)))))))), rfl⟩
        exact .nil
       exact .nil
      exact .nil
     exact .nil
    refine .cons rfl rfl rfl ?_ ?_
    ·refine a4e x9x (es' := b2i (l.take i) e) (j := a3c (l.take i) e) (out := pI ((l.take i).count e : Nat)) (ks := r9r (l.take i)) (k := e) Tryz.underlying256 evF rfl rfl (fun _ _ _ h => a4f h) rfl (a1o _) (a3l y9y rfl _ _) ?_
     refine p7p ?_
     refine w8w x9x (l := [2, 5]) (by kernel_rfl) (by decide) ?_
     refine .cons rfl rfl rfl ?_ ?_
     ·refine a2s x9x (ks := d4c (l.take i) e) (k := e) Tryz.underlying256 evF rfl rfl (fun _ _ _ h => a4f h) rfl (b0u (l.take i) e) (b0v (l.take i) e) ?_
      refine p7p ?_
      refine w8w x9x (l := [3, 5]) (by kernel_rfl) (by decide) ?_
      refine .cons rfl rfl rfl ?_ ?_
      ·refine u1u (b := 1) rfl rfl (by omega) ?_
       refine p7p ?_
       refine w8w x9x (l := [5]) (by kernel_rfl) (by decide) ?_
       refine .cons rfl rfl rfl ?_ ?_
       ·refine a0e rfl rfl ?_
        refine p7p ?_
        refine w8w x9x (l := [6]) (by kernel_rfl) (by decide) ?_
        refine .cons rfl rfl rfl ?_ ?_
        ·refine s6s (j := a3c (l.take i) e) rfl rfl rfl rfl (a1p _ _) (a2e _ _) ?_
         refine p7p ?_
         refine a2d (by kernel_rfl) ?_
         exact ⟨(), trivial, [], Cov.nil, (x4x 3 rfl (x4x 4 rfl (x4x 7 rfl (x4x 13 rfl (x4x 14 rfl (x4x 15 rfl Cov.nil)))))), (HE.map rfl rfl HE.nil), (x5x 0 rfl (x5x 1 rfl (x5x 3 rfl (x5x 4 rfl (x5x 5 rfl (x5x 6 rfl (x5x 7 rfl (x5x 8 rfl HE.nil)))))))), rfl⟩
        exact .nil
       exact .nil
      refine .cons rfl rfl rfl ?_ ?_
      ·refine a0e rfl rfl ?_
       refine p7p ?_
       refine w8w x9x (l := [3]) (by kernel_rfl) (by decide) ?_
       refine .cons rfl rfl rfl ?_ ?_
       ·refine u1u (b := 1) rfl rfl (by omega) ?_
        refine p7p ?_
        refine w8w x9x (l := [6]) (by kernel_rfl) (by decide) ?_
        refine .cons rfl rfl rfl ?_ ?_
        ·refine s6s (j := a3c (l.take i) e) rfl rfl rfl rfl (a1p _ _) (a2e _ _) ?_
         refine p7p ?_
         refine a2d (by kernel_rfl) ?_
         exact ⟨(), trivial, [], Cov.nil, (x4x 3 rfl (x4x 4 rfl (x4x 7 rfl (x4x 13 rfl (x4x 14 rfl (x4x 15 rfl Cov.nil)))))), (HE.map rfl rfl HE.nil), (x5x 0 rfl (x5x 1 rfl (x5x 3 rfl (x5x 4 rfl (x5x 5 rfl (x5x 6 rfl (x5x 7 rfl (x5x 8 rfl HE.nil)))))))), rfl⟩
        exact .nil
       exact .nil
      exact .nil
     refine .cons rfl rfl rfl ?_ ?_
     ·refine a0e rfl rfl ?_
      refine p7p ?_
      refine w8w x9x (l := [2]) (by kernel_rfl) (by decide) ?_
      refine .cons rfl rfl rfl ?_ ?_
      ·refine a2s x9x (ks := d4c (l.take i) e) (k := e) Tryz.underlying256 evF rfl rfl (fun _ _ _ h => a4f h) rfl (b0u (l.take i) e) (b0v (l.take i) e) ?_
       refine p7p ?_
       refine w8w x9x (l := [3]) (by kernel_rfl) (by decide) ?_
       refine .cons rfl rfl rfl ?_ ?_
       ·refine u1u (b := 1) rfl rfl (by omega) ?_
        refine p7p ?_
        refine w8w x9x (l := [6]) (by kernel_rfl) (by decide) ?_
        refine .cons rfl rfl rfl ?_ ?_
        ·refine s6s (j := a3c (l.take i) e) rfl rfl rfl rfl (a1p _ _) (a2e _ _) ?_
         refine p7p ?_
         refine a2d (by kernel_rfl) ?_
         exact ⟨(), trivial, [], Cov.nil, (x4x 3 rfl (x4x 4 rfl (x4x 7 rfl (x4x 13 rfl (x4x 14 rfl (x4x 15 rfl Cov.nil)))))), (HE.map rfl rfl HE.nil), (x5x 0 rfl (x5x 1 rfl (x5x 3 rfl (x5x 4 rfl (x5x 5 rfl (x5x 6 rfl (x5x 7 rfl (x5x 8 rfl HE.nil)))))))), rfl⟩
        exact .nil
       exact .nil
      exact .nil
     exact .nil
    exact .nil
   exact .nil
  refine .cons rfl rfl rfl ?_ ?_
  ·refine y8y rfl p5p rfl rfl rfl ?_
   refine p7p ?_
   refine w8w x9x (l := [0]) (by kernel_rfl) (by decide) ?_
   refine .cons rfl rfl rfl ?_ ?_
   ·refine x1x rfl ?_
    refine p7p ?_
    refine w8w x9x (l := [2, 4]) (by kernel_rfl) (by decide) ?_
    refine .cons rfl rfl rfl ?_ ?_
    ·refine a2s x9x (ks := r9r (l.take i)) (k := e) Tryz.underlying256 evF rfl rfl (fun _ _ _ h => a4f h) rfl (a1o (l.take i)) (b5c y9y rfl (l.take i) e) ?_
     refine p7p ?_
     refine w8w x9x (l := [3, 4]) (by kernel_rfl) (by decide) ?_
     refine .cons rfl rfl rfl ?_ ?_
     ·refine u1u (b := 1) rfl rfl (by omega) ?_
      refine p7p ?_
      refine w8w x9x (l := [4]) (by kernel_rfl) (by decide) ?_
      refine .cons rfl rfl rfl ?_ ?_
      ·refine a4e x9x (es' := b2i (l.take i) e) (j := a3c (l.take i) e) (out := pI ((l.take i).count e : Nat)) (ks := r9r (l.take i)) (k := e) Tryz.underlying256 evF rfl rfl (fun _ _ _ h => a4f h) rfl (a1o _) (a3l y9y rfl _ _) ?_
       refine p7p ?_
       refine w8w x9x (l := [5]) (by kernel_rfl) (by decide) ?_
       refine .cons rfl rfl rfl ?_ ?_
       ·refine a0e rfl rfl ?_
        refine p7p ?_
        refine w8w x9x (l := [6]) (by kernel_rfl) (by decide) ?_
        refine .cons rfl rfl rfl ?_ ?_
        ·refine s6s (j := a3c (l.take i) e) rfl rfl rfl rfl (a1p _ _) (a2e _ _) ?_
         refine p7p ?_
         refine a2d (by kernel_rfl) ?_
         exact ⟨(), trivial, [], Cov.nil, (x4x 3 rfl (x4x 4 rfl (x4x 7 rfl (x4x 13 rfl (x4x 14 rfl (x4x 15 rfl Cov.nil)))))), (HE.map rfl rfl HE.nil), (x5x 0 rfl (x5x 1 rfl (x5x 3 rfl (x5x 4 rfl (x5x 5 rfl (x5x 6 rfl (x5x 7 rfl (x5x 8 rfl HE.nil)))))))), rfl⟩
        exact .nil
       exact .nil
      exact .nil
     refine .cons rfl rfl rfl ?_ ?_
     ·refine a4e x9x (es' := b2i (l.take i) e) (j := a3c (l.take i) e) (out := pI ((l.take i).count e : Nat)) (ks := r9r (l.take i)) (k := e) Tryz.underlying256 evF rfl rfl (fun _ _ _ h => a4f h) rfl (a1o _) (a3l y9y rfl _ _) ?_
      refine p7p ?_
      refine w8w x9x (l := [3, 5]) (by kernel_rfl) (by decide) ?_
      refine .cons rfl rfl rfl ?_ ?_
      ·refine u1u (b := 1) rfl rfl (by omega) ?_
       refine p7p ?_
       refine w8w x9x (l := [5]) (by kernel_rfl) (by decide) ?_
       refine .cons rfl rfl rfl ?_ ?_
       ·refine a0e rfl rfl ?_
        refine p7p ?_
        refine w8w x9x (l := [6]) (by kernel_rfl) (by decide) ?_
        refine .cons rfl rfl rfl ?_ ?_
        ·refine s6s (j := a3c (l.take i) e) rfl rfl rfl rfl (a1p _ _) (a2e _ _) ?_
         refine p7p ?_
         refine a2d (by kernel_rfl) ?_
         exact ⟨(), trivial, [], Cov.nil, (x4x 3 rfl (x4x 4 rfl (x4x 7 rfl (x4x 13 rfl (x4x 14 rfl (x4x 15 rfl Cov.nil)))))), (HE.map rfl rfl HE.nil), (x5x 0 rfl (x5x 1 rfl (x5x 3 rfl (x5x 4 rfl (x5x 5 rfl (x5x 6 rfl (x5x 7 rfl (x5x 8 rfl HE.nil)))))))), rfl⟩
        exact .nil
       exact .nil
      refine .cons rfl rfl rfl ?_ ?_
      ·refine a0e rfl rfl ?_
       refine p7p ?_
       refine w8w x9x (l := [3]) (by kernel_rfl) (by decide) ?_
       refine .cons rfl rfl rfl ?_ ?_
       ·refine u1u (b := 1) rfl rfl (by omega) ?_
        refine p7p ?_
        refine w8w x9x (l := [6]) (by kernel_rfl) (by decide) ?_
        refine .cons rfl rfl rfl ?_ ?_
        ·refine s6s (j := a3c (l.take i) e) rfl rfl rfl rfl (a1p _ _) (a2e _ _) ?_
         refine p7p ?_
         refine a2d (by kernel_rfl) ?_
         exact ⟨(), trivial, [], Cov.nil, (x4x 3 rfl (x4x 4 rfl (x4x 7 rfl (x4x 13 rfl (x4x 14 rfl (x4x 15 rfl Cov.nil)))))), (HE.map rfl rfl HE.nil), (x5x 0 rfl (x5x 1 rfl (x5x 3 rfl (x5x 4 rfl (x5x 5 rfl (x5x 6 rfl (x5x 7 rfl (x5x 8 rfl HE.nil)))))))), rfl⟩
        exact .nil
       exact .nil
      exact .nil
     exact .nil
    refine .cons rfl rfl rfl ?_ ?_
    ·refine a4e x9x (es' := b2i (l.take i) e) (j := a3c (l.take i) e) (out := pI ((l.take i).count e : Nat)) (ks := r9r (l.take i)) (k := e) Tryz.underlying256 evF rfl rfl (fun _ _ _ h => a4f h) rfl (a1o _) (a3l y9y rfl _ _) ?_
     refine p7p ?_
     refine w8w x9x (l := [2, 5]) (by kernel_rfl) (by decide) ?_
     refine .cons rfl rfl rfl ?_ ?_
     ·refine a2s x9x (ks := d4c (l.take i) e) (k := e) Tryz.underlying256 evF rfl rfl (fun _ _ _ h => a4f h) rfl (b0u (l.take i) e) (b0v (l.take i) e) ?_
      refine p7p ?_
      refine w8w x9x (l := [3, 5]) (by kernel_rfl) (by decide) ?_
      refine .cons rfl rfl rfl ?_ ?_
      ·refine u1u (b := 1) rfl rfl (by omega) ?_
       refine p7p ?_
       refine w8w x9x (l := [5]) (by kernel_rfl) (by decide) ?_
       refine .cons rfl rfl rfl ?_ ?_
       ·refine a0e rfl rfl ?_
        refine p7p ?_
        refine w8w x9x (l := [6]) (by kernel_rfl) (by decide) ?_
        refine .cons rfl rfl rfl ?_ ?_
        ·refine s6s (j := a3c (l.take i) e) rfl rfl rfl rfl (a1p _ _) (a2e _ _) ?_
         refine p7p ?_
         refine a2d (by kernel_rfl) ?_
         exact ⟨(), trivial, [], Cov.nil, (x4x 3 rfl (x4x 4 rfl (x4x 7 rfl (x4x 13 rfl (x4x 14 rfl (x4x 15 rfl Cov.nil)))))), (HE.map rfl rfl HE.nil), (x5x 0 rfl (x5x 1 rfl (x5x 3 rfl (x5x 4 rfl (x5x 5 rfl (x5x 6 rfl (x5x 7 rfl (x5x 8 rfl HE.nil)))))))), rfl⟩
        exact .nil
       exact .nil
      refine .cons rfl rfl rfl ?_ ?_
      ·refine a0e rfl rfl ?_
       refine p7p ?_
       refine w8w x9x (l := [3]) (by kernel_rfl) (by decide) ?_
       refine .cons rfl rfl rfl ?_ ?_
       ·refine u1u (b := 1) rfl rfl (by omega) ?_
        refine p7p ?_
        refine w8w x9x (l := [6]) (by kernel_rfl) (by decide) ?_
        refine .cons rfl rfl rfl ?_ ?_
        ·refine s6s (j := a3c (l.take i) e) rfl rfl rfl rfl (a1p _ _) (a2e _ _) ?_
         refine p7p ?_
         refine a2d (by kernel_rfl) ?_
         exact ⟨(), trivial, [], Cov.nil, (x4x 3 rfl (x4x 4 rfl (x4x 7 rfl (x4x 13 rfl (x4x 14 rfl (x4x 15 rfl Cov.nil)))))), (HE.map rfl rfl HE.nil), (x5x 0 rfl (x5x 1 rfl (x5x 3 rfl (x5x 4 rfl (x5x 5 rfl (x5x 6 rfl (x5x 7 rfl (x5x 8 rfl HE.nil)))))))), rfl⟩
        exact .nil
       exact .nil
      exact .nil
     refine .cons rfl rfl rfl ?_ ?_
     ·refine a0e rfl rfl ?_
      refine p7p ?_
      refine w8w x9x (l := [2]) (by kernel_rfl) (by decide) ?_
      refine .cons rfl rfl rfl ?_ ?_
      ·refine a2s x9x (ks := d4c (l.take i) e) (k := e) Tryz.underlying256 evF rfl rfl (fun _ _ _ h => a4f h) rfl (b0u (l.take i) e) (b0v (l.take i) e) ?_
       refine p7p ?_
       refine w8w x9x (l := [3]) (by kernel_rfl) (by decide) ?_
       refine .cons rfl rfl rfl ?_ ?_
       ·refine u1u (b := 1) rfl rfl (by omega) ?_
        refine p7p ?_
        refine w8w x9x (l := [6]) (by kernel_rfl) (by decide) ?_
        refine .cons rfl rfl rfl ?_ ?_
        ·refine s6s (j := a3c (l.take i) e) rfl rfl rfl rfl (a1p _ _) (a2e _ _) ?_
         refine p7p ?_
         refine a2d (by kernel_rfl) ?_
         exact ⟨(), trivial, [], Cov.nil, (x4x 3 rfl (x4x 4 rfl (x4x 7 rfl (x4x 13 rfl (x4x 14 rfl (x4x 15 rfl Cov.nil)))))), (HE.map rfl rfl HE.nil), (x5x 0 rfl (x5x 1 rfl (x5x 3 rfl (x5x 4 rfl (x5x 5 rfl (x5x 6 rfl (x5x 7 rfl (x5x 8 rfl HE.nil)))))))), rfl⟩
        exact .nil
       exact .nil
      exact .nil
     exact .nil
    exact .nil
   exact .nil
  exact .nil
 ·try dsimp only [List.cons_append, List.nil_append]
  refine x6x x9x (by rfl) ?_
  refine x1x rfl ?_
  refine y8y rfl p5p rfl rfl rfl ?_
  refine a2s x9x (ks := r9r (l.take i ++ [e])) (k := e) Tryz.underlying256 evF rfl rfl (fun _ _ _ h => a4f h) rfl (a1o (l.take i ++ [e])) (b5c y9y rfl (l.take i ++ [e]) e) ?_
  refine y4y rfl rfl rfl ?_
  refine y0y rfl (fun hc5 => ?_) (fun hc5 => ?_)
  rotate_left
  ·try simp at hc5
   have hq : ¬ (l.take i ++ [e]).count e = 1 := by (have := hc5; simp at this ⊢; omega)
   refine y1y ?_
   refine hK4 _ _ ?_
   clear hK4 K4
   refine y2y x9x (by rfl) ?_
   refine u1u (b := 1) rfl rfl (by omega) ?_
   refine x1x rfl ?_
   exact ⟨i + 1, ⟨by omega, by omega⟩, [0, 0, 0, _, _, 0, 0, _], (x4x 15 rfl Cov.nil), (x4x 3 rfl (x4x 4 rfl (x4x 13 rfl (x4x 14 rfl Cov.nil)))), (HE.row rfl (by rw [p2p he, c5t hq]) (HE.box rfl rfl (HE.map rfl (by rw [p2p he]) (HE.kill rfl (HE.kill rfl HE.nil))))), (x5x 0 rfl (x5x 5 rfl (x5x 6 rfl (x5x 8 rfl HE.nil)))), rfl⟩
  try simp at hc5
  have hq : (l.take i ++ [e]).count e = 1 := by (have := hc5; simp at this ⊢; omega)
  have hpl : (b0w a2p (r9r (l.take i))).length ≤ 1000000000 := by rw [b3o]; exact Nat.le_trans (b4u _) (by rw [List.length_take]; omega)
  refine y2y x9x (by rfl) ?_
  refine y8y rfl p5p rfl rfl rfl ?_
  refine v2v [1, 7] [_, _] (a4s _ e hpl) rfl rfl rfl (by decide) rfl rfl (by repeat (first | exact InH.nil | refine InH.cons rfl ?_)) (by (simp only [pI, z8z, z9z, p8p, gl, nx, p6p, Nat.beq]; rfl)) (by (simp only [pI, z8z, z9z, p8p, gl, nx, p6p, Nat.beq]; rfl)) ?_
  refine hK4 _ _ ?_
  clear hK4 K4
  refine y2y x9x (by rfl) ?_
  refine u1u (b := 1) rfl rfl (by omega) ?_
  refine x1x rfl ?_
  exact ⟨i + 1, ⟨by omega, by omega⟩, [0, 0, 0, _, _, 0, 0, _], (x4x 15 rfl Cov.nil), (x4x 3 rfl (x4x 4 rfl (x4x 13 rfl (x4x 14 rfl Cov.nil)))), (HE.row rfl (by rw [p2p he, c5s hq]) (HE.box rfl rfl (HE.map rfl (by rw [p2p he]) (HE.kill rfl (HE.kill rfl HE.nil))))), (x5x 0 rfl (x5x 5 rfl (x5x 6 rfl (x5x 8 rfl HE.nil)))), rfl⟩
end
section
theorem a2i (c : Bool) (a : Ev) (l : List Ev) (hl : (a :: l).length ≤ 10000000) : Meth Tryz.prog 172 1 [] [r7r c (a :: l)] [(0, (0, .dead))] (.ref 0 0) [(0, (0, .row 76 7 ((a :: l).map v9v)))] := by
 refine u7u x9x (fn := Tryz.f172) (by kernel_rfl) (by kernel_rfl) rfl (O0 := [.ref 0 0]) 1 1 (v7v rfl) (by rfl) (by repeat (first | exact BndH.nil | refine BndH.dead ?_)) (by repeat (first | exact BndH.nil | refine BndH.row (u6u fun _ => rfl) ?_)) (by rfl) fun γ => ?_
 show Ex Tryz.prog _ _ [(0, r7r c (a :: l))] [(0, ((γ 0), .dead)), (1, (0, .dead))] _
 refine x6x x9x (by rfl) ?_
 refine x2x rfl ?_
 refine x7x fun K1 hK1 => ?_
 refine x6x x9x (by rfl) ?_
 refine x1x rfl ?_
 refine a8p rfl rfl (by (intro p q h; cases h)) (.inl rfl) (c5h Tryz.underlying24 _ _ (by simp)) ?_
 refine y0y rfl (fun hc2 => ?_) (fun hc2 => ?_)
 ·simp [a2n] at hc2
 try simp at hc2
 refine y1y ?_
 refine hK1 _ _ ?_
 clear hK1 K1
 refine x6x x9x (by rfl) ?_
 refine s3s (id := 0) u4u rfl z3z rfl ?_
 refine x1x rfl ?_
 refine a1e (zs := (a :: l).map v9v) rfl rfl u4u rfl z3z rfl rfl rfl (by exact a0m (fun _ => rfl) _) rfl (by (simp only [List.length_map, List.length_append, List.length_cons, List.length_nil, List.length_take, T76] at *; omega)) ?_
 refine x2x rfl ?_
 refine y3y ?_
 exact ⟨.inr rfl, [_], rfl, rfl, HE.row rfl rfl HE.nil⟩
theorem a2q (c : Bool) : Meth Tryz.prog 172 1 [] [r7r c []] [(0, (0, .dead))] (.ref 0 0) [(0, (0, .row 76 7 (([] : List Ev).map v9v)))] := by
 refine u7u x9x (fn := Tryz.f172) (by kernel_rfl) (by kernel_rfl) rfl (O0 := [.ref 0 0]) 1 1 (v7v rfl) (by rfl) (by repeat (first | exact BndH.nil | refine BndH.dead ?_)) (by repeat (first | exact BndH.nil | refine BndH.row (u6u fun _ => rfl) ?_)) (by rfl) fun γ => ?_
 show Ex Tryz.prog _ _ [(0, r7r c [])] [(0, ((γ 0), .dead)), (1, (0, .dead))] _
 refine c0z 0 rfl fun A0 cap hcap => ?_
 refine x6x x9x (by rfl) ?_
 refine x2x rfl ?_
 refine x7x fun K1 hK1 => ?_
 refine x6x x9x (by rfl) ?_
 refine x1x rfl ?_
 refine a8p rfl rfl (by (intro p q h h2; cases h; cases h2; rfl)) (.inl rfl) (b7k Tryz.underlying24 _ _ _ _ _) ?_
 refine y0y rfl (fun hc2 => ?_) (fun hc2 => ?_)
 ·try simp at hc2
  refine x6x x9x (by rfl) ?_
  refine x2x rfl ?_
  refine a2r 2 0 76 7 rfl rfl ?_
  refine y3y ?_
  exact ⟨.inr rfl, [_], rfl, rfl, HE.row rfl rfl HE.nil⟩
 try simp at hc2
 refine y1y ?_
 refine hK1 _ _ ?_
 clear hK1 K1
 refine c9z 0 76 7 rfl hcap ?_
 refine x6x x9x (by rfl) ?_
 refine s3s (id := 0) u4u rfl z3z rfl ?_
 refine x1x rfl ?_
 refine a1e (zs := ([] : List Ev).map v9v) rfl rfl u4u rfl z3z rfl rfl rfl (by rfl) rfl (by (simp only [List.length_map, List.length_append, List.length_cons, List.length_nil, List.length_take, T76] at *; omega)) ?_
 refine x2x rfl ?_
 refine y3y ?_
 exact ⟨.inr rfl, [_], rfl, rfl, HE.row rfl rfl HE.nil⟩
theorem q1q (c : Bool) (l : List Ev) (hl : l.length ≤ 10000000) : Meth Tryz.prog 172 1 [] [r7r c l] [(0, (0, .dead))] (.ref 0 0) [(0, (0, .row 76 7 (l.map v9v)))] := by
 cases l with
 | nil => exact a2q c
 | cons a l => exact a2i c a l hl
theorem a3d (c : Bool) (a : Ou) (l : List Ou) (hl : (a :: l).length ≤ 10000000) : Meth Tryz.prog 106 1 [] [a1j c (a :: l)] [(0, (0, .dead))] (.ref 0 0) [(0, (0, .row 104 5 ((a :: l).map a0y)))] := by
 refine u7u x9x (fn := Tryz.f106) (by kernel_rfl) (by kernel_rfl) rfl (O0 := [.ref 0 0]) 1 1 (v7v rfl) (by rfl) (by repeat (first | exact BndH.nil | refine BndH.dead ?_)) (by repeat (first | exact BndH.nil | refine BndH.row (u6u fun _ => rfl) ?_)) (by rfl) fun γ => ?_
 show Ex Tryz.prog _ _ [(0, a1j c (a :: l))] [(0, ((γ 0), .dead)), (1, (0, .dead))] _
 refine x6x x9x (by rfl) ?_
 refine x2x rfl ?_
 refine x7x fun K1 hK1 => ?_
 refine x6x x9x (by rfl) ?_
 refine x1x rfl ?_
 refine a8p rfl rfl (by (intro p q h; cases h)) (.inl rfl) (c5h Tryz.underlying25 _ _ (by simp)) ?_
 refine y0y rfl (fun hc2 => ?_) (fun hc2 => ?_)
 ·simp [a2n] at hc2
 try simp at hc2
 refine y1y ?_
 refine hK1 _ _ ?_
 clear hK1 K1
 refine x6x x9x (by rfl) ?_
 refine s3s (id := 0) p9p rfl v5v rfl ?_
 refine x1x rfl ?_
 refine a1e (zs := (a :: l).map a0y) rfl rfl p9p rfl v5v rfl rfl rfl (by exact a0m (fun _ => rfl) _) rfl (by (simp only [List.length_map, List.length_append, List.length_cons, List.length_nil, List.length_take, T104] at *; omega)) ?_
 refine x2x rfl ?_
 refine y3y ?_
 exact ⟨.inr rfl, [_], rfl, rfl, HE.row rfl rfl HE.nil⟩
theorem a3g (c : Bool) : Meth Tryz.prog 106 1 [] [a1j c []] [(0, (0, .dead))] (.ref 0 0) [(0, (0, .row 104 5 (([] : List Ou).map a0y)))] := by
 refine u7u x9x (fn := Tryz.f106) (by kernel_rfl) (by kernel_rfl) rfl (O0 := [.ref 0 0]) 1 1 (v7v rfl) (by rfl) (by repeat (first | exact BndH.nil | refine BndH.dead ?_)) (by repeat (first | exact BndH.nil | refine BndH.row (u6u fun _ => rfl) ?_)) (by rfl) fun γ => ?_
 show Ex Tryz.prog _ _ [(0, a1j c [])] [(0, ((γ 0), .dead)), (1, (0, .dead))] _
 refine c0z 0 rfl fun A0 cap hcap => ?_
 refine x6x x9x (by rfl) ?_
 refine x2x rfl ?_
 refine x7x fun K1 hK1 => ?_
 refine x6x x9x (by rfl) ?_
 refine x1x rfl ?_
 refine a8p rfl rfl (by (intro p q h h2; cases h; cases h2; rfl)) (.inl rfl) (b7k Tryz.underlying25 _ _ _ _ _) ?_
 refine y0y rfl (fun hc2 => ?_) (fun hc2 => ?_)
 ·try simp at hc2
  refine x6x x9x (by rfl) ?_
  refine x2x rfl ?_
  refine a2r 2 0 104 5 rfl rfl ?_
  refine y3y ?_
  exact ⟨.inr rfl, [_], rfl, rfl, HE.row rfl rfl HE.nil⟩
 try simp at hc2
 refine y1y ?_
 refine hK1 _ _ ?_
 clear hK1 K1
 refine c9z 0 104 5 rfl hcap ?_
 refine x6x x9x (by rfl) ?_
 refine s3s (id := 0) p9p rfl v5v rfl ?_
 refine x1x rfl ?_
 refine a1e (zs := ([] : List Ou).map a0y) rfl rfl p9p rfl v5v rfl rfl rfl (by rfl) rfl (by (simp only [List.length_map, List.length_append, List.length_cons, List.length_nil, List.length_take, T76] at *; omega)) ?_
 refine x2x rfl ?_
 refine y3y ?_
 exact ⟨.inr rfl, [_], rfl, rfl, HE.row rfl rfl HE.nil⟩
theorem a1k (c : Bool) (l : List Ou) (hl : l.length ≤ 10000000) : Meth Tryz.prog 106 1 [] [a1j c l] [(0, (0, .dead))] (.ref 0 0) [(0, (0, .row 104 5 (l.map a0y)))] := by
 cases l with
 | nil => exact a3g c
 | cons a l => exact a3d c a l hl
theorem a6q (c : Bool) (a : Int) (l : List Int) (hl : (a :: l).length ≤ 10000000) : Meth Tryz.prog 175 1 [] [a4r c (a :: l)] [(0, (0, .dead))] (.ref 0 0) [(0, (0, .row 3 1 ((a :: l).map a2h)))] := by
 refine u7u x9x (fn := Tryz.f175) (by kernel_rfl) (by kernel_rfl) rfl (O0 := [.ref 0 0]) 1 1 (v7v rfl) (by rfl) (by repeat (first | exact BndH.nil | refine BndH.dead ?_)) (by repeat (first | exact BndH.nil | refine BndH.row (u6u fun _ => rfl) ?_)) (by rfl) fun γ => ?_
 show Ex Tryz.prog _ _ [(0, a4r c (a :: l))] [(0, ((γ 0), .dead)), (1, (0, .dead))] _
 refine x6x x9x (by rfl) ?_
 refine x2x rfl ?_
 refine x7x fun K1 hK1 => ?_
 refine x6x x9x (by rfl) ?_
 refine x1x rfl ?_
 refine a8p rfl rfl (by (intro p q h; cases h)) (.inl rfl) (c5h Tryz.underlying22 _ _ (by simp)) ?_
 refine y0y rfl (fun hc2 => ?_) (fun hc2 => ?_)
 ·simp [a2n] at hc2
 try simp at hc2
 refine y1y ?_
 refine hK1 _ _ ?_
 clear hK1 K1
 refine x6x x9x (by rfl) ?_
 refine s3s (id := 0) p4p rfl y9y rfl ?_
 refine x1x rfl ?_
 refine a1e (zs := (a :: l).map a2h) rfl rfl p4p rfl y9y rfl rfl rfl (by exact a0m (fun _ => rfl) _) rfl (by (simp only [List.length_map, List.length_append, List.length_cons, List.length_nil, List.length_take, T3] at *; omega)) ?_
 refine x2x rfl ?_
 refine y3y ?_
 exact ⟨.inr rfl, [_], rfl, rfl, HE.row rfl rfl HE.nil⟩
theorem a6v (c : Bool) : Meth Tryz.prog 175 1 [] [a4r c []] [(0, (0, .dead))] (.ref 0 0) [(0, (0, .row 3 1 (([] : List Int).map a2h)))] := by
 refine u7u x9x (fn := Tryz.f175) (by kernel_rfl) (by kernel_rfl) rfl (O0 := [.ref 0 0]) 1 1 (v7v rfl) (by rfl) (by repeat (first | exact BndH.nil | refine BndH.dead ?_)) (by repeat (first | exact BndH.nil | refine BndH.row (u6u fun _ => rfl) ?_)) (by rfl) fun γ => ?_
 show Ex Tryz.prog _ _ [(0, a4r c [])] [(0, ((γ 0), .dead)), (1, (0, .dead))] _
 refine c0z 0 rfl fun A0 cap hcap => ?_
 refine x6x x9x (by rfl) ?_
 refine x2x rfl ?_
 refine x7x fun K1 hK1 => ?_
 refine x6x x9x (by rfl) ?_
 refine x1x rfl ?_
 refine a8p rfl rfl (by (intro p q h h2; cases h; cases h2; rfl)) (.inl rfl) (b7k Tryz.underlying22 _ _ _ _ _) ?_
 refine y0y rfl (fun hc2 => ?_) (fun hc2 => ?_)
 ·try simp at hc2
  refine x6x x9x (by rfl) ?_
  refine x2x rfl ?_
  refine a2r 2 0 3 1 rfl rfl ?_
  refine y3y ?_
  exact ⟨.inr rfl, [_], rfl, rfl, HE.row rfl rfl HE.nil⟩
 try simp at hc2
 refine y1y ?_
 refine hK1 _ _ ?_
 clear hK1 K1
 refine c9z 0 3 1 rfl hcap ?_
 refine x6x x9x (by rfl) ?_
 refine s3s (id := 0) p4p rfl y9y rfl ?_
 refine x1x rfl ?_
 refine a1e (zs := ([] : List Int).map a2h) rfl rfl p4p rfl y9y rfl rfl rfl (by rfl) rfl (by (simp only [List.length_map, List.length_append, List.length_cons, List.length_nil, List.length_take, T76] at *; omega)) ?_
 refine x2x rfl ?_
 refine y3y ?_
 exact ⟨.inr rfl, [_], rfl, rfl, HE.row rfl rfl HE.nil⟩
theorem a9n (c : Bool) (l : List Int) (hl : l.length ≤ 10000000) : Meth Tryz.prog 175 1 [] [a4r c l] [(0, (0, .dead))] (.ref 0 0) [(0, (0, .row 3 1 (l.map a2h)))] := by
 cases l with
 | nil => exact a6v c
 | cons a l => exact a6q c a l hl
end
section
theorem c2n (c : Bool) (n : Nd) (hl : n.lanes.length ≤ 1048576) : Meth Tryz.prog 108 1 [] [.agg (a1i c n)] [(0, (0, .dead))] (.agg [pI n.id, pI n.inc, pI n.g, pI n.led, .ref 0 0, r7r c n.kept, a1j c n.outs]) [(0, (0, .row 62 3 ((n.lanes).map fun l => s9s l.base)))] := by
 refine u7u x9x (fn := Tryz.f108) (by kernel_rfl) (by kernel_rfl) rfl (O0 := [.agg [pI n.id, pI n.inc, pI n.g, pI n.led, .ref 0 0, r7r c n.kept, a1j c n.outs]]) 1 6 (v7v rfl) (by rfl) (by repeat (first | exact BndH.nil | refine BndH.dead ?_ )) (by repeat (first | exact BndH.nil | refine BndH.row (u6u fun _ => rfl) ?_ )) (by rfl) fun γ => ?_
 show Ex Tryz.prog _ _ [(0, .agg (a1i c n))] [(0, ((γ 0), .dead)), (6, (0, .dead)), (5, (0, .dead)), (4, (0, .dead)), (3, (0, .dead)), (2, (0, .dead)), (1, (0, .dead))] _
 refine x6x x9x (by rfl) ?_
 refine v4v (id := 1) rfl rfl rfl ?_
 refine v3v (id := 2) s1s c9i rfl ?_
 refine x6x x9x (by rfl) ?_
 refine x0x rfl z6z rfl rfl y9y rfl rfl ?_
 refine x3x rfl y9y rfl rfl ?_
 refine x0x rfl z6z rfl rfl y9y rfl rfl ?_
 refine x3x rfl y9y rfl rfl ?_
 refine x0x rfl z6z rfl rfl y9y rfl rfl ?_
 refine x3x rfl y9y rfl rfl ?_
 refine x0x rfl z6z rfl rfl y9y rfl rfl ?_
 refine x3x rfl y9y rfl rfl ?_
 refine x0x rfl z6z rfl rfl u4u rfl rfl ?_
 refine x3x rfl u4u rfl rfl ?_
 refine x0x rfl z6z rfl rfl p9p rfl rfl ?_
 refine x3x rfl p9p rfl rfl ?_
 refine a0c s1s rfl c9i rfl (by simp only [pI, y9y, T3, u4u, T24, p9p, T25, a5f, d9s, a2w, r2r, AV.okc, AV.one, Value.oneCell', List.map_cons, List.map_nil, List.getElem?_cons_zero, List.getElem?_cons_succ, List.take_succ_cons, List.take_zero, List.drop_succ_cons, List.drop_zero, List.cons_append, List.nil_append, List.length_cons, List.length_nil, if_true, and_self, Nat.reduceAdd, Nat.reduceLeDiff]; rfl) ?_
 refine v3v (id := 3) s1s c9i rfl ?_
 refine u2u rfl rfl s1s rfl rfl rfl rfl ?_
 refine x7x fun K1 hK1 => ?_
 refine x6x x9x (by rfl) ?_
 refine x0x rfl z6z rfl rfl w2w rfl rfl ?_
 refine x3x rfl w2w rfl rfl ?_
 refine u3u rfl w2w rfl ?_
 refine x1x rfl ?_
 refine y6y ?_
 refine a4g 3 4 0 62 3 rfl rfl rfl rfl rfl ?_
 refine u5u (ι := Nat) (fun i γ1 => [(22, .pv (.int .i64 (i : Int)))]) (fun i γ1 => [(0, ((γ1 0), .row 62 3 ((n.lanes.take i).map fun l => s9s l.base))), (3, ((0 + 1), .box 113 [pI n.id, pI n.inc, pI n.g, pI n.led, .ref 0 (γ1 0), r7r c n.kept, a1j c n.outs])), (4, ((γ1 4), .dead)), (5, ((γ1 5), .dead)), (6, ((γ1 6), .dead))]) (fun i => i ≤ n.lanes.length) (fun i => n.lanes.length - i) (x4x 2 rfl (x4x 3 rfl (x4x 20 rfl (x4x 21 rfl Cov.nil)))) (x5x 1 rfl (x5x 2 rfl HE.nil)) 0 (by omega) [_, 0, 0, 0, _, _, _] (x4x 22 rfl Cov.nil) (HE.row rfl (by rw [List.take_zero]; rfl) (HE.box rfl rfl (HE.kill rfl (HE.kill rfl (HE.kill rfl HE.nil))))) rfl fun i γ1 hi => ?_
 try dsimp only [List.cons_append, List.nil_append]
 refine x6x x9x (by rfl) ?_
 refine y4y rfl rfl rfl ?_
 refine x7x fun K2 hK2 => ?_
 refine y0y rfl (fun hc3 => ?_) (fun hc3 => ?_)
 rotate_left
 ·try simp at hc3
  obtain rfl : i = n.lanes.length := by omega
  refine v0v ?_
  refine hK1 _ _ ?_
  clear hK2 K2 hK1 K1
  refine x6x x9x (by rfl) ?_
  refine y8y rfl s1s rfl rfl rfl ?_
  refine u2u rfl rfl s1s rfl rfl rfl rfl ?_
  refine y3y ?_
  exact ⟨.inr rfl, [_], rfl, rfl, HE.row rfl (by rw [List.take_length]) HE.nil⟩
 try simp at hc3
 obtain ⟨p, hp⟩ : ∃ p, n.lanes[i]? = some p := w5w (by omega)
 refine y1y ?_
 refine hK2 _ _ ?_
 clear hK2 K2
 refine x7x fun K4 hK4 => ?_
 refine y6y ?_
 refine x6x x9x (by rfl) ?_
 refine u0u rfl rfl w2w rfl v8v rfl (by assumption) ?_
 refine z5z rfl v8v rfl rfl ?_
 refine v3v (id := 4) v8v a9u rfl ?_
 refine u2u rfl rfl v8v rfl rfl rfl rfl ?_
 refine y2y x9x (by rfl) ?_
 refine x0x rfl s1s rfl rfl a5f rfl rfl ?_
 refine x3x rfl a5f rfl rfl ?_
 refine x0x rfl v8v rfl rfl r4r rfl rfl ?_
 refine x3x (out := .agg (s9s p.base)) rfl r4r rfl rfl ?_
 refine s4s (id := 5) a5f rfl r4r rfl rfl rfl rfl rfl rfl ?_
 refine s5s (zs := (n.lanes.take i ++ [p]).map fun l => s9s l.base) rfl rfl a5f rfl r4r rfl rfl rfl rfl (by rfl) (a1c _ _ _) (by (simp only [List.length_map, List.length_append, List.length_cons, List.length_nil, List.length_take, List.length_range, T62]; omega)) ?_
 refine x0x rfl s1s rfl rfl a5f rfl rfl ?_
 refine u8u rfl rfl a5f rfl rfl rfl rfl rfl (by simp only [a0p]; rfl) ?_
 refine hK4 _ _ ?_
 clear hK4 K4
 refine y2y x9x (by rfl) ?_
 refine y4y rfl rfl rfl ?_
 refine x1x rfl ?_
 exact ⟨i + 1, ⟨by omega, by omega⟩, [_, 0, 0, 0, _, _, _], (Cov.cons' (t := 22) rfl (by rw [u9u (by omega) (by omega)]; rfl) Cov.nil), (x4x 2 rfl (x4x 3 rfl (x4x 20 rfl (x4x 21 rfl Cov.nil)))), (HE.row rfl (by rw [p2p hp]) (HE.box rfl rfl (HE.kill rfl (HE.kill rfl (HE.kill rfl HE.nil))))), (x5x 1 rfl (x5x 2 rfl HE.nil)), rfl⟩
theorem b9k (c : Bool) (n : Nd) (hl : n.lanes.length ≤ 1048576) : Meth Tryz.prog 80 5 [0] [.agg [pI n.id, pI n.inc, pI n.g, pI n.led, .ref 0 0, r7r c n.kept, a1j c n.outs]] [(0, (0, .row 62 3 ((n.lanes).map fun l => s9s l.base))), (1, (0, .dead)), (2, (0, .dead)), (3, (0, .dead)), (4, (0, .dead))] (.ptr 4 0 0) [(4, (0, .box 139 [pI n.id, pI n.inc, pI n.g, pI n.led, .ref 0 0, r7r c n.kept, a1j c n.outs, .pv (.bool false), .ref 1 0, pI 0, .mp 2 0, .ref 3 0, pI 0, pI 41])), (1, (0, .row 63 1 ((n.lanes).map fun _ => [a3p c []]))), (2, (0, .map [])), (3, (0, .row 3 1 ([0, 0, 0].map a2h)))] := by
 refine u7u x9x (fn := Tryz.f80) (by kernel_rfl) (by kernel_rfl) rfl (O0 := [.ptr 4 0 0]) 5 1 (v7v rfl) (by rfl) (by repeat (first | exact BndH.nil | refine BndH.dead ?_ | refine BndH.row (u6u fun _ => rfl) ?_ )) (by repeat (first | exact BndH.nil | refine BndH.box rfl ?_ | refine BndH.row (u6u fun _ => rfl) ?_ | refine BndH.map (by intro p hp; cases hp; done) ?_ )) (by rfl) fun γ => ?_
 show Ex Tryz.prog _ _ [(0, .agg [pI n.id, pI n.inc, pI n.g, pI n.led, .ref 0 (γ 0), r7r c n.kept, a1j c n.outs])] [(0, ((γ 0), .row 62 3 ((n.lanes).map fun l => s9s l.base))), (1, ((γ 1), .dead)), (2, ((γ 2), .dead)), (3, ((γ 3), .dead)), (4, ((γ 4), .dead)), (5, (0, .dead))] _
 refine x6x x9x (by rfl) ?_
 refine v4v (id := 5) rfl rfl rfl ?_
 refine x2x rfl ?_
 refine q5q x9x r6r (by rfl) ?_
 refine y8y rfl s1s rfl rfl rfl ?_
 refine x0x rfl s1s rfl rfl a5f rfl rfl ?_
 refine x3x rfl a5f rfl rfl ?_
 refine a1v rfl a5f rfl rfl (by exact List.length_map _) ?_
 refine a6f (id := 1) a2b rfl w0w d9y rfl rfl rfl rfl (by (simp only [List.length_map, List.length_append, List.length_cons, List.length_nil, List.length_take, List.length_range, T63]; omega)) rfl ?_
 refine b9y (id := 2) rfl ?_
 refine a6f (n := 3) (id := 3) p4p rfl y9y d9j rfl rfl rfl rfl (by (simp only [List.length_map, List.length_append, List.length_cons, List.length_nil, List.length_take, List.length_range, T3]; omega)) rfl ?_
 refine a0c r3r rfl d7y rfl (by simp only [pI, y9y, T3, b5n, T4, p4p, T22, s1s, T113, a2b, d9t, a6e, d9u, a2w, r2r, AV.okc, AV.one, Value.oneCell', List.map_cons, List.map_nil, List.getElem?_cons_zero, List.getElem?_cons_succ, List.take_succ_cons, List.take_zero, List.drop_succ_cons, List.drop_zero, List.cons_append, List.nil_append, List.length_cons, List.length_nil, if_true, and_self, Nat.reduceAdd, Nat.reduceLeDiff]; rfl) ?_
 refine v4v (id := 4) rfl rfl rfl ?_
 refine x2x rfl ?_
 refine ⟨by kernel_rfl, ?_⟩
 refine d0m 1 (xs' := n.lanes.map fun _ => [.pv (.slice none 0 0)]) rfl (by simp [List.map_const', T63]) ?_
 refine d4q (f := fun _ => [.pv (.slice none 0 0)]) (f' := fun _ => [a3p c []]) (l := n.lanes) 1 rfl (fun _ => .le rfl .nil rfl .nil) ?_
 refine y3y ?_
 exact ⟨.inr rfl, [γ 0, _, _, _, _], rfl, rfl, HE.box rfl rfl (HE.row rfl rfl (HE.map rfl rfl (HE.row rfl rfl (HE.same rfl HE.nil))))⟩
theorem b4d (c : Bool) (n : Nd) (hl : n.lanes.length ≤ 1048576) (hv : n.views.length ≤ 1048576) (hk3 : n.known.length = 3) : Meth Tryz.prog 103 5 [] [.agg (a1i c n)] [(0, (0, .dead)), (1, (0, .dead)), (2, (0, .dead)), (3, (0, .dead)), (4, (0, .dead))] (.ptr 4 0 0) [(0, (0, .row 62 3 ((n.lanes).map fun l => s9s l.base))), (1, (0, .row 63 1 ((n.lanes).map fun l => [a3p c l.done]))), (2, (0, .map (a7e c n.views))), (3, (0, .row 3 1 (n.known.map a2h))), (4, (0, .box 139 [pI n.id, pI n.inc, pI n.g, pI n.led, .ref 0 0, r7r c n.kept, a1j c n.outs, .pv (.bool n.up), .ref 1 0, pI n.version, .mp 2 0, .ref 3 0, pI n.round, pI n.low]))] := by
 refine u7u x9x (fn := Tryz.f103) (by kernel_rfl) (by kernel_rfl) rfl (O0 := [.ptr 4 0 0]) 5 3 (v7v rfl) (by rfl) (by repeat (first | exact BndH.nil | refine BndH.dead ?_ )) (by repeat (first | exact BndH.nil | refine BndH.box rfl ?_ | refine BndH.row (u6u fun _ => rfl) ?_ | refine BndH.map (a0t _ _) ?_ )) (by rfl) fun γ => ?_
 show Ex Tryz.prog _ _ [(0, .agg (a1i c n))] [(0, ((γ 0), .dead)), (1, ((γ 1), .dead)), (2, ((γ 2), .dead)), (3, ((γ 3), .dead)), (4, ((γ 4), .dead)), (7, (0, .dead)), (6, (0, .dead)), (5, (0, .dead))] _
 refine x6x x9x (by rfl) ?_
 refine v4v (id := 5) rfl rfl rfl ?_
 refine x2x rfl ?_
 refine x6x x9x (by rfl) ?_
 refine y8y rfl z6z rfl rfl rfl ?_
 refine v2v [0] [_] (c2n c n hl) rfl rfl rfl (by decide) rfl rfl (by repeat (first | exact InH.nil | refine InH.cons rfl ?_)) (by (simp only [pI, z8z, z9z, p8p, gl, nx, p6p, Nat.beq]; rfl)) (by (simp only [pI, z8z, z9z, p8p, gl, nx, p6p, Nat.beq]; rfl)) ?_
 refine v2v [0, 1, 2, 3, 4] [_, _, _, _, _] (b9k c n hl) rfl rfl rfl (by decide) rfl rfl (by repeat (first | exact InH.nil | refine InH.cons rfl ?_)) (by (simp only [pI, z8z, z9z, p8p, gl, nx, p6p, Nat.beq]; rfl)) (by (simp only [pI, z8z, z9z, p8p, gl, nx, p6p, Nat.beq]; rfl)) ?_
 refine x2x rfl ?_
 refine x7x fun K1 hK1 => ?_
 refine x6x x9x (by rfl) ?_
 refine x0x rfl z6z rfl rfl w2w rfl rfl ?_
 refine x3x rfl w2w rfl rfl ?_
 refine u3u rfl w2w rfl ?_
 refine x1x rfl ?_
 refine y6y ?_
 refine u5u (ι := Nat) (fun i γ1 => [(14, .pv (.int .i64 (i : Int)))]) (fun i γ1 => [(1, ((γ 1 + 1), .row 63 1 ((n.lanes.take i).map (fun l => [a3p c l.done]) ++ (n.lanes.drop i).map fun _ => [a3p c []]))), (6, ((γ1 6), .dead))]) (fun i => i ≤ n.lanes.length) (fun i => n.lanes.length - i) (x4x 1 rfl (x4x 3 rfl (x4x 12 rfl (x4x 13 rfl Cov.nil)))) (x5x 0 rfl (x5x 2 rfl (x5x 3 rfl (x5x 4 rfl (x5x 5 rfl (x5x 7 rfl HE.nil)))))) 0 (by omega) [0, 0, 0, 0, 0, 0, _] (x4x 14 rfl Cov.nil) (HE.row rfl (by rw [List.take_zero, List.drop_zero]; rfl) (HE.kill rfl HE.nil)) rfl fun i γ1 hi => ?_
 try dsimp only [List.cons_append, List.nil_append]
 refine x6x x9x (by rfl) ?_
 refine y4y rfl rfl rfl ?_
 refine x7x fun K2 hK2 => ?_
 refine y0y rfl (fun hc3 => ?_) (fun hc3 => ?_)
 ·try simp at hc3
  obtain ⟨p, hp⟩ : ∃ p, n.lanes[i]? = some p := w5w (by omega)
  have hAl : ((n.lanes.take i).map fun l => [a3p c l.done]).length = i := by rw [List.length_map, List.length_take]; omega
  rw [r1r hp, List.map_cons]
  refine y1y ?_
  refine hK2 _ _ ?_
  clear hK2 K2
  refine x7x fun K4 hK4 => ?_
  refine y6y ?_
  refine x6x x9x (by rfl) ?_
  refine x1x rfl ?_
  refine u0u rfl rfl w2w rfl v8v rfl (by assumption) ?_
  refine z5z rfl v8v rfl rfl ?_
  refine v3v (id := 6) v8v a9u rfl ?_
  refine x2x rfl ?_
  refine u2u rfl rfl v8v rfl rfl rfl rfl ?_
  refine r8r x9x r6r (by rfl) ?_
  refine x1x rfl ?_
  refine w3w rfl rfl ?_
  refine x0x rfl r3r rfl rfl a2b rfl rfl ?_
  refine x3x rfl a2b rfl rfl ?_
  refine x1x rfl ?_
  refine x0x rfl v8v rfl rfl w0w rfl rfl ?_
  refine x3x rfl w0w rfl rfl ?_
  refine r0r rfl rfl a2b rfl w0w rfl rfl hAl ?_
  refine q2q hAl rfl rfl w0w rfl rfl rfl rfl rfl rfl rfl rfl ?_
  refine ⟨by kernel_rfl, ?_⟩
  refine hK4 _ _ ?_
  clear hK4 K4
  refine y2y x9x (by rfl) ?_
  refine y4y rfl rfl rfl ?_
  refine x1x rfl ?_
  exact ⟨i + 1, ⟨by omega, by omega⟩, [0, 0, 0, 0, 0, 0, _], (Cov.cons' (t := 14) rfl (by rw [u9u (by omega) (by omega)]; rfl) Cov.nil), (x4x 1 rfl (x4x 3 rfl (x4x 12 rfl (x4x 13 rfl Cov.nil)))), (HE.row rfl (by rw [p2p hp, List.map_append, List.append_assoc]; rfl) (HE.kill rfl HE.nil)), (x5x 0 rfl (x5x 2 rfl (x5x 3 rfl (x5x 4 rfl (x5x 5 rfl (x5x 7 rfl HE.nil)))))), rfl⟩
 try simp at hc3
 obtain rfl : i = n.lanes.length := by omega
 refine v0v ?_
 refine hK1 _ _ ?_
 clear hK2 K2 hK1 K1
 refine x7x fun K5 hK5 => ?_
 refine x6x x9x (by rfl) ?_
 refine x0x rfl z6z rfl rfl p1p rfl rfl ?_
 refine x3x rfl p1p rfl rfl ?_
 refine u3u rfl p1p rfl ?_
 refine x1x rfl ?_
 refine y6y ?_
 refine u5u (ι := Nat) (fun j γ2 => [(31, .pv (.int .i64 (j : Int)))]) (fun j γ2 => [(2, ((γ 2 + 1), .map (a7e c (n.views.take j)))), (7, ((γ2 7), .dead))]) (fun j => j ≤ n.views.length) (fun j => n.views.length - j) (x4x 1 rfl (x4x 3 rfl (x4x 29 rfl (x4x 30 rfl Cov.nil)))) (x5x 0 rfl (x5x 1 rfl (x5x 3 rfl (x5x 4 rfl (x5x 5 rfl (x5x 6 rfl HE.nil)))))) 0 (by omega) [0, 0, 0, 0, 0, 0, 0, _] (x4x 31 rfl Cov.nil) (HE.map rfl (by rw [List.take_zero]; rfl) (HE.kill rfl HE.nil)) rfl fun j γ2 hi => ?_
 try dsimp only [List.cons_append, List.nil_append]
 refine x6x x9x (by rfl) ?_
 refine y4y rfl rfl rfl ?_
 refine x7x fun K6 hK6 => ?_
 refine y0y rfl (fun hc7 => ?_) (fun hc7 => ?_)
 ·try simp at hc7
  obtain ⟨q, hq⟩ : ∃ q, n.views[j]? = some q := w5w (by omega)
  have hjl : (n.views.take j).length = j := by rw [List.length_take]; omega
  refine y1y ?_
  refine hK6 _ _ ?_
  clear hK6 K6
  refine x7x fun K8 hK8 => ?_
  refine y6y ?_
  refine x6x x9x (by rfl) ?_
  refine x1x rfl ?_
  refine u0u rfl rfl p1p rfl v6v rfl (by assumption) ?_
  refine z5z rfl v6v rfl rfl ?_
  refine v3v (id := 7) v6v a3s rfl ?_
  refine x2x rfl ?_
  refine u2u rfl rfl v6v rfl rfl rfl rfl ?_
  refine r8r x9x r6r (by rfl) ?_
  refine x1x rfl ?_
  refine w3w rfl rfl ?_
  refine x0x rfl r3r rfl rfl a6e rfl rfl ?_
  refine x3x rfl a6e rfl rfl ?_
  refine x1x rfl ?_
  refine y8y rfl v6v rfl rfl rfl ?_
  refine a9w (κ := Int) (enc := fun n => .int .i64 n) (ks := b2h j) (k := (j : Int)) (es' := a7e c (n.views.take j ++ [q])) Tryz.underlying137 (a6j Tryz.underlying3) rfl rfl rfl (fun _ _ _ h => c5f h) rfl (by rw [a6o, hjl]) (.inr ⟨d4a j, by rw [d2b, hjl]⟩) ?_
  refine ⟨by kernel_rfl, ?_⟩
  refine hK8 _ _ ?_
  clear hK8 K8
  refine y2y x9x (by rfl) ?_
  refine y4y rfl rfl rfl ?_
  refine x1x rfl ?_
  exact ⟨j + 1, ⟨by omega, by omega⟩, [0, 0, 0, 0, 0, 0, 0, _], (Cov.cons' (t := 31) rfl (by rw [u9u (by omega) (by omega)]; rfl) Cov.nil), (x4x 1 rfl (x4x 3 rfl (x4x 29 rfl (x4x 30 rfl Cov.nil)))), (HE.map rfl (by rw [p2p hq]) (HE.kill rfl HE.nil)), (x5x 0 rfl (x5x 1 rfl (x5x 3 rfl (x5x 4 rfl (x5x 5 rfl (x5x 6 rfl HE.nil)))))), rfl⟩
 try simp at hc7
 obtain rfl : j = n.views.length := by omega
 refine v0v ?_
 refine hK5 _ _ ?_
 clear hK6 K6 hK5 K5
 refine q5q x9x r6r (by rfl) ?_
 refine x1x rfl ?_
 refine w3w rfl rfl ?_
 refine x0x rfl r3r rfl rfl p4p rfl rfl ?_
 refine x3x rfl p4p rfl rfl ?_
 refine x0x rfl z6z rfl rfl p4p rfl rfl ?_
 refine x3x rfl p4p rfl rfl ?_
 refine d3c x9x (l := n.known) p4p rfl y9y rfl rfl rfl rfl (by rw [hk3]; rfl) ?_
 refine ⟨by kernel_rfl, ?_⟩
 refine q5q x9x r6r (by rfl) ?_
 refine x1x rfl ?_
 refine x1x rfl ?_
 refine x1x rfl ?_
 refine x1x rfl ?_
 refine x0x rfl z6z rfl rfl b5n rfl rfl ?_
 refine x3x rfl b5n rfl rfl ?_
 refine x0x rfl z6z rfl rfl y9y rfl rfl ?_
 refine x3x rfl y9y rfl rfl ?_
 refine x0x rfl z6z rfl rfl y9y rfl rfl ?_
 refine x3x rfl y9y rfl rfl ?_
 refine x0x rfl z6z rfl rfl y9y rfl rfl ?_
 refine x3x rfl y9y rfl rfl ?_
 refine w3w rfl rfl ?_
 refine x0x rfl r3r rfl rfl b5n rfl rfl ?_
 refine u8u rfl rfl b5n rfl rfl rfl rfl rfl (by simp only [a0p]; rfl) ?_
 refine w3w rfl rfl ?_
 refine x0x rfl r3r rfl rfl y9y rfl rfl ?_
 refine u8u rfl rfl y9y rfl rfl rfl rfl rfl (by simp only [a0p]; rfl) ?_
 refine w3w rfl rfl ?_
 refine x0x rfl r3r rfl rfl y9y rfl rfl ?_
 refine u8u rfl rfl y9y rfl rfl rfl rfl rfl (by simp only [a0p]; rfl) ?_
 refine w3w rfl rfl ?_
 refine x0x rfl r3r rfl rfl y9y rfl rfl ?_
 refine u8u rfl rfl y9y rfl rfl rfl rfl rfl (by simp only [a0p]; rfl) ?_
 refine ⟨by kernel_rfl, ?_⟩
 refine x6x x9x (by rfl) ?_
 refine x1x rfl ?_
 refine x2x rfl ?_
 refine y3y ?_
 exact ⟨.inr rfl, [_, _, _, _, _], rfl, rfl, HE.row rfl rfl (HE.row rfl (by rw [List.take_length, List.drop_length, List.map_nil, List.append_nil]) (HE.map rfl (by rw [List.take_length]) (HE.row rfl rfl (HE.box rfl rfl HE.nil))))⟩
end
section
theorem a9f (c : Bool) (n : Nd) (hs : (a0l n).length ≤ 5000000) (hlen : n.lanes.length ≤ 1048576) : Meth Tryz.prog 189 6 [0, 1, 2, 3, 4] [.ptr 4 0 0] [(0, (0, .row 62 3 ((n.lanes).map fun l => s9s l.base))), (1, (0, .row 63 1 ((n.lanes).map fun l => [a3p c l.done]))), (2, (0, .map (a7e c n.views))), (3, (0, .row 3 1 (n.known.map a2h))), (4, (0, .box 139 [pI n.id, pI n.inc, pI n.g, pI n.led, .ref 0 0, r7r c n.kept, a1j c n.outs, .pv (.bool n.up), .ref 1 0, pI n.version, .mp 2 0, .ref 3 0, pI n.round, pI n.low])), (5, (0, .dead))] (.ref 5 0) [(5, (0, .row 76 7 ((a0l n).map v9v)))] := by
 refine u7u x9x (fn := Tryz.f189) (by kernel_rfl) (by kernel_rfl) rfl (O0 := [.ref 5 0]) 6 2 (v7v rfl) (by rfl) (by repeat (first | exact BndH.nil | refine BndH.dead ?_ | refine BndH.box rfl ?_ | refine BndH.row (u6u fun _ => rfl) ?_ | refine BndH.map (a0t _ _) ?_ )) (by repeat (first | exact BndH.nil | refine BndH.row (u6u fun _ => rfl) ?_ )) (by rfl) fun γ => ?_
 show Ex Tryz.prog _ _ [(0, .ptr 4 (γ 4) 0)] [(0, ((γ 0), .row 62 3 ((n.lanes).map fun l => s9s l.base))), (1, ((γ 1), .row 63 1 ((n.lanes).map fun l => [a3p c l.done]))), (2, ((γ 2), .map (a7e c n.views))), (3, ((γ 3), .row 3 1 (n.known.map a2h))), (4, ((γ 4), .box 139 [pI n.id, pI n.inc, pI n.g, pI n.led, .ref 0 (γ 0), r7r c n.kept, a1j c n.outs, .pv (.bool n.up), .ref 1 (γ 1), pI n.version, .mp 2 (γ 2), .ref 3 (γ 3), pI n.round, pI n.low])), (5, ((γ 5), .dead)), (7, (0, .dead)), (6, (0, .dead))] _
 have hkl : n.kept.length ≤ 5000000 := by simp only [a0l, List.length_append] at hs; omega
 refine x6x x9x (by rfl) ?_
 refine x2x rfl ?_
 refine x6x x9x (by rfl) ?_
 refine x1x rfl ?_
 refine w3w rfl rfl ?_
 refine x0x rfl r3r rfl rfl s1s rfl rfl ?_
 refine x0x rfl s1s rfl rfl u4u rfl rfl ?_
 refine x3x rfl u4u rfl rfl ?_
 refine v2v [5] [_] (q1q c n.kept (by omega)) rfl rfl rfl (by decide) rfl rfl (by repeat (first | exact InH.nil | refine InH.cons rfl ?_)) (by (simp only [pI, z8z, z9z, p8p, gl, nx, p6p, Nat.beq]; rfl)) (by (simp only [pI, z8z, z9z, p8p, gl, nx, p6p, Nat.beq]; rfl)) ?_
 refine x2x rfl ?_
 refine x7x fun K1 hK1 => ?_
 refine x6x x9x (by rfl) ?_
 refine x1x rfl ?_
 refine w3w rfl rfl ?_
 refine x0x rfl r3r rfl rfl a2b rfl rfl ?_
 refine x3x rfl a2b rfl rfl ?_
 refine a1v rfl a2b rfl rfl (by exact List.length_map _) ?_
 refine x1x rfl ?_
 refine y6y ?_
 refine u5u (ι := Nat) (fun i γ1 => [(3, .ref 5 (γ1 5)), (19, .pv (.int .i64 (i : Int)))]) (fun i γ1 => [(5, ((γ1 5), .row 76 7 ((n.kept ++ (n.lanes.take i).flatMap a7l).map v9v))), (6, ((γ1 6), .dead)), (7, ((γ1 7), .dead))]) (fun i => i ≤ n.lanes.length) (fun i => n.lanes.length - i) (x4x 17 rfl (x4x 18 rfl Cov.nil)) (x5x 0 rfl (x5x 1 rfl (x5x 2 rfl (x5x 3 rfl (x5x 4 rfl HE.nil))))) 0 (by omega) [0, 0, 0, 0, 0, _, _, _] (x4x 3 rfl (x4x 19 rfl Cov.nil)) (HE.row rfl (by simp) (HE.kill rfl (HE.kill rfl HE.nil))) rfl fun i γ1 hi => ?_
 try dsimp only [List.cons_append, List.nil_append]
 refine x6x x9x (by rfl) ?_
 refine y4y rfl rfl rfl ?_
 refine x7x fun K2 hK2 => ?_
 refine y0y rfl (fun hc3 => ?_) (fun hc3 => ?_)
 rotate_left
 ·try simp at hc3
  obtain rfl : i = n.lanes.length := by omega
  refine v0v ?_
  refine hK1 _ _ ?_
  clear hK2 K2 hK1 K1
  refine x6x x9x (by rfl) ?_
  refine x1x rfl ?_
  refine x2x rfl ?_
  refine y3y ?_
  exact ⟨.inr rfl, [γ 0, γ 1, γ 2, γ 3, γ 4, _], rfl, rfl, HE.row rfl (by rw [List.take_length]; rfl) (x5x 0 rfl (x5x 1 rfl (x5x 2 rfl (x5x 3 rfl (x5x 4 rfl HE.nil)))))⟩
 try simp at hc3
 obtain ⟨p, hp⟩ : ∃ p, n.lanes[i]? = some p := w5w (by omega)
 refine y1y ?_
 refine hK2 _ _ ?_
 clear hK2 K2
 refine x7x fun K4 hK4 => ?_
 refine y6y ?_
 refine x6x x9x (by rfl) ?_
 refine q6q (j := i) rfl rfl a2b rfl w0w rfl rfl (q0q hp) ?_
 refine a3u rfl w0w rfl hp rfl ?_
 refine x2x rfl ?_
 refine x6x x9x (by rfl) ?_
 refine x1x rfl ?_
 refine u3u rfl w0w rfl ?_
 refine x1x rfl ?_
 refine y6y ?_
 refine w4w 23 rfl fun hlen2 => ?_
 refine u5u (ι := Nat) (fun j γ2 => [(3, .ref 5 (γ2 5)), (25, .pv (.int .i64 (j : Int)))]) (fun j γ2 => [(5, ((γ2 5), .row 76 7 ((n.kept ++ (n.lanes.take i).flatMap a7l ++ (p.done.take j).flatMap Pa.sends).map v9v))), (6, ((γ2 6), .dead)), (7, ((γ2 7), .dead))]) (fun j => j ≤ p.done.length) (fun j => p.done.length - j) (x4x 17 rfl (x4x 18 rfl (x4x 19 rfl (x4x 23 rfl (x4x 24 rfl Cov.nil))))) (x5x 0 rfl (x5x 1 rfl (x5x 2 rfl (x5x 3 rfl (x5x 4 rfl HE.nil))))) 0 (by omega) [0, 0, 0, 0, 0, _, _, _] (x4x 3 rfl (x4x 25 rfl Cov.nil)) (HE.row rfl (by simp) (HE.kill rfl (HE.kill rfl HE.nil))) rfl fun j γ2 hi => ?_
 try dsimp only [List.cons_append, List.nil_append]
 refine x6x x9x (by rfl) ?_
 refine y4y rfl rfl rfl ?_
 refine x7x fun K5 hK5 => ?_
 refine y0y rfl (fun hc6 => ?_) (fun hc6 => ?_)
 rotate_left
 ·try simp at hc6
  obtain rfl : j = p.done.length := by omega
  refine v0v ?_
  refine hK4 _ _ ?_
  clear hK5 K5 hK4 K4
  refine y2y x9x (by rfl) ?_
  refine y4y rfl rfl rfl ?_
  refine x1x rfl ?_
  exact ⟨i + 1, ⟨by omega, by omega⟩, [0, 0, 0, 0, 0, _, _, _], (x4x 3 rfl (Cov.cons' (t := 19) rfl (by rw [u9u (by omega) (by omega)]; rfl) Cov.nil)), (x4x 17 rfl (x4x 18 rfl Cov.nil)), (HE.row rfl (by simp only [a8h hp, List.append_assoc, a7l, List.take_length]) (HE.kill rfl (HE.kill rfl HE.nil))), (x5x 0 rfl (x5x 1 rfl (x5x 2 rfl (x5x 3 rfl (x5x 4 rfl HE.nil))))), rfl⟩
 try simp at hc6
 obtain ⟨q, hq⟩ : ∃ q, p.done[j]? = some q := w5w (by omega)
 have hsp := b7w hp hq
 refine y1y ?_
 refine hK5 _ _ ?_
 clear hK5 K5
 refine x7x fun K7 hK7 => ?_
 refine y6y ?_
 refine x6x x9x (by rfl) ?_
 refine u0u rfl rfl w0w rfl w1w rfl (by assumption) ?_
 refine z5z rfl w1w rfl rfl ?_
 refine v3v (id := 6) w1w b5o rfl ?_
 refine u2u rfl rfl w1w rfl rfl rfl rfl ?_
 refine y2y x9x (by rfl) ?_
 refine x1x rfl ?_
 refine x0x rfl w1w rfl rfl u4u rfl rfl ?_
 refine x3x rfl u4u rfl rfl ?_
 refine a1e (zs := (n.kept ++ (n.lanes.take i).flatMap a7l ++ (p.done.take j).flatMap Pa.sends ++ q.sends).map v9v) rfl rfl u4u rfl z3z rfl rfl rfl (by exact a0m (fun _ => rfl) _) (b4q _ _ _) (by have hb56 : T76.bytes = 56 := rfl; rw [List.length_map, hb56]; omega) ?_
 refine x2x rfl ?_
 refine hK7 _ _ ?_
 clear hK7 K7
 refine y2y x9x (by rfl) ?_
 refine y4y rfl rfl rfl ?_
 refine x1x rfl ?_
 exact ⟨j + 1, ⟨by omega, by omega⟩, [0, 0, 0, 0, 0, _, _, _], (x4x 3 rfl (Cov.cons' (t := 25) rfl (by rw [u9u (by omega) (by omega)]; rfl) Cov.nil)), (x4x 17 rfl (x4x 18 rfl (x4x 19 rfl (x4x 23 rfl (x4x 24 rfl Cov.nil))))), (HE.row rfl (by simp only [a8h hq, List.append_assoc]) (HE.kill rfl (HE.kill rfl HE.nil))), (x5x 0 rfl (x5x 1 rfl (x5x 2 rfl (x5x 3 rfl (x5x 4 rfl HE.nil))))), rfl⟩
theorem b4e (c : Bool) (n : Nd) (proc : Int) (e : Ev) : Meth Tryz.prog 212 7 [0, 1, 2, 3, 4, 5, 6] [.agg (v9v e), .ptr 5 0 0, .ptr 6 0 0] [(0, (0, .row 62 3 ((n.lanes).map fun l => s9s l.base))), (1, (0, .row 63 1 ((n.lanes).map fun l => [a3p c l.done]))), (2, (0, .map (a7e c n.views))), (3, (0, .row 3 1 (n.known.map a2h))), (4, (0, .box 139 [pI n.id, pI n.inc, pI n.g, pI n.led, .ref 0 0, r7r c n.kept, a1j c n.outs, .pv (.bool n.up), .ref 1 0, pI n.version, .mp 2 0, .ref 3 0, pI n.round, pI n.low])), (5, (0, .box 3 [pI proc])), (6, (0, .box 109 [.ptr 4 0 0]))] (.pv (.bool (a6t proc n.g e))) [] := by
 refine u7u x9x (fn := Tryz.f212) (by kernel_rfl) (by kernel_rfl) rfl (O0 := [.pv (.bool (a6t proc n.g e))]) 7 1 (v7v rfl) (by rfl) (by repeat (first | exact BndH.nil | refine BndH.box rfl ?_ | refine BndH.row (u6u fun _ => rfl) ?_ | refine BndH.map (a0t _ _) ?_ )) (by repeat (exact BndH.nil )) (by rfl) fun γ => ?_
 show Ex Tryz.prog _ _ [(0, .agg (v9v e)), (1, .ptr 5 (γ 5) 0), (2, .ptr 6 (γ 6) 0)] [(0, ((γ 0), .row 62 3 ((n.lanes).map fun l => s9s l.base))), (1, ((γ 1), .row 63 1 ((n.lanes).map fun l => [a3p c l.done]))), (2, ((γ 2), .map (a7e c n.views))), (3, ((γ 3), .row 3 1 (n.known.map a2h))), (4, ((γ 4), .box 139 [pI n.id, pI n.inc, pI n.g, pI n.led, .ref 0 (γ 0), r7r c n.kept, a1j c n.outs, .pv (.bool n.up), .ref 1 (γ 1), pI n.version, .mp 2 (γ 2), .ref 3 (γ 3), pI n.round, pI n.low])), (5, ((γ 5), .box 3 [pI proc])), (6, ((γ 6), .box 109 [.ptr 4 (γ 4) 0])), (7, (0, .dead))] _
 refine x6x x9x (by rfl) ?_
 refine v4v (id := 7) rfl rfl rfl ?_
 refine x2x rfl ?_
 refine q5q x9x r6r (by rfl) ?_
 refine x0x rfl z3z rfl rfl y9y rfl rfl ?_
 refine x3x rfl y9y rfl rfl ?_
 refine x3x rfl y9y rfl rfl ?_
 refine y4y rfl rfl rfl ?_
 refine x1x rfl ?_
 refine a0b rfl rfl (fun hg1 => ?_) (fun hg1 => ?_)
 rotate_left
 ·try simp at hg1
  refine x8x rfl rfl ?_
  refine x8x rfl rfl ?_
  refine x8x rfl rfl ?_
  refine x8x rfl rfl ?_
  refine x8x rfl rfl ?_
  refine x8x rfl rfl ?_
  refine x8x rfl rfl ?_
  refine y5y rfl rfl ?_
  refine x2x rfl ?_
  refine ⟨by kernel_rfl, ?_⟩
  refine y3y ?_
  exact ⟨.inr rfl, [γ 0, γ 1, γ 2, γ 3, γ 4, γ 5, γ 6], rfl, congrArg (fun b : Bool => some [AV.pv (.bool b)]) (by exact (decide_eq_false (by omega)).symm), (x5x 0 rfl (x5x 1 rfl (x5x 2 rfl (x5x 3 rfl (x5x 4 rfl (x5x 5 rfl (x5x 6 rfl HE.nil)))))))⟩
 try simp at hg1
 refine x0x rfl z3z rfl rfl y9y rfl rfl ?_
 refine y7y rfl rfl ?_
 refine x3x rfl y9y rfl rfl ?_
 refine y7y rfl rfl ?_
 refine x3x rfl b6x rfl rfl ?_
 refine y7y rfl rfl ?_
 refine w3w rfl rfl ?_
 refine y7y rfl rfl ?_
 refine x0x rfl r3r rfl rfl s1s rfl rfl ?_
 refine y7y rfl rfl ?_
 refine x0x rfl s1s rfl rfl y9y rfl rfl ?_
 refine y7y rfl rfl ?_
 refine x3x rfl y9y rfl rfl ?_
 refine y7y rfl rfl ?_
 refine y4y rfl rfl rfl ?_
 refine z0z rfl rfl ?_
 refine x2x rfl ?_
 refine ⟨by kernel_rfl, ?_⟩
 refine y3y ?_
 exact ⟨.inr rfl, [γ 0, γ 1, γ 2, γ 3, γ 4, γ 5, γ 6], rfl, congrArg (fun b : Bool => some [AV.pv (.bool b)]) (by exact decide_eq_decide.2 (by omega)), (x5x 0 rfl (x5x 1 rfl (x5x 2 rfl (x5x 3 rfl (x5x 4 rfl (x5x 5 rfl (x5x 6 rfl HE.nil)))))))⟩
theorem a2u (c : Bool) (n : Nd) (proc : Int) (l : List Ev) (hl : l.length ≤ 10000000) : Meth Tryz.prog 188 7 [0, 1, 2, 3, 4, 5, 6] [r7r true l, .fn (.func 212) [] [.ptr 5 0 0, .ptr 6 0 0]] [(0, (0, .row 62 3 ((n.lanes).map fun l => s9s l.base))), (1, (0, .row 63 1 ((n.lanes).map fun l => [a3p c l.done]))), (2, (0, .map (a7e c n.views))), (3, (0, .row 3 1 (n.known.map a2h))), (4, (0, .box 139 [pI n.id, pI n.inc, pI n.g, pI n.led, .ref 0 0, r7r c n.kept, a1j c n.outs, .pv (.bool n.up), .ref 1 0, pI n.version, .mp 2 0, .ref 3 0, pI n.round, pI n.low])), (5, (0, .box 3 [pI proc])), (6, (0, .box 109 [.ptr 4 0 0]))] (r7r true (l.filter (a6t proc n.g))) [] := by
 refine u7u x9x (fn := Tryz.f188) (by kernel_rfl) (by kernel_rfl) rfl (O0 := [r7r true (l.filter (a6t proc n.g))]) 7 4 (v7v rfl) (by rfl) (by repeat (first | exact BndH.nil | refine BndH.box rfl ?_ | refine BndH.row (u6u fun _ => rfl) ?_ | refine BndH.map (a0t _ _) ?_ )) (by repeat (exact BndH.nil )) (by rfl) fun γ => ?_
 show Ex Tryz.prog _ _ [(0, r7r true l), (1, .fn (.func 212) [] [.ptr 5 (γ 5) 0, .ptr 6 (γ 6) 0])] [(0, ((γ 0), .row 62 3 ((n.lanes).map fun l => s9s l.base))), (1, ((γ 1), .row 63 1 ((n.lanes).map fun l => [a3p c l.done]))), (2, ((γ 2), .map (a7e c n.views))), (3, ((γ 3), .row 3 1 (n.known.map a2h))), (4, ((γ 4), .box 139 [pI n.id, pI n.inc, pI n.g, pI n.led, .ref 0 (γ 0), r7r c n.kept, a1j c n.outs, .pv (.bool n.up), .ref 1 (γ 1), pI n.version, .mp 2 (γ 2), .ref 3 (γ 3), pI n.round, pI n.low])), (5, ((γ 5), .box 3 [pI proc])), (6, ((γ 6), .box 109 [.ptr 4 (γ 4) 0])), (10, (0, .dead)), (9, (0, .dead)), (8, (0, .dead)), (7, (0, .dead))] _
 refine x6x x9x (by rfl) ?_
 refine x2x rfl ?_
 refine x6x x9x (by rfl) ?_
 refine x2x rfl ?_
 refine x7x fun K1 hK1 => ?_
 refine x6x x9x (by rfl) ?_
 refine x1x rfl ?_
 refine u3u rfl u4u rfl ?_
 refine x1x rfl ?_
 refine y6y ?_
 refine a2r 5 10 76 7 rfl rfl ?_
 refine u5u (ι := Nat) (fun i γ1 => [(5, .ref 10 (γ1 10)), (10, .pv (.int .i64 (i : Int)))]) (fun i γ1 => [(10, ((γ1 10), .row 76 7 (((l.take i).filter (a6t proc n.g)).map v9v))), (7, ((γ1 7), .dead)), (8, ((γ1 8), .dead)), (9, ((γ1 9), .dead))]) (fun i => i ≤ l.length) (fun i => l.length - i) (x4x 1 rfl (x4x 8 rfl (x4x 9 rfl Cov.nil))) (x5x 0 rfl (x5x 1 rfl (x5x 2 rfl (x5x 3 rfl (x5x 4 rfl (x5x 5 rfl (x5x 6 rfl HE.nil))))))) 0 (by omega) [0, 0, 0, 0, 0, 0, 0, _, _, _, _] (x4x 5 rfl (x4x 10 rfl Cov.nil)) (HE.row rfl (by rw [List.take_zero]; rfl) (HE.kill rfl (HE.kill rfl (HE.kill rfl HE.nil)))) rfl fun i γ1 hi => ?_
 try dsimp only [List.cons_append, List.nil_append]
 refine x6x x9x (by rfl) ?_
 refine y4y rfl rfl rfl ?_
 refine x7x fun K2 hK2 => ?_
 refine y0y rfl (fun hc3 => ?_) (fun hc3 => ?_)
 rotate_left
 ·try simp at hc3
  obtain rfl : i = l.length := by omega
  rw [List.take_length]
  refine v0v ?_
  refine hK1 _ _ ?_
  clear hK2 K2 hK1 K1
  refine a3v 5 rfl rfl (fun _ => rfl) ?_
  refine x6x x9x (by rfl) ?_
  refine x1x rfl ?_
  refine x2x rfl ?_
  refine y3y ?_
  exact ⟨.inr rfl, [γ 0, γ 1, γ 2, γ 3, γ 4, γ 5, γ 6], rfl, rfl, (x5x 0 rfl (x5x 1 rfl (x5x 2 rfl (x5x 3 rfl (x5x 4 rfl (x5x 5 rfl (x5x 6 rfl HE.nil)))))))⟩
 try simp at hc3
 obtain ⟨p, hp⟩ : ∃ p, l[i]? = some p := w5w (by omega)
 have hfl : ((l.take i).filter (a6t proc n.g)).length ≤ 10000000 := Nat.le_trans (List.length_filter_le _ _) (by rw [List.length_take]; omega)
 refine y1y ?_
 refine hK2 _ _ ?_
 clear hK2 K2
 refine x7x fun K4 hK4 => ?_
 refine y6y ?_
 refine x6x x9x (by rfl) ?_
 refine u0u rfl rfl u4u rfl z3z rfl (by assumption) ?_
 refine z5z rfl z3z rfl rfl ?_
 refine v3v (id := 7) z3z b7a rfl ?_
 refine u2u rfl rfl z3z rfl rfl rfl rfl ?_
 refine x6x x9x (by rfl) ?_
 refine x1x rfl ?_
 refine y8y rfl z3z rfl rfl rfl ?_
 refine v2v [0, 1, 2, 3, 4, 5, 6] [_, _, _, _, _, _, _] (b4e c n proc p) rfl rfl rfl (by decide) rfl rfl (by repeat (first | exact InH.nil | refine InH.cons rfl ?_)) (by (simp only [pI, z8z, z9z, p8p, gl, nx, p6p, Nat.beq]; rfl)) (by (simp only [pI, z8z, z9z, p8p, gl, nx, p6p, Nat.beq]; rfl)) ?_
 refine y0y rfl (fun hc5 => ?_) (fun hc5 => ?_)
 rotate_left
 ·try simp at hc5
  have hw : ¬ a6t proc n.g p = true := by rw [hc5]; decide
  refine y1y ?_
  refine hK4 _ _ ?_
  clear hK4 K4
  refine y2y x9x (by rfl) ?_
  refine y4y rfl rfl rfl ?_
  refine x1x rfl ?_
  exact ⟨i + 1, ⟨by omega, by omega⟩, [0, 0, 0, 0, 0, 0, 0, _, _, _, _], (x4x 5 rfl (Cov.cons' (t := 10) rfl (by rw [u9u (by omega) (by omega)]; rfl) Cov.nil)), (x4x 1 rfl (x4x 8 rfl (x4x 9 rfl Cov.nil))), (HE.row rfl (by rw [a1g hp]; rw [if_neg hw, List.append_nil]) (HE.kill rfl (HE.kill rfl (HE.kill rfl HE.nil)))), (x5x 0 rfl (x5x 1 rfl (x5x 2 rfl (x5x 3 rfl (x5x 4 rfl (x5x 5 rfl (x5x 6 rfl HE.nil))))))), rfl⟩
 try simp at hc5
 have hw : a6t proc n.g p = true := hc5
 refine y2y x9x (by rfl) ?_
 refine x1x rfl ?_
 refine y8y rfl z3z rfl rfl rfl ?_
 refine s4s (id := 8) u4u rfl z3z rfl rfl rfl rfl rfl rfl ?_
 refine s5s (zs := ((l.take i).filter (a6t proc n.g) ++ [p]).map v9v) rfl rfl u4u rfl z3z rfl rfl rfl rfl (by rfl) (a1c _ _ _) (by (simp only [List.length_map, List.length_append, List.length_cons, List.length_nil, List.length_take, List.length_range, T76]; omega)) ?_
 refine x2x rfl ?_
 refine hK4 _ _ ?_
 clear hK4 K4
 refine y2y x9x (by rfl) ?_
 refine y4y rfl rfl rfl ?_
 refine x1x rfl ?_
 exact ⟨i + 1, ⟨by omega, by omega⟩, [0, 0, 0, 0, 0, 0, 0, _, _, _, _], (x4x 5 rfl (Cov.cons' (t := 10) rfl (by rw [u9u (by omega) (by omega)]; rfl) Cov.nil)), (x4x 1 rfl (x4x 8 rfl (x4x 9 rfl Cov.nil))), (HE.row rfl (by rw [a1g hp]; rw [if_pos hw]) (HE.kill rfl (HE.kill rfl (HE.kill rfl HE.nil)))), (x5x 0 rfl (x5x 1 rfl (x5x 2 rfl (x5x 3 rfl (x5x 4 rfl (x5x 5 rfl (x5x 6 rfl HE.nil))))))), rfl⟩
theorem b5z (c : Bool) (n : Nd) (proc : Int) (hs : (a0l n).length + (a0i n 3).length ≤ 5000000) (hlen : n.lanes.length ≤ 1048576) (hv3 : n.views.length = 3) : Meth Tryz.prog 145 6 [0, 1, 2, 3, 4] [.ptr 4 0 0, .pv (.int .i64 proc)] [(0, (0, .row 62 3 ((n.lanes).map fun l => s9s l.base))), (1, (0, .row 63 1 ((n.lanes).map fun l => [a3p c l.done]))), (2, (0, .map (a7e c n.views))), (3, (0, .row 3 1 (n.known.map a2h))), (4, (0, .box 139 [pI n.id, pI n.inc, pI n.g, pI n.led, .ref 0 0, r7r c n.kept, a1j c n.outs, .pv (.bool n.up), .ref 1 0, pI n.version, .mp 2 0, .ref 3 0, pI n.round, pI n.low])), (5, (0, .dead))] (.ref 5 0) [(5, (0, .row 76 7 ((a6u n proc).map v9v)))] := by
 refine u7u x9x (fn := Tryz.f145) (by kernel_rfl) (by kernel_rfl) rfl (O0 := [.ref 5 0]) 6 4 (v7v rfl) (by rfl) (by repeat (first | exact BndH.nil | refine BndH.dead ?_ | refine BndH.box rfl ?_ | refine BndH.row (u6u fun _ => rfl) ?_ | refine BndH.map (a0t _ _) ?_ )) (by repeat (first | exact BndH.nil | refine BndH.row (u6u fun _ => rfl) ?_ )) (by rfl) fun γ => ?_
 show Ex Tryz.prog _ _ [(0, .ptr 4 (γ 4) 0), (1, .pv (.int .i64 proc))] [(0, ((γ 0), .row 62 3 ((n.lanes).map fun l => s9s l.base))), (1, ((γ 1), .row 63 1 ((n.lanes).map fun l => [a3p c l.done]))), (2, ((γ 2), .map (a7e c n.views))), (3, ((γ 3), .row 3 1 (n.known.map a2h))), (4, ((γ 4), .box 139 [pI n.id, pI n.inc, pI n.g, pI n.led, .ref 0 (γ 0), r7r c n.kept, a1j c n.outs, .pv (.bool n.up), .ref 1 (γ 1), pI n.version, .mp 2 (γ 2), .ref 3 (γ 3), pI n.round, pI n.low])), (5, ((γ 5), .dead)), (9, (0, .dead)), (8, (0, .dead)), (7, (0, .dead)), (6, (0, .dead))] _
 refine x6x x9x (by rfl) ?_
 refine b1u (id := 6) rfl rfl rfl rfl ?_
 refine b1u (id := 7) rfl rfl rfl rfl ?_
 refine x2x rfl ?_
 refine x6x x9x (by rfl) ?_
 refine x3x rfl b6x rfl rfl ?_
 refine v2v [0, 1, 2, 3, 4, 9] [_, _, _, _, _, _] (a9f c n (by omega) hlen) rfl rfl rfl (by decide) rfl rfl (by repeat (first | exact InH.nil | refine InH.cons rfl ?_)) (by (simp only [pI, z8z, z9z, p8p, gl, nx, p6p, Nat.beq]; rfl)) (by (simp only [pI, z8z, z9z, p8p, gl, nx, p6p, Nat.beq]; rfl)) ?_
 refine x2x rfl ?_
 refine x7x fun K1 hK1 => ?_
 refine x6x x9x (by rfl) ?_
 refine x1x rfl ?_
 refine y6y ?_
 refine u5u (ι := Nat) (fun i γ1 => [(5, .ref 9 (γ1 9)), (9, .pv (.int .i64 (i : Int)))]) (fun i γ1 => [(9, ((γ1 9), .row 76 7 ((a0l n ++ a0i n i).map v9v))), (8, ((γ1 8), .dead))]) (fun i => i ≤ 3) (fun i => 3 - i) (x4x 2 rfl (x4x 3 rfl Cov.nil)) (x5x 0 rfl (x5x 1 rfl (x5x 2 rfl (x5x 3 rfl (x5x 4 rfl (x5x 5 rfl (x5x 6 rfl (x5x 7 rfl HE.nil)))))))) 0 (by omega) [0, 0, 0, 0, 0, 0, 0, 0, _, _] (x4x 5 rfl (x4x 9 rfl Cov.nil)) (HE.row rfl (by simp [a0i]) (HE.kill rfl HE.nil)) rfl fun i γ1 hi => ?_
 try dsimp only [List.cons_append, List.nil_append]
 refine x6x x9x (by rfl) ?_
 refine y4y rfl rfl rfl ?_
 refine x7x fun K2 hK2 => ?_
 refine y0y rfl (fun hc3 => ?_) (fun hc3 => ?_)
 rotate_left
 ·try simp at hc3
  obtain rfl : i = 3 := by omega
  refine v0v ?_
  refine hK1 _ _ ?_
  clear hK2 K2 hK1 K1
  refine a3v 5 rfl rfl (fun _ => rfl) ?_
  refine x6x x9x (by rfl) ?_
  refine x1x rfl ?_
  refine a6k rfl rfl ?_
  refine v2v [0, 1, 2, 3, 4, 7, 6] [_, _, _, _, _, _, _] (a2u c n proc _ (by rw [List.length_append]; omega)) rfl rfl rfl (by decide) rfl rfl (by repeat (first | exact InH.nil | refine InH.cons rfl ?_)) (by (simp only [pI, z8z, z9z, p8p, gl, nx, p6p, Nat.beq]; rfl)) (by (simp only [pI, z8z, z9z, p8p, gl, nx, p6p, Nat.beq]; rfl)) ?_
  refine v2v [5] [_] (a5d true _ (Nat.le_trans (List.length_filter_le _ _) (by rw [List.length_append]; omega))) rfl rfl rfl (by decide) rfl rfl (by repeat (first | exact InH.nil | refine InH.cons rfl ?_)) (by (simp only [pI, z8z, z9z, p8p, gl, nx, p6p, Nat.beq]; rfl)) (by (simp only [pI, z8z, z9z, p8p, gl, nx, p6p, Nat.beq]; rfl)) ?_
  refine x2x rfl ?_
  refine y3y ?_
  exact ⟨.inr rfl, [γ 0, γ 1, γ 2, γ 3, γ 4, _], rfl, rfl, HE.row rfl rfl (x5x 0 rfl (x5x 1 rfl (x5x 2 rfl (x5x 3 rfl (x5x 4 rfl HE.nil)))))⟩
 try simp at hc3
 obtain ⟨v, hv⟩ : ∃ v, n.views[i]? = some v := w5w (by omega)
 have hg : n.views.getD i vi0 = v := by rw [List.getD_eq_getElem?_getD, hv]; rfl
 have hol := b7x n (i := i + 1) (by omega)
 rw [a0o] at hol
 refine y1y ?_
 refine hK2 _ _ ?_
 clear hK2 K2
 refine x7x fun K4 hK4 => ?_
 refine y6y ?_
 refine x6x x9x (by rfl) ?_
 refine x1x rfl ?_
 refine x2x rfl ?_
 refine x6x x9x (by rfl) ?_
 refine x1x rfl ?_
 refine x3x rfl b6x rfl rfl ?_
 refine w3w rfl rfl ?_
 refine x0x rfl r3r rfl rfl s1s rfl rfl ?_
 refine x0x rfl s1s rfl rfl y9y rfl rfl ?_
 refine x3x rfl y9y rfl rfl ?_
 refine y4y rfl rfl rfl ?_
 refine y0y rfl (fun hc5 => ?_) (fun hc5 => ?_)
 rotate_left
 ·try simp at hc5
  have hve : a9m n i = [] := by rw [a9m, if_pos (by exact hc5)]
  refine y1y ?_
  refine hK4 _ _ ?_
  clear hK4 K4
  refine y2y x9x (by rfl) ?_
  refine y4y rfl rfl rfl ?_
  refine x1x rfl ?_
  exact ⟨i + 1, ⟨by omega, by omega⟩, [0, 0, 0, 0, 0, 0, 0, 0, _, _], (x4x 5 rfl (Cov.cons' (t := 9) rfl (by rw [u9u (by omega) (by omega)]; rfl) Cov.nil)), (x4x 2 rfl (x4x 3 rfl Cov.nil)), (HE.row rfl (by rw [a0o, hve]; simp) (HE.kill rfl HE.nil)), (x5x 0 rfl (x5x 1 rfl (x5x 2 rfl (x5x 3 rfl (x5x 4 rfl (x5x 5 rfl (x5x 6 rfl (x5x 7 rfl HE.nil)))))))), rfl⟩
 try simp at hc5
 have hve : a9m n i = v.events := by rw [a9m, if_neg (by exact hc5), hg]
 rw [hve] at hol
 simp only [List.length_append] at hol
 refine y2y x9x (by rfl) ?_
 refine x1x rfl ?_
 refine x3x rfl b6x rfl rfl ?_
 refine w3w rfl rfl ?_
 refine x0x rfl r3r rfl rfl a6e rfl rfl ?_
 refine x3x rfl a6e rfl rfl ?_
 refine x1x rfl ?_
 refine a2s (κ := Int) (enc := fun n => .int .i64 n) (ks := b2h n.views.length) (k := (i : Int)) (out := .agg (a1n c v)) x9x Tryz.underlying137 (a6j Tryz.underlying3) rfl rfl (fun _ _ _ h => c5f h) rfl (a6o _ _) (b3y hv) ?_
 refine c6i rfl v6v rfl rfl u4u rfl ?_
 refine a1e (zs := (a0l n ++ a0i n i ++ v.events).map v9v) rfl rfl u4u rfl z3z rfl rfl rfl (by exact a0m (fun _ => rfl) _) (b4q _ _ _) (by have hb56 : T76.bytes = 56 := rfl; rw [List.length_map, hb56]; simp only [List.length_append]; omega) ?_
 refine x2x rfl ?_
 refine hK4 _ _ ?_
 clear hK4 K4
 refine y2y x9x (by rfl) ?_
 refine y4y rfl rfl rfl ?_
 refine x1x rfl ?_
 exact ⟨i + 1, ⟨by omega, by omega⟩, [0, 0, 0, 0, 0, 0, 0, 0, _, _], (x4x 5 rfl (Cov.cons' (t := 9) rfl (by rw [u9u (by omega) (by omega)]; rfl) Cov.nil)), (x4x 2 rfl (x4x 3 rfl Cov.nil)), (HE.row rfl (by rw [a0o, hve]; simp) (HE.kill rfl HE.nil)), (x5x 0 rfl (x5x 1 rfl (x5x 2 rfl (x5x 3 rfl (x5x 4 rfl (x5x 5 rfl (x5x 6 rfl (x5x 7 rfl HE.nil)))))))), rfl⟩
end
end Go.Proofs.YtpadkogpeobboaaGreat.Am
