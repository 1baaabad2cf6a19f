/- Part 4 of the texts that the proof of LawFnExactNodeReport leans on, merged by program. -/
import Derived.Test.YtpadkogpeobboaaGreatKi3
set_option linter.unusedVariables false
set_option linter.unusedSimpArgs false
namespace Go.Proofs.YtpadkogpeobboaaGreat.Am
open Go Go.RowKit
section
theorem a9i (e : Ev) : s8s Tryz.prog 136 [.agg (v6v e)] (.agg (v6v e)) := by
 refine z1z x6x (fn := Tryz.f136) (by kernel_rfl) (by kernel_rfl) rfl (outs := [.agg (v6v e)]) (by rfl) (Nat.le_of_ble_eq_true rfl) 3 ?_
 refine x4x x6x (by rfl) ?_
 refine v1v (id := 0) rfl rfl rfl ?_
 refine u8u (id := 1) z3z a7c rfl ?_
 refine x4x x6x (by rfl) ?_
 refine u8u (id := 2) z3z a7c rfl ?_
 refine x4x x6x (by rfl) ?_
 refine x0x rfl a6j rfl rfl y6y rfl rfl ?_
 refine x3x rfl y6y rfl rfl ?_
 refine x0x rfl z3z rfl rfl y6y rfl rfl ?_
 refine u4u rfl rfl y6y rfl rfl rfl rfl rfl (by simp only [List.set_cons_zero, List.set_cons_succ]; rfl) ?_
 refine x4x x6x (by rfl) ?_
 refine x0x rfl a6j rfl rfl y6y rfl rfl ?_
 refine x3x rfl y6y rfl rfl ?_
 refine x0x rfl z3z rfl rfl y6y rfl rfl ?_
 refine u4u rfl rfl y6y rfl rfl rfl rfl rfl (by simp only [List.set_cons_zero, List.set_cons_succ]; rfl) ?_
 refine x4x x6x (by rfl) ?_
 refine x0x rfl a6j rfl rfl y6y rfl rfl ?_
 refine x3x rfl y6y rfl rfl ?_
 refine x0x rfl z3z rfl rfl y6y rfl rfl ?_
 refine u4u rfl rfl y6y rfl rfl rfl rfl rfl (by simp only [List.set_cons_zero, List.set_cons_succ]; rfl) ?_
 refine x4x x6x (by rfl) ?_
 refine x0x rfl a6j rfl rfl y6y rfl rfl ?_
 refine x3x rfl y6y rfl rfl ?_
 refine x0x rfl z3z rfl rfl y6y rfl rfl ?_
 refine u4u rfl rfl y6y rfl rfl rfl rfl rfl (by simp only [List.set_cons_zero, List.set_cons_succ]; rfl) ?_
 refine x4x x6x (by rfl) ?_
 refine x0x rfl a6j rfl rfl y6y rfl rfl ?_
 refine x3x rfl y6y rfl rfl ?_
 refine x0x rfl z3z rfl rfl y6y rfl rfl ?_
 refine u4u rfl rfl y6y rfl rfl rfl rfl rfl (by simp only [List.set_cons_zero, List.set_cons_succ]; rfl) ?_
 refine x4x x6x (by rfl) ?_
 refine x0x rfl a6j rfl rfl y6y rfl rfl ?_
 refine x3x rfl y6y rfl rfl ?_
 refine x0x rfl z3z rfl rfl y6y rfl rfl ?_
 refine u4u rfl rfl y6y rfl rfl rfl rfl rfl (by simp only [List.set_cons_zero, List.set_cons_succ]; rfl) ?_
 refine x4x x6x (by rfl) ?_
 refine x0x rfl a6j rfl rfl y6y rfl rfl ?_
 refine x3x rfl y6y rfl rfl ?_
 refine x0x rfl z3z rfl rfl y6y rfl rfl ?_
 refine u4u rfl rfl y6y rfl rfl rfl rfl rfl (by simp only [List.set_cons_zero, List.set_cons_succ]; rfl) ?_
 refine x4x x6x (by rfl) ?_
 refine y4y rfl z3z rfl rfl rfl ?_
 refine z5z rfl rfl z3z rfl rfl rfl rfl ?_
 refine y0y ⟨.inr rfl, ?_⟩
 exact b4q rfl rfl rfl rfl
theorem c1s (e : Ou) : s8s Tryz.prog 185 [.agg (s2s e)] (.agg (s2s e)) := by
 refine z1z x6x (fn := Tryz.f185) (by kernel_rfl) (by kernel_rfl) rfl (outs := [.agg (s2s e)]) (by rfl) (Nat.le_of_ble_eq_true rfl) 3 ?_
 refine x4x x6x (by rfl) ?_
 refine v1v (id := 0) rfl rfl rfl ?_
 refine u8u (id := 1) v2v b7h rfl ?_
 refine x4x x6x (by rfl) ?_
 refine u8u (id := 2) v2v b7h rfl ?_
 refine x4x x6x (by rfl) ?_
 refine x0x rfl b0s rfl rfl y6y rfl rfl ?_
 refine x3x rfl y6y rfl rfl ?_
 refine x0x rfl v2v rfl rfl y6y rfl rfl ?_
 refine u4u rfl rfl y6y rfl rfl rfl rfl rfl (by simp only [List.set_cons_zero, List.set_cons_succ]; rfl) ?_
 refine x4x x6x (by rfl) ?_
 refine x0x rfl b0s rfl rfl y6y rfl rfl ?_
 refine x3x rfl y6y rfl rfl ?_
 refine x0x rfl v2v rfl rfl y6y rfl rfl ?_
 refine u4u rfl rfl y6y rfl rfl rfl rfl rfl (by simp only [List.set_cons_zero, List.set_cons_succ]; rfl) ?_
 refine x4x x6x (by rfl) ?_
 refine x0x rfl b0s rfl rfl y6y rfl rfl ?_
 refine x3x rfl y6y rfl rfl ?_
 refine x0x rfl v2v rfl rfl y6y rfl rfl ?_
 refine u4u rfl rfl y6y rfl rfl rfl rfl rfl (by simp only [List.set_cons_zero, List.set_cons_succ]; rfl) ?_
 refine x4x x6x (by rfl) ?_
 refine x0x rfl b0s rfl rfl y6y rfl rfl ?_
 refine x3x rfl y6y rfl rfl ?_
 refine x0x rfl v2v rfl rfl y6y rfl rfl ?_
 refine u4u rfl rfl y6y rfl rfl rfl rfl rfl (by simp only [List.set_cons_zero, List.set_cons_succ]; rfl) ?_
 refine x4x x6x (by rfl) ?_
 refine x0x rfl b0s rfl rfl y6y rfl rfl ?_
 refine x3x rfl y6y rfl rfl ?_
 refine x0x rfl v2v rfl rfl y6y rfl rfl ?_
 refine u4u rfl rfl y6y rfl rfl rfl rfl rfl (by simp only [List.set_cons_zero, List.set_cons_succ]; rfl) ?_
 refine x4x x6x (by rfl) ?_
 refine y4y rfl v2v rfl rfl rfl ?_
 refine z5z rfl rfl v2v rfl rfl rfl rfl ?_
 refine y0y ⟨.inr rfl, ?_⟩
 exact b4q rfl rfl rfl rfl
theorem a9j (e : St) : s8s Tryz.prog 227 [.agg (a0e e)] (.agg (a0e e)) := by
 refine z1z x6x (fn := Tryz.f227) (by kernel_rfl) (by kernel_rfl) rfl (outs := [.agg (a0e e)]) (by rfl) (Nat.le_of_ble_eq_true rfl) 3 ?_
 refine x4x x6x (by rfl) ?_
 refine v1v (id := 0) rfl rfl rfl ?_
 refine u8u (id := 1) q5q d4g rfl ?_
 refine x4x x6x (by rfl) ?_
 refine u8u (id := 2) q5q d4g rfl ?_
 refine x4x x6x (by rfl) ?_
 refine x0x rfl b0r rfl rfl y6y rfl rfl ?_
 refine x3x rfl y6y rfl rfl ?_
 refine x0x rfl q5q rfl rfl y6y rfl rfl ?_
 refine u4u rfl rfl y6y rfl rfl rfl rfl rfl (by simp only [List.set_cons_zero, List.set_cons_succ]; rfl) ?_
 refine x4x x6x (by rfl) ?_
 refine x0x rfl b0r rfl rfl y6y rfl rfl ?_
 refine x3x rfl y6y rfl rfl ?_
 refine x0x rfl q5q rfl rfl y6y rfl rfl ?_
 refine u4u rfl rfl y6y rfl rfl rfl rfl rfl (by simp only [List.set_cons_zero, List.set_cons_succ]; rfl) ?_
 refine x4x x6x (by rfl) ?_
 refine x0x rfl b0r rfl rfl y6y rfl rfl ?_
 refine x3x rfl y6y rfl rfl ?_
 refine x0x rfl q5q rfl rfl y6y rfl rfl ?_
 refine u4u rfl rfl y6y rfl rfl rfl rfl rfl (by simp only [List.set_cons_zero, List.set_cons_succ]; rfl) ?_
 refine x4x x6x (by rfl) ?_
 refine y4y rfl q5q rfl rfl rfl ?_
 refine z5z rfl rfl q5q rfl rfl rfl rfl ?_
 refine y0y ⟨.inr rfl, ?_⟩
 exact b4q rfl rfl rfl rfl
theorem a4y (c : Bool) (l : List Ev) (hl : l.length ≤ 1048576) : Meth Tryz.prog 53 1 [] [a1n c l] [(0, (0, .dead))] (.ref 0 0) [(0, (0, .row 76 7 (l.map v6v)))] := by
 refine u9u x6x (fn := Tryz.f53) (by kernel_rfl) (by kernel_rfl) rfl (O0 := [.ref 0 0]) 1 0 (Nat.le_of_ble_eq_true rfl) (by rfl) (by repeat (first | exact BndH.nil | refine BndH.dead ?_)) (by repeat (first | exact BndH.nil | refine BndH.row (u3u fun _ => rfl) ?_)) (by rfl) fun γ => ?_
 show Ex Tryz.prog _ _ [(0, a1n c l)] [(0, ((γ 0), .dead))] _
 refine x4x x6x (by rfl) ?_
 refine x2x rfl ?_
 refine x4x x6x (by rfl) ?_
 refine x1x rfl ?_
 refine u0u rfl a7b rfl ?_
 refine a4l (id := 0) u7u rfl z3z a7c rfl rfl rfl rfl (by (simp only [List.length_map, List.length_append, List.length_cons, List.length_nil, List.length_take, T76]; omega)) rfl ?_
 refine x2x rfl ?_
 refine x5x fun K1 hK1 => ?_
 refine x4x x6x (by rfl) ?_
 refine x2x rfl ?_
 refine y7y ?_
 refine u5u (ι := Nat) (fun i γ1 => [(4, .pv (.int .i64 (i : Int)))]) (fun i γ1 => [(0, ((γ 0 + 1), .row 76 7 ((l.take i).map v6v ++ (l.drop i).map fun _ => [pI 0, pI 0, pI 0, pI 0, pI 0, pI 0, pI 0])))]) (fun i => i ≤ l.length) (fun i => l.length - i) (Cov.cons (t := 0) rfl (Cov.cons (t := 3) rfl Cov.nil)) HE.nil 0 (by omega) [] (Cov.cons (t := 4) rfl Cov.nil) (HE.row rfl (by rw [List.take_zero, List.drop_zero, List.map_const']; rfl) HE.nil) rfl fun i γ1 hi => ?_
 try dsimp only [List.cons_append, List.nil_append]
 refine x5x fun K2 hK2 => ?_
 refine x4x x6x (by rfl) ?_
 refine x1x rfl ?_
 refine x1x rfl ?_
 refine u0u rfl a7b rfl ?_
 refine y1y rfl rfl rfl ?_
 refine x8x rfl (fun hc3 => ?_) (fun hc3 => ?_)
 rotate_left
 ·try simp at hc3
  obtain rfl : i = l.length := by omega
  refine v0v ?_
  refine hK1 _ _ ?_
  clear hK2 K2 hK1 K1
  refine x4x x6x (by rfl) ?_
  refine x1x rfl ?_
  refine x2x rfl ?_
  refine y0y ?_
  exact ⟨.inr rfl, [_], rfl, rfl, HE.row rfl (by rw [List.take_length, List.drop_length, List.map_nil, List.append_nil]) HE.nil⟩
 try simp at hc3
 obtain ⟨p, hp⟩ : ∃ p, l[i]? = some p := ⟨_, List.getElem?_eq_getElem (by omega)⟩
 have hAl : ((l.take i).map v6v).length = i := by rw [List.length_map, List.length_take]; omega
 rw [q1q hp, List.map_cons]
 refine x9x ?_
 refine hK2 _ _ ?_
 clear hK2 K2
 refine x5x fun K4 hK4 => ?_
 refine y7y ?_
 refine y3y x6x (by rfl) ?_
 refine x1x rfl ?_
 refine x1x rfl ?_
 refine x1x rfl ?_
 refine x1x rfl ?_
 refine z7z rfl rfl a7b rfl a6j rfl (by assumption) ?_
 refine z6z rfl a6j rfl rfl ?_
 refine y9y rfl rfl rfl (a9i p) ?_
 refine q0q rfl rfl u7u rfl z3z rfl rfl hAl ?_
 refine a1p hAl rfl rfl z3z rfl rfl rfl rfl (a2f _) rfl ?_
 refine hK4 _ _ ?_
 clear hK4 K4
 refine y3y x6x (by rfl) ?_
 refine x1x rfl ?_
 refine y1y rfl rfl rfl ?_
 refine x2x rfl ?_
 exact ⟨i + 1, ⟨by omega, by omega⟩, [], (Cov.cons' (t := 4) rfl (by rw [v3v (by omega) (by omega)]; rfl) Cov.nil), (Cov.cons (t := 0) rfl (Cov.cons (t := 3) rfl Cov.nil)), (HE.row rfl (by rw [p0p hp, List.map_append, List.append_assoc]; rfl) HE.nil), HE.nil, rfl⟩
theorem b1n (c : Bool) (l : List Ou) (hl : l.length ≤ 1048576) : Meth Tryz.prog 101 1 [] [a3k c l] [(0, (0, .dead))] (.ref 0 0) [(0, (0, .row 104 5 (l.map s2s)))] := by
 refine u9u x6x (fn := Tryz.f101) (by kernel_rfl) (by kernel_rfl) rfl (O0 := [.ref 0 0]) 1 0 (Nat.le_of_ble_eq_true rfl) (by rfl) (by repeat (first | exact BndH.nil | refine BndH.dead ?_)) (by repeat (first | exact BndH.nil | refine BndH.row (u3u fun _ => rfl) ?_)) (by rfl) fun γ => ?_
 show Ex Tryz.prog _ _ [(0, a3k c l)] [(0, ((γ 0), .dead))] _
 refine x4x x6x (by rfl) ?_
 refine x2x rfl ?_
 refine x4x x6x (by rfl) ?_
 refine x1x rfl ?_
 refine u0u rfl b0q rfl ?_
 refine a4l (id := 0) w6w rfl v2v b7h rfl rfl rfl rfl (by (simp only [List.length_map, List.length_append, List.length_cons, List.length_nil, List.length_take, T104]; omega)) rfl ?_
 refine x2x rfl ?_
 refine x5x fun K1 hK1 => ?_
 refine x4x x6x (by rfl) ?_
 refine x2x rfl ?_
 refine y7y ?_
 refine u5u (ι := Nat) (fun i γ1 => [(4, .pv (.int .i64 (i : Int)))]) (fun i γ1 => [(0, ((γ 0 + 1), .row 104 5 ((l.take i).map s2s ++ (l.drop i).map fun _ => [pI 0, pI 0, pI 0, pI 0, pI 0])))]) (fun i => i ≤ l.length) (fun i => l.length - i) (Cov.cons (t := 0) rfl (Cov.cons (t := 3) rfl Cov.nil)) HE.nil 0 (by omega) [] (Cov.cons (t := 4) rfl Cov.nil) (HE.row rfl (by rw [List.take_zero, List.drop_zero, List.map_const']; rfl) HE.nil) rfl fun i γ1 hi => ?_
 try dsimp only [List.cons_append, List.nil_append]
 refine x5x fun K2 hK2 => ?_
 refine x4x x6x (by rfl) ?_
 refine x1x rfl ?_
 refine x1x rfl ?_
 refine u0u rfl b0q rfl ?_
 refine y1y rfl rfl rfl ?_
 refine x8x rfl (fun hc3 => ?_) (fun hc3 => ?_)
 rotate_left
 ·try simp at hc3
  obtain rfl : i = l.length := by omega
  refine v0v ?_
  refine hK1 _ _ ?_
  clear hK2 K2 hK1 K1
  refine x4x x6x (by rfl) ?_
  refine x1x rfl ?_
  refine x2x rfl ?_
  refine y0y ?_
  exact ⟨.inr rfl, [_], rfl, rfl, HE.row rfl (by rw [List.take_length, List.drop_length, List.map_nil, List.append_nil]) HE.nil⟩
 try simp at hc3
 obtain ⟨p, hp⟩ : ∃ p, l[i]? = some p := ⟨_, List.getElem?_eq_getElem (by omega)⟩
 have hAl : ((l.take i).map s2s).length = i := by rw [List.length_map, List.length_take]; omega
 rw [q1q hp, List.map_cons]
 refine x9x ?_
 refine hK2 _ _ ?_
 clear hK2 K2
 refine x5x fun K4 hK4 => ?_
 refine y7y ?_
 refine y3y x6x (by rfl) ?_
 refine x1x rfl ?_
 refine x1x rfl ?_
 refine x1x rfl ?_
 refine x1x rfl ?_
 refine z7z rfl rfl b0q rfl b0s rfl (by assumption) ?_
 refine z6z rfl b0s rfl rfl ?_
 refine y9y rfl rfl rfl (c1s p) ?_
 refine q0q rfl rfl w6w rfl v2v rfl rfl hAl ?_
 refine a1p hAl rfl rfl v2v rfl rfl rfl rfl (a2f _) rfl ?_
 refine hK4 _ _ ?_
 clear hK4 K4
 refine y3y x6x (by rfl) ?_
 refine x1x rfl ?_
 refine y1y rfl rfl rfl ?_
 refine x2x rfl ?_
 exact ⟨i + 1, ⟨by omega, by omega⟩, [], (Cov.cons' (t := 4) rfl (by rw [v3v (by omega) (by omega)]; rfl) Cov.nil), (Cov.cons (t := 0) rfl (Cov.cons (t := 3) rfl Cov.nil)), (HE.row rfl (by rw [p0p hp, List.map_append, List.append_assoc]; rfl) HE.nil), HE.nil, rfl⟩
theorem b9h (c : Bool) (p : Pa) (hs : p.sends.length ≤ 1048576) (ho : p.outs.length ≤ 1048576) : Meth Tryz.prog 253 2 [] [.agg (a2c c p)] [(0, (0, .dead)), (1, (0, .dead))] (.agg [pI p.ev.time, pI p.ev.to, pI p.ev.from', pI p.ev.count, pI p.ev.n, pI p.ev.kind, pI p.ev.arg, pI p.after.x, pI p.after.y, pI p.after.count, .ref 0 0, .ref 1 0]) [(0, (0, .row 76 7 (p.sends.map v6v))), (1, (0, .row 104 5 (p.outs.map s2s)))] := by
 refine u9u x6x (fn := Tryz.f253) (by kernel_rfl) (by kernel_rfl) rfl (O0 := [.agg [pI p.ev.time, pI p.ev.to, pI p.ev.from', pI p.ev.count, pI p.ev.n, pI p.ev.kind, pI p.ev.arg, pI p.after.x, pI p.after.y, pI p.after.count, .ref 0 0, .ref 1 0]]) 2 3 (Nat.le_of_ble_eq_true rfl) (by rfl) (by repeat (first | exact BndH.nil | refine BndH.dead ?_)) (by repeat (first | exact BndH.nil | refine BndH.row (u3u fun _ => rfl) ?_)) (by rfl) fun γ => ?_
 show Ex Tryz.prog _ _ [(0, .agg (a2c c p))] [(0, ((γ 0), .dead)), (1, ((γ 1), .dead)), (4, (0, .dead)), (3, (0, .dead)), (2, (0, .dead))] _
 refine x4x x6x (by rfl) ?_
 refine v1v (id := 2) rfl rfl rfl ?_
 refine u8u (id := 3) v8v b4n rfl ?_
 refine x4x x6x (by rfl) ?_
 refine u8u (id := 4) v8v b4n rfl ?_
 refine x4x x6x (by rfl) ?_
 refine x0x rfl a7j rfl rfl a6j rfl rfl ?_
 refine x3x (out := .agg (v6v p.ev)) rfl a6j rfl rfl ?_
 refine y9y rfl rfl rfl (a9i ..) ?_
 refine x0x rfl v8v rfl rfl z3z rfl rfl ?_
 refine a3d (cs' := [pI p.ev.time, pI p.ev.to, pI p.ev.from', pI p.ev.count, pI p.ev.n, pI p.ev.kind, pI p.ev.arg, pI 0, pI 0, pI 0, .pv (.slice none 0 0), .pv (.slice none 0 0)]) rfl rfl z3z rfl rfl rfl rfl (Nat.le_of_ble_eq_true rfl) rfl ?_
 refine x4x x6x (by rfl) ?_
 refine x0x rfl a7j rfl rfl b0r rfl rfl ?_
 refine x3x (out := .agg (a0e p.after)) rfl b0r rfl rfl ?_
 refine y9y rfl rfl rfl (a9j ..) ?_
 refine x0x rfl v8v rfl rfl q5q rfl rfl ?_
 refine a3d (cs' := [pI p.ev.time, pI p.ev.to, pI p.ev.from', pI p.ev.count, pI p.ev.n, pI p.ev.kind, pI p.ev.arg, pI p.after.x, pI p.after.y, pI p.after.count, .pv (.slice none 0 0), .pv (.slice none 0 0)]) rfl rfl q5q rfl rfl rfl rfl (Nat.le_of_ble_eq_true rfl) rfl ?_
 refine x4x x6x (by rfl) ?_
 refine x0x rfl a7j rfl rfl a7b rfl rfl ?_
 refine x3x rfl a7b rfl rfl ?_
 refine v5v [0] [_] (a4y c p.sends hs) rfl rfl rfl (by decide) rfl rfl (by repeat (first | exact InH.nil | refine InH.cons rfl ?_)) (by (simp only [pI, List.map_cons, List.map_nil, u1u, u2u, gl, nx, q4q, Nat.beq, Nat.add_eq, List.getD_cons_zero, List.getD_cons_succ, List.getD_nil, Bool.or_false, Bool.false_or, Bool.true_or, Bool.or_true, Nat.add_zero, Nat.zero_add]; rfl)) (by (simp only [pI, List.map_cons, List.map_nil, u1u, u2u, gl, nx, q4q, Nat.beq, Nat.add_eq, List.getD_cons_zero, List.getD_cons_succ, List.getD_nil, Bool.or_false, Bool.false_or, Bool.true_or, Bool.or_true, Nat.add_zero, Nat.zero_add]; rfl)) ?_
 refine x0x rfl v8v rfl rfl u7u rfl rfl ?_
 refine u4u rfl rfl u7u rfl rfl rfl rfl rfl (by simp only [List.set_cons_zero, List.set_cons_succ]; rfl) ?_
 refine x4x x6x (by rfl) ?_
 refine x0x rfl a7j rfl rfl b0q rfl rfl ?_
 refine x3x rfl b0q rfl rfl ?_
 refine v5v [1] [_] (b1n c p.outs ho) rfl rfl rfl (by decide) rfl rfl (by repeat (first | exact InH.nil | refine InH.cons rfl ?_)) (by (simp only [pI, List.map_cons, List.map_nil, u1u, u2u, gl, nx, q4q, Nat.beq, Nat.add_eq, List.getD_cons_zero, List.getD_cons_succ, List.getD_nil, Bool.or_false, Bool.false_or, Bool.true_or, Bool.or_true, Nat.add_zero, Nat.zero_add]; rfl)) (by (simp only [pI, List.map_cons, List.map_nil, u1u, u2u, gl, nx, q4q, Nat.beq, Nat.add_eq, List.getD_cons_zero, List.getD_cons_succ, List.getD_nil, Bool.or_false, Bool.false_or, Bool.true_or, Bool.or_true, Nat.add_zero, Nat.zero_add]; rfl)) ?_
 refine x0x rfl v8v rfl rfl w6w rfl rfl ?_
 refine u4u rfl rfl w6w rfl rfl rfl rfl rfl (by simp only [List.set_cons_zero, List.set_cons_succ]; rfl) ?_
 refine x4x x6x (by rfl) ?_
 refine y4y rfl v8v rfl rfl rfl ?_
 refine z5z rfl rfl v8v rfl rfl rfl rfl ?_
 refine y0y ?_
 exact ⟨.inr rfl, [_, _], rfl, rfl, HE.row rfl rfl (HE.row rfl rfl HE.nil)⟩
theorem b6n (c : Bool) (l : List Pa) (hl : b8t l ≤ 1048576) : Meth Tryz.prog 228 1 [] [a7l c l] [(0, (0, .dead))] (.ref 0 0) [(0, (0, .row 78 12 (l.map a1u)))] := by
 refine u9u x6x (fn := Tryz.f228) (by kernel_rfl) (by kernel_rfl) rfl (O0 := [.ref 0 0]) 1 2 (Nat.le_of_ble_eq_true rfl) (by rfl) (by repeat (first | exact BndH.nil | refine BndH.dead ?_)) (by repeat (first | exact BndH.nil | refine BndH.row (u3u fun _ => rfl) ?_)) (by rfl) fun γ => ?_
 show Ex Tryz.prog _ _ [(0, a7l c l)] [(0, ((γ 0), .dead)), (2, (0, .dead)), (1, (0, .dead))] _
 have hc : b8t l = l.length + szs cPa l := rfl
 refine x4x x6x (by rfl) ?_
 refine x2x rfl ?_
 refine x4x x6x (by rfl) ?_
 refine x1x rfl ?_
 refine u0u rfl a7x rfl ?_
 refine a4l (id := 0) v9v rfl v8v b4n rfl rfl rfl rfl (by (simp only [List.length_map, List.length_append, List.length_cons, List.length_nil, List.length_take, T78]; omega)) rfl ?_
 refine x2x rfl ?_
 refine x5x fun K1 hK1 => ?_
 refine x4x x6x (by rfl) ?_
 refine x2x rfl ?_
 refine y7y ?_
 refine u5u (ι := Nat) (fun i γ1 => [(4, .pv (.int .i64 (i : Int)))]) (fun i γ1 => [(1, ((γ1 1), .dead)), (2, ((γ1 2), .dead)), (0, ((γ 0 + 1), .row 78 12 ((l.take i).map a1u ++ (l.drop i).map fun _ => [pI 0, pI 0, pI 0, pI 0, pI 0, pI 0, pI 0, pI 0, pI 0, pI 0, .pv (.slice none 0 0), .pv (.slice none 0 0)])))]) (fun i => i ≤ l.length) (fun i => l.length - i) (Cov.cons (t := 0) rfl (Cov.cons (t := 3) rfl Cov.nil)) HE.nil 0 (by omega) [0, _, _] (Cov.cons (t := 4) rfl Cov.nil) (HE.kill rfl (HE.kill rfl (HE.row rfl (by rw [List.take_zero, List.drop_zero, List.map_const']; rfl) HE.nil))) rfl fun i γ1 hi => ?_
 try dsimp only [List.cons_append, List.nil_append]
 refine x5x fun K2 hK2 => ?_
 refine x4x x6x (by rfl) ?_
 refine x1x rfl ?_
 refine x1x rfl ?_
 refine u0u rfl a7x rfl ?_
 refine y1y rfl rfl rfl ?_
 refine x8x rfl (fun hc3 => ?_) (fun hc3 => ?_)
 rotate_left
 ·try simp at hc3
  obtain rfl : i = l.length := by omega
  refine v0v ?_
  refine hK1 _ _ ?_
  clear hK2 K2 hK1 K1
  refine x4x x6x (by rfl) ?_
  refine x1x rfl ?_
  refine x2x rfl ?_
  refine y0y ?_
  exact ⟨.inr rfl, [_], rfl, rfl, HE.row rfl (by rw [List.take_length, List.drop_length, List.map_nil, List.append_nil]) HE.nil⟩
 try simp at hc3
 obtain ⟨p, hp⟩ : ∃ p, l[i]? = some p := ⟨_, List.getElem?_eq_getElem (by omega)⟩
 have hAl : ((l.take i).map a1u).length = i := by rw [List.length_map, List.length_take]; omega
 rw [q1q hp, List.map_cons]
 have hat := a1z cPa hp
 have hcp : cPa p = p.sends.length + p.outs.length := rfl
 refine x9x ?_
 refine hK2 _ _ ?_
 clear hK2 K2
 refine x5x fun K4 hK4 => ?_
 refine y7y ?_
 refine y3y x6x (by rfl) ?_
 refine x1x rfl ?_
 refine x1x rfl ?_
 refine x1x rfl ?_
 refine x1x rfl ?_
 refine z7z rfl rfl a7x rfl a7j rfl (by assumption) ?_
 refine z6z rfl a7j rfl rfl ?_
 refine v5v [1, 2] [_, _] (b9h c p (by omega) (by omega)) rfl rfl rfl (by decide) rfl rfl (by repeat (first | exact InH.nil | refine InH.cons rfl ?_)) (by (simp only [pI, List.map_cons, List.map_nil, u1u, u2u, gl, nx, q4q, Nat.beq, Nat.add_eq, List.getD_cons_zero, List.getD_cons_succ, List.getD_nil, Bool.or_false, Bool.false_or, Bool.true_or, Bool.or_true, Nat.add_zero, Nat.zero_add]; rfl)) (by (simp only [pI, List.map_cons, List.map_nil, u1u, u2u, gl, nx, q4q, Nat.beq, Nat.add_eq, List.getD_cons_zero, List.getD_cons_succ, List.getD_nil, Bool.or_false, Bool.false_or, Bool.true_or, Bool.or_true, Nat.add_zero, Nat.zero_add]; rfl)) ?_
 refine q0q rfl rfl v9v rfl v8v rfl rfl hAl ?_
 refine a1p hAl rfl rfl v8v rfl rfl rfl rfl (d1v rfl rfl rfl) rfl ?_
 refine hK4 _ _ ?_
 clear hK4 K4
 refine y3y x6x (by rfl) ?_
 refine x1x rfl ?_
 refine y1y rfl rfl rfl ?_
 refine x2x rfl ?_
 exact ⟨i + 1, ⟨by omega, by omega⟩, [0, _, _], (Cov.cons' (t := 4) rfl (by rw [v3v (by omega) (by omega)]; rfl) Cov.nil), (Cov.cons (t := 0) rfl (Cov.cons (t := 3) rfl Cov.nil)), (HE.kill rfl (HE.kill rfl (HE.row rfl (by rw [p0p hp, List.map_append, List.append_assoc]; rfl) HE.nil))), HE.nil, rfl⟩
theorem b9i (c : Bool) (p : La) (hs : b8t p.done ≤ 1048576) : Meth Tryz.prog 184 1 [] [.agg (a1q c p)] [(0, (0, .dead))] (.agg [pI p.proc, pI p.base.x, pI p.base.y, pI p.base.count, .ref 0 0]) [(0, (0, .row 78 12 (p.done.map a1u)))] := by
 refine u9u x6x (fn := Tryz.f184) (by kernel_rfl) (by kernel_rfl) rfl (O0 := [.agg [pI p.proc, pI p.base.x, pI p.base.y, pI p.base.count, .ref 0 0]]) 1 3 (Nat.le_of_ble_eq_true rfl) (by rfl) (by repeat (first | exact BndH.nil | refine BndH.dead ?_)) (by repeat (first | exact BndH.nil | refine BndH.row (u3u fun _ => rfl) ?_)) (by rfl) fun γ => ?_
 show Ex Tryz.prog _ _ [(0, .agg (a1q c p))] [(0, ((γ 0), .dead)), (3, (0, .dead)), (2, (0, .dead)), (1, (0, .dead))] _
 refine x4x x6x (by rfl) ?_
 refine v1v (id := 1) rfl rfl rfl ?_
 refine u8u (id := 2) v4v a9u rfl ?_
 refine x4x x6x (by rfl) ?_
 refine u8u (id := 3) v4v a9u rfl ?_
 refine x4x x6x (by rfl) ?_
 refine x0x rfl a9b rfl rfl y6y rfl rfl ?_
 refine x3x rfl y6y rfl rfl ?_
 refine x0x rfl v4v rfl rfl y6y rfl rfl ?_
 refine u4u rfl rfl y6y rfl rfl rfl rfl rfl (by simp only [List.set_cons_zero, List.set_cons_succ]; rfl) ?_
 refine x4x x6x (by rfl) ?_
 refine x0x rfl a9b rfl rfl b0r rfl rfl ?_
 refine x3x (out := .agg (a0e p.base)) rfl b0r rfl rfl ?_
 refine y9y rfl rfl rfl (a9j ..) ?_
 refine x0x rfl v4v rfl rfl q5q rfl rfl ?_
 refine a3d (cs' := [pI p.proc, pI p.base.x, pI p.base.y, pI p.base.count, .pv (.slice none 0 0)]) rfl rfl q5q rfl rfl rfl rfl (Nat.le_of_ble_eq_true rfl) rfl ?_
 refine x4x x6x (by rfl) ?_
 refine x0x rfl a9b rfl rfl a7x rfl rfl ?_
 refine x3x rfl a7x rfl rfl ?_
 refine v5v [0] [_] (b6n c p.done hs) rfl rfl rfl (by decide) rfl rfl (by repeat (first | exact InH.nil | refine InH.cons rfl ?_)) (by (simp only [pI, List.map_cons, List.map_nil, u1u, u2u, gl, nx, q4q, Nat.beq, Nat.add_eq, List.getD_cons_zero, List.getD_cons_succ, List.getD_nil, Bool.or_false, Bool.false_or, Bool.true_or, Bool.or_true, Nat.add_zero, Nat.zero_add]; rfl)) (by (simp only [pI, List.map_cons, List.map_nil, u1u, u2u, gl, nx, q4q, Nat.beq, Nat.add_eq, List.getD_cons_zero, List.getD_cons_succ, List.getD_nil, Bool.or_false, Bool.false_or, Bool.true_or, Bool.or_true, Nat.add_zero, Nat.zero_add]; rfl)) ?_
 refine x0x rfl v4v rfl rfl v9v rfl rfl ?_
 refine u4u rfl rfl v9v rfl rfl rfl rfl rfl (by simp only [List.set_cons_zero, List.set_cons_succ]; rfl) ?_
 refine x4x x6x (by rfl) ?_
 refine y4y rfl v4v rfl rfl rfl ?_
 refine z5z rfl rfl v4v rfl rfl rfl rfl ?_
 refine y0y ?_
 exact ⟨.inr rfl, [_], rfl, rfl, HE.row rfl rfl HE.nil⟩
theorem b6o (c : Bool) (l : List La) (hl : b2w l ≤ 1048576) : Meth Tryz.prog 100 1 [] [b9u c l] [(0, (0, .dead))] (.ref 0 0) [(0, (0, .row 65 5 (l.map a0u)))] := by
 refine u9u x6x (fn := Tryz.f100) (by kernel_rfl) (by kernel_rfl) rfl (O0 := [.ref 0 0]) 1 1 (Nat.le_of_ble_eq_true rfl) (by rfl) (by repeat (first | exact BndH.nil | refine BndH.dead ?_)) (by repeat (first | exact BndH.nil | refine BndH.row (u3u fun _ => rfl) ?_)) (by rfl) fun γ => ?_
 show Ex Tryz.prog _ _ [(0, b9u c l)] [(0, ((γ 0), .dead)), (1, (0, .dead))] _
 have hc : b2w l = l.length + szs cLa l := rfl
 refine x4x x6x (by rfl) ?_
 refine x2x rfl ?_
 refine x4x x6x (by rfl) ?_
 refine x1x rfl ?_
 refine u0u rfl b4j rfl ?_
 refine a4l (id := 0) w4w rfl v4v a9u rfl rfl rfl rfl (by (simp only [List.length_map, List.length_append, List.length_cons, List.length_nil, List.length_take, T65]; omega)) rfl ?_
 refine x2x rfl ?_
 refine x5x fun K1 hK1 => ?_
 refine x4x x6x (by rfl) ?_
 refine x2x rfl ?_
 refine y7y ?_
 refine u5u (ι := Nat) (fun i γ1 => [(4, .pv (.int .i64 (i : Int)))]) (fun i γ1 => [(1, ((γ1 1), .dead)), (0, ((γ 0 + 1), .row 65 5 ((l.take i).map a0u ++ (l.drop i).map fun _ => [pI 0, pI 0, pI 0, pI 0, .pv (.slice none 0 0)])))]) (fun i => i ≤ l.length) (fun i => l.length - i) (Cov.cons (t := 0) rfl (Cov.cons (t := 3) rfl Cov.nil)) HE.nil 0 (by omega) [0, _] (Cov.cons (t := 4) rfl Cov.nil) (HE.kill rfl (HE.row rfl (by rw [List.take_zero, List.drop_zero, List.map_const']; rfl) HE.nil)) rfl fun i γ1 hi => ?_
 try dsimp only [List.cons_append, List.nil_append]
 refine x5x fun K2 hK2 => ?_
 refine x4x x6x (by rfl) ?_
 refine x1x rfl ?_
 refine x1x rfl ?_
 refine u0u rfl b4j rfl ?_
 refine y1y rfl rfl rfl ?_
 refine x8x rfl (fun hc3 => ?_) (fun hc3 => ?_)
 rotate_left
 ·try simp at hc3
  obtain rfl : i = l.length := by omega
  refine v0v ?_
  refine hK1 _ _ ?_
  clear hK2 K2 hK1 K1
  refine x4x x6x (by rfl) ?_
  refine x1x rfl ?_
  refine x2x rfl ?_
  refine y0y ?_
  exact ⟨.inr rfl, [_], rfl, rfl, HE.row rfl (by rw [List.take_length, List.drop_length, List.map_nil, List.append_nil]) HE.nil⟩
 try simp at hc3
 obtain ⟨p, hp⟩ : ∃ p, l[i]? = some p := ⟨_, List.getElem?_eq_getElem (by omega)⟩
 have hAl : ((l.take i).map a0u).length = i := by rw [List.length_map, List.length_take]; omega
 rw [q1q hp, List.map_cons]
 have hat := a1z cLa hp
 have hcp : cLa p = b8t p.done := rfl
 refine x9x ?_
 refine hK2 _ _ ?_
 clear hK2 K2
 refine x5x fun K4 hK4 => ?_
 refine y7y ?_
 refine y3y x6x (by rfl) ?_
 refine x1x rfl ?_
 refine x1x rfl ?_
 refine x1x rfl ?_
 refine x1x rfl ?_
 refine z7z rfl rfl b4j rfl a9b rfl (by assumption) ?_
 refine z6z rfl a9b rfl rfl ?_
 refine v5v [1] [_] (b9i c p (by omega)) rfl rfl rfl (by decide) rfl rfl (by repeat (first | exact InH.nil | refine InH.cons rfl ?_)) (by (simp only [pI, List.map_cons, List.map_nil, u1u, u2u, gl, nx, q4q, Nat.beq, Nat.add_eq, List.getD_cons_zero, List.getD_cons_succ, List.getD_nil, Bool.or_false, Bool.false_or, Bool.true_or, Bool.or_true, Nat.add_zero, Nat.zero_add]; rfl)) (by (simp only [pI, List.map_cons, List.map_nil, u1u, u2u, gl, nx, q4q, Nat.beq, Nat.add_eq, List.getD_cons_zero, List.getD_cons_succ, List.getD_nil, Bool.or_false, Bool.false_or, Bool.true_or, Bool.or_true, Nat.add_zero, Nat.zero_add]; rfl)) ?_
 refine q0q rfl rfl w4w rfl v4v rfl rfl hAl ?_
 refine a1p hAl rfl rfl v4v rfl rfl rfl rfl (d1w rfl) rfl ?_
 refine hK4 _ _ ?_
 clear hK4 K4
 refine y3y x6x (by rfl) ?_
 refine x1x rfl ?_
 refine y1y rfl rfl rfl ?_
 refine x2x rfl ?_
 exact ⟨i + 1, ⟨by omega, by omega⟩, [0, _], (Cov.cons' (t := 4) rfl (by rw [v3v (by omega) (by omega)]; rfl) Cov.nil), (Cov.cons (t := 0) rfl (Cov.cons (t := 3) rfl Cov.nil)), (HE.kill rfl (HE.row rfl (by rw [p0p hp, List.map_append, List.append_assoc]; rfl) HE.nil)), HE.nil, rfl⟩
theorem b9j (c : Bool) (p : Vi) (hs : p.events.length ≤ 1048576) : Meth Tryz.prog 186 1 [] [.agg (a4b c p)] [(0, (0, .dead))] (.agg [pI p.inc, pI p.version, .ref 0 0]) [(0, (0, .row 76 7 (p.events.map v6v)))] := by
 refine u9u x6x (fn := Tryz.f186) (by kernel_rfl) (by kernel_rfl) rfl (O0 := [.agg [pI p.inc, pI p.version, .ref 0 0]]) 1 3 (Nat.le_of_ble_eq_true rfl) (by rfl) (by repeat (first | exact BndH.nil | refine BndH.dead ?_)) (by repeat (first | exact BndH.nil | refine BndH.row (u3u fun _ => rfl) ?_)) (by rfl) fun γ => ?_
 show Ex Tryz.prog _ _ [(0, .agg (a4b c p))] [(0, ((γ 0), .dead)), (3, (0, .dead)), (2, (0, .dead)), (1, (0, .dead))] _
 refine x4x x6x (by rfl) ?_
 refine v1v (id := 1) rfl rfl rfl ?_
 refine u8u (id := 2) w0w a7y rfl ?_
 refine x4x x6x (by rfl) ?_
 refine u8u (id := 3) w0w a7y rfl ?_
 refine x4x x6x (by rfl) ?_
 refine x0x rfl a9c rfl rfl y6y rfl rfl ?_
 refine x3x rfl y6y rfl rfl ?_
 refine x0x rfl w0w rfl rfl y6y rfl rfl ?_
 refine u4u rfl rfl y6y rfl rfl rfl rfl rfl (by simp only [List.set_cons_zero, List.set_cons_succ]; rfl) ?_
 refine x4x x6x (by rfl) ?_
 refine x0x rfl a9c rfl rfl y6y rfl rfl ?_
 refine x3x rfl y6y rfl rfl ?_
 refine x0x rfl w0w rfl rfl y6y rfl rfl ?_
 refine u4u rfl rfl y6y rfl rfl rfl rfl rfl (by simp only [List.set_cons_zero, List.set_cons_succ]; rfl) ?_
 refine x4x x6x (by rfl) ?_
 refine x0x rfl a9c rfl rfl a7b rfl rfl ?_
 refine x3x rfl a7b rfl rfl ?_
 refine v5v [0] [_] (a4y c p.events hs) rfl rfl rfl (by decide) rfl rfl (by repeat (first | exact InH.nil | refine InH.cons rfl ?_)) (by (simp only [pI, List.map_cons, List.map_nil, u1u, u2u, gl, nx, q4q, Nat.beq, Nat.add_eq, List.getD_cons_zero, List.getD_cons_succ, List.getD_nil, Bool.or_false, Bool.false_or, Bool.true_or, Bool.or_true, Nat.add_zero, Nat.zero_add]; rfl)) (by (simp only [pI, List.map_cons, List.map_nil, u1u, u2u, gl, nx, q4q, Nat.beq, Nat.add_eq, List.getD_cons_zero, List.getD_cons_succ, List.getD_nil, Bool.or_false, Bool.false_or, Bool.true_or, Bool.or_true, Nat.add_zero, Nat.zero_add]; rfl)) ?_
 refine x0x rfl w0w rfl rfl u7u rfl rfl ?_
 refine u4u rfl rfl u7u rfl rfl rfl rfl rfl (by simp only [List.set_cons_zero, List.set_cons_succ]; rfl) ?_
 refine x4x x6x (by rfl) ?_
 refine y4y rfl w0w rfl rfl rfl ?_
 refine z5z rfl rfl w0w rfl rfl rfl rfl ?_
 refine y0y ?_
 exact ⟨.inr rfl, [_], rfl, rfl, HE.row rfl rfl HE.nil⟩
theorem b6p (c : Bool) (l : List Vi) (hl : b7p l ≤ 1048576) : Meth Tryz.prog 102 1 [] [b9v c l] [(0, (0, .dead))] (.ref 0 0) [(0, (0, .row 141 3 (l.map a0v)))] := by
 refine u9u x6x (fn := Tryz.f102) (by kernel_rfl) (by kernel_rfl) rfl (O0 := [.ref 0 0]) 1 1 (Nat.le_of_ble_eq_true rfl) (by rfl) (by repeat (first | exact BndH.nil | refine BndH.dead ?_)) (by repeat (first | exact BndH.nil | refine BndH.row (u3u fun _ => rfl) ?_)) (by rfl) fun γ => ?_
 show Ex Tryz.prog _ _ [(0, b9v c l)] [(0, ((γ 0), .dead)), (1, (0, .dead))] _
 have hc : b7p l = l.length + szs cVi l := rfl
 refine x4x x6x (by rfl) ?_
 refine x2x rfl ?_
 refine x4x x6x (by rfl) ?_
 refine x1x rfl ?_
 refine u0u rfl b4k rfl ?_
 refine a4l (id := 0) p1p rfl w0w a7y rfl rfl rfl rfl (by (simp only [List.length_map, List.length_append, List.length_cons, List.length_nil, List.length_take, T141]; omega)) rfl ?_
 refine x2x rfl ?_
 refine x5x fun K1 hK1 => ?_
 refine x4x x6x (by rfl) ?_
 refine x2x rfl ?_
 refine y7y ?_
 refine u5u (ι := Nat) (fun i γ1 => [(4, .pv (.int .i64 (i : Int)))]) (fun i γ1 => [(1, ((γ1 1), .dead)), (0, ((γ 0 + 1), .row 141 3 ((l.take i).map a0v ++ (l.drop i).map fun _ => [pI 0, pI 0, .pv (.slice none 0 0)])))]) (fun i => i ≤ l.length) (fun i => l.length - i) (Cov.cons (t := 0) rfl (Cov.cons (t := 3) rfl Cov.nil)) HE.nil 0 (by omega) [0, _] (Cov.cons (t := 4) rfl Cov.nil) (HE.kill rfl (HE.row rfl (by rw [List.take_zero, List.drop_zero, List.map_const']; rfl) HE.nil)) rfl fun i γ1 hi => ?_
 try dsimp only [List.cons_append, List.nil_append]
 refine x5x fun K2 hK2 => ?_
 refine x4x x6x (by rfl) ?_
 refine x1x rfl ?_
 refine x1x rfl ?_
 refine u0u rfl b4k rfl ?_
 refine y1y rfl rfl rfl ?_
 refine x8x rfl (fun hc3 => ?_) (fun hc3 => ?_)
 rotate_left
 ·try simp at hc3
  obtain rfl : i = l.length := by omega
  refine v0v ?_
  refine hK1 _ _ ?_
  clear hK2 K2 hK1 K1
  refine x4x x6x (by rfl) ?_
  refine x1x rfl ?_
  refine x2x rfl ?_
  refine y0y ?_
  exact ⟨.inr rfl, [_], rfl, rfl, HE.row rfl (by rw [List.take_length, List.drop_length, List.map_nil, List.append_nil]) HE.nil⟩
 try simp at hc3
 obtain ⟨p, hp⟩ : ∃ p, l[i]? = some p := ⟨_, List.getElem?_eq_getElem (by omega)⟩
 have hAl : ((l.take i).map a0v).length = i := by rw [List.length_map, List.length_take]; omega
 rw [q1q hp, List.map_cons]
 have hat := a1z cVi hp
 have hcp : cVi p = p.events.length := rfl
 refine x9x ?_
 refine hK2 _ _ ?_
 clear hK2 K2
 refine x5x fun K4 hK4 => ?_
 refine y7y ?_
 refine y3y x6x (by rfl) ?_
 refine x1x rfl ?_
 refine x1x rfl ?_
 refine x1x rfl ?_
 refine x1x rfl ?_
 refine z7z rfl rfl b4k rfl a9c rfl (by assumption) ?_
 refine z6z rfl a9c rfl rfl ?_
 refine v5v [1] [_] (b9j c p (by omega)) rfl rfl rfl (by decide) rfl rfl (by repeat (first | exact InH.nil | refine InH.cons rfl ?_)) (by (simp only [pI, List.map_cons, List.map_nil, u1u, u2u, gl, nx, q4q, Nat.beq, Nat.add_eq, List.getD_cons_zero, List.getD_cons_succ, List.getD_nil, Bool.or_false, Bool.false_or, Bool.true_or, Bool.or_true, Nat.add_zero, Nat.zero_add]; rfl)) (by (simp only [pI, List.map_cons, List.map_nil, u1u, u2u, gl, nx, q4q, Nat.beq, Nat.add_eq, List.getD_cons_zero, List.getD_cons_succ, List.getD_nil, Bool.or_false, Bool.false_or, Bool.true_or, Bool.or_true, Nat.add_zero, Nat.zero_add]; rfl)) ?_
 refine q0q rfl rfl p1p rfl w0w rfl rfl hAl ?_
 refine a1p hAl rfl rfl w0w rfl rfl rfl rfl (d1x rfl) rfl ?_
 refine hK4 _ _ ?_
 clear hK4 K4
 refine y3y x6x (by rfl) ?_
 refine x1x rfl ?_
 refine y1y rfl rfl rfl ?_
 refine x2x rfl ?_
 exact ⟨i + 1, ⟨by omega, by omega⟩, [0, _], (Cov.cons' (t := 4) rfl (by rw [v3v (by omega) (by omega)]; rfl) Cov.nil), (Cov.cons (t := 0) rfl (Cov.cons (t := 3) rfl Cov.nil)), (HE.kill rfl (HE.row rfl (by rw [p0p hp, List.map_append, List.append_assoc]; rfl) HE.nil)), HE.nil, rfl⟩
theorem b9k (c : Bool) (l : List Int) (hl : l.length ≤ 1048576) : Meth Tryz.prog 16 1 [] [a3s c l] [(0, (0, .dead))] (.ref 0 0) [(0, (0, .row 3 1 (l.map a0x)))] := by
 refine u9u x6x (fn := Tryz.f16) (by kernel_rfl) (by kernel_rfl) rfl (O0 := [.ref 0 0]) 1 0 (Nat.le_of_ble_eq_true rfl) (by rfl) (by repeat (first | exact BndH.nil | refine BndH.dead ?_)) (by repeat (first | exact BndH.nil | refine BndH.row (u3u fun _ => rfl) ?_)) (by rfl) fun γ => ?_
 show Ex Tryz.prog _ _ [(0, a3s c l)] [(0, ((γ 0), .dead))] _
 refine x4x x6x (by rfl) ?_
 refine x2x rfl ?_
 refine x4x x6x (by rfl) ?_
 refine x1x rfl ?_
 refine u0u rfl v7v rfl ?_
 refine a4l (id := 0) v7v rfl y6y d6v rfl rfl rfl rfl (by (simp only [List.length_map, List.length_append, List.length_cons, List.length_nil, List.length_take, T3]; omega)) rfl ?_
 refine x2x rfl ?_
 refine x5x fun K1 hK1 => ?_
 refine x4x x6x (by rfl) ?_
 refine x2x rfl ?_
 refine y7y ?_
 refine u5u (ι := Nat) (fun i γ1 => [(4, .pv (.int .i64 (i : Int)))]) (fun i γ1 => [(0, ((γ 0 + 1), .row 3 1 ((l.take i).map a0x ++ (l.drop i).map fun _ => [pI 0])))]) (fun i => i ≤ l.length) (fun i => l.length - i) (Cov.cons (t := 0) rfl (Cov.cons (t := 3) rfl Cov.nil)) HE.nil 0 (by omega) [] (Cov.cons (t := 4) rfl Cov.nil) (HE.row rfl (by rw [List.take_zero, List.drop_zero, List.map_const']; rfl) HE.nil) rfl fun i γ1 hi => ?_
 try dsimp only [List.cons_append, List.nil_append]
 refine x5x fun K2 hK2 => ?_
 refine x4x x6x (by rfl) ?_
 refine x1x rfl ?_
 refine x1x rfl ?_
 refine u0u rfl v7v rfl ?_
 refine y1y rfl rfl rfl ?_
 refine x8x rfl (fun hc3 => ?_) (fun hc3 => ?_)
 rotate_left
 ·try simp at hc3
  obtain rfl : i = l.length := by omega
  refine v0v ?_
  refine hK1 _ _ ?_
  clear hK2 K2 hK1 K1
  refine x4x x6x (by rfl) ?_
  refine x1x rfl ?_
  refine x2x rfl ?_
  refine y0y ?_
  exact ⟨.inr rfl, [_], rfl, rfl, HE.row rfl (by rw [List.take_length, List.drop_length, List.map_nil, List.append_nil]) HE.nil⟩
 try simp at hc3
 obtain ⟨p, hp⟩ : ∃ p, l[i]? = some p := ⟨_, List.getElem?_eq_getElem (by omega)⟩
 have hAl : ((l.take i).map a0x).length = i := by rw [List.length_map, List.length_take]; omega
 rw [q1q hp, List.map_cons]
 refine x9x ?_
 refine hK2 _ _ ?_
 clear hK2 K2
 refine x5x fun K4 hK4 => ?_
 refine y7y ?_
 refine y3y x6x (by rfl) ?_
 refine x1x rfl ?_
 refine x1x rfl ?_
 refine x1x rfl ?_
 refine x1x rfl ?_
 refine z7z rfl rfl v7v rfl y6y rfl (by assumption) ?_
 refine z4z rfl y6y rfl ?_
 refine q0q rfl rfl v7v rfl y6y rfl rfl hAl ?_
 refine p3p hAl rfl rfl y6y rfl rfl rfl rfl rfl rfl rfl rfl ?_
 refine hK4 _ _ ?_
 clear hK4 K4
 refine y3y x6x (by rfl) ?_
 refine x1x rfl ?_
 refine y1y rfl rfl rfl ?_
 refine x2x rfl ?_
 exact ⟨i + 1, ⟨by omega, by omega⟩, [], (Cov.cons' (t := 4) rfl (by rw [v3v (by omega) (by omega)]; rfl) Cov.nil), (Cov.cons (t := 0) rfl (Cov.cons (t := 3) rfl Cov.nil)), (HE.row rfl (by rw [p0p hp, List.map_append, List.append_assoc]; rfl) HE.nil), HE.nil, rfl⟩
theorem a4d (c : Bool) (n : Nd) (hl : cNd n ≤ 1048576) : Meth Tryz.prog 25 5 [] [.agg (a0t c n)] [(0, (0, .dead)), (1, (0, .dead)), (2, (0, .dead)), (3, (0, .dead)), (4, (0, .dead))] (.agg [pI n.id, .pv (.bool n.up), pI n.inc, pI n.g, .ref 0 0, .ref 1 0, .ref 2 0, pI n.led, pI n.version, .ref 3 0, .ref 4 0, pI n.round, pI n.low]) [(0, (0, .row 65 5 (n.lanes.map a0u))), (1, (0, .row 76 7 (n.kept.map v6v))), (2, (0, .row 104 5 (n.outs.map s2s))), (3, (0, .row 141 3 (n.views.map a0v))), (4, (0, .row 3 1 (n.known.map a0x)))] := by
 refine u9u x6x (fn := Tryz.f25) (by kernel_rfl) (by kernel_rfl) rfl (O0 := [.agg [pI n.id, .pv (.bool n.up), pI n.inc, pI n.g, .ref 0 0, .ref 1 0, .ref 2 0, pI n.led, pI n.version, .ref 3 0, .ref 4 0, pI n.round, pI n.low]]) 5 3 (Nat.le_of_ble_eq_true rfl) (by rfl) (by repeat (first | exact BndH.nil | refine BndH.dead ?_)) (by repeat (first | exact BndH.nil | refine BndH.row (u3u fun _ => rfl) ?_)) (by rfl) fun γ => ?_
 show Ex Tryz.prog _ _ [(0, .agg (a0t c n))] [(0, ((γ 0), .dead)), (1, ((γ 1), .dead)), (2, ((γ 2), .dead)), (3, ((γ 3), .dead)), (4, ((γ 4), .dead)), (7, (0, .dead)), (6, (0, .dead)), (5, (0, .dead))] _
 have hc : cNd n = b2w n.lanes + n.kept.length + n.outs.length + b7p n.views + n.known.length := rfl
 refine x4x x6x (by rfl) ?_
 refine v1v (id := 5) rfl rfl rfl ?_
 refine u8u (id := 6) z8z a7q rfl ?_
 refine x4x x6x (by rfl) ?_
 refine u8u (id := 7) z8z a7q rfl ?_
 refine x4x x6x (by rfl) ?_
 refine x0x rfl a3m rfl rfl y6y rfl rfl ?_
 refine x3x rfl y6y rfl rfl ?_
 refine x0x rfl z8z rfl rfl y6y rfl rfl ?_
 refine u4u rfl rfl y6y rfl rfl rfl rfl rfl (by simp only [List.set_cons_zero, List.set_cons_succ]; rfl) ?_
 refine x4x x6x (by rfl) ?_
 refine x0x rfl a3m rfl rfl b5u rfl rfl ?_
 refine x3x rfl b5u rfl rfl ?_
 refine x0x rfl z8z rfl rfl b5u rfl rfl ?_
 refine u4u rfl rfl b5u rfl rfl rfl rfl rfl (by simp only [List.set_cons_zero, List.set_cons_succ]; rfl) ?_
 refine x4x x6x (by rfl) ?_
 refine x0x rfl a3m rfl rfl y6y rfl rfl ?_
 refine x3x rfl y6y rfl rfl ?_
 refine x0x rfl z8z rfl rfl y6y rfl rfl ?_
 refine u4u rfl rfl y6y rfl rfl rfl rfl rfl (by simp only [List.set_cons_zero, List.set_cons_succ]; rfl) ?_
 refine x4x x6x (by rfl) ?_
 refine x0x rfl a3m rfl rfl y6y rfl rfl ?_
 refine x3x rfl y6y rfl rfl ?_
 refine x0x rfl z8z rfl rfl y6y rfl rfl ?_
 refine u4u rfl rfl y6y rfl rfl rfl rfl rfl (by simp only [List.set_cons_zero, List.set_cons_succ]; rfl) ?_
 refine x4x x6x (by rfl) ?_
 refine x0x rfl a3m rfl rfl b4j rfl rfl ?_
 refine x3x rfl b4j rfl rfl ?_
 refine v5v [0] [_] (b6o c n.lanes (by omega)) rfl rfl rfl (by decide) rfl rfl (by repeat (first | exact InH.nil | refine InH.cons rfl ?_)) (by (simp only [pI, List.map_cons, List.map_nil, u1u, u2u, gl, nx, q4q, Nat.beq, Nat.add_eq, List.getD_cons_zero, List.getD_cons_succ, List.getD_nil, Bool.or_false, Bool.false_or, Bool.true_or, Bool.or_true, Nat.add_zero, Nat.zero_add]; rfl)) (by (simp only [pI, List.map_cons, List.map_nil, u1u, u2u, gl, nx, q4q, Nat.beq, Nat.add_eq, List.getD_cons_zero, List.getD_cons_succ, List.getD_nil, Bool.or_false, Bool.false_or, Bool.true_or, Bool.or_true, Nat.add_zero, Nat.zero_add]; rfl)) ?_
 refine x0x rfl z8z rfl rfl w4w rfl rfl ?_
 refine u4u rfl rfl w4w rfl rfl rfl rfl rfl (by simp only [List.set_cons_zero, List.set_cons_succ]; rfl) ?_
 refine x4x x6x (by rfl) ?_
 refine x0x rfl a3m rfl rfl a7b rfl rfl ?_
 refine x3x rfl a7b rfl rfl ?_
 refine v5v [1] [_] (a4y c n.kept (by omega)) rfl rfl rfl (by decide) rfl rfl (by repeat (first | exact InH.nil | refine InH.cons rfl ?_)) (by (simp only [pI, List.map_cons, List.map_nil, u1u, u2u, gl, nx, q4q, Nat.beq, Nat.add_eq, List.getD_cons_zero, List.getD_cons_succ, List.getD_nil, Bool.or_false, Bool.false_or, Bool.true_or, Bool.or_true, Nat.add_zero, Nat.zero_add]; rfl)) (by (simp only [pI, List.map_cons, List.map_nil, u1u, u2u, gl, nx, q4q, Nat.beq, Nat.add_eq, List.getD_cons_zero, List.getD_cons_succ, List.getD_nil, Bool.or_false, Bool.false_or, Bool.true_or, Bool.or_true, Nat.add_zero, Nat.zero_add]; rfl)) ?_
 refine x0x rfl z8z rfl rfl u7u rfl rfl ?_
 refine u4u rfl rfl u7u rfl rfl rfl rfl rfl (by simp only [List.set_cons_zero, List.set_cons_succ]; rfl) ?_
 refine x4x x6x (by rfl) ?_
 refine x0x rfl a3m rfl rfl b0q rfl rfl ?_
 refine x3x rfl b0q rfl rfl ?_
 refine v5v [2] [_] (b1n c n.outs (by omega)) rfl rfl rfl (by decide) rfl rfl (by repeat (first | exact InH.nil | refine InH.cons rfl ?_)) (by (simp only [pI, List.map_cons, List.map_nil, u1u, u2u, gl, nx, q4q, Nat.beq, Nat.add_eq, List.getD_cons_zero, List.getD_cons_succ, List.getD_nil, Bool.or_false, Bool.false_or, Bool.true_or, Bool.or_true, Nat.add_zero, Nat.zero_add]; rfl)) (by (simp only [pI, List.map_cons, List.map_nil, u1u, u2u, gl, nx, q4q, Nat.beq, Nat.add_eq, List.getD_cons_zero, List.getD_cons_succ, List.getD_nil, Bool.or_false, Bool.false_or, Bool.true_or, Bool.or_true, Nat.add_zero, Nat.zero_add]; rfl)) ?_
 refine x0x rfl z8z rfl rfl w6w rfl rfl ?_
 refine u4u rfl rfl w6w rfl rfl rfl rfl rfl (by simp only [List.set_cons_zero, List.set_cons_succ]; rfl) ?_
 refine x4x x6x (by rfl) ?_
 refine x0x rfl a3m rfl rfl y6y rfl rfl ?_
 refine x3x rfl y6y rfl rfl ?_
 refine x0x rfl z8z rfl rfl y6y rfl rfl ?_
 refine u4u rfl rfl y6y rfl rfl rfl rfl rfl (by simp only [List.set_cons_zero, List.set_cons_succ]; rfl) ?_
 refine x4x x6x (by rfl) ?_
 refine x0x rfl a3m rfl rfl y6y rfl rfl ?_
 refine x3x rfl y6y rfl rfl ?_
 refine x0x rfl z8z rfl rfl y6y rfl rfl ?_
 refine u4u rfl rfl y6y rfl rfl rfl rfl rfl (by simp only [List.set_cons_zero, List.set_cons_succ]; rfl) ?_
 refine x4x x6x (by rfl) ?_
 refine x0x rfl a3m rfl rfl b4k rfl rfl ?_
 refine x3x rfl b4k rfl rfl ?_
 refine v5v [3] [_] (b6p c n.views (by omega)) rfl rfl rfl (by decide) rfl rfl (by repeat (first | exact InH.nil | refine InH.cons rfl ?_)) (by (simp only [pI, List.map_cons, List.map_nil, u1u, u2u, gl, nx, q4q, Nat.beq, Nat.add_eq, List.getD_cons_zero, List.getD_cons_succ, List.getD_nil, Bool.or_false, Bool.false_or, Bool.true_or, Bool.or_true, Nat.add_zero, Nat.zero_add]; rfl)) (by (simp only [pI, List.map_cons, List.map_nil, u1u, u2u, gl, nx, q4q, Nat.beq, Nat.add_eq, List.getD_cons_zero, List.getD_cons_succ, List.getD_nil, Bool.or_false, Bool.false_or, Bool.true_or, Bool.or_true, Nat.add_zero, Nat.zero_add]; rfl)) ?_
 refine x0x rfl z8z rfl rfl p1p rfl rfl ?_
 refine u4u rfl rfl p1p rfl rfl rfl rfl rfl (by simp only [List.set_cons_zero, List.set_cons_succ]; rfl) ?_
 refine x4x x6x (by rfl) ?_
 refine x0x rfl a3m rfl rfl v7v rfl rfl ?_
 refine x3x rfl v7v rfl rfl ?_
 refine v5v [4] [_] (b9k c n.known (by omega)) rfl rfl rfl (by decide) rfl rfl (by repeat (first | exact InH.nil | refine InH.cons rfl ?_)) (by (simp only [pI, List.map_cons, List.map_nil, u1u, u2u, gl, nx, q4q, Nat.beq, Nat.add_eq, List.getD_cons_zero, List.getD_cons_succ, List.getD_nil, Bool.or_false, Bool.false_or, Bool.true_or, Bool.or_true, Nat.add_zero, Nat.zero_add]; rfl)) (by (simp only [pI, List.map_cons, List.map_nil, u1u, u2u, gl, nx, q4q, Nat.beq, Nat.add_eq, List.getD_cons_zero, List.getD_cons_succ, List.getD_nil, Bool.or_false, Bool.false_or, Bool.true_or, Bool.or_true, Nat.add_zero, Nat.zero_add]; rfl)) ?_
 refine x0x rfl z8z rfl rfl v7v rfl rfl ?_
 refine u4u rfl rfl v7v rfl rfl rfl rfl rfl (by simp only [List.set_cons_zero, List.set_cons_succ]; rfl) ?_
 refine x4x x6x (by rfl) ?_
 refine x0x rfl a3m rfl rfl y6y rfl rfl ?_
 refine x3x rfl y6y rfl rfl ?_
 refine x0x rfl z8z rfl rfl y6y rfl rfl ?_
 refine u4u rfl rfl y6y rfl rfl rfl rfl rfl (by simp only [List.set_cons_zero, List.set_cons_succ]; rfl) ?_
 refine x4x x6x (by rfl) ?_
 refine x0x rfl a3m rfl rfl y6y rfl rfl ?_
 refine x3x rfl y6y rfl rfl ?_
 refine x0x rfl z8z rfl rfl y6y rfl rfl ?_
 refine u4u rfl rfl y6y rfl rfl rfl rfl rfl (by simp only [List.set_cons_zero, List.set_cons_succ]; rfl) ?_
 refine x4x x6x (by rfl) ?_
 refine y4y rfl z8z rfl rfl rfl ?_
 refine z5z rfl rfl z8z rfl rfl rfl rfl ?_
 refine y0y ?_
 exact ⟨.inr rfl, [_, _, _, _, _], rfl, rfl, HE.row rfl rfl (HE.row rfl rfl (HE.row rfl rfl (HE.row rfl rfl (HE.row rfl rfl HE.nil))))⟩
end
section
theorem a7i (c c' : Bool) (a b : Wo) : s8s Tryz.prog 36 [.agg (b6g c a), .agg (b6g c' b)] (.pv (.bool (decide (a = b)))) := by
 refine z1z x6x (fn := Tryz.f36) (by kernel_rfl) (by kernel_rfl) rfl (outs := [.pv (.bool (decide (a = b)))]) (by rfl) (Nat.le_of_ble_eq_true rfl) 2 ?_
 refine x4x x6x (by rfl) ?_
 refine v1v (id := 0) rfl rfl rfl ?_
 refine v1v (id := 1) rfl rfl rfl ?_
 refine x2x rfl ?_
 refine x5x fun K1 hK1 => ?_
 refine x4x x6x (by rfl) ?_
 refine x0x rfl r0r rfl rfl y6y rfl rfl ?_
 refine x3x rfl y6y rfl rfl ?_
 refine x0x rfl r0r rfl rfl y6y rfl rfl ?_
 refine x3x rfl y6y rfl rfl ?_
 refine y1y rfl rfl rfl ?_
 refine x8x rfl (fun hc2 => ?_) (fun hc2 => ?_)
 ·try simp at hc2
  refine x4x x6x (by rfl) ?_
  refine x2x rfl ?_
  refine y0y ⟨.inr rfl, ?_⟩
  clear hK1 K1
  refine y8y rfl ?_ rfl
  exact kF (by intro h; subst h; simp_all)
 try simp at hc2
 refine x9x ?_
 refine hK1 _ _ ?_
 clear hK1 K1
 refine x5x fun K3 hK3 => ?_
 refine x4x x6x (by rfl) ?_
 refine x0x rfl r0r rfl rfl y6y rfl rfl ?_
 refine x3x rfl y6y rfl rfl ?_
 refine x0x rfl r0r rfl rfl y6y rfl rfl ?_
 refine x3x rfl y6y rfl rfl ?_
 refine y1y rfl rfl rfl ?_
 refine x8x rfl (fun hc4 => ?_) (fun hc4 => ?_)
 ·try simp at hc4
  refine x4x x6x (by rfl) ?_
  refine x2x rfl ?_
  refine y0y ⟨.inr rfl, ?_⟩
  clear hK3 K3
  refine y8y rfl ?_ rfl
  exact kF (by intro h; subst h; simp_all)
 try simp at hc4
 refine x9x ?_
 refine hK3 _ _ ?_
 clear hK3 K3
 refine x5x fun K5 hK5 => ?_
 refine x4x x6x (by rfl) ?_
 refine x0x rfl r0r rfl rfl y6y rfl rfl ?_
 refine x3x rfl y6y rfl rfl ?_
 refine x0x rfl r0r rfl rfl y6y rfl rfl ?_
 refine x3x rfl y6y rfl rfl ?_
 refine y1y rfl rfl rfl ?_
 refine x8x rfl (fun hc6 => ?_) (fun hc6 => ?_)
 ·try simp at hc6
  refine x4x x6x (by rfl) ?_
  refine x2x rfl ?_
  refine y0y ⟨.inr rfl, ?_⟩
  clear hK5 K5
  refine y8y rfl ?_ rfl
  exact kF (by intro h; subst h; simp_all)
 try simp at hc6
 refine x9x ?_
 refine hK5 _ _ ?_
 clear hK5 K5
 refine x5x fun K7 hK7 => ?_
 refine x4x x6x (by rfl) ?_
 refine x0x rfl r0r rfl rfl y6y rfl rfl ?_
 refine x3x rfl y6y rfl rfl ?_
 refine x0x rfl r0r rfl rfl y6y rfl rfl ?_
 refine x3x rfl y6y rfl rfl ?_
 refine y1y rfl rfl rfl ?_
 refine x8x rfl (fun hc8 => ?_) (fun hc8 => ?_)
 ·try simp at hc8
  refine x4x x6x (by rfl) ?_
  refine x2x rfl ?_
  refine y0y ⟨.inr rfl, ?_⟩
  clear hK7 K7
  refine y8y rfl ?_ rfl
  exact kF (by intro h; subst h; simp_all)
 try simp at hc8
 refine x9x ?_
 refine hK7 _ _ ?_
 clear hK7 K7
 refine x5x fun K9 hK9 => ?_
 refine x4x x6x (by rfl) ?_
 refine x0x rfl r0r rfl rfl y6y rfl rfl ?_
 refine x3x rfl y6y rfl rfl ?_
 refine x0x rfl r0r rfl rfl y6y rfl rfl ?_
 refine x3x rfl y6y rfl rfl ?_
 refine y1y rfl rfl rfl ?_
 refine x8x rfl (fun hc10 => ?_) (fun hc10 => ?_)
 ·try simp at hc10
  refine x4x x6x (by rfl) ?_
  refine x2x rfl ?_
  refine y0y ⟨.inr rfl, ?_⟩
  clear hK9 K9
  refine y8y rfl ?_ rfl
  exact kF (by intro h; subst h; simp_all)
 try simp at hc10
 refine x9x ?_
 refine hK9 _ _ ?_
 clear hK9 K9
 refine x5x fun K11 hK11 => ?_
 refine x4x x6x (by rfl) ?_
 refine x0x rfl r0r rfl rfl y6y rfl rfl ?_
 refine x3x rfl y6y rfl rfl ?_
 refine x0x rfl r0r rfl rfl y6y rfl rfl ?_
 refine x3x rfl y6y rfl rfl ?_
 refine y1y rfl rfl rfl ?_
 refine x8x rfl (fun hc12 => ?_) (fun hc12 => ?_)
 ·try simp at hc12
  refine x4x x6x (by rfl) ?_
  refine x2x rfl ?_
  refine y0y ⟨.inr rfl, ?_⟩
  clear hK11 K11
  refine y8y rfl ?_ rfl
  exact kF (by intro h; subst h; simp_all)
 try simp at hc12
 refine x9x ?_
 refine hK11 _ _ ?_
 clear hK11 K11
 refine x5x fun K13 hK13 => ?_
 refine x4x x6x (by rfl) ?_
 refine x0x rfl r0r rfl rfl y6y rfl rfl ?_
 refine x3x rfl y6y rfl rfl ?_
 refine x0x rfl r0r rfl rfl y6y rfl rfl ?_
 refine x3x rfl y6y rfl rfl ?_
 refine y1y rfl rfl rfl ?_
 refine x8x rfl (fun hc14 => ?_) (fun hc14 => ?_)
 ·try simp at hc14
  refine x4x x6x (by rfl) ?_
  refine x2x rfl ?_
  refine y0y ⟨.inr rfl, ?_⟩
  clear hK13 K13
  refine y8y rfl ?_ rfl
  exact kF (by intro h; subst h; simp_all)
 try simp at hc14
 refine x9x ?_
 refine hK13 _ _ ?_
 clear hK13 K13
 refine x5x fun K15 hK15 => ?_
 refine x4x x6x (by rfl) ?_
 refine x0x rfl r0r rfl rfl v7v rfl rfl ?_
 refine x3x rfl v7v rfl rfl ?_
 refine x0x rfl r0r rfl rfl v7v rfl rfl ?_
 refine x3x rfl v7v rfl rfl ?_
 refine y9y rfl rfl rfl (a7g ..) ?_
 refine w3w rfl ?_
 refine x8x rfl (fun hc16 => ?_) (fun hc16 => ?_)
 ·try simp at hc16
  refine x4x x6x (by rfl) ?_
  refine x2x rfl ?_
  refine y0y ⟨.inr rfl, ?_⟩
  clear hK15 K15
  refine y8y rfl ?_ rfl
  exact kF (by intro h; subst h; simp_all)
 try simp at hc16
 refine x9x ?_
 refine hK15 _ _ ?_
 clear hK15 K15
 refine x5x fun K17 hK17 => ?_
 refine x4x x6x (by rfl) ?_
 refine x0x rfl r0r rfl rfl v7v rfl rfl ?_
 refine x3x rfl v7v rfl rfl ?_
 refine x0x rfl r0r rfl rfl v7v rfl rfl ?_
 refine x3x rfl v7v rfl rfl ?_
 refine y9y rfl rfl rfl (a7g ..) ?_
 refine w3w rfl ?_
 refine x8x rfl (fun hc18 => ?_) (fun hc18 => ?_)
 ·try simp at hc18
  refine x4x x6x (by rfl) ?_
  refine x2x rfl ?_
  refine y0y ⟨.inr rfl, ?_⟩
  clear hK17 K17
  refine y8y rfl ?_ rfl
  exact kF (by intro h; subst h; simp_all)
 try simp at hc18
 refine x9x ?_
 refine hK17 _ _ ?_
 clear hK17 K17
 refine x5x fun K19 hK19 => ?_
 refine x4x x6x (by rfl) ?_
 refine x0x rfl r0r rfl rfl u7u rfl rfl ?_
 refine x3x rfl u7u rfl rfl ?_
 refine x0x rfl r0r rfl rfl u7u rfl rfl ?_
 refine x3x rfl u7u rfl rfl ?_
 refine y9y rfl rfl rfl (a2n ..) ?_
 refine w3w rfl ?_
 refine x8x rfl (fun hc20 => ?_) (fun hc20 => ?_)
 ·try simp at hc20
  refine x4x x6x (by rfl) ?_
  refine x2x rfl ?_
  refine y0y ⟨.inr rfl, ?_⟩
  clear hK19 K19
  refine y8y rfl ?_ rfl
  exact kF (by intro h; subst h; simp_all)
 try simp at hc20
 refine x9x ?_
 refine hK19 _ _ ?_
 clear hK19 K19
 refine x5x fun K21 hK21 => ?_
 refine x4x x6x (by rfl) ?_
 refine x0x rfl r0r rfl rfl w6w rfl rfl ?_
 refine x3x rfl w6w rfl rfl ?_
 refine x0x rfl r0r rfl rfl w6w rfl rfl ?_
 refine x3x rfl w6w rfl rfl ?_
 refine y9y rfl rfl rfl (a7h ..) ?_
 refine w3w rfl ?_
 refine x8x rfl (fun hc22 => ?_) (fun hc22 => ?_)
 ·try simp at hc22
  refine x4x x6x (by rfl) ?_
  refine x2x rfl ?_
  refine y0y ⟨.inr rfl, ?_⟩
  clear hK21 K21
  refine y8y rfl ?_ rfl
  exact kF (by intro h; subst h; simp_all)
 try simp at hc22
 refine x9x ?_
 refine hK21 _ _ ?_
 clear hK21 K21
 refine x4x x6x (by rfl) ?_
 refine x2x rfl ?_
 refine y0y ⟨.inr rfl, ?_⟩
 refine y8y rfl ?_ rfl
 exact kT (by cases a; cases b; simp_all)
end
section
theorem b5j (p : Wo) (k : Nat) (hk : k + zWl p ≤ 1000000000) : Meth Tryz.prog 37 4 [0, 1, 2, 3] [.agg [pI p.kind, pI p.from', pI p.to, pI p.inc, pI p.version, pI p.round, pI p.g, .ref 0 0, .ref 1 0, .ref 2 0, .ref 3 0], .pv (.int .i64 (k : Int))] [(0, (0, .row 3 1 (p.incs.map a0x))), (1, (0, .row 3 1 (p.versions.map a0x))), (2, (0, .row 76 7 (p.events.map v6v))), (3, (0, .row 104 5 (p.outs.map s2s)))] (.pv (.int .i64 ((k + zWl p : Nat) : Int))) [(0, (0, .row 3 1 ((kWl k p).incs.map a0x))), (1, (0, .row 3 1 ((kWl k p).versions.map a0x))), (2, (0, .row 76 7 ((kWl k p).events.map v6v))), (3, (0, .row 104 5 ((kWl k p).outs.map s2s)))] := by
 refine u9u x6x (fn := Tryz.f37) (by kernel_rfl) (by kernel_rfl) rfl (O0 := [.pv (.int .i64 ((k + zWl p : Nat) : Int))]) 4 1 (Nat.le_of_ble_eq_true rfl) (by rfl) (by repeat (first | exact BndH.nil | refine BndH.row (u3u fun _ => rfl) ?_)) (by repeat (first | exact BndH.nil | refine BndH.row (u3u fun _ => rfl) ?_)) (by rfl) fun γ => ?_
 show Ex Tryz.prog _ _ [(0, .agg [pI p.kind, pI p.from', pI p.to, pI p.inc, pI p.version, pI p.round, pI p.g, .ref 0 (γ 0), .ref 1 (γ 1), .ref 2 (γ 2), .ref 3 (γ 3)]), (1, .pv (.int .i64 (k : Int)))] [(0, ((γ 0), .row 3 1 (p.incs.map a0x))), (1, ((γ 1), .row 3 1 (p.versions.map a0x))), (2, ((γ 2), .row 76 7 (p.events.map v6v))), (3, ((γ 3), .row 104 5 (p.outs.map s2s))), (4, (0, .dead))] _
 have hz : zWl p = szs zI p.incs + szs zI p.versions + szs zEv p.events + szs zOu p.outs := rfl
 refine x4x x6x (by rfl) ?_
 refine v1v (id := 4) rfl rfl rfl ?_
 refine x2x rfl ?_
 refine x4x x6x (by rfl) ?_
 refine x0x rfl r0r rfl rfl v7v rfl rfl ?_
 refine x3x rfl v7v rfl rfl ?_
 refine x1x rfl ?_
 refine v5v [0] [_] (a4t p.incs k (by omega)) rfl rfl rfl (by decide) rfl rfl (by repeat (first | exact InH.nil | refine InH.cons rfl ?_)) (by (simp only [pI, List.map_cons, List.map_nil, u1u, u2u, gl, nx, q4q, Nat.beq, Nat.add_eq, List.getD_cons_zero, List.getD_cons_succ, List.getD_nil, Bool.or_false, Bool.false_or, Bool.true_or, Bool.or_true, Nat.add_zero, Nat.zero_add]; rfl)) (by (simp only [pI, List.map_cons, List.map_nil, u1u, u2u, gl, nx, q4q, Nat.beq, Nat.add_eq, List.getD_cons_zero, List.getD_cons_succ, List.getD_nil, Bool.or_false, Bool.false_or, Bool.true_or, Bool.or_true, Nat.add_zero, Nat.zero_add]; rfl)) ?_
 refine x2x rfl ?_
 refine x4x x6x (by rfl) ?_
 refine x0x rfl r0r rfl rfl v7v rfl rfl ?_
 refine x3x rfl v7v rfl rfl ?_
 refine x1x rfl ?_
 refine v5v [1] [_] (a4t p.versions (k + szs zI p.incs) (by omega)) rfl rfl rfl (by decide) rfl rfl (by repeat (first | exact InH.nil | refine InH.cons rfl ?_)) (by (simp only [pI, List.map_cons, List.map_nil, u1u, u2u, gl, nx, q4q, Nat.beq, Nat.add_eq, List.getD_cons_zero, List.getD_cons_succ, List.getD_nil, Bool.or_false, Bool.false_or, Bool.true_or, Bool.or_true, Nat.add_zero, Nat.zero_add]; rfl)) (by (simp only [pI, List.map_cons, List.map_nil, u1u, u2u, gl, nx, q4q, Nat.beq, Nat.add_eq, List.getD_cons_zero, List.getD_cons_succ, List.getD_nil, Bool.or_false, Bool.false_or, Bool.true_or, Bool.or_true, Nat.add_zero, Nat.zero_add]; rfl)) ?_
 refine x2x rfl ?_
 refine x4x x6x (by rfl) ?_
 refine x0x rfl r0r rfl rfl u7u rfl rfl ?_
 refine x3x rfl u7u rfl rfl ?_
 refine x1x rfl ?_
 refine v5v [2] [_] (a1r p.events (k + szs zI p.incs + szs zI p.versions) (by omega)) rfl rfl rfl (by decide) rfl rfl (by repeat (first | exact InH.nil | refine InH.cons rfl ?_)) (by (simp only [pI, List.map_cons, List.map_nil, u1u, u2u, gl, nx, q4q, Nat.beq, Nat.add_eq, List.getD_cons_zero, List.getD_cons_succ, List.getD_nil, Bool.or_false, Bool.false_or, Bool.true_or, Bool.or_true, Nat.add_zero, Nat.zero_add]; rfl)) (by (simp only [pI, List.map_cons, List.map_nil, u1u, u2u, gl, nx, q4q, Nat.beq, Nat.add_eq, List.getD_cons_zero, List.getD_cons_succ, List.getD_nil, Bool.or_false, Bool.false_or, Bool.true_or, Bool.or_true, Nat.add_zero, Nat.zero_add]; rfl)) ?_
 refine x2x rfl ?_
 refine x4x x6x (by rfl) ?_
 refine x0x rfl r0r rfl rfl w6w rfl rfl ?_
 refine x3x rfl w6w rfl rfl ?_
 refine x1x rfl ?_
 refine v5v [3] [_] (a4u p.outs (k + szs zI p.incs + szs zI p.versions + szs zEv p.events) (by omega)) rfl rfl rfl (by decide) rfl rfl (by repeat (first | exact InH.nil | refine InH.cons rfl ?_)) (by (simp only [pI, List.map_cons, List.map_nil, u1u, u2u, gl, nx, q4q, Nat.beq, Nat.add_eq, List.getD_cons_zero, List.getD_cons_succ, List.getD_nil, Bool.or_false, Bool.false_or, Bool.true_or, Bool.or_true, Nat.add_zero, Nat.zero_add]; rfl)) (by (simp only [pI, List.map_cons, List.map_nil, u1u, u2u, gl, nx, q4q, Nat.beq, Nat.add_eq, List.getD_cons_zero, List.getD_cons_succ, List.getD_nil, Bool.or_false, Bool.false_or, Bool.true_or, Bool.or_true, Nat.add_zero, Nat.zero_add]; rfl)) ?_
 refine x2x rfl ?_
 refine x4x x6x (by rfl) ?_
 refine x1x rfl ?_
 refine x2x rfl ?_
 refine y0y ?_
 exact ⟨.inr rfl, [γ 0, γ 1, γ 2, γ 3], rfl, congrArg (fun v : Nat => some [AV.pv (.int .i64 (v : Int))]) (by omega), HE.row rfl rfl (HE.row rfl rfl (HE.row rfl rfl (HE.row rfl rfl HE.nil)))⟩
theorem a8i (c : Bool) (p : Wo) (k : Nat) (hk : k + zWl p ≤ 1000000000) : s8s Tryz.prog 38 [.agg (b6g c (kWl k p)), .pv (.int .i64 (k : Int))] (.pv (.int .i64 ((k + zWl p : Nat) : Int))) := by
 refine z1z x6x (fn := Tryz.f38) (by kernel_rfl) (by kernel_rfl) rfl (outs := [.pv (.int .i64 ((k + zWl p : Nat) : Int))]) (by rfl) (Nat.le_of_ble_eq_true rfl) 1 ?_
 have hz : zWl p = szs zI p.incs + szs zI p.versions + szs zEv p.events + szs zOu p.outs := rfl
 refine x4x x6x (by rfl) ?_
 refine v1v (id := 0) rfl rfl rfl ?_
 refine x2x rfl ?_
 refine x4x x6x (by rfl) ?_
 refine x0x rfl r0r rfl rfl v7v rfl rfl ?_
 refine x3x rfl v7v rfl rfl ?_
 refine x1x rfl ?_
 refine y9y rfl rfl rfl (a4v c p.incs (k) (by omega)) ?_
 refine x2x rfl ?_
 refine x5x fun K1 hK1 => ?_
 refine x4x x6x (by rfl) ?_
 refine x1x rfl ?_
 refine y1y rfl rfl rfl ?_
 refine x8x rfl (fun hc2 => ?_) (fun hc2 => ?_)
 ·(simp [kI, kEv, kOu, kPa, kLa, kVi, kWo, mEv, mOu, mSt] at hc2; omega)
 try simp at hc2
 refine x9x ?_
 refine hK1 _ _ ?_
 clear hK1 K1
 refine x4x x6x (by rfl) ?_
 refine x0x rfl r0r rfl rfl v7v rfl rfl ?_
 refine x3x rfl v7v rfl rfl ?_
 refine x1x rfl ?_
 refine y9y rfl rfl rfl (a4v c p.versions (k + szs zI p.incs) (by omega)) ?_
 refine x2x rfl ?_
 refine x5x fun K3 hK3 => ?_
 refine x4x x6x (by rfl) ?_
 refine x1x rfl ?_
 refine y1y rfl rfl rfl ?_
 refine x8x rfl (fun hc4 => ?_) (fun hc4 => ?_)
 ·(simp [kI, kEv, kOu, kPa, kLa, kVi, kWo, mEv, mOu, mSt] at hc4; omega)
 try simp at hc4
 refine x9x ?_
 refine hK3 _ _ ?_
 clear hK3 K3
 refine x4x x6x (by rfl) ?_
 refine x0x rfl r0r rfl rfl u7u rfl rfl ?_
 refine x3x rfl u7u rfl rfl ?_
 refine x1x rfl ?_
 refine y9y rfl rfl rfl (a1s c p.events (k + szs zI p.incs + szs zI p.versions) (by omega)) ?_
 refine x2x rfl ?_
 refine x5x fun K5 hK5 => ?_
 refine x4x x6x (by rfl) ?_
 refine x1x rfl ?_
 refine y1y rfl rfl rfl ?_
 refine x8x rfl (fun hc6 => ?_) (fun hc6 => ?_)
 ·(simp [kI, kEv, kOu, kPa, kLa, kVi, kWo, mEv, mOu, mSt] at hc6; omega)
 try simp at hc6
 refine x9x ?_
 refine hK5 _ _ ?_
 clear hK5 K5
 refine x4x x6x (by rfl) ?_
 refine x0x rfl r0r rfl rfl w6w rfl rfl ?_
 refine x3x rfl w6w rfl rfl ?_
 refine x1x rfl ?_
 refine y9y rfl rfl rfl (a4w c p.outs (k + szs zI p.incs + szs zI p.versions + szs zEv p.events) (by omega)) ?_
 refine x2x rfl ?_
 refine x5x fun K7 hK7 => ?_
 refine x4x x6x (by rfl) ?_
 refine x1x rfl ?_
 refine y1y rfl rfl rfl ?_
 refine x8x rfl (fun hc8 => ?_) (fun hc8 => ?_)
 ·(simp [kI, kEv, kOu, kPa, kLa, kVi, kWo, mEv, mOu, mSt] at hc8; omega)
 try simp at hc8
 refine x9x ?_
 refine hK7 _ _ ?_
 clear hK7 K7
 refine x4x x6x (by rfl) ?_
 refine x1x rfl ?_
 refine x2x rfl ?_
 refine y0y ⟨.inr rfl, ?_⟩
 refine y8y rfl ?_ rfl
 exact congrArg (fun v : Nat => [AV.pv (.int .i64 (v : Int))]) (by omega)
end
section
theorem a0z (c : Bool) (a : Ev) (l : List Ev) (hl : (a :: l).length ≤ 10000000) : Meth Tryz.prog 172 1 [] [a1n c (a :: l)] [(0, (0, .dead))] (.ref 0 0) [(0, (0, .row 76 7 ((a :: l).map v6v)))] := by
 refine u9u x6x (fn := Tryz.f172) (by kernel_rfl) (by kernel_rfl) rfl (O0 := [.ref 0 0]) 1 1 (Nat.le_of_ble_eq_true rfl) (by rfl) (by repeat (first | exact BndH.nil | refine BndH.dead ?_)) (by repeat (first | exact BndH.nil | refine BndH.row (u3u fun _ => rfl) ?_)) (by rfl) fun γ => ?_
 show Ex Tryz.prog _ _ [(0, a1n c (a :: l))] [(0, ((γ 0), .dead)), (1, (0, .dead))] _
 refine x4x x6x (by rfl) ?_
 refine x2x rfl ?_
 refine x5x fun K1 hK1 => ?_
 refine x4x x6x (by rfl) ?_
 refine x1x rfl ?_
 refine a9v rfl rfl (by (intro p q h; cases h)) (.inl rfl) (c2o Tryz.underlying24 _ _ (by simp)) ?_
 refine x8x rfl (fun hc2 => ?_) (fun hc2 => ?_)
 ·simp [a2q] at hc2
 try simp at hc2
 refine x9x ?_
 refine hK1 _ _ ?_
 clear hK1 K1
 refine x4x x6x (by rfl) ?_
 refine r9r (id := 0) u7u rfl z3z rfl ?_
 refine x1x rfl ?_
 refine a0q (zs := (a :: l).map v6v) rfl rfl u7u rfl z3z rfl rfl rfl (by exact a1c (fun _ => rfl) _) rfl (by (simp only [List.length_map, List.length_append, List.length_cons, List.length_nil, List.length_take, T76] at *; omega)) ?_
 refine x2x rfl ?_
 refine y0y ?_
 exact ⟨.inr rfl, [_], rfl, rfl, HE.row rfl rfl HE.nil⟩
theorem a1h (c : Bool) : Meth Tryz.prog 172 1 [] [a1n c []] [(0, (0, .dead))] (.ref 0 0) [(0, (0, .row 76 7 (([] : List Ev).map v6v)))] := by
 refine u9u x6x (fn := Tryz.f172) (by kernel_rfl) (by kernel_rfl) rfl (O0 := [.ref 0 0]) 1 1 (Nat.le_of_ble_eq_true rfl) (by rfl) (by repeat (first | exact BndH.nil | refine BndH.dead ?_)) (by repeat (first | exact BndH.nil | refine BndH.row (u3u fun _ => rfl) ?_)) (by rfl) fun γ => ?_
 show Ex Tryz.prog _ _ [(0, a1n c [])] [(0, ((γ 0), .dead)), (1, (0, .dead))] _
 refine b8k 0 rfl fun A0 cap hcap => ?_
 refine x4x x6x (by rfl) ?_
 refine x2x rfl ?_
 refine x5x fun K1 hK1 => ?_
 refine x4x x6x (by rfl) ?_
 refine x1x rfl ?_
 refine a9v rfl rfl (by (intro p q h h2; cases h; cases h2; rfl)) (.inl rfl) (b4v Tryz.underlying24 _ _ _ _ _) ?_
 refine x8x rfl (fun hc2 => ?_) (fun hc2 => ?_)
 ·try simp at hc2
  refine x4x x6x (by rfl) ?_
  refine x2x rfl ?_
  refine a3e 2 0 76 7 rfl rfl ?_
  refine y0y ?_
  exact ⟨.inr rfl, [_], rfl, rfl, HE.row rfl rfl HE.nil⟩
 try simp at hc2
 refine x9x ?_
 refine hK1 _ _ ?_
 clear hK1 K1
 refine c7f 0 76 7 rfl hcap ?_
 refine x4x x6x (by rfl) ?_
 refine r9r (id := 0) u7u rfl z3z rfl ?_
 refine x1x rfl ?_
 refine a0q (zs := ([] : List Ev).map v6v) rfl rfl u7u rfl z3z rfl rfl rfl (by rfl) rfl (by (simp only [List.length_map, List.length_append, List.length_cons, List.length_nil, List.length_take, T76] at *; omega)) ?_
 refine x2x rfl ?_
 refine y0y ?_
 exact ⟨.inr rfl, [_], rfl, rfl, HE.row rfl rfl HE.nil⟩
theorem q2q (c : Bool) (l : List Ev) (hl : l.length ≤ 10000000) : Meth Tryz.prog 172 1 [] [a1n c l] [(0, (0, .dead))] (.ref 0 0) [(0, (0, .row 76 7 (l.map v6v)))] := by
 cases l with
 | nil => exact a1h c
 | cons a l => exact a0z c a l hl
theorem a1w (c : Bool) (a : Ou) (l : List Ou) (hl : (a :: l).length ≤ 10000000) : Meth Tryz.prog 106 1 [] [a3k c (a :: l)] [(0, (0, .dead))] (.ref 0 0) [(0, (0, .row 104 5 ((a :: l).map s2s)))] := by
 refine u9u x6x (fn := Tryz.f106) (by kernel_rfl) (by kernel_rfl) rfl (O0 := [.ref 0 0]) 1 1 (Nat.le_of_ble_eq_true rfl) (by rfl) (by repeat (first | exact BndH.nil | refine BndH.dead ?_)) (by repeat (first | exact BndH.nil | refine BndH.row (u3u fun _ => rfl) ?_)) (by rfl) fun γ => ?_
 show Ex Tryz.prog _ _ [(0, a3k c (a :: l))] [(0, ((γ 0), .dead)), (1, (0, .dead))] _
 refine x4x x6x (by rfl) ?_
 refine x2x rfl ?_
 refine x5x fun K1 hK1 => ?_
 refine x4x x6x (by rfl) ?_
 refine x1x rfl ?_
 refine a9v rfl rfl (by (intro p q h; cases h)) (.inl rfl) (c2o Tryz.underlying25 _ _ (by simp)) ?_
 refine x8x rfl (fun hc2 => ?_) (fun hc2 => ?_)
 ·simp [a2q] at hc2
 try simp at hc2
 refine x9x ?_
 refine hK1 _ _ ?_
 clear hK1 K1
 refine x4x x6x (by rfl) ?_
 refine r9r (id := 0) w6w rfl v2v rfl ?_
 refine x1x rfl ?_
 refine a0q (zs := (a :: l).map s2s) rfl rfl w6w rfl v2v rfl rfl rfl (by exact a1c (fun _ => rfl) _) rfl (by (simp only [List.length_map, List.length_append, List.length_cons, List.length_nil, List.length_take, T104] at *; omega)) ?_
 refine x2x rfl ?_
 refine y0y ?_
 exact ⟨.inr rfl, [_], rfl, rfl, HE.row rfl rfl HE.nil⟩
theorem a2d (c : Bool) : Meth Tryz.prog 106 1 [] [a3k c []] [(0, (0, .dead))] (.ref 0 0) [(0, (0, .row 104 5 (([] : List Ou).map s2s)))] := by
 refine u9u x6x (fn := Tryz.f106) (by kernel_rfl) (by kernel_rfl) rfl (O0 := [.ref 0 0]) 1 1 (Nat.le_of_ble_eq_true rfl) (by rfl) (by repeat (first | exact BndH.nil | refine BndH.dead ?_)) (by repeat (first | exact BndH.nil | refine BndH.row (u3u fun _ => rfl) ?_)) (by rfl) fun γ => ?_
 show Ex Tryz.prog _ _ [(0, a3k c [])] [(0, ((γ 0), .dead)), (1, (0, .dead))] _
 refine b8k 0 rfl fun A0 cap hcap => ?_
 refine x4x x6x (by rfl) ?_
 refine x2x rfl ?_
 refine x5x fun K1 hK1 => ?_
 refine x4x x6x (by rfl) ?_
 refine x1x rfl ?_
 refine a9v rfl rfl (by (intro p q h h2; cases h; cases h2; rfl)) (.inl rfl) (b4v Tryz.underlying25 _ _ _ _ _) ?_
 refine x8x rfl (fun hc2 => ?_) (fun hc2 => ?_)
 ·try simp at hc2
  refine x4x x6x (by rfl) ?_
  refine x2x rfl ?_
  refine a3e 2 0 104 5 rfl rfl ?_
  refine y0y ?_
  exact ⟨.inr rfl, [_], rfl, rfl, HE.row rfl rfl HE.nil⟩
 try simp at hc2
 refine x9x ?_
 refine hK1 _ _ ?_
 clear hK1 K1
 refine c7f 0 104 5 rfl hcap ?_
 refine x4x x6x (by rfl) ?_
 refine r9r (id := 0) w6w rfl v2v rfl ?_
 refine x1x rfl ?_
 refine a0q (zs := ([] : List Ou).map s2s) rfl rfl w6w rfl v2v rfl rfl rfl (by rfl) rfl (by (simp only [List.length_map, List.length_append, List.length_cons, List.length_nil, List.length_take, T76] at *; omega)) ?_
 refine x2x rfl ?_
 refine y0y ?_
 exact ⟨.inr rfl, [_], rfl, rfl, HE.row rfl rfl HE.nil⟩
theorem a0d (c : Bool) (l : List Ou) (hl : l.length ≤ 10000000) : Meth Tryz.prog 106 1 [] [a3k c l] [(0, (0, .dead))] (.ref 0 0) [(0, (0, .row 104 5 (l.map s2s)))] := by
 cases l with
 | nil => exact a2d c
 | cons a l => exact a1w c a l hl
theorem a4z (c : Bool) (a : Int) (l : List Int) (hl : (a :: l).length ≤ 10000000) : Meth Tryz.prog 175 1 [] [a3s c (a :: l)] [(0, (0, .dead))] (.ref 0 0) [(0, (0, .row 3 1 ((a :: l).map a0x)))] := by
 refine u9u x6x (fn := Tryz.f175) (by kernel_rfl) (by kernel_rfl) rfl (O0 := [.ref 0 0]) 1 1 (Nat.le_of_ble_eq_true rfl) (by rfl) (by repeat (first | exact BndH.nil | refine BndH.dead ?_)) (by repeat (first | exact BndH.nil | refine BndH.row (u3u fun _ => rfl) ?_)) (by rfl) fun γ => ?_
 show Ex Tryz.prog _ _ [(0, a3s c (a :: l))] [(0, ((γ 0), .dead)), (1, (0, .dead))] _
 refine x4x x6x (by rfl) ?_
 refine x2x rfl ?_
 refine x5x fun K1 hK1 => ?_
 refine x4x x6x (by rfl) ?_
 refine x1x rfl ?_
 refine a9v rfl rfl (by (intro p q h; cases h)) (.inl rfl) (c2o Tryz.underlying22 _ _ (by simp)) ?_
 refine x8x rfl (fun hc2 => ?_) (fun hc2 => ?_)
 ·simp [a2q] at hc2
 try simp at hc2
 refine x9x ?_
 refine hK1 _ _ ?_
 clear hK1 K1
 refine x4x x6x (by rfl) ?_
 refine r9r (id := 0) v7v rfl y6y rfl ?_
 refine x1x rfl ?_
 refine a0q (zs := (a :: l).map a0x) rfl rfl v7v rfl y6y rfl rfl rfl (by exact a1c (fun _ => rfl) _) rfl (by (simp only [List.length_map, List.length_append, List.length_cons, List.length_nil, List.length_take, T3] at *; omega)) ?_
 refine x2x rfl ?_
 refine y0y ?_
 exact ⟨.inr rfl, [_], rfl, rfl, HE.row rfl rfl HE.nil⟩
theorem a5f (c : Bool) : Meth Tryz.prog 175 1 [] [a3s c []] [(0, (0, .dead))] (.ref 0 0) [(0, (0, .row 3 1 (([] : List Int).map a0x)))] := by
 refine u9u x6x (fn := Tryz.f175) (by kernel_rfl) (by kernel_rfl) rfl (O0 := [.ref 0 0]) 1 1 (Nat.le_of_ble_eq_true rfl) (by rfl) (by repeat (first | exact BndH.nil | refine BndH.dead ?_)) (by repeat (first | exact BndH.nil | refine BndH.row (u3u fun _ => rfl) ?_)) (by rfl) fun γ => ?_
 show Ex Tryz.prog _ _ [(0, a3s c [])] [(0, ((γ 0), .dead)), (1, (0, .dead))] _
 refine b8k 0 rfl fun A0 cap hcap => ?_
 refine x4x x6x (by rfl) ?_
 refine x2x rfl ?_
 refine x5x fun K1 hK1 => ?_
 refine x4x x6x (by rfl) ?_
 refine x1x rfl ?_
 refine a9v rfl rfl (by (intro p q h h2; cases h; cases h2; rfl)) (.inl rfl) (b4v Tryz.underlying22 _ _ _ _ _) ?_
 refine x8x rfl (fun hc2 => ?_) (fun hc2 => ?_)
 ·try simp at hc2
  refine x4x x6x (by rfl) ?_
  refine x2x rfl ?_
  refine a3e 2 0 3 1 rfl rfl ?_
  refine y0y ?_
  exact ⟨.inr rfl, [_], rfl, rfl, HE.row rfl rfl HE.nil⟩
 try simp at hc2
 refine x9x ?_
 refine hK1 _ _ ?_
 clear hK1 K1
 refine c7f 0 3 1 rfl hcap ?_
 refine x4x x6x (by rfl) ?_
 refine r9r (id := 0) v7v rfl y6y rfl ?_
 refine x1x rfl ?_
 refine a0q (zs := ([] : List Int).map a0x) rfl rfl v7v rfl y6y rfl rfl rfl (by rfl) rfl (by (simp only [List.length_map, List.length_append, List.length_cons, List.length_nil, List.length_take, T76] at *; omega)) ?_
 refine x2x rfl ?_
 refine y0y ?_
 exact ⟨.inr rfl, [_], rfl, rfl, HE.row rfl rfl HE.nil⟩
theorem a7t (c : Bool) (l : List Int) (hl : l.length ≤ 10000000) : Meth Tryz.prog 175 1 [] [a3s c l] [(0, (0, .dead))] (.ref 0 0) [(0, (0, .row 3 1 (l.map a0x)))] := by
 cases l with
 | nil => exact a5f c
 | cons a l => exact a4z c a l hl
end
section
theorem b5k (c : Bool) (p : Pa) (hs : p.sends.length ≤ 1048576) (ho : p.outs.length ≤ 1048576) : Meth Tryz.prog 199 2 [] [.agg (a2c c p)] [(0, (0, .dead)), (1, (0, .dead))] (.agg [pI p.ev.time, pI p.ev.to, pI p.ev.from', pI p.ev.count, pI p.ev.n, pI p.ev.kind, pI p.ev.arg, pI p.after.x, pI p.after.y, pI p.after.count, .ref 0 0, .ref 1 0]) [(0, (0, .row 76 7 (p.sends.map v6v))), (1, (0, .row 104 5 (p.outs.map s2s)))] := by
 refine u9u x6x (fn := Tryz.f199) (by kernel_rfl) (by kernel_rfl) rfl (O0 := [.agg [pI p.ev.time, pI p.ev.to, pI p.ev.from', pI p.ev.count, pI p.ev.n, pI p.ev.kind, pI p.ev.arg, pI p.after.x, pI p.after.y, pI p.after.count, .ref 0 0, .ref 1 0]]) 2 2 (Nat.le_of_ble_eq_true rfl) (by rfl) (by repeat (first | exact BndH.nil | refine BndH.dead ?_)) (by repeat (first | exact BndH.nil | refine BndH.row (u3u fun _ => rfl) ?_)) (by rfl) fun γ => ?_
 show Ex Tryz.prog _ _ [(0, .agg (a2c c p))] [(0, ((γ 0), .dead)), (1, ((γ 1), .dead)), (3, (0, .dead)), (2, (0, .dead))] _
 refine x4x x6x (by rfl) ?_
 refine v1v (id := 2) rfl rfl rfl ?_
 refine u8u (id := 3) v8v b4n rfl ?_
 refine x4x x6x (by rfl) ?_
 refine x0x rfl v8v rfl rfl u7u rfl rfl ?_
 refine x3x rfl u7u rfl rfl ?_
 refine v5v [0] [_] (q2q c p.sends (by omega)) rfl rfl rfl (by decide) rfl rfl (by repeat (first | exact InH.nil | refine InH.cons rfl ?_)) (by (simp only [pI, List.map_cons, List.map_nil, u1u, u2u, gl, nx, q4q, Nat.beq, Nat.add_eq, List.getD_cons_zero, List.getD_cons_succ, List.getD_nil, Bool.or_false, Bool.false_or, Bool.true_or, Bool.or_true, Nat.add_zero, Nat.zero_add]; rfl)) (by (simp only [pI, List.map_cons, List.map_nil, u1u, u2u, gl, nx, q4q, Nat.beq, Nat.add_eq, List.getD_cons_zero, List.getD_cons_succ, List.getD_nil, Bool.or_false, Bool.false_or, Bool.true_or, Bool.or_true, Nat.add_zero, Nat.zero_add]; rfl)) ?_
 refine x0x rfl v8v rfl rfl u7u rfl rfl ?_
 refine u4u rfl rfl u7u rfl rfl rfl rfl rfl (by simp only [List.set_cons_zero, List.set_cons_succ]; rfl) ?_
 refine x4x x6x (by rfl) ?_
 refine x0x rfl v8v rfl rfl w6w rfl rfl ?_
 refine x3x rfl w6w rfl rfl ?_
 refine v5v [1] [_] (a0d c p.outs (by omega)) rfl rfl rfl (by decide) rfl rfl (by repeat (first | exact InH.nil | refine InH.cons rfl ?_)) (by (simp only [pI, List.map_cons, List.map_nil, u1u, u2u, gl, nx, q4q, Nat.beq, Nat.add_eq, List.getD_cons_zero, List.getD_cons_succ, List.getD_nil, Bool.or_false, Bool.false_or, Bool.true_or, Bool.or_true, Nat.add_zero, Nat.zero_add]; rfl)) (by (simp only [pI, List.map_cons, List.map_nil, u1u, u2u, gl, nx, q4q, Nat.beq, Nat.add_eq, List.getD_cons_zero, List.getD_cons_succ, List.getD_nil, Bool.or_false, Bool.false_or, Bool.true_or, Bool.or_true, Nat.add_zero, Nat.zero_add]; rfl)) ?_
 refine x0x rfl v8v rfl rfl w6w rfl rfl ?_
 refine u4u rfl rfl w6w rfl rfl rfl rfl rfl (by simp only [List.set_cons_zero, List.set_cons_succ]; rfl) ?_
 refine x4x x6x (by rfl) ?_
 refine y4y rfl v8v rfl rfl rfl ?_
 refine z5z rfl rfl v8v rfl rfl rfl rfl ?_
 refine y0y ?_
 exact ⟨.inr rfl, [_, _], rfl, rfl, HE.row rfl rfl (HE.row rfl rfl HE.nil)⟩
theorem a5u (c : Bool) (l : List Pa) (hl : b8t l ≤ 1048576) : Meth Tryz.prog 198 1 [] [a7l c l, .fn (.func 199) [] []] [(0, (0, .dead))] (.ref 0 0) [(0, (0, .row 78 12 (l.map a1u)))] := by
 refine u9u x6x (fn := Tryz.f198) (by kernel_rfl) (by kernel_rfl) rfl (O0 := [.ref 0 0]) 1 3 (Nat.le_of_ble_eq_true rfl) (by rfl) (by repeat (first | exact BndH.nil | refine BndH.dead ?_)) (by repeat (first | exact BndH.nil | refine BndH.row (u3u fun _ => rfl) ?_)) (by rfl) fun γ => ?_
 show Ex Tryz.prog _ _ [(0, a7l c l), (1, .fn (.func 199) [] [])] [(0, ((γ 0), .dead)), (3, (0, .dead)), (2, (0, .dead)), (1, (0, .dead))] _
 have hc : b8t l = l.length + szs cPa l := rfl
 refine w7w 0 rfl fun hlen => ?_
 refine x4x x6x (by rfl) ?_
 refine x2x rfl ?_
 refine x5x fun K1 hK1 => ?_
 refine x4x x6x (by rfl) ?_
 refine x1x rfl ?_
 refine u0u rfl v9v rfl ?_
 refine y1y rfl rfl rfl ?_
 refine x8x rfl (fun hc2 => ?_) (fun hc2 => ?_)
 ·try simp at hc2
  obtain rfl : l = [] := List.eq_nil_of_length_eq_zero (by simpa using hc2)
  refine x4x x6x (by rfl) ?_
  refine x2x rfl ?_
  refine a3e 4 0 78 12 rfl rfl ?_
  refine y0y ?_
  exact ⟨.inr rfl, [_], rfl, rfl, HE.row rfl rfl HE.nil⟩
 try simp at hc2
 refine x9x ?_
 refine hK1 _ _ ?_
 clear hK1 K1
 refine x4x x6x (by rfl) ?_
 refine x1x rfl ?_
 refine u0u rfl v9v rfl ?_
 refine a4l (id := 0) v9v rfl v8v b4n rfl rfl rfl rfl (by (simp only [List.length_map, List.length_append, List.length_cons, List.length_nil, List.length_take, List.length_range, T78]; omega)) rfl ?_
 refine x2x rfl ?_
 refine x5x fun K3 hK3 => ?_
 refine x4x x6x (by rfl) ?_
 refine x1x rfl ?_
 refine u0u rfl v9v rfl ?_
 refine x1x rfl ?_
 refine y7y ?_
 refine u5u (ι := Nat) (fun i γ1 => [(16, .pv (.int .i64 (i : Int)))]) (fun i γ1 => [(2, ((γ1 2), .dead)), (3, ((γ1 3), .dead)), (0, ((γ 0 + 1), .row 78 12 ((l.take i).map a1u ++ (l.drop i).map fun _ => [pI 0, pI 0, pI 0, pI 0, pI 0, pI 0, pI 0, pI 0, pI 0, pI 0, .pv (.slice none 0 0), .pv (.slice none 0 0)]))), (1, ((γ1 1), .dead))]) (fun i => i ≤ l.length) (fun i => l.length - i) (Cov.cons (t := 1) rfl (Cov.cons (t := 5) rfl (Cov.cons (t := 14) rfl (Cov.cons (t := 15) rfl Cov.nil)))) HE.nil 0 (by omega) [0, _, _, _] (Cov.cons (t := 16) rfl Cov.nil) (HE.kill rfl (HE.kill rfl (HE.row rfl (by rw [List.take_zero, List.drop_zero, List.map_const']; rfl) (HE.kill rfl HE.nil)))) rfl fun i γ1 hi => ?_
 try dsimp only [List.cons_append, List.nil_append]
 refine x4x x6x (by rfl) ?_
 refine y1y rfl rfl rfl ?_
 refine x5x fun K4 hK4 => ?_
 refine x8x rfl (fun hc5 => ?_) (fun hc5 => ?_)
 rotate_left
 ·try simp at hc5
  obtain rfl : i = l.length := by omega
  refine v0v ?_
  refine hK3 _ _ ?_
  clear hK4 K4 hK3 K3
  refine x4x x6x (by rfl) ?_
  refine x1x rfl ?_
  refine x2x rfl ?_
  refine y0y ?_
  exact ⟨.inr rfl, [_], rfl, rfl, HE.row rfl (by rw [List.take_length, List.drop_length, List.map_nil, List.append_nil]) HE.nil⟩
 try simp at hc5
 obtain ⟨p, hp⟩ : ∃ p, l[i]? = some p := ⟨_, List.getElem?_eq_getElem (by omega)⟩
 have hAl : ((l.take i).map a1u).length = i := by rw [List.length_map, List.length_take]; omega
 rw [q1q hp, List.map_cons]
 have hat := a1z cPa hp
 have hcp : cPa p = p.sends.length + p.outs.length := rfl
 refine x9x ?_
 refine hK4 _ _ ?_
 clear hK4 K4
 refine x5x fun K6 hK6 => ?_
 refine y7y ?_
 refine x4x x6x (by rfl) ?_
 refine x1x rfl ?_
 refine z7z rfl rfl v9v rfl v8v rfl (by assumption) ?_
 refine z6z rfl v8v rfl rfl ?_
 refine u8u (id := 1) v8v b4n rfl ?_
 refine x2x rfl ?_
 refine z5z rfl rfl v8v rfl rfl rfl rfl ?_
 refine y3y x6x (by rfl) ?_
 refine x1x rfl ?_
 refine x1x rfl ?_
 refine x1x rfl ?_
 refine y4y rfl v8v rfl rfl rfl ?_
 refine v5v [2, 3] [_, _] (b5k c p (by omega) (by omega)) rfl rfl rfl (by decide) rfl rfl (by repeat (first | exact InH.nil | refine InH.cons rfl ?_)) (by (simp only [pI, List.map_cons, List.map_nil, u1u, u2u, gl, nx, q4q, Nat.beq, Nat.add_eq, List.getD_cons_zero, List.getD_cons_succ, List.getD_nil, Bool.or_false, Bool.false_or, Bool.true_or, Bool.or_true, Nat.add_zero, Nat.zero_add]; rfl)) (by (simp only [pI, List.map_cons, List.map_nil, u1u, u2u, gl, nx, q4q, Nat.beq, Nat.add_eq, List.getD_cons_zero, List.getD_cons_succ, List.getD_nil, Bool.or_false, Bool.false_or, Bool.true_or, Bool.or_true, Nat.add_zero, Nat.zero_add]; rfl)) ?_
 refine q0q rfl rfl v9v rfl v8v rfl rfl hAl ?_
 refine a1p hAl rfl rfl v8v rfl rfl rfl rfl (d1v rfl rfl rfl) rfl ?_
 refine hK6 _ _ ?_
 clear hK6 K6
 refine y3y x6x (by rfl) ?_
 refine y1y rfl rfl rfl ?_
 refine x1x rfl ?_
 exact ⟨i + 1, ⟨by omega, by omega⟩, [0, _, _, _], (Cov.cons' (t := 16) rfl (by rw [v3v (by omega) (by omega)]; rfl) Cov.nil), (Cov.cons (t := 1) rfl (Cov.cons (t := 5) rfl (Cov.cons (t := 14) rfl (Cov.cons (t := 15) rfl Cov.nil)))), (HE.kill rfl (HE.kill rfl (HE.row rfl (by rw [p0p hp, List.map_append, List.append_assoc]; rfl) (HE.kill rfl HE.nil)))), HE.nil, rfl⟩
theorem b5l (c : Bool) (p : La) (hs : b8t p.done ≤ 1048576) : Meth Tryz.prog 125 1 [] [.agg (a1q c p)] [(0, (0, .dead))] (.agg [pI p.proc, pI p.base.x, pI p.base.y, pI p.base.count, .ref 0 0]) [(0, (0, .row 78 12 (p.done.map a1u)))] := by
 refine u9u x6x (fn := Tryz.f125) (by kernel_rfl) (by kernel_rfl) rfl (O0 := [.agg [pI p.proc, pI p.base.x, pI p.base.y, pI p.base.count, .ref 0 0]]) 1 2 (Nat.le_of_ble_eq_true rfl) (by rfl) (by repeat (first | exact BndH.nil | refine BndH.dead ?_)) (by repeat (first | exact BndH.nil | refine BndH.row (u3u fun _ => rfl) ?_)) (by rfl) fun γ => ?_
 show Ex Tryz.prog _ _ [(0, .agg (a1q c p))] [(0, ((γ 0), .dead)), (2, (0, .dead)), (1, (0, .dead))] _
 refine x4x x6x (by rfl) ?_
 refine v1v (id := 1) rfl rfl rfl ?_
 refine u8u (id := 2) v4v a9u rfl ?_
 refine x4x x6x (by rfl) ?_
 refine x0x rfl v4v rfl rfl v9v rfl rfl ?_
 refine x3x rfl v9v rfl rfl ?_
 refine v5v [0] [_] (a5u c p.done hs) rfl rfl rfl (by decide) rfl rfl (by repeat (first | exact InH.nil | refine InH.cons rfl ?_)) (by (simp only [pI, List.map_cons, List.map_nil, u1u, u2u, gl, nx, q4q, Nat.beq, Nat.add_eq, List.getD_cons_zero, List.getD_cons_succ, List.getD_nil, Bool.or_false, Bool.false_or, Bool.true_or, Bool.or_true, Nat.add_zero, Nat.zero_add]; rfl)) (by (simp only [pI, List.map_cons, List.map_nil, u1u, u2u, gl, nx, q4q, Nat.beq, Nat.add_eq, List.getD_cons_zero, List.getD_cons_succ, List.getD_nil, Bool.or_false, Bool.false_or, Bool.true_or, Bool.or_true, Nat.add_zero, Nat.zero_add]; rfl)) ?_
 refine x0x rfl v4v rfl rfl v9v rfl rfl ?_
 refine u4u rfl rfl v9v rfl rfl rfl rfl rfl (by simp only [List.set_cons_zero, List.set_cons_succ]; rfl) ?_
 refine x4x x6x (by rfl) ?_
 refine y4y rfl v4v rfl rfl rfl ?_
 refine z5z rfl rfl v4v rfl rfl rfl rfl ?_
 refine y0y ?_
 exact ⟨.inr rfl, [_], rfl, rfl, HE.row rfl rfl HE.nil⟩
theorem a5v (c : Bool) (l : List La) (hl : b2w l ≤ 1048576) : Meth Tryz.prog 171 1 [] [b9u c l, .fn (.func 125) [] []] [(0, (0, .dead))] (.ref 0 0) [(0, (0, .row 65 5 (l.map a0u)))] := by
 refine u9u x6x (fn := Tryz.f171) (by kernel_rfl) (by kernel_rfl) rfl (O0 := [.ref 0 0]) 1 2 (Nat.le_of_ble_eq_true rfl) (by rfl) (by repeat (first | exact BndH.nil | refine BndH.dead ?_)) (by repeat (first | exact BndH.nil | refine BndH.row (u3u fun _ => rfl) ?_)) (by rfl) fun γ => ?_
 show Ex Tryz.prog _ _ [(0, b9u c l), (1, .fn (.func 125) [] [])] [(0, ((γ 0), .dead)), (2, (0, .dead)), (1, (0, .dead))] _
 have hc : b2w l = l.length + szs cLa l := rfl
 refine w7w 0 rfl fun hlen => ?_
 refine x4x x6x (by rfl) ?_
 refine x2x rfl ?_
 refine x5x fun K1 hK1 => ?_
 refine x4x x6x (by rfl) ?_
 refine x1x rfl ?_
 refine u0u rfl w4w rfl ?_
 refine y1y rfl rfl rfl ?_
 refine x8x rfl (fun hc2 => ?_) (fun hc2 => ?_)
 ·try simp at hc2
  obtain rfl : l = [] := List.eq_nil_of_length_eq_zero (by simpa using hc2)
  refine x4x x6x (by rfl) ?_
  refine x2x rfl ?_
  refine a3e 4 0 65 5 rfl rfl ?_
  refine y0y ?_
  exact ⟨.inr rfl, [_], rfl, rfl, HE.row rfl rfl HE.nil⟩
 try simp at hc2
 refine x9x ?_
 refine hK1 _ _ ?_
 clear hK1 K1
 refine x4x x6x (by rfl) ?_
 refine x1x rfl ?_
 refine u0u rfl w4w rfl ?_
 refine a4l (id := 0) w4w rfl v4v a9u rfl rfl rfl rfl (by (simp only [List.length_map, List.length_append, List.length_cons, List.length_nil, List.length_take, List.length_range, T65]; omega)) rfl ?_
 refine x2x rfl ?_
 refine x5x fun K3 hK3 => ?_
 refine x4x x6x (by rfl) ?_
 refine x1x rfl ?_
 refine u0u rfl w4w rfl ?_
 refine x1x rfl ?_
 refine y7y ?_
 refine u5u (ι := Nat) (fun i γ1 => [(16, .pv (.int .i64 (i : Int)))]) (fun i γ1 => [(2, ((γ1 2), .dead)), (0, ((γ 0 + 1), .row 65 5 ((l.take i).map a0u ++ (l.drop i).map fun _ => [pI 0, pI 0, pI 0, pI 0, .pv (.slice none 0 0)]))), (1, ((γ1 1), .dead))]) (fun i => i ≤ l.length) (fun i => l.length - i) (Cov.cons (t := 1) rfl (Cov.cons (t := 5) rfl (Cov.cons (t := 14) rfl (Cov.cons (t := 15) rfl Cov.nil)))) HE.nil 0 (by omega) [0, _, _] (Cov.cons (t := 16) rfl Cov.nil) (HE.kill rfl (HE.row rfl (by rw [List.take_zero, List.drop_zero, List.map_const']; rfl) (HE.kill rfl HE.nil))) rfl fun i γ1 hi => ?_
 try dsimp only [List.cons_append, List.nil_append]
 refine x4x x6x (by rfl) ?_
 refine y1y rfl rfl rfl ?_
 refine x5x fun K4 hK4 => ?_
 refine x8x rfl (fun hc5 => ?_) (fun hc5 => ?_)
 rotate_left
 ·try simp at hc5
  obtain rfl : i = l.length := by omega
  refine v0v ?_
  refine hK3 _ _ ?_
  clear hK4 K4 hK3 K3
  refine x4x x6x (by rfl) ?_
  refine x1x rfl ?_
  refine x2x rfl ?_
  refine y0y ?_
  exact ⟨.inr rfl, [_], rfl, rfl, HE.row rfl (by rw [List.take_length, List.drop_length, List.map_nil, List.append_nil]) HE.nil⟩
 try simp at hc5
 obtain ⟨p, hp⟩ : ∃ p, l[i]? = some p := ⟨_, List.getElem?_eq_getElem (by omega)⟩
 have hAl : ((l.take i).map a0u).length = i := by rw [List.length_map, List.length_take]; omega
 rw [q1q hp, List.map_cons]
 have hat := a1z cLa hp
 have hcp : cLa p = b8t p.done := rfl
 refine x9x ?_
 refine hK4 _ _ ?_
 clear hK4 K4
 refine x5x fun K6 hK6 => ?_
 refine y7y ?_
 refine x4x x6x (by rfl) ?_
 refine x1x rfl ?_
 refine z7z rfl rfl w4w rfl v4v rfl (by assumption) ?_
 refine z6z rfl v4v rfl rfl ?_
 refine u8u (id := 1) v4v a9u rfl ?_
 refine x2x rfl ?_
 refine z5z rfl rfl v4v rfl rfl rfl rfl ?_
 refine y3y x6x (by rfl) ?_
 refine x1x rfl ?_
 refine x1x rfl ?_
 refine x1x rfl ?_
 refine y4y rfl v4v rfl rfl rfl ?_
 refine v5v [2] [_] (b5l c p (by omega)) rfl rfl rfl (by decide) rfl rfl (by repeat (first | exact InH.nil | refine InH.cons rfl ?_)) (by (simp only [pI, List.map_cons, List.map_nil, u1u, u2u, gl, nx, q4q, Nat.beq, Nat.add_eq, List.getD_cons_zero, List.getD_cons_succ, List.getD_nil, Bool.or_false, Bool.false_or, Bool.true_or, Bool.or_true, Nat.add_zero, Nat.zero_add]; rfl)) (by (simp only [pI, List.map_cons, List.map_nil, u1u, u2u, gl, nx, q4q, Nat.beq, Nat.add_eq, List.getD_cons_zero, List.getD_cons_succ, List.getD_nil, Bool.or_false, Bool.false_or, Bool.true_or, Bool.or_true, Nat.add_zero, Nat.zero_add]; rfl)) ?_
 refine q0q rfl rfl w4w rfl v4v rfl rfl hAl ?_
 refine a1p hAl rfl rfl v4v rfl rfl rfl rfl (d1w rfl) rfl ?_
 refine hK6 _ _ ?_
 clear hK6 K6
 refine y3y x6x (by rfl) ?_
 refine y1y rfl rfl rfl ?_
 refine x1x rfl ?_
 exact ⟨i + 1, ⟨by omega, by omega⟩, [0, _, _], (Cov.cons' (t := 16) rfl (by rw [v3v (by omega) (by omega)]; rfl) Cov.nil), (Cov.cons (t := 1) rfl (Cov.cons (t := 5) rfl (Cov.cons (t := 14) rfl (Cov.cons (t := 15) rfl Cov.nil)))), (HE.kill rfl (HE.row rfl (by rw [p0p hp, List.map_append, List.append_assoc]; rfl) (HE.kill rfl HE.nil))), HE.nil, rfl⟩
theorem b5m (c : Bool) (p : Vi) (hs : p.events.length ≤ 1048576) : Meth Tryz.prog 174 1 [] [.agg (a4b c p)] [(0, (0, .dead))] (.agg [pI p.inc, pI p.version, .ref 0 0]) [(0, (0, .row 76 7 (p.events.map v6v)))] := by
 refine u9u x6x (fn := Tryz.f174) (by kernel_rfl) (by kernel_rfl) rfl (O0 := [.agg [pI p.inc, pI p.version, .ref 0 0]]) 1 2 (Nat.le_of_ble_eq_true rfl) (by rfl) (by repeat (first | exact BndH.nil | refine BndH.dead ?_)) (by repeat (first | exact BndH.nil | refine BndH.row (u3u fun _ => rfl) ?_)) (by rfl) fun γ => ?_
 show Ex Tryz.prog _ _ [(0, .agg (a4b c p))] [(0, ((γ 0), .dead)), (2, (0, .dead)), (1, (0, .dead))] _
 refine x4x x6x (by rfl) ?_
 refine v1v (id := 1) rfl rfl rfl ?_
 refine u8u (id := 2) w0w a7y rfl ?_
 refine x4x x6x (by rfl) ?_
 refine x0x rfl w0w rfl rfl u7u rfl rfl ?_
 refine x3x rfl u7u rfl rfl ?_
 refine v5v [0] [_] (q2q c p.events (by omega)) rfl rfl rfl (by decide) rfl rfl (by repeat (first | exact InH.nil | refine InH.cons rfl ?_)) (by (simp only [pI, List.map_cons, List.map_nil, u1u, u2u, gl, nx, q4q, Nat.beq, Nat.add_eq, List.getD_cons_zero, List.getD_cons_succ, List.getD_nil, Bool.or_false, Bool.false_or, Bool.true_or, Bool.or_true, Nat.add_zero, Nat.zero_add]; rfl)) (by (simp only [pI, List.map_cons, List.map_nil, u1u, u2u, gl, nx, q4q, Nat.beq, Nat.add_eq, List.getD_cons_zero, List.getD_cons_succ, List.getD_nil, Bool.or_false, Bool.false_or, Bool.true_or, Bool.or_true, Nat.add_zero, Nat.zero_add]; rfl)) ?_
 refine x0x rfl w0w rfl rfl u7u rfl rfl ?_
 refine u4u rfl rfl u7u rfl rfl rfl rfl rfl (by simp only [List.set_cons_zero, List.set_cons_succ]; rfl) ?_
 refine x4x x6x (by rfl) ?_
 refine y4y rfl w0w rfl rfl rfl ?_
 refine z5z rfl rfl w0w rfl rfl rfl rfl ?_
 refine y0y ?_
 exact ⟨.inr rfl, [_], rfl, rfl, HE.row rfl rfl HE.nil⟩
theorem a5w (c : Bool) (l : List Vi) (hl : b7p l ≤ 1048576) : Meth Tryz.prog 173 1 [] [b9v c l, .fn (.func 174) [] []] [(0, (0, .dead))] (.ref 0 0) [(0, (0, .row 141 3 (l.map a0v)))] := by
 refine u9u x6x (fn := Tryz.f173) (by kernel_rfl) (by kernel_rfl) rfl (O0 := [.ref 0 0]) 1 2 (Nat.le_of_ble_eq_true rfl) (by rfl) (by repeat (first | exact BndH.nil | refine BndH.dead ?_)) (by repeat (first | exact BndH.nil | refine BndH.row (u3u fun _ => rfl) ?_)) (by rfl) fun γ => ?_
 show Ex Tryz.prog _ _ [(0, b9v c l), (1, .fn (.func 174) [] [])] [(0, ((γ 0), .dead)), (2, (0, .dead)), (1, (0, .dead))] _
 have hc : b7p l = l.length + szs cVi l := rfl
 refine w7w 0 rfl fun hlen => ?_
 refine x4x x6x (by rfl) ?_
 refine x2x rfl ?_
 refine x5x fun K1 hK1 => ?_
 refine x4x x6x (by rfl) ?_
 refine x1x rfl ?_
 refine u0u rfl p1p rfl ?_
 refine y1y rfl rfl rfl ?_
 refine x8x rfl (fun hc2 => ?_) (fun hc2 => ?_)
 ·try simp at hc2
  obtain rfl : l = [] := List.eq_nil_of_length_eq_zero (by simpa using hc2)
  refine x4x x6x (by rfl) ?_
  refine x2x rfl ?_
  refine a3e 4 0 141 3 rfl rfl ?_
  refine y0y ?_
  exact ⟨.inr rfl, [_], rfl, rfl, HE.row rfl rfl HE.nil⟩
 try simp at hc2
 refine x9x ?_
 refine hK1 _ _ ?_
 clear hK1 K1
 refine x4x x6x (by rfl) ?_
 refine x1x rfl ?_
 refine u0u rfl p1p rfl ?_
 refine a4l (id := 0) p1p rfl w0w a7y rfl rfl rfl rfl (by (simp only [List.length_map, List.length_append, List.length_cons, List.length_nil, List.length_take, List.length_range, T141]; omega)) rfl ?_
 refine x2x rfl ?_
 refine x5x fun K3 hK3 => ?_
 refine x4x x6x (by rfl) ?_
 refine x1x rfl ?_
 refine u0u rfl p1p rfl ?_
 refine x1x rfl ?_
 refine y7y ?_
 refine u5u (ι := Nat) (fun i γ1 => [(16, .pv (.int .i64 (i : Int)))]) (fun i γ1 => [(2, ((γ1 2), .dead)), (0, ((γ 0 + 1), .row 141 3 ((l.take i).map a0v ++ (l.drop i).map fun _ => [pI 0, pI 0, .pv (.slice none 0 0)]))), (1, ((γ1 1), .dead))]) (fun i => i ≤ l.length) (fun i => l.length - i) (Cov.cons (t := 1) rfl (Cov.cons (t := 5) rfl (Cov.cons (t := 14) rfl (Cov.cons (t := 15) rfl Cov.nil)))) HE.nil 0 (by omega) [0, _, _] (Cov.cons (t := 16) rfl Cov.nil) (HE.kill rfl (HE.row rfl (by rw [List.take_zero, List.drop_zero, List.map_const']; rfl) (HE.kill rfl HE.nil))) rfl fun i γ1 hi => ?_
 try dsimp only [List.cons_append, List.nil_append]
 refine x4x x6x (by rfl) ?_
 refine y1y rfl rfl rfl ?_
 refine x5x fun K4 hK4 => ?_
 refine x8x rfl (fun hc5 => ?_) (fun hc5 => ?_)
 rotate_left
 ·try simp at hc5
  obtain rfl : i = l.length := by omega
  refine v0v ?_
  refine hK3 _ _ ?_
  clear hK4 K4 hK3 K3
  refine x4x x6x (by rfl) ?_
  refine x1x rfl ?_
  refine x2x rfl ?_
  refine y0y ?_
  exact ⟨.inr rfl, [_], rfl, rfl, HE.row rfl (by rw [List.take_length, List.drop_length, List.map_nil, List.append_nil]) HE.nil⟩
 try simp at hc5
 obtain ⟨p, hp⟩ : ∃ p, l[i]? = some p := ⟨_, List.getElem?_eq_getElem (by omega)⟩
 have hAl : ((l.take i).map a0v).length = i := by rw [List.length_map, List.length_take]; omega
 rw [q1q hp, List.map_cons]
 have hat := a1z cVi hp
 have hcp : cVi p = p.events.length := rfl
 refine x9x ?_
 refine hK4 _ _ ?_
 clear hK4 K4
 refine x5x fun K6 hK6 => ?_
 refine y7y ?_
 refine x4x x6x (by rfl) ?_
 refine x1x rfl ?_
 refine z7z rfl rfl p1p rfl w0w rfl (by assumption) ?_
 refine z6z rfl w0w rfl rfl ?_
 refine u8u (id := 1) w0w a7y rfl ?_
 refine x2x rfl ?_
 refine z5z rfl rfl w0w rfl rfl rfl rfl ?_
 refine y3y x6x (by rfl) ?_
 refine x1x rfl ?_
 refine x1x rfl ?_
 refine x1x rfl ?_
 refine y4y rfl w0w rfl rfl rfl ?_
 refine v5v [2] [_] (b5m c p (by omega)) rfl rfl rfl (by decide) rfl rfl (by repeat (first | exact InH.nil | refine InH.cons rfl ?_)) (by (simp only [pI, List.map_cons, List.map_nil, u1u, u2u, gl, nx, q4q, Nat.beq, Nat.add_eq, List.getD_cons_zero, List.getD_cons_succ, List.getD_nil, Bool.or_false, Bool.false_or, Bool.true_or, Bool.or_true, Nat.add_zero, Nat.zero_add]; rfl)) (by (simp only [pI, List.map_cons, List.map_nil, u1u, u2u, gl, nx, q4q, Nat.beq, Nat.add_eq, List.getD_cons_zero, List.getD_cons_succ, List.getD_nil, Bool.or_false, Bool.false_or, Bool.true_or, Bool.or_true, Nat.add_zero, Nat.zero_add]; rfl)) ?_
 refine q0q rfl rfl p1p rfl w0w rfl rfl hAl ?_
 refine a1p hAl rfl rfl w0w rfl rfl rfl rfl (d1x rfl) rfl ?_
 refine hK6 _ _ ?_
 clear hK6 K6
 refine y3y x6x (by rfl) ?_
 refine y1y rfl rfl rfl ?_
 refine x1x rfl ?_
 exact ⟨i + 1, ⟨by omega, by omega⟩, [0, _, _], (Cov.cons' (t := 16) rfl (by rw [v3v (by omega) (by omega)]; rfl) Cov.nil), (Cov.cons (t := 1) rfl (Cov.cons (t := 5) rfl (Cov.cons (t := 14) rfl (Cov.cons (t := 15) rfl Cov.nil)))), (HE.kill rfl (HE.row rfl (by rw [p0p hp, List.map_append, List.append_assoc]; rfl) (HE.kill rfl HE.nil))), HE.nil, rfl⟩
theorem b5n (c : Bool) (n : Nd) (hl : cNd n ≤ 1048576) : Meth Tryz.prog 83 5 [] [.agg (a0t c n)] [(0, (0, .dead)), (1, (0, .dead)), (2, (0, .dead)), (3, (0, .dead)), (4, (0, .dead))] (.agg [pI n.id, .pv (.bool n.up), pI n.inc, pI n.g, .ref 0 0, .ref 1 0, .ref 2 0, pI n.led, pI n.version, .ref 3 0, .ref 4 0, pI n.round, pI n.low]) [(0, (0, .row 65 5 (n.lanes.map a0u))), (1, (0, .row 76 7 (n.kept.map v6v))), (2, (0, .row 104 5 (n.outs.map s2s))), (3, (0, .row 141 3 (n.views.map a0v))), (4, (0, .row 3 1 (n.known.map a0x)))] := by
 refine u9u x6x (fn := Tryz.f83) (by kernel_rfl) (by kernel_rfl) rfl (O0 := [.agg [pI n.id, .pv (.bool n.up), pI n.inc, pI n.g, .ref 0 0, .ref 1 0, .ref 2 0, pI n.led, pI n.version, .ref 3 0, .ref 4 0, pI n.round, pI n.low]]) 5 2 (Nat.le_of_ble_eq_true rfl) (by rfl) (by repeat (first | exact BndH.nil | refine BndH.dead ?_)) (by repeat (first | exact BndH.nil | refine BndH.row (u3u fun _ => rfl) ?_)) (by rfl) fun γ => ?_
 show Ex Tryz.prog _ _ [(0, .agg (a0t c n))] [(0, ((γ 0), .dead)), (1, ((γ 1), .dead)), (2, ((γ 2), .dead)), (3, ((γ 3), .dead)), (4, ((γ 4), .dead)), (6, (0, .dead)), (5, (0, .dead))] _
 have hc : cNd n = b2w n.lanes + n.kept.length + n.outs.length + b7p n.views + n.known.length := rfl
 refine x4x x6x (by rfl) ?_
 refine v1v (id := 5) rfl rfl rfl ?_
 refine u8u (id := 6) z8z a7q rfl ?_
 refine x4x x6x (by rfl) ?_
 refine x0x rfl z8z rfl rfl w4w rfl rfl ?_
 refine x3x rfl w4w rfl rfl ?_
 refine v5v [0] [_] (a5v c n.lanes (by omega)) rfl rfl rfl (by decide) rfl rfl (by repeat (first | exact InH.nil | refine InH.cons rfl ?_)) (by (simp only [pI, List.map_cons, List.map_nil, u1u, u2u, gl, nx, q4q, Nat.beq, Nat.add_eq, List.getD_cons_zero, List.getD_cons_succ, List.getD_nil, Bool.or_false, Bool.false_or, Bool.true_or, Bool.or_true, Nat.add_zero, Nat.zero_add]; rfl)) (by (simp only [pI, List.map_cons, List.map_nil, u1u, u2u, gl, nx, q4q, Nat.beq, Nat.add_eq, List.getD_cons_zero, List.getD_cons_succ, List.getD_nil, Bool.or_false, Bool.false_or, Bool.true_or, Bool.or_true, Nat.add_zero, Nat.zero_add]; rfl)) ?_
 refine x0x rfl z8z rfl rfl w4w rfl rfl ?_
 refine u4u rfl rfl w4w rfl rfl rfl rfl rfl (by simp only [List.set_cons_zero, List.set_cons_succ]; rfl) ?_
 refine x4x x6x (by rfl) ?_
 refine x0x rfl z8z rfl rfl u7u rfl rfl ?_
 refine x3x rfl u7u rfl rfl ?_
 refine v5v [1] [_] (q2q c n.kept (by omega)) rfl rfl rfl (by decide) rfl rfl (by repeat (first | exact InH.nil | refine InH.cons rfl ?_)) (by (simp only [pI, List.map_cons, List.map_nil, u1u, u2u, gl, nx, q4q, Nat.beq, Nat.add_eq, List.getD_cons_zero, List.getD_cons_succ, List.getD_nil, Bool.or_false, Bool.false_or, Bool.true_or, Bool.or_true, Nat.add_zero, Nat.zero_add]; rfl)) (by (simp only [pI, List.map_cons, List.map_nil, u1u, u2u, gl, nx, q4q, Nat.beq, Nat.add_eq, List.getD_cons_zero, List.getD_cons_succ, List.getD_nil, Bool.or_false, Bool.false_or, Bool.true_or, Bool.or_true, Nat.add_zero, Nat.zero_add]; rfl)) ?_
 refine x0x rfl z8z rfl rfl u7u rfl rfl ?_
 refine u4u rfl rfl u7u rfl rfl rfl rfl rfl (by simp only [List.set_cons_zero, List.set_cons_succ]; rfl) ?_
 refine x4x x6x (by rfl) ?_
 refine x0x rfl z8z rfl rfl w6w rfl rfl ?_
 refine x3x rfl w6w rfl rfl ?_
 refine v5v [2] [_] (a0d c n.outs (by omega)) rfl rfl rfl (by decide) rfl rfl (by repeat (first | exact InH.nil | refine InH.cons rfl ?_)) (by (simp only [pI, List.map_cons, List.map_nil, u1u, u2u, gl, nx, q4q, Nat.beq, Nat.add_eq, List.getD_cons_zero, List.getD_cons_succ, List.getD_nil, Bool.or_false, Bool.false_or, Bool.true_or, Bool.or_true, Nat.add_zero, Nat.zero_add]; rfl)) (by (simp only [pI, List.map_cons, List.map_nil, u1u, u2u, gl, nx, q4q, Nat.beq, Nat.add_eq, List.getD_cons_zero, List.getD_cons_succ, List.getD_nil, Bool.or_false, Bool.false_or, Bool.true_or, Bool.or_true, Nat.add_zero, Nat.zero_add]; rfl)) ?_
 refine x0x rfl z8z rfl rfl w6w rfl rfl ?_
 refine u4u rfl rfl w6w rfl rfl rfl rfl rfl (by simp only [List.set_cons_zero, List.set_cons_succ]; rfl) ?_
 refine x4x x6x (by rfl) ?_
 refine x0x rfl z8z rfl rfl p1p rfl rfl ?_
 refine x3x rfl p1p rfl rfl ?_
 refine v5v [3] [_] (a5w c n.views (by omega)) rfl rfl rfl (by decide) rfl rfl (by repeat (first | exact InH.nil | refine InH.cons rfl ?_)) (by (simp only [pI, List.map_cons, List.map_nil, u1u, u2u, gl, nx, q4q, Nat.beq, Nat.add_eq, List.getD_cons_zero, List.getD_cons_succ, List.getD_nil, Bool.or_false, Bool.false_or, Bool.true_or, Bool.or_true, Nat.add_zero, Nat.zero_add]; rfl)) (by (simp only [pI, List.map_cons, List.map_nil, u1u, u2u, gl, nx, q4q, Nat.beq, Nat.add_eq, List.getD_cons_zero, List.getD_cons_succ, List.getD_nil, Bool.or_false, Bool.false_or, Bool.true_or, Bool.or_true, Nat.add_zero, Nat.zero_add]; rfl)) ?_
 refine x0x rfl z8z rfl rfl p1p rfl rfl ?_
 refine u4u rfl rfl p1p rfl rfl rfl rfl rfl (by simp only [List.set_cons_zero, List.set_cons_succ]; rfl) ?_
 refine x4x x6x (by rfl) ?_
 refine x0x rfl z8z rfl rfl v7v rfl rfl ?_
 refine x3x rfl v7v rfl rfl ?_
 refine v5v [4] [_] (a7t c n.known (by omega)) rfl rfl rfl (by decide) rfl rfl (by repeat (first | exact InH.nil | refine InH.cons rfl ?_)) (by (simp only [pI, List.map_cons, List.map_nil, u1u, u2u, gl, nx, q4q, Nat.beq, Nat.add_eq, List.getD_cons_zero, List.getD_cons_succ, List.getD_nil, Bool.or_false, Bool.false_or, Bool.true_or, Bool.or_true, Nat.add_zero, Nat.zero_add]; rfl)) (by (simp only [pI, List.map_cons, List.map_nil, u1u, u2u, gl, nx, q4q, Nat.beq, Nat.add_eq, List.getD_cons_zero, List.getD_cons_succ, List.getD_nil, Bool.or_false, Bool.false_or, Bool.true_or, Bool.or_true, Nat.add_zero, Nat.zero_add]; rfl)) ?_
 refine x0x rfl z8z rfl rfl v7v rfl rfl ?_
 refine u4u rfl rfl v7v rfl rfl rfl rfl rfl (by simp only [List.set_cons_zero, List.set_cons_succ]; rfl) ?_
 refine x4x x6x (by rfl) ?_
 refine y4y rfl z8z rfl rfl rfl ?_
 refine z5z rfl rfl z8z rfl rfl rfl rfl ?_
 refine y0y ?_
 exact ⟨.inr rfl, [_, _, _, _, _], rfl, rfl, HE.row rfl rfl (HE.row rfl rfl (HE.row rfl rfl (HE.row rfl rfl (HE.row rfl rfl HE.nil))))⟩
end
section
theorem w5w (v lo hi : Int) : s8s Tryz.prog 111 [.pv (.int .i64 v), .pv (.int .i64 lo), .pv (.int .i64 hi)] (.pv (.bool (decide (lo ≤ v ∧ v ≤ hi)))) := by
 refine z1z x6x (fn := Tryz.f111) (by kernel_rfl) (by kernel_rfl) rfl (outs := [.pv (.bool (decide (lo ≤ v ∧ v ≤ hi)))]) (by rfl) (Nat.le_of_ble_eq_true rfl) 0 ?_
 refine x4x x6x (by rfl) ?_
 refine x2x rfl ?_
 refine x4x x6x (by rfl) ?_
 refine x1x rfl ?_
 refine x1x rfl ?_
 refine y1y rfl rfl rfl ?_
 refine x1x rfl ?_
 refine s1s rfl rfl (fun hg1 => ?_) (fun hg1 => ?_)
 rotate_left
 ·try simp at hg1
  refine x7x rfl rfl ?_
  refine x7x rfl rfl ?_
  refine y2y rfl rfl ?_
  refine x2x rfl ?_
  refine y0y ⟨.inr rfl, ?_⟩
  refine y8y rfl ?_ rfl
  simp; omega
 try simp at hg1
 refine x1x rfl ?_
 refine y5y rfl rfl ?_
 refine x1x rfl ?_
 refine y5y rfl rfl ?_
 refine y1y rfl rfl rfl ?_
 refine z0z rfl rfl ?_
 refine x2x rfl ?_
 refine y0y ⟨.inr rfl, ?_⟩
 refine y8y rfl ?_ rfl
 simp; omega
theorem p7p (v lo hi : Int) : s8s Tryz.prog 75 [.pv (.int .i64 v), .pv (.int .i64 lo), .pv (.int .i64 hi)] (.pv (.bool (decide (lo ≤ v ∧ v ≤ hi)))) := by
 refine z1z x6x (fn := Tryz.f75) (by kernel_rfl) (by kernel_rfl) rfl (outs := [.pv (.bool (decide (lo ≤ v ∧ v ≤ hi)))]) (by rfl) (Nat.le_of_ble_eq_true rfl) 0 ?_
 refine x4x x6x (by rfl) ?_
 refine x2x rfl ?_
 refine x4x x6x (by rfl) ?_
 refine x1x rfl ?_
 refine x1x rfl ?_
 refine y1y rfl rfl rfl ?_
 refine x1x rfl ?_
 refine s1s rfl rfl (fun hg1 => ?_) (fun hg1 => ?_)
 rotate_left
 ·try simp at hg1
  refine x7x rfl rfl ?_
  refine x7x rfl rfl ?_
  refine y2y rfl rfl ?_
  refine x2x rfl ?_
  refine y0y ⟨.inr rfl, ?_⟩
  refine y8y rfl ?_ rfl
  simp; omega
 try simp at hg1
 refine x1x rfl ?_
 refine y5y rfl rfl ?_
 refine x1x rfl ?_
 refine y5y rfl rfl ?_
 refine y1y rfl rfl rfl ?_
 refine z0z rfl rfl ?_
 refine x2x rfl ?_
 refine y0y ⟨.inr rfl, ?_⟩
 refine y8y rfl ?_ rfl
 simp; omega
theorem a4e (p : Int) : s8s Tryz.prog 155 [.pv (.int .i64 p)] (.pv (.bool (decide (0 ≤ p ∧ p ≤ 3)))) := by
 refine z1z x6x (fn := Tryz.f155) (by kernel_rfl) (by kernel_rfl) rfl (outs := [.pv (.bool (decide (0 ≤ p ∧ p ≤ 3)))]) (by rfl) (Nat.le_of_ble_eq_true rfl) 0 ?_
 refine x4x x6x (by rfl) ?_
 refine x2x rfl ?_
 refine x4x x6x (by rfl) ?_
 refine x1x rfl ?_
 refine y9y rfl rfl rfl (w5w ..) ?_
 refine x2x rfl ?_
 refine y0y ⟨.inr rfl, ?_⟩
 exact y8y rfl rfl rfl
theorem a4f (p : Int) : s8s Tryz.prog 127 [.pv (.int .i64 p)] (.pv (.bool (decide (0 ≤ p ∧ p ≤ 3)))) := by
 refine z1z x6x (fn := Tryz.f127) (by kernel_rfl) (by kernel_rfl) rfl (outs := [.pv (.bool (decide (0 ≤ p ∧ p ≤ 3)))]) (by rfl) (Nat.le_of_ble_eq_true rfl) 0 ?_
 refine x4x x6x (by rfl) ?_
 refine x2x rfl ?_
 refine x4x x6x (by rfl) ?_
 refine x1x rfl ?_
 refine y9y rfl rfl rfl (p7p ..) ?_
 refine x2x rfl ?_
 refine y0y ⟨.inr rfl, ?_⟩
 exact y8y rfl rfl rfl
theorem b9l (p : Int) : s8s Tryz.prog 154 [.pv (.int .i64 p)] (.pv (.bool (decide (0 ≤ p ∧ p ≤ 2)))) := by
 refine z1z x6x (fn := Tryz.f154) (by kernel_rfl) (by kernel_rfl) rfl (outs := [.pv (.bool (decide (0 ≤ p ∧ p ≤ 2)))]) (by rfl) (Nat.le_of_ble_eq_true rfl) 0 ?_
 refine x4x x6x (by rfl) ?_
 refine x2x rfl ?_
 refine x4x x6x (by rfl) ?_
 refine x1x rfl ?_
 refine y9y rfl rfl rfl (w5w ..) ?_
 refine x2x rfl ?_
 refine y0y ⟨.inr rfl, ?_⟩
 exact y8y rfl rfl rfl
theorem b9m (p : Int) : s8s Tryz.prog 65 [.pv (.int .i64 p)] (.pv (.int .i64 (a5m p))) := by
 refine z1z x6x (fn := Tryz.f65) (by kernel_rfl) (by kernel_rfl) rfl (outs := [.pv (.int .i64 (a5m p))]) (by rfl) (Nat.le_of_ble_eq_true rfl) 0 ?_
 refine x4x x6x (by rfl) ?_
 refine x2x rfl ?_
 refine x5x fun K1 hK1 => ?_
 refine x4x x6x (by rfl) ?_
 refine x1x rfl ?_
 refine y9y rfl rfl rfl (a4e ..) ?_
 refine w3w rfl ?_
 refine x8x rfl (fun hc2 => ?_) (fun hc2 => ?_)
 ·try simp at hc2
  refine x4x x6x (by rfl) ?_
  refine x2x rfl ?_
  refine y0y ⟨.inr rfl, ?_⟩
  clear hK1 K1
  refine y8y rfl ?_ rfl
  simp [a5m]; omega
 try simp at hc2
 refine x9x ?_
 refine hK1 _ _ ?_
 clear hK1 K1
 refine x4x x6x (by rfl) ?_
 refine x1x rfl ?_
 refine y1y rfl rfl rfl ?_
 refine x2x rfl ?_
 refine y0y ⟨.inr rfl, ?_⟩
 refine y8y rfl ?_ rfl
 simp [a5m]; omega
theorem b9n (p : Int) : s8s Tryz.prog 115 [.pv (.int .i64 p)] (.pv (.int .i64 (a5m p))) := by
 refine z1z x6x (fn := Tryz.f115) (by kernel_rfl) (by kernel_rfl) rfl (outs := [.pv (.int .i64 (a5m p))]) (by rfl) (Nat.le_of_ble_eq_true rfl) 0 ?_
 refine x4x x6x (by rfl) ?_
 refine x2x rfl ?_
 refine x5x fun K1 hK1 => ?_
 refine x4x x6x (by rfl) ?_
 refine x1x rfl ?_
 refine y9y rfl rfl rfl (a4f ..) ?_
 refine w3w rfl ?_
 refine x8x rfl (fun hc2 => ?_) (fun hc2 => ?_)
 ·try simp at hc2
  refine x4x x6x (by rfl) ?_
  refine x2x rfl ?_
  refine y0y ⟨.inr rfl, ?_⟩
  clear hK1 K1
  refine y8y rfl ?_ rfl
  simp [a5m]; omega
 try simp at hc2
 refine x9x ?_
 refine hK1 _ _ ?_
 clear hK1 K1
 refine x4x x6x (by rfl) ?_
 refine x1x rfl ?_
 refine y1y rfl rfl rfl ?_
 refine x2x rfl ?_
 refine y0y ⟨.inr rfl, ?_⟩
 refine y8y rfl ?_ rfl
 simp [a5m]; omega
theorem a2y (id : Int) : s8s Tryz.prog 149 [.pv (.int .i64 id)] (a3s true (a0s id 4)) := by
 refine z1z x6x (fn := Tryz.f149) (by kernel_rfl) (by kernel_rfl) rfl (outs := [a3s true (a0s id 4)]) (by rfl) (Nat.le_of_ble_eq_true rfl) 2 ?_
 refine x4x x6x (by rfl) ?_
 refine x2x rfl ?_
 refine x4x x6x (by rfl) ?_
 refine x2x rfl ?_
 refine x5x fun K1 hK1 => ?_
 refine x4x x6x (by rfl) ?_
 refine x1x rfl ?_
 refine y7y ?_
 refine a3e 3 1 3 1 rfl rfl ?_
 refine u5u (ι := Nat) (fun i γ1 => [(3, .ref 1 (γ1 1)), (5, .pv (.int .i64 (i : Int)))]) (fun i γ1 => [(1, ((γ1 1), .row 3 1 ((a0s id i).map a0x))), (0, ((γ1 0), .dead))]) (fun i => i ≤ 4) (fun i => 4 - i) (Cov.cons (t := 0) rfl Cov.nil) HE.nil 0 (by omega) [_, _] (Cov.cons (t := 3) rfl (Cov.cons (t := 5) rfl Cov.nil)) (HE.row rfl rfl (HE.kill rfl HE.nil)) rfl fun i γ1 hi => ?_
 try dsimp only [List.cons_append, List.nil_append]
 refine x4x x6x (by rfl) ?_
 refine y1y rfl rfl rfl ?_
 refine x5x fun K2 hK2 => ?_
 refine x8x rfl (fun hc3 => ?_) (fun hc3 => ?_)
 rotate_left
 ·try simp at hc3
  refine v0v ?_
  refine hK1 _ _ ?_
  clear hK2 K2 hK1 K1
  refine x4x x6x (by rfl) ?_
  refine x1x rfl ?_
  refine x2x rfl ?_
  refine y0y ⟨.inr rfl, ?_⟩
  refine c6v rfl rfl (fun _ => rfl) ?_
  have : i = 4 := by omega
  rw [this]
 try simp at hc3
 refine x9x ?_
 refine hK2 _ _ ?_
 clear hK2 K2
 refine x5x fun K4 hK4 => ?_
 refine y7y ?_
 refine x4x x6x (by rfl) ?_
 refine x1x rfl ?_
 refine x2x rfl ?_
 refine x4x x6x (by rfl) ?_
 refine x1x rfl ?_
 refine y9y rfl rfl rfl (b9m ..) ?_
 refine x1x rfl ?_
 refine y1y rfl rfl rfl ?_
 refine x8x rfl (fun hc5 => ?_) (fun hc5 => ?_)
 rotate_left
 ·try simp at hc5
  refine x9x ?_
  refine hK4 _ _ ?_
  clear hK4 K4
  refine y3y x6x (by rfl) ?_
  refine y1y rfl rfl rfl ?_
  refine x1x rfl ?_
  exact ⟨i + 1, ⟨by omega, by omega⟩, [_, _], (Cov.cons (t := 3) rfl (Cov.cons' (t := 5) rfl (by rw [v3v (by omega) (by omega)]; rfl) Cov.nil)), (Cov.cons (t := 0) rfl Cov.nil), (HE.row rfl (by simp only [a6o]; rw [if_neg (by assumption)]) (HE.kill rfl HE.nil)), HE.nil, rfl⟩
 try simp at hc5
 refine y3y x6x (by rfl) ?_
 refine x1x rfl ?_
 refine x1x rfl ?_
 refine a6k (id := 0) v7v rfl y6y rfl rfl rfl rfl rfl ?_
 refine r5r rfl rfl v7v rfl y6y rfl rfl rfl rfl (by rfl) (by exact a0c _ _ _) (by simp only [List.length_map, List.length_append, List.length_cons, List.length_nil, T3]; have := a4q id i; omega) ?_
 refine x2x rfl ?_
 refine hK4 _ _ ?_
 clear hK4 K4
 refine y3y x6x (by rfl) ?_
 refine y1y rfl rfl rfl ?_
 refine x1x rfl ?_
 exact ⟨i + 1, ⟨by omega, by omega⟩, [_, _], (Cov.cons (t := 3) rfl (Cov.cons' (t := 5) rfl (by rw [v3v (by omega) (by omega)]; rfl) Cov.nil)), (Cov.cons (t := 0) rfl Cov.nil), (HE.row rfl (by simp only [a6o]; rw [if_pos (by assumption)]) (HE.kill rfl HE.nil)), HE.nil, rfl⟩
end
section
theorem a8j (x : Int) : s8s Tryz.prog 258 [.pv (.int .i64 x)] (.pv (.bool (false))) := by
 refine z1z x6x (fn := Tryz.f258) (by kernel_rfl) (by kernel_rfl) rfl (outs := [.pv (.bool (false))]) (by rfl) (Nat.le_of_ble_eq_true rfl) 0 ?_
 refine x4x x6x (by rfl) ?_
 refine x2x rfl ?_
 refine x4x x6x (by rfl) ?_
 refine x1x rfl ?_
 refine x1x rfl ?_
 refine y1y rfl rfl rfl ?_
 refine x2x rfl ?_
 refine y0y ⟨.inr rfl, ?_⟩
 refine y8y rfl ?_ rfl
 simp
theorem b2n (x y : Int) : s8s Tryz.prog 240 [.pv (.int .i64 x), .pv (.int .i64 y)] (.pv (.int .i64 (if x < y then -1 else if y < x then 1 else 0))) := by
 refine z1z x6x (fn := Tryz.f240) (by kernel_rfl) (by kernel_rfl) rfl (outs := [.pv (.int .i64 (if x < y then -1 else if y < x then 1 else 0))]) (by rfl) (Nat.le_of_ble_eq_true rfl) 0 ?_
 refine x4x x6x (by rfl) ?_
 refine x2x rfl ?_
 refine x4x x6x (by rfl) ?_
 refine x1x rfl ?_
 refine y9y rfl rfl rfl (a8j ..) ?_
 refine x2x rfl ?_
 refine x4x x6x (by rfl) ?_
 refine x1x rfl ?_
 refine y9y rfl rfl rfl (a8j ..) ?_
 refine x2x rfl ?_
 refine x5x fun K1 hK1 => ?_
 refine x4x x6x (by rfl) ?_
 refine x1x rfl ?_
 refine x8x rfl (fun hc2 => ?_) (fun hc2 => ?_)
 ·simp at hc2
 try simp at hc2
 refine x9x ?_
 refine hK1 _ _ ?_
 clear hK1 K1
 refine x5x fun K3 hK3 => ?_
 refine x4x x6x (by rfl) ?_
 refine x1x rfl ?_
 refine x8x rfl (fun hc4 => ?_) (fun hc4 => ?_)
 ·simp at hc4
 try simp at hc4
 refine x9x ?_
 refine hK3 _ _ ?_
 clear hK3 K3
 refine x5x fun K5 hK5 => ?_
 refine x4x x6x (by rfl) ?_
 refine x1x rfl ?_
 refine x1x rfl ?_
 refine y1y rfl rfl rfl ?_
 refine x8x rfl (fun hc6 => ?_) (fun hc6 => ?_)
 ·try simp at hc6
  refine x4x x6x (by rfl) ?_
  refine x2x rfl ?_
  refine y0y ⟨.inr rfl, ?_⟩
  clear hK5 K5
  refine y8y rfl ?_ rfl
  simp only [List.cons.injEq, and_true, AV.pv.injEq, Value.int.injEq, true_and]
  split <;> (try split) <;> omega
 try simp at hc6
 refine x9x ?_
 refine hK5 _ _ ?_
 clear hK5 K5
 refine x5x fun K7 hK7 => ?_
 refine x4x x6x (by rfl) ?_
 refine x1x rfl ?_
 refine x1x rfl ?_
 refine y1y rfl rfl rfl ?_
 refine x8x rfl (fun hc8 => ?_) (fun hc8 => ?_)
 ·try simp at hc8
  refine x4x x6x (by rfl) ?_
  refine x2x rfl ?_
  refine y0y ⟨.inr rfl, ?_⟩
  clear hK7 K7
  refine y8y rfl ?_ rfl
  simp only [List.cons.injEq, and_true, AV.pv.injEq, Value.int.injEq, true_and]
  split <;> (try split) <;> omega
 try simp at hc8
 refine x9x ?_
 refine hK7 _ _ ?_
 clear hK7 K7
 refine x4x x6x (by rfl) ?_
 refine x2x rfl ?_
 refine y0y ⟨.inr rfl, ?_⟩
 refine y8y rfl ?_ rfl
 simp only [List.cons.injEq, and_true, AV.pv.injEq, Value.int.injEq, true_and]
 split <;> (try split) <;> omega
theorem a2j (u v : List Int) (hab : u.length = v.length) (hn : u.length ≤ 1000000) (ty : Nat) : Meth Tryz.prog 213 2 [0, 1] [.bsl 0 0 0 u.length, .bsl 1 0 0 u.length] [(0, (0, .box ty (u.map pI))), (1, (0, .box ty (v.map pI)))] (.pv (.int .i64 (c9f u v))) [] := by
 refine u9u x6x (fn := Tryz.f213) (by kernel_rfl) (by kernel_rfl) rfl (O0 := [.pv (.int .i64 (c9f u v))]) 2 0 (Nat.le_of_ble_eq_true rfl) (by rfl) (by exact .box (c0r _ _) (.box (c0r _ _) .nil)) (by exact .nil) (by rfl) fun γ => ?_
 have hI : List.map (a4m idf γ) [(0, (0, .box ty (u.map pI))), (1, (0, .box ty (v.map pI)))] = [(0, ((γ 0), .box ty (u.map pI))), (1, ((γ 1), .box ty (v.map pI)))] := by simp only [List.map_cons, List.map_nil, a4m, inE, c9z]; rfl
 rw [hI]
 show Ex Tryz.prog _ _ [(0, .bsl 0 (γ 0) 0 u.length), (1, .bsl 1 (γ 1) 0 u.length)] [(0, ((γ 0), .box ty (u.map pI))), (1, ((γ 1), .box ty (v.map pI)))] _
 refine x4x x6x (by rfl) ?_
 refine x2x rfl ?_
 refine x5x fun K1 hK1 => ?_
 refine x4x x6x (by rfl) ?_
 refine x1x rfl ?_
 refine c0j rfl v7v rfl rfl (by intro s hs; cases hs) rfl ?_
 refine x1x rfl ?_
 refine y7y ?_
 refine u5u (ι := Nat) (fun i γ1 => [(11, .pv (.int .i64 (i : Int)))]) (fun i γ1 => []) (fun i => i ≤ u.length ∧ c9f u v = c9f (u.drop i) (v.drop i)) (fun i => u.length - i) (Cov.cons (t := 0) rfl (Cov.cons (t := 1) rfl (Cov.cons (t := 9) rfl (Cov.cons (t := 10) rfl Cov.nil)))) (HE.same (id := 0) rfl (HE.same (id := 1) rfl HE.nil)) 0 ⟨by omega, rfl⟩ [] (Cov.cons (t := 11) rfl Cov.nil) HE.nil rfl fun i γ1 hi => ?_
 try dsimp only [List.cons_append, List.nil_append]
 obtain ⟨h1, h2⟩ := hi
 refine x4x x6x (by rfl) ?_
 refine y1y rfl rfl rfl ?_
 refine x5x fun K2 hK2 => ?_
 refine x8x rfl (fun hc3 => ?_) (fun hc3 => ?_)
 rotate_left
 ·try simp at hc3
  refine v0v ?_
  refine hK1 _ _ ?_
  clear hK2 K2 hK1 K1
  refine x5x fun K8 hK8 => ?_
  refine x4x x6x (by rfl) ?_
  refine x1x rfl ?_
  refine c0j rfl v7v rfl rfl (by intro s hs; cases hs) rfl ?_
  refine x1x rfl ?_
  refine c0j rfl v7v rfl rfl (by intro s hs; cases hs) rfl ?_
  refine y1y rfl rfl rfl ?_
  refine x8x rfl (fun hc9 => ?_) (fun hc9 => ?_)
  ·simp at hc9
  try simp at hc9
  refine x9x ?_
  refine hK8 _ _ ?_
  clear hK8 K8
  refine x4x x6x (by rfl) ?_
  refine x2x rfl ?_
  refine y0y ?_
  exact ⟨.inr rfl, [γ 0, γ 1], rfl, congrArg (fun z => some [AV.pv (.int .i64 z)]) (by rw [h2, List.drop_of_length_le (by omega), List.drop_of_length_le (by omega)]; rfl), HE.cast hI (HE.same rfl (HE.same rfl HE.nil))⟩
 try simp at hc3
 obtain ⟨a, ha1⟩ : ∃ a, u[i]? = some a := ⟨_, List.getElem?_eq_getElem (by omega)⟩
 obtain ⟨b, hb1⟩ : ∃ b, v[i]? = some b := ⟨_, List.getElem?_eq_getElem (by omega)⟩
 refine x9x ?_
 refine hK2 _ _ ?_
 clear hK2 K2
 refine x5x fun K4 hK4 => ?_
 refine y7y ?_
 refine x4x x6x (by rfl) ?_
 refine x1x rfl ?_
 refine c7e x6x rfl rfl v7v rfl y6y rfl (by omega) ?_
 refine x3x rfl y6y rfl (c3w rfl ha1) ?_
 refine x2x rfl ?_
 refine x2x rfl ?_
 refine x5x fun K5 hK5 => ?_
 refine x4x x6x (by rfl) ?_
 refine x1x rfl ?_
 refine x1x rfl ?_
 refine c0j rfl v7v rfl rfl (by intro s hs; cases hs) rfl ?_
 refine y1y rfl rfl rfl ?_
 refine x8x rfl (fun hc6 => ?_) (fun hc6 => ?_)
 ·try simp at hc6
  omega
 try simp at hc6
 refine x9x ?_
 refine hK5 _ _ ?_
 clear hK5 K5
 refine x4x x6x (by rfl) ?_
 refine x1x rfl ?_
 refine x1x rfl ?_
 refine c7e x6x rfl rfl v7v rfl y6y rfl (by omega) ?_
 refine x3x rfl y6y rfl (c3w rfl hb1) ?_
 refine x2x rfl ?_
 refine x4x x6x (by rfl) ?_
 refine x1x rfl ?_
 refine x1x rfl ?_
 refine y9y rfl rfl rfl (b2n ..) ?_
 refine x2x rfl ?_
 refine x4x x6x (by rfl) ?_
 refine x1x rfl ?_
 refine y1y rfl rfl rfl ?_
 refine x8x rfl (fun hc7 => ?_) (fun hc7 => ?_)
 ·try simp at hc7
  have hz := hc7
  refine x4x x6x (by rfl) ?_
  refine x1x rfl ?_
  refine x2x rfl ?_
  refine y0y ?_
  exact ⟨.inr rfl, [γ 0, γ 1], rfl, congrArg (fun z => some [AV.pv (.int .i64 z)]) (by rw [h2, c0z ha1 hb1]; exact (d4v hz).symm), HE.cast hI (HE.same rfl (HE.same rfl HE.nil))⟩
 try simp at hc7
 have hz := hc7
 refine x9x ?_
 refine hK4 _ _ ?_
 clear hK4 K4
 refine y3y x6x (by rfl) ?_
 refine y1y rfl rfl rfl ?_
 refine x1x rfl ?_
 exact ⟨i + 1, ⟨⟨by omega, by rw [h2, c0z ha1 hb1, d4w hz]⟩, by omega⟩, [], (Cov.cons' (t := 11) rfl (by rw [v3v (by omega) (by omega)]; rfl) Cov.nil), (Cov.cons (t := 0) rfl (Cov.cons (t := 1) rfl (Cov.cons (t := 9) rfl (Cov.cons (t := 10) rfl Cov.nil)))), HE.nil, (HE.same (id := 0) rfl (HE.same (id := 1) rfl HE.nil)), rfl⟩
theorem a8k (e : Ev) : s8s Tryz.prog 147 [.agg (v6v e)] (.agg (v6v e)) := by
 refine z1z x6x (fn := Tryz.f147) (by kernel_rfl) (by kernel_rfl) rfl (outs := [.agg (v6v e)]) (by rfl) (Nat.le_of_ble_eq_true rfl) 2 ?_
 refine x4x x6x (by rfl) ?_
 refine v1v (id := 0) rfl rfl rfl ?_
 refine u8u (id := 1) w8w b7i rfl ?_
 refine x4x x6x (by rfl) ?_
 refine x0x rfl z3z rfl rfl y6y rfl rfl ?_
 refine x3x rfl y6y rfl rfl ?_
 refine x0x rfl z3z rfl rfl y6y rfl rfl ?_
 refine x3x rfl y6y rfl rfl ?_
 refine x0x rfl z3z rfl rfl y6y rfl rfl ?_
 refine x3x rfl y6y rfl rfl ?_
 refine x0x rfl z3z rfl rfl y6y rfl rfl ?_
 refine x3x rfl y6y rfl rfl ?_
 refine x0x rfl z3z rfl rfl y6y rfl rfl ?_
 refine x3x rfl y6y rfl rfl ?_
 refine x0x rfl z3z rfl rfl y6y rfl rfl ?_
 refine x3x rfl y6y rfl rfl ?_
 refine x0x rfl z3z rfl rfl y6y rfl rfl ?_
 refine x3x rfl y6y rfl rfl ?_
 refine a9x x6x w8w rfl y6y b7i rfl (by simp only [pI, y6y, b2d, List.range, List.range.loop, List.map_cons, List.map_nil, a0f, p4p, AV.okc, AV.one, Value.oneCell', T3, T4, List.getElem?_cons_zero, List.getElem?_cons_succ, List.take_succ_cons, List.take_zero, List.drop_succ_cons, List.drop_zero, List.cons_append, List.nil_append, List.length_cons, List.length_nil, if_true, and_self, Nat.reduceAdd, Nat.reduceMul, Nat.reduceLeDiff]; rfl) ?_
 refine z5z rfl rfl w8w rfl rfl rfl rfl ?_
 refine y0y ⟨.inr rfl, ?_⟩
 exact b4q rfl rfl rfl rfl
theorem a8l (e : Ev) : s8s Tryz.prog 169 [.agg (v6v e)] (.agg (v6v e)) := by
 refine z1z x6x (fn := Tryz.f169) (by kernel_rfl) (by kernel_rfl) rfl (outs := [.agg (v6v e)]) (by rfl) (Nat.le_of_ble_eq_true rfl) 2 ?_
 refine x4x x6x (by rfl) ?_
 refine v1v (id := 0) rfl rfl rfl ?_
 refine u8u (id := 1) z3z a7c rfl ?_
 refine x4x x6x (by rfl) ?_
 refine a9y x6x (j := 0) rfl rfl w8w rfl y6y (by decide) rfl ?_
 refine x3x rfl y6y rfl rfl ?_
 refine a9y x6x (j := 1) rfl rfl w8w rfl y6y (by decide) rfl ?_
 refine x3x rfl y6y rfl rfl ?_
 refine a9y x6x (j := 2) rfl rfl w8w rfl y6y (by decide) rfl ?_
 refine x3x rfl y6y rfl rfl ?_
 refine a9y x6x (j := 3) rfl rfl w8w rfl y6y (by decide) rfl ?_
 refine x3x rfl y6y rfl rfl ?_
 refine a9y x6x (j := 4) rfl rfl w8w rfl y6y (by decide) rfl ?_
 refine x3x rfl y6y rfl rfl ?_
 refine a9y x6x (j := 5) rfl rfl w8w rfl y6y (by decide) rfl ?_
 refine x3x rfl y6y rfl rfl ?_
 refine a9y x6x (j := 6) rfl rfl w8w rfl y6y (by decide) rfl ?_
 refine x3x rfl y6y rfl rfl ?_
 refine q8q z3z rfl a7c rfl (by simp only [pI, a0f, p4p, AV.okc, AV.one, T3, T4, List.getElem?_cons_zero, List.getElem?_cons_succ, List.take_succ_cons, List.take_zero, List.drop_succ_cons, List.drop_zero, List.cons_append, List.nil_append, List.length_cons, List.length_nil, if_true, and_self, Nat.reduceAdd, Nat.reduceLeDiff]; rfl) ?_
 refine z5z rfl rfl z3z rfl rfl rfl rfl ?_
 refine y0y ⟨.inr rfl, ?_⟩
 exact b4q rfl rfl rfl rfl
theorem a2z (a b : Ev) : s8s Tryz.prog 146 [.agg (v6v a), .agg (v6v b)] (.pv (.bool (a1g a b))) := by
 refine z1z x6x (fn := Tryz.f146) (by kernel_rfl) (by kernel_rfl) rfl (outs := [.pv (.bool (a1g a b))]) (by rfl) (Nat.le_of_ble_eq_true rfl) 2 ?_
 refine x4x x6x (by rfl) ?_
 refine v1v (id := 0) rfl rfl rfl ?_
 refine v1v (id := 1) rfl rfl rfl ?_
 refine x2x rfl ?_
 refine q7q x6x r4r (by rfl) ?_
 refine c3u x6x rfl w8w rfl y6y rfl ?_
 refine c3u x6x rfl w8w rfl y6y rfl ?_
 refine v5v [0, 1] [_, _] (a2j (evN a) (evN b) rfl (Nat.le_of_ble_eq_true rfl) 179) rfl rfl rfl (by decide) rfl rfl (by repeat (first | exact InH.nil | refine InH.cons rfl ?_)) (by (simp only [pI, List.map_cons, List.map_nil, u1u, u2u, gl, nx, q4q, Nat.beq, Nat.add_eq, List.getD_cons_zero, List.getD_cons_succ, List.getD_nil, Bool.or_false, Bool.false_or, Bool.true_or, Bool.or_true, Nat.add_zero, Nat.zero_add]; rfl)) (by (simp only [pI, List.map_cons, List.map_nil, u1u, u2u, gl, nx, q4q, Nat.beq, Nat.add_eq, List.getD_cons_zero, List.getD_cons_succ, List.getD_nil, Bool.or_false, Bool.false_or, Bool.true_or, Bool.or_true, Nat.add_zero, Nat.zero_add]; rfl)) ?_
 refine y1y rfl rfl rfl ?_
 refine x2x rfl ?_
 refine ⟨by kernel_rfl, ?_⟩
 refine y0y ⟨.inr rfl, ?_⟩
 refine y8y rfl ?_ rfl
 simp only [a1g, ← b8s (evN a) (evN b) rfl]
theorem a7m (a b : Ev) : s8s Tryz.prog 60 [.agg (v6v a), .agg (v6v b)] (.pv (.bool (a1g a b))) := by
 refine z1z x6x (fn := Tryz.f60) (by kernel_rfl) (by kernel_rfl) rfl (outs := [.pv (.bool (a1g a b))]) (by rfl) (Nat.le_of_ble_eq_true rfl) 2 ?_
 refine x4x x6x (by rfl) ?_
 refine v1v (id := 0) rfl rfl rfl ?_
 refine v1v (id := 1) rfl rfl rfl ?_
 refine x2x rfl ?_
 refine q7q x6x r4r (by rfl) ?_
 refine y4y rfl z3z rfl rfl rfl ?_
 refine y9y rfl rfl rfl (a8k ..) ?_
 refine y4y rfl z3z rfl rfl rfl ?_
 refine y9y rfl rfl rfl (a8k ..) ?_
 refine y9y rfl rfl rfl (a2z ..) ?_
 refine x2x rfl ?_
 refine ⟨by kernel_rfl, ?_⟩
 refine y0y ⟨.inr rfl, ?_⟩
 exact y8y rfl rfl rfl
end
section
def a5x (l : List Ev) : List (Value × AV) := (q9q l).map fun k => (b5v (evN k), pI (l.count k : Nat))
def a1x (l : List Ev) (e : Ev) : Nat := (a3n (q9q l) e).getD (q9q l).length
def b0f (l : List Ev) (e : Ev) : List (Value × AV) := if e ∈ l then a5x l else a5x l ++ [(b5v (evN e), pI (l.count e : Nat))]
theorem a0i (l : List Ev) : (a5x l).map (·.1) = (q9q l).map fun k => b5v (evN k) := by
 rw [a5x, List.map_map]; rfl
theorem c4q {l : List Ev} {e : Ev} {j : Nat} (h : a3n (q9q l) e = some j) : (a5x l)[j]? = some (b5v (evN e), pI (l.count e : Nat)) := by
 rw [a5x, List.getElem?_map, a9w h]; rfl
theorem b9o {l : List Ev} {e : Ev} (h : a3n (q9q l) e = none) : e ∉ l ∧ l.count e = 0 := by
 have := a8b.1 h
 rw [a0h] at this
 exact ⟨this, List.count_eq_zero.2 this⟩
theorem b2o {tt : TT} {et : TypeId} {S : TS} (hs : tt et = some S) (hz : b2c S = pI 0) (l : List Ev) (e : Ev) : (∃ j kv, a3n (q9q l) e = some j ∧ (a5x l)[j]? = some (kv, pI (l.count e : Nat))) ∨ (a3n (q9q l) e = none ∧ ∃ S, tt et = some S ∧ pI (l.count e : Nat) = b2c S) := by
 cases h : a3n (q9q l) e with
 | some j => exact .inl ⟨j, _, rfl, c4q h⟩
 | none => exact .inr ⟨rfl, S, hs, by rw [hz, (b9o h).2]; rfl⟩
theorem a2g {tt : TT} {et : TypeId} {S : TS} (hs : tt et = some S) (hz : b2c S = pI 0) (l : List Ev) (e : Ev) :
  (a3n (q9q l) e = some (a1x l e) ∧ (a5x l)[a1x l e]? = some (b5v (evN e), pI (l.count e : Nat)) ∧ b0f l e = a5x l) ∨
   (a3n (q9q l) e = none ∧ a1x l e = (a5x l).length ∧ b0f l e = a5x l ++ [(b5v (evN e), pI (l.count e : Nat))] ∧ ∃ S, tt et = some S ∧ pI (l.count e : Nat) = b2c S) := by
 cases h : a3n (q9q l) e with
 | some j =>
  have hm : e ∈ l := by
   rw [← a0h]; exact List.mem_of_getElem? (a9w h)
  have hp : a1x l e = j := by rw [a1x, h]; rfl
  exact .inl ⟨by rw [hp], by rw [hp]; exact c4q h, if_pos hm⟩
 | none =>
  have hn := b9o h
  exact .inr ⟨rfl, by rw [a1x, h, a5x, List.length_map]; rfl, if_neg hn.1, S, hs, by rw [hz, hn.2]; rfl⟩
theorem a0j (l : List Ev) (e : Ev) : (b0f l e)[a1x l e]? = some (b5v (evN e), pI (l.count e : Nat)) := by
 rcases a2g (tt := fun _ => some ⟨.oth, 1, 8, [.int .i64 0]⟩) (et := 0) rfl rfl l e with ⟨h1, h2, h3⟩ | ⟨h1, h2, h3, _⟩
 ·rw [h3]; exact h2
 ·rw [h3, h2, List.getElem?_append_right (Nat.le_refl _), Nat.sub_self]; rfl
def d0t (l : List Ev) (e : Ev) : List Ev := if e ∈ l then q9q l else q9q l ++ [e]
theorem a8v (l : List Ev) (e : Ev) : (b0f l e).map (·.1) = (d0t l e).map fun k => b5v (evN k) := by
 unfold b0f d0t
 split
 ·exact a0i l
 ·rw [List.map_append, List.map_append, a0i]; rfl
theorem c1t {κ : Type} [DecidableEq κ] {k : κ} : ∀ {ks : List κ}, a3n ks k = none → a3n (ks ++ [k]) k = some ks.length
 | [], _ => by simp [a3n]
 | a :: r, h => by
  simp only [a3n] at h
  split at h
  ·cases h
  ·rename_i hne
   simp only [List.cons_append, a3n, if_neg hne, List.length_cons]
   rw [c1t (by simpa using h)]; rfl
theorem a8w {tt : TT} {et : TypeId} (l : List Ev) (e : Ev) : (∃ j kv, a3n (d0t l e) e = some j ∧ (b0f l e)[j]? = some (kv, pI (l.count e : Nat))) ∨ (a3n (d0t l e) e = none ∧ ∃ S, tt et = some S ∧ pI (l.count e : Nat) = b2c S) := by
 refine .inl ⟨a1x l e, _, ?_, a0j l e⟩
 unfold d0t
 cases h : a3n (q9q l) e with
 | some j =>
  have hm : e ∈ l := by rw [← a0h]; exact List.mem_of_getElem? (a9w h)
  rw [if_pos hm, a1x, h]; rfl
 | none => rw [if_neg (b9o h).1, c1t h, a1x, h]; rfl
theorem a0w (l : List Ev) (e : Ev) : (b0f l e).set (a1x l e) (b5v (evN e), pI ((l.count e + 1 : Nat) : Int)) = a5x (l ++ [e]) := by
 have hc : ∀ k, k ≠ e → (l ++ [e]).count k = l.count k := fun k hk => by
  rw [List.count_append, List.count_singleton]
  simp [Ne.symm hk]
 have hce : (l ++ [e]).count e = l.count e + 1 := by
  rw [List.count_append, List.count_singleton]; simp
 by_cases hm : e ∈ l
 ·have ho : q9q (l ++ [e]) = q9q l := by rw [a7d, if_pos ((a0h e l).2 hm)]
  obtain ⟨j, hj⟩ := c0n ((a0h e l).2 hm)
  have hp : a1x l e = j := by rw [a1x, hj]; rfl
  have hg := a9w hj
  rw [b0f, if_pos hm, hp, a5x, a5x, ho]
  apply List.ext_getElem?
  intro i
  rw [List.getElem?_set, List.getElem?_map, List.length_map]
  by_cases hi : j = i
  ·subst hi
   rw [if_pos rfl, if_pos (List.getElem?_eq_some_iff.1 hg).1, List.getElem?_map, hg]
   simp only [Option.map_some, hce]
  ·rw [if_neg hi, List.getElem?_map]
   cases hk : (q9q l)[i]? with
   | none => rfl
   | some k =>
    have hne : k ≠ e := fun h => by
     subst h
     exact hi ((List.getElem?_inj (List.getElem?_eq_some_iff.1 hg).1 (b2v l)).1 (hg.trans hk.symm))
    simp only [Option.map_some, hc k hne]
 ·have h0 : a3n (q9q l) e = none := a8b.2 (by rw [a0h]; exact hm)
  have ho : q9q (l ++ [e]) = q9q l ++ [e] := by rw [a7d, if_neg (by rw [a0h]; exact hm)]
  have hp : a1x l e = (a5x l).length := by rw [a1x, h0, a5x, List.length_map]; rfl
  rw [b0f, if_neg hm, hp, List.set_append_right _ _ (Nat.le_refl _), Nat.sub_self, List.set_cons_zero, a5x, a5x, ho, List.map_append]
  congr 1
  ·refine List.map_congr_left fun k hk => ?_
   rw [hc k (fun h => hm ((a0h e l).1 (h ▸ hk)))]
  ·simp only [List.map_cons, List.map_nil, hce]
theorem c3b {l : List Ev} {e : Ev} : (l ++ [e]).count e = 1 → a8y a1g (q9q (l ++ [e])) = b2y a1g (a8y a1g (q9q l)) e := fun h => by
 have : e ∉ l := by
  rw [List.count_append, List.count_singleton] at h
  exact List.count_eq_zero.1 (by simpa using h)
 rw [a7d, if_neg (by rw [a0h]; exact this), c5o]
theorem c3d {l : List Ev} {e : Ev} : ¬ (l ++ [e]).count e = 1 → q9q (l ++ [e]) = q9q l := fun h => by
 have : e ∈ l := by
  rw [List.count_append, List.count_singleton] at h
  refine Classical.byContradiction fun hn => h ?_
  rw [List.count_eq_zero.2 hn]; simp
 rw [a7d, if_pos (by rw [a0h]; exact this)]
end
section
theorem a3i (l : List Ev) (x : Ev) (hl : l.length ≤ 1000000000) : Meth Tryz.prog 229 2 [0] [.ptr 0 0 0, .agg (v6v x)] [(0, (0, .box 255 [.ref 1 0, .fn (.func 146) [] []])), (1, (0, .row 179 7 ((l).map v6v)))] (.tup []) [(0, (0, .box 255 [.ref 1 0, .fn (.func 146) [] []])), (1, (0, .row 179 7 ((b2y a1g l x).map v6v)))] := by
 refine u9u x6x (fn := Tryz.f229) (by kernel_rfl) (by kernel_rfl) rfl (O0 := []) 2 3 (Nat.le_of_ble_eq_true rfl) (by rfl) (by repeat (first | exact BndH.nil | refine BndH.box rfl ?_ | refine BndH.row (u3u fun _ => rfl) ?_)) (by repeat (first | exact BndH.nil | refine BndH.box rfl ?_ | refine BndH.row (u3u fun _ => rfl) ?_)) (by rfl) fun γ => ?_
 show Ex Tryz.prog _ _ [(0, .ptr 0 (γ 0) 0), (1, .agg (v6v x))] [(0, ((γ 0), .box 255 [.ref 1 (γ 1), .fn (.func 146) [] []])), (1, ((γ 1), .row 179 7 ((l).map v6v))), (4, (0, .dead)), (3, (0, .dead)), (2, (0, .dead))] _
 refine x4x x6x (by rfl) ?_
 refine v1v (id := 2) rfl rfl rfl ?_
 refine q7q x6x r4r (by rfl) ?_
 refine x1x rfl ?_
 refine x1x rfl ?_
 refine q3q rfl rfl ?_
 refine x0x rfl s4s rfl rfl w1w rfl rfl ?_
 refine x3x rfl w1w rfl rfl ?_
 refine y4y rfl w8w rfl rfl rfl ?_
 refine s6s (id := 3) w1w rfl w8w rfl rfl rfl rfl rfl rfl ?_
 refine r5r rfl rfl w1w rfl w8w rfl rfl rfl rfl (by rfl) (by exact a0c _ _ _) (by (simp only [List.length_map, List.length_append, List.length_cons, List.length_nil, T179]; omega)) ?_
 refine q3q rfl rfl ?_
 refine x0x rfl s4s rfl rfl w1w rfl rfl ?_
 refine u4u rfl rfl w1w rfl rfl rfl rfl rfl (by simp only [List.set_cons_zero, List.set_cons_succ]; rfl) ?_
 refine ⟨by kernel_rfl, ?_⟩
 refine x4x x6x (by rfl) ?_
 refine x1x rfl ?_
 refine q3q rfl rfl ?_
 refine x0x rfl s4s rfl rfl w1w rfl rfl ?_
 refine x3x rfl w1w rfl rfl ?_
 refine a1v rfl w1w rfl rfl (by exact List.length_map _) ?_
 refine a0l (b := 1) rfl rfl (by (simp; done)) (by (simp; omega)) ?_
 refine x2x rfl ?_
 refine y7y ?_
 refine u5u (ι := Nat × List Ev) (fun i γ1 => [(4, .pv (.int .i64 (i.1 : Int)))]) (fun i γ1 => [(1, ((γ1 1), .row 179 7 ((i.2).map v6v))), (0, ((γ 0), .box 255 [.ref 1 (γ1 1), .fn (.func 146) [] []]))]) (fun i => a5l a1g i.2 i.1 = b2y a1g l x ∧ i.1 < i.2.length ∧ i.2.length = l.length + 1) (fun i => i.1) (Cov.cons (t := 0) rfl Cov.nil) (HE.same (id := 2) rfl (HE.same (id := 3) rfl (HE.same (id := 4) rfl HE.nil))) (l.length, l ++ [x]) ⟨rfl, by simp, by simp⟩ [0, _] (Cov.cons' (t := 4) rfl (by simp) Cov.nil) (HE.row rfl rfl (HE.box rfl rfl HE.nil)) rfl fun i γ1 hi => ?_
 try dsimp only [List.cons_append, List.nil_append]
 obtain ⟨k, m⟩ := i
 obtain ⟨h1, h2, h3⟩ := hi
 dsimp only at h1 h2 h3 ⊢
 refine x5x fun K1 hK1 => ?_
 refine x4x x6x (by rfl) ?_
 refine x1x rfl ?_
 refine y1y rfl rfl rfl ?_
 refine x8x rfl (fun hc2 => ?_) (fun hc2 => ?_)
 rotate_left
 ·try simp at hc2
  have hk : k = 0 := by omega
  subst hk
  have hfin := siftUp_zero.symm.trans h1
  refine v0v ?_
  exact ⟨.inl rfl, [γ 0, _], rfl, rfl, HE.box rfl rfl (HE.row rfl (by rw [← hfin]) HE.nil)⟩
 try simp at hc2
 obtain ⟨a, ha⟩ : ∃ a, m[k]? = some a := ⟨_, List.getElem?_eq_getElem (by omega)⟩
 obtain ⟨b, hb⟩ : ∃ b, m[(k - 1) / 2]? = some b := ⟨_, List.getElem?_eq_getElem (by omega)⟩
 have hp : (k - 1) / 2 < k := by omega
 refine x9x ?_
 refine hK1 _ _ ?_
 clear hK1 K1
 refine y7y ?_
 refine x4x x6x (by rfl) ?_
 refine x1x rfl ?_
 refine a0l (b := 1) rfl rfl (by omega) (by omega) ?_
 refine d2t (b := 2) rfl rfl (by omega) (by omega) ?_
 refine x2x rfl ?_
 refine x5x fun K3 hK3 => ?_
 refine q7q x6x r4r (by rfl) ?_
 refine x1x rfl ?_
 refine q3q rfl rfl ?_
 refine x0x rfl s4s rfl rfl b4l rfl rfl ?_
 refine x3x rfl b4l rfl rfl ?_
 refine x1x rfl ?_
 refine q3q rfl rfl ?_
 refine x0x rfl s4s rfl rfl w1w rfl rfl ?_
 refine x3x rfl w1w rfl rfl ?_
 refine x1x rfl ?_
 refine r3r (j := k) rfl rfl w1w rfl w8w rfl rfl (by omega) ?_
 refine s0s rfl w8w rfl ha rfl rfl ?_
 refine x1x rfl ?_
 refine q3q rfl rfl ?_
 refine x0x rfl s4s rfl rfl w1w rfl rfl ?_
 refine x3x rfl w1w rfl rfl ?_
 refine x1x rfl ?_
 refine r3r (j := (k - 1) / 2) rfl rfl w1w rfl w8w rfl rfl (by omega) ?_
 refine s0s rfl w8w rfl hb rfl rfl ?_
 refine y9y rfl rfl rfl (a2z _ _) ?_
 refine w3w rfl ?_
 refine ⟨by kernel_rfl, ?_⟩
 refine x8x rfl (fun hc4 => ?_) (fun hc4 => ?_)
 ·try simp at hc4
  have hfin := (b5a ha hb hc4).symm.trans h1
  refine v0v ?_
  exact ⟨.inl rfl, [γ 0, _], rfl, rfl, HE.box rfl rfl (HE.row rfl (by rw [← hfin]) HE.nil)⟩
 try simp at hc4
 have hg := hc4
 refine x9x ?_
 refine hK3 _ _ ?_
 clear hK3 K3
 refine q7q x6x r4r (by rfl) ?_
 refine x1x rfl ?_
 refine q3q rfl rfl ?_
 refine x0x rfl s4s rfl rfl w1w rfl rfl ?_
 refine x3x rfl w1w rfl rfl ?_
 refine x1x rfl ?_
 refine x1x rfl ?_
 refine q3q rfl rfl ?_
 refine x0x rfl s4s rfl rfl w1w rfl rfl ?_
 refine x3x rfl w1w rfl rfl ?_
 refine x1x rfl ?_
 refine x1x rfl ?_
 refine q3q rfl rfl ?_
 refine x0x rfl s4s rfl rfl w1w rfl rfl ?_
 refine x3x rfl w1w rfl rfl ?_
 refine x1x rfl ?_
 refine r3r (j := (k - 1) / 2) rfl rfl w1w rfl w8w rfl rfl (by omega) ?_
 refine s0s rfl w8w rfl hb rfl rfl ?_
 refine x1x rfl ?_
 refine q3q rfl rfl ?_
 refine x0x rfl s4s rfl rfl w1w rfl rfl ?_
 refine x3x rfl w1w rfl rfl ?_
 refine x1x rfl ?_
 refine r3r (j := k) rfl rfl w1w rfl w8w rfl rfl (by omega) ?_
 refine s0s rfl w8w rfl ha rfl rfl ?_
 refine r3r (j := k) rfl rfl w1w rfl w8w rfl rfl (by omega) ?_
 refine a1o (el' := b) rfl rfl w8w rfl rfl rfl ha rfl (a2f _) rfl rfl ?_
 refine r3r (j := (k - 1) / 2) rfl rfl w1w rfl w8w rfl rfl (by rw [List.length_set]; omega) ?_
 refine a1o (el' := a) rfl rfl w8w rfl rfl rfl (by rw [List.getElem?_set_ne (by omega)]; exact hb) rfl (a2f _) rfl rfl ?_
 refine ⟨by kernel_rfl, ?_⟩
 refine y3y x6x (by rfl) ?_
 refine x1x rfl ?_
 refine x2x rfl ?_
 exact ⟨((k - 1) / 2, sw m k ((k - 1) / 2)), ⟨⟨by rw [← h1, b4z (by omega) ha hb hg], by rw [a9e]; dsimp only; omega, by rw [a9e]; exact h3⟩, (by dsimp only; omega)⟩, [0, _], (Cov.cons (t := 4) rfl Cov.nil), (Cov.cons (t := 0) rfl Cov.nil), (HE.row rfl (by rw [d3c ha hb]) (HE.box rfl rfl HE.nil)), (HE.same (id := 2) rfl (HE.same (id := 3) rfl (HE.same (id := 4) rfl HE.nil))), rfl⟩
theorem a3t (m : Ev) (r : List Ev) (hl : r.length ≤ 1000000000) : Meth Tryz.prog 254 2 [0] [.ptr 0 0 0] [(0, (0, .box 255 [.ref 1 0, .fn (.func 146) [] []])), (1, (0, .row 179 7 ((m :: r).map v6v)))] (.agg (v6v m)) [(0, (0, .box 255 [.ref 1 0, .fn (.func 146) [] []])), (1, (0, .row 179 7 ((b0a a1g (m :: r)).map v6v)))] := by
 refine u9u x6x (fn := Tryz.f254) (by kernel_rfl) (by kernel_rfl) rfl (O0 := [.agg (v6v m)]) 2 2 (Nat.le_of_ble_eq_true rfl) (by rfl) (by repeat (first | exact BndH.nil | refine BndH.box rfl ?_ | refine BndH.row (u3u fun _ => rfl) ?_)) (by repeat (first | exact BndH.nil | refine BndH.box rfl ?_ | refine BndH.row (u3u fun _ => rfl) ?_)) (by rfl) fun γ => ?_
 show Ex Tryz.prog _ _ [(0, .ptr 0 (γ 0) 0)] [(0, ((γ 0), .box 255 [.ref 1 (γ 1), .fn (.func 146) [] []])), (1, ((γ 1), .row 179 7 ((m :: r).map v6v))), (3, (0, .dead)), (2, (0, .dead))] _
 obtain ⟨T0, hT⟩ : ∃ T0, T0 = ((m :: r).set 0 ((m :: r).getLast (by simp))).take r.length := ⟨_, rfl⟩
 have hres : b0a a1g (m :: r) = a0m a1g T0 0 := by rw [hT]; rfl
 have hTl : T0.length = r.length := by rw [hT]; simp
 have hlast : (m :: r)[(m :: r).length - 1]? = some ((m :: r).getLast (by simp)) := by rw [← List.getLast?_eq_getElem?, List.getLast?_eq_some_getLast]
 refine x4x x6x (by rfl) ?_
 refine u8u (id := 2) w8w b7i rfl ?_
 refine x4x x6x (by rfl) ?_
 refine x1x rfl ?_
 refine q3q rfl rfl ?_
 refine x0x rfl s4s rfl rfl w1w rfl rfl ?_
 refine x3x rfl w1w rfl rfl ?_
 refine r3r (j := 0) rfl rfl w1w rfl w8w rfl rfl (by simp) ?_
 refine s0s rfl w8w rfl (show (m :: r)[0]? = some m from rfl) rfl rfl ?_
 refine u8u (id := 3) w8w b7i rfl ?_
 refine z5z rfl rfl w8w rfl rfl rfl rfl ?_
 refine x4x x6x (by rfl) ?_
 refine x1x rfl ?_
 refine q3q rfl rfl ?_
 refine x0x rfl s4s rfl rfl w1w rfl rfl ?_
 refine x3x rfl w1w rfl rfl ?_
 refine a1v rfl w1w rfl rfl (by exact List.length_map _) ?_
 refine a0l (b := 1) rfl rfl (by (simp; done)) (by (simp; omega)) ?_
 refine x2x rfl ?_
 refine q7q x6x r4r (by rfl) ?_
 refine x1x rfl ?_
 refine q3q rfl rfl ?_
 refine x0x rfl s4s rfl rfl w1w rfl rfl ?_
 refine x3x rfl w1w rfl rfl ?_
 refine x1x rfl ?_
 refine q3q rfl rfl ?_
 refine x0x rfl s4s rfl rfl w1w rfl rfl ?_
 refine x3x rfl w1w rfl rfl ?_
 refine x1x rfl ?_
 refine r3r (j := (m :: r).length - 1) rfl rfl w1w rfl w8w rfl rfl (by simp) ?_
 refine s0s rfl w8w rfl hlast rfl rfl ?_
 refine r3r (j := 0) rfl rfl w1w rfl w8w rfl rfl (by simp) ?_
 refine a1o (el' := ((m :: r).getLast (by simp))) rfl rfl w8w rfl rfl rfl (show (m :: r)[0]? = some m from rfl) rfl (a2f _) rfl rfl ?_
 refine ⟨by kernel_rfl, ?_⟩
 refine x4x x6x (by rfl) ?_
 refine x1x rfl ?_
 refine x1x rfl ?_
 refine q3q rfl rfl ?_
 refine x0x rfl s4s rfl rfl w1w rfl rfl ?_
 refine x3x rfl w1w rfl rfl ?_
 refine x1x rfl ?_
 refine c9x x6x (u := (m :: r).length - 1) (ys := T0.map v6v) rfl w1w rfl w8w rfl rfl rfl (by (simp; done)) (by rw [hT, List.map_take]; rfl) ?_
 refine q3q rfl rfl ?_
 refine x0x rfl s4s rfl rfl w1w rfl rfl ?_
 refine u4u rfl rfl w1w rfl rfl rfl rfl rfl (by simp only [List.set_cons_zero, List.set_cons_succ]; rfl) ?_
 refine x4x x6x (by rfl) ?_
 refine x2x rfl ?_
 refine y7y ?_
 refine u5u (ι := Nat × List Ev) (fun i γ1 => [(5, .pv (.int .i64 (i.1 : Int)))]) (fun i γ1 => [(1, ((γ1 1), .row 179 7 ((i.2).map v6v))), (0, ((γ 0), .box 255 [.ref 1 (γ1 1), .fn (.func 146) [] []]))]) (fun i => a0m a1g i.2 i.1 = b0a a1g (m :: r) ∧ i.2.length = r.length ∧ i.1 ≤ r.length) (fun i => i.2.length - i.1) (Cov.cons (t := 0) rfl (Cov.cons (t := 2) rfl (Cov.cons (t := 3) rfl (Cov.cons (t := 4) rfl Cov.nil)))) (HE.same (id := 2) rfl (HE.same (id := 3) rfl HE.nil)) (0, T0) ⟨hres.symm, hTl, by omega⟩ [0, _] (Cov.cons (t := 5) rfl Cov.nil) (HE.row rfl rfl (HE.box rfl rfl HE.nil)) rfl fun i γ1 hi => ?_
 try dsimp only [List.cons_append, List.nil_append]
 obtain ⟨k, t⟩ := i
 obtain ⟨h1, h2, h3⟩ := hi
 dsimp only at h1 h2 h3 ⊢
 refine y7y ?_
 refine x4x x6x (by rfl) ?_
 refine x1x rfl ?_
 refine d2s (a := 2) rfl rfl (by omega) ?_
 refine z9z (b := 1) rfl rfl (by omega) ?_
 refine x2x rfl ?_
 refine x5x fun K1 hK1 => ?_
 refine x4x x6x (by rfl) ?_
 refine x1x rfl ?_
 refine x1x rfl ?_
 refine y1y rfl rfl rfl ?_
 refine x8x rfl (fun hc2 => ?_) (fun hc2 => ?_)
 ·try simp at hc2
  have hfin := (a3z (lt := a1g) (l := t) (k := k) (by omega)).symm.trans h1
  refine x4x x6x (by rfl) ?_
  refine y4y rfl w8w rfl rfl rfl ?_
  refine z5z rfl rfl w8w rfl rfl rfl rfl ?_
  refine y0y ?_
  exact ⟨.inr rfl, [γ 0, _], rfl, rfl, HE.box rfl rfl (HE.row rfl (by rw [← hfin]) HE.nil)⟩
 try simp at hc2
 have hlt : 2 * k + 1 < t.length := by omega
 refine x9x ?_
 refine hK1 _ _ ?_
 clear hK1 K1
 refine b2a (ι := Unit) (fun _i γ2 => [(6, .pv (.int .i64 (a2k a1g t k : Int)))]) (fun _i γ2 => []) (fun _i => True) (Cov.cons (t := 0) rfl (Cov.cons (t := 2) rfl (Cov.cons (t := 3) rfl (Cov.cons (t := 4) rfl (Cov.cons (t := 5) rfl Cov.nil))))) (HE.same (id := 0) rfl (HE.same (id := 1) rfl (HE.same (id := 2) rfl (HE.same (id := 3) rfl HE.nil)))) ?_ fun _i γ2 hi => ?_
 ·refine q7q x6x r4r (by rfl) ?_
  refine x1x rfl ?_
  refine z9z (b := 1) rfl rfl (by omega) ?_
  refine x1x rfl ?_
  refine y1y rfl rfl rfl ?_
  refine x1x rfl ?_
  refine s1s rfl rfl (fun hg3 => ?_) (fun hg3 => ?_)
  rotate_left
  ·try simp at hg3
   have hlt2 : ¬ 2 * k + 2 < t.length := by omega
   refine x7x rfl rfl ?_
   refine x7x rfl rfl ?_
   refine x7x rfl rfl ?_
   refine x7x rfl rfl ?_
   refine x7x rfl rfl ?_
   refine x7x rfl rfl ?_
   refine x7x rfl rfl ?_
   refine x7x rfl rfl ?_
   refine x7x rfl rfl ?_
   refine x7x rfl rfl ?_
   refine x7x rfl rfl ?_
   refine x7x rfl rfl ?_
   refine x7x rfl rfl ?_
   refine x7x rfl rfl ?_
   refine x7x rfl rfl ?_
   refine x7x rfl rfl ?_
   refine x7x rfl rfl ?_
   refine x7x rfl rfl ?_
   refine x7x rfl rfl ?_
   refine y2y rfl rfl ?_
   refine ⟨by kernel_rfl, ?_⟩
   refine x8x rfl (fun hc5 => ?_) (fun hc5 => ?_)
   ·simp at hc5
   try simp at hc5
   try have hl1 := hc5
   refine x9x ?_
   exact ⟨(), trivial, [], (Cov.cons' (t := 6) rfl (by rw [d3g (by omega)]) Cov.nil), (Cov.cons (t := 0) rfl (Cov.cons (t := 2) rfl (Cov.cons (t := 3) rfl (Cov.cons (t := 4) rfl (Cov.cons (t := 5) rfl Cov.nil))))), HE.nil, (HE.same (id := 0) rfl (HE.same (id := 1) rfl (HE.same (id := 2) rfl (HE.same (id := 3) rfl HE.nil)))), rfl⟩
  try simp at hg3
  have hlt2 : 2 * k + 1 + 1 < t.length := by omega
  obtain ⟨c1, hc1⟩ : ∃ c1, t[2 * k + 1 + 1]? = some c1 := ⟨_, List.getElem?_eq_getElem (by omega)⟩
  obtain ⟨d1, hd1⟩ : ∃ d1, t[2 * k + 1]? = some d1 := ⟨_, List.getElem?_eq_getElem (by omega)⟩
  refine x1x rfl ?_
  refine y5y rfl rfl ?_
  refine q3q rfl rfl ?_
  refine y5y rfl rfl ?_
  refine x0x rfl s4s rfl rfl b4l rfl rfl ?_
  refine y5y rfl rfl ?_
  refine x3x rfl b4l rfl rfl ?_
  refine y5y rfl rfl ?_
  refine x1x rfl ?_
  refine y5y rfl rfl ?_
  refine q3q rfl rfl ?_
  refine y5y rfl rfl ?_
  refine x0x rfl s4s rfl rfl w1w rfl rfl ?_
  refine y5y rfl rfl ?_
  refine x3x rfl w1w rfl rfl ?_
  refine y5y rfl rfl ?_
  refine x1x rfl ?_
  refine y5y rfl rfl ?_
  refine z9z (b := 1) rfl rfl (by omega) ?_
  refine y5y rfl rfl ?_
  refine r3r (j := 2 * k + 1 + 1) rfl rfl w1w rfl w8w rfl rfl (by omega) ?_
  refine y5y rfl rfl ?_
  refine s0s rfl w8w rfl hc1 rfl rfl ?_
  refine y5y rfl rfl ?_
  refine x1x rfl ?_
  refine y5y rfl rfl ?_
  refine q3q rfl rfl ?_
  refine y5y rfl rfl ?_
  refine x0x rfl s4s rfl rfl w1w rfl rfl ?_
  refine y5y rfl rfl ?_
  refine x3x rfl w1w rfl rfl ?_
  refine y5y rfl rfl ?_
  refine x1x rfl ?_
  refine y5y rfl rfl ?_
  refine r3r (j := 2 * k + 1) rfl rfl w1w rfl w8w rfl rfl (by omega) ?_
  refine y5y rfl rfl ?_
  refine s0s rfl w8w rfl hd1 rfl rfl ?_
  refine y5y rfl rfl ?_
  refine y9y rfl rfl rfl (a2z _ _) ?_
  refine z0z rfl rfl ?_
  refine ⟨by kernel_rfl, ?_⟩
  refine x8x rfl (fun hc4 => ?_) (fun hc4 => ?_)
  rotate_left
  ·try simp at hc4
   try have hl1 := hc4
   refine x9x ?_
   exact ⟨(), trivial, [], (Cov.cons' (t := 6) rfl (by rw [d3f hc1 hd1 hl1]) Cov.nil), (Cov.cons (t := 0) rfl (Cov.cons (t := 2) rfl (Cov.cons (t := 3) rfl (Cov.cons (t := 4) rfl (Cov.cons (t := 5) rfl Cov.nil))))), HE.nil, (HE.same (id := 0) rfl (HE.same (id := 1) rfl (HE.same (id := 2) rfl (HE.same (id := 3) rfl HE.nil)))), rfl⟩
  try simp at hc4
  have hl1 := hc4
  refine y3y x6x (by rfl) ?_
  refine x1x rfl ?_
  refine z9z (b := 1) rfl rfl (by omega) ?_
  refine x2x rfl ?_
  exact ⟨(), trivial, [], (Cov.cons' (t := 6) rfl (by rw [d3e hc1 hd1 hl1]) Cov.nil), (Cov.cons (t := 0) rfl (Cov.cons (t := 2) rfl (Cov.cons (t := 3) rfl (Cov.cons (t := 4) rfl (Cov.cons (t := 5) rfl Cov.nil))))), HE.nil, (HE.same (id := 0) rfl (HE.same (id := 1) rfl (HE.same (id := 2) rfl (HE.same (id := 3) rfl HE.nil)))), rfl⟩
 ·try dsimp only [List.cons_append, List.nil_append]
  have hch := a8s (lt := a1g) t k
  obtain ⟨a, ha⟩ : ∃ a, t[a2k a1g t k]? = some a := ⟨_, List.getElem?_eq_getElem (by omega)⟩
  obtain ⟨b, hb⟩ : ∃ b, t[k]? = some b := ⟨_, List.getElem?_eq_getElem (by omega)⟩
  refine x5x fun K6 hK6 => ?_
  refine q7q x6x r4r (by rfl) ?_
  refine x1x rfl ?_
  refine q3q rfl rfl ?_
  refine x0x rfl s4s rfl rfl b4l rfl rfl ?_
  refine x3x rfl b4l rfl rfl ?_
  refine x1x rfl ?_
  refine q3q rfl rfl ?_
  refine x0x rfl s4s rfl rfl w1w rfl rfl ?_
  refine x3x rfl w1w rfl rfl ?_
  refine x1x rfl ?_
  refine r3r (j := a2k a1g t k) rfl rfl w1w rfl w8w rfl rfl (by omega) ?_
  refine s0s rfl w8w rfl ha rfl rfl ?_
  refine x1x rfl ?_
  refine q3q rfl rfl ?_
  refine x0x rfl s4s rfl rfl w1w rfl rfl ?_
  refine x3x rfl w1w rfl rfl ?_
  refine x1x rfl ?_
  refine r3r (j := k) rfl rfl w1w rfl w8w rfl rfl (by omega) ?_
  refine s0s rfl w8w rfl hb rfl rfl ?_
  refine y9y rfl rfl rfl (a2z _ _) ?_
  refine w3w rfl ?_
  refine ⟨by kernel_rfl, ?_⟩
  refine x8x rfl (fun hc7 => ?_) (fun hc7 => ?_)
  ·try simp at hc7
   have hfin := (b1g ha hb hc7).symm.trans h1
   refine x4x x6x (by rfl) ?_
   refine y4y rfl w8w rfl rfl rfl ?_
   refine z5z rfl rfl w8w rfl rfl rfl rfl ?_
   refine y0y ?_
   exact ⟨.inr rfl, [γ 0, _], rfl, rfl, HE.box rfl rfl (HE.row rfl (by rw [← hfin]) HE.nil)⟩
  try simp at hc7
  have hg := hc7
  refine x9x ?_
  refine hK6 _ _ ?_
  clear hK6 K6
  refine q7q x6x r4r (by rfl) ?_
  refine x1x rfl ?_
  refine q3q rfl rfl ?_
  refine x0x rfl s4s rfl rfl w1w rfl rfl ?_
  refine x3x rfl w1w rfl rfl ?_
  refine x1x rfl ?_
  refine x1x rfl ?_
  refine q3q rfl rfl ?_
  refine x0x rfl s4s rfl rfl w1w rfl rfl ?_
  refine x3x rfl w1w rfl rfl ?_
  refine x1x rfl ?_
  refine x1x rfl ?_
  refine q3q rfl rfl ?_
  refine x0x rfl s4s rfl rfl w1w rfl rfl ?_
  refine x3x rfl w1w rfl rfl ?_
  refine x1x rfl ?_
  refine r3r (j := a2k a1g t k) rfl rfl w1w rfl w8w rfl rfl (by omega) ?_
  refine s0s rfl w8w rfl ha rfl rfl ?_
  refine x1x rfl ?_
  refine q3q rfl rfl ?_
  refine x0x rfl s4s rfl rfl w1w rfl rfl ?_
  refine x3x rfl w1w rfl rfl ?_
  refine x1x rfl ?_
  refine r3r (j := k) rfl rfl w1w rfl w8w rfl rfl (by omega) ?_
  refine s0s rfl w8w rfl hb rfl rfl ?_
  refine r3r (j := k) rfl rfl w1w rfl w8w rfl rfl (by omega) ?_
  refine a1o (el' := a) rfl rfl w8w rfl rfl rfl hb rfl (a2f _) rfl rfl ?_
  refine r3r (j := a2k a1g t k) rfl rfl w1w rfl w8w rfl rfl (by rw [List.length_set]; omega) ?_
  refine a1o (el' := b) rfl rfl w8w rfl rfl rfl (by rw [List.getElem?_set_ne (by omega)]; exact ha) rfl (a2f _) rfl rfl ?_
  refine ⟨by kernel_rfl, ?_⟩
  refine y3y x6x (by rfl) ?_
  refine x1x rfl ?_
  refine x2x rfl ?_
  exact ⟨(a2k a1g t k, sw t (a2k a1g t k) k), ⟨⟨by rw [← h1, b1f (by omega) ha hb hg], by rw [a9e]; exact h2, by dsimp only; omega⟩, (by dsimp only; rw [a9e]; omega)⟩, [0, _], (Cov.cons (t := 5) rfl Cov.nil), (Cov.cons (t := 0) rfl (Cov.cons (t := 2) rfl (Cov.cons (t := 3) rfl (Cov.cons (t := 4) rfl Cov.nil)))), (HE.row rfl (by rw [d3c ha hb, List.set_comm _ _ (by omega)]) (HE.box rfl rfl HE.nil)), (HE.same (id := 2) rfl (HE.same (id := 3) rfl HE.nil)), rfl⟩
theorem a2w (l : List Ev) (hl : l.length ≤ 1000000000) : Meth Tryz.prog 230 2 [0] [.ptr 0 0 0] [(0, (0, .box 255 [.ref 1 0, .fn (.func 146) [] []])), (1, (0, .row 179 7 ((l).map v6v)))] (.row (.rd true) 179 7 ((a4p a1g l.length l).map v6v)) [(0, (0, .box 255 [.ref 1 0, .fn (.func 146) [] []])), (1, (0, .row 179 7 ((([] : List Ev)).map v6v)))] := by
 refine u9u x6x (fn := Tryz.f230) (by kernel_rfl) (by kernel_rfl) rfl (O0 := [.row (.rd true) 179 7 ((a4p a1g l.length l).map v6v)]) 2 3 (Nat.le_of_ble_eq_true rfl) (by rfl) (by repeat (first | exact BndH.nil | refine BndH.box rfl ?_ | refine BndH.row (u3u fun _ => rfl) ?_)) (by repeat (first | exact BndH.nil | refine BndH.box rfl ?_ | refine BndH.row (u3u fun _ => rfl) ?_)) (by rfl) fun γ => ?_
 show Ex Tryz.prog _ _ [(0, .ptr 0 (γ 0) 0)] [(0, ((γ 0), .box 255 [.ref 1 (γ 1), .fn (.func 146) [] []])), (1, ((γ 1), .row 179 7 ((l).map v6v))), (4, (0, .dead)), (3, (0, .dead)), (2, (0, .dead))] _
 refine x4x x6x (by rfl) ?_
 refine x2x rfl ?_
 refine x4x x6x (by rfl) ?_
 refine x1x rfl ?_
 refine q3q rfl rfl ?_
 refine x0x rfl s4s rfl rfl w1w rfl rfl ?_
 refine x3x rfl w1w rfl rfl ?_
 refine a1v rfl w1w rfl rfl (by exact List.length_map _) ?_
 refine c3t x6x (id := 2) w1w rfl w8w rfl rfl (by (simp only [List.length_map, List.length_append, List.length_cons, List.length_nil, T179]; omega)) (by (unfold maxLen; omega)) rfl ?_
 refine x2x rfl ?_
 refine x5x fun K1 hK1 => ?_
 refine y7y ?_
 refine u5u (ι := List Ev × List Ev) (fun i γ1 => [(3, .ref 2 (γ1 2))]) (fun i γ1 => [(1, ((γ1 1), .row 179 7 ((i.1).map v6v))), (2, ((γ1 2), .row 179 7 ((i.2).map v6v))), (0, ((γ 0), .box 255 [.ref 1 (γ1 1), .fn (.func 146) [] []])), (3, ((γ1 3), .dead)), (4, ((γ1 4), .dead))]) (fun i => i.2 ++ a4p a1g i.1.length i.1 = a4p a1g l.length l ∧ i.1.length + i.2.length = l.length) (fun i => i.1.length) (Cov.cons (t := 0) rfl Cov.nil) HE.nil (l, []) ⟨rfl, rfl⟩ [0, _, _, _, _] (Cov.cons (t := 3) rfl Cov.nil) (HE.row rfl rfl (HE.row rfl rfl (HE.box rfl rfl (HE.kill rfl (HE.kill rfl HE.nil))))) rfl fun i γ1 hi => ?_
 try dsimp only [List.cons_append, List.nil_append]
 obtain ⟨ls, o⟩ := i
 obtain ⟨h1, h2⟩ := hi
 dsimp only at h1 h2 ⊢
 refine x5x fun K2 hK2 => ?_
 refine x4x x6x (by rfl) ?_
 refine x1x rfl ?_
 refine q3q rfl rfl ?_
 refine x0x rfl s4s rfl rfl w1w rfl rfl ?_
 refine x3x rfl w1w rfl rfl ?_
 refine a1v rfl w1w rfl rfl (by exact List.length_map _) ?_
 refine y1y rfl rfl rfl ?_
 refine x8x rfl (fun hc3 => ?_) (fun hc3 => ?_)
 rotate_left
 ·try simp at hc3
  obtain rfl : ls = [] := by exact hc3
  have ho : o = a4p a1g l.length l := by rw [← h1]; simp [a4p]
  subst ho
  refine v0v ?_
  refine hK1 _ _ ?_
  clear hK2 K2 hK1 K1
  refine b2e 3 rfl rfl (fun _ => rfl) ?_
  refine x4x x6x (by rfl) ?_
  refine x1x rfl ?_
  refine x2x rfl ?_
  refine y0y ?_
  exact ⟨.inr rfl, [γ 0, _], rfl, rfl, HE.box rfl rfl (HE.row rfl rfl HE.nil)⟩
 try simp at hc3
 obtain ⟨m, r, rfl⟩ : ∃ m r, ls = m :: r := by cases ls with | nil => simp at hc3 | cons m r => exact ⟨m, r, rfl⟩
 simp only [List.length_cons] at h2
 refine x9x ?_
 refine hK2 _ _ ?_
 clear hK2 K2
 refine y7y ?_
 refine y3y x6x (by rfl) ?_
 refine x1x rfl ?_
 refine x1x rfl ?_
 refine v5v [0, 1] [_, _] (a3t m r (by omega)) rfl rfl rfl (by decide) rfl rfl (by repeat (first | exact InH.nil | refine InH.cons rfl ?_)) (by (simp only [pI, List.map_cons, List.map_nil, u1u, u2u, gl, nx, q4q, Nat.beq, Nat.add_eq, List.getD_cons_zero, List.getD_cons_succ, List.getD_nil, Bool.or_false, Bool.false_or, Bool.true_or, Bool.or_true, Nat.add_zero, Nat.zero_add]; rfl)) (by (simp only [pI, List.map_cons, List.map_nil, u1u, u2u, gl, nx, q4q, Nat.beq, Nat.add_eq, List.getD_cons_zero, List.getD_cons_succ, List.getD_nil, Bool.or_false, Bool.false_or, Bool.true_or, Bool.or_true, Nat.add_zero, Nat.zero_add]; rfl)) ?_
 refine s6s (id := 3) w1w rfl w8w rfl rfl rfl rfl rfl rfl ?_
 refine r5r rfl rfl w1w rfl w8w rfl rfl rfl rfl (by rfl) (by exact a0c _ _ _) (by (simp only [List.length_map, List.length_append, List.length_cons, List.length_nil, T179]; omega)) ?_
 refine x2x rfl ?_
 exact ⟨(b0a a1g (m :: r), o ++ [m]), ⟨⟨by rw [← h1, b1h, List.append_assoc]; rfl, by rw [b1h, List.length_append]; simp only [List.length_cons, List.length_nil] at h2 ⊢; omega⟩, (by dsimp only; rw [b1h]; simp)⟩, [0, _, _, _, _], (Cov.cons (t := 3) rfl Cov.nil), (Cov.cons (t := 0) rfl Cov.nil), (HE.row rfl rfl (HE.row rfl (by simp) (HE.box rfl rfl (HE.kill rfl (HE.kill rfl HE.nil))))), HE.nil, rfl⟩
end
section
theorem b3h (c : Bool) (l : List Ev) (hl : l.length ≤ 1000000000) : Meth Tryz.prog 187 1 [] [a1n c l] [(0, (0, .dead))] (.ref 0 0) [(0, (0, .row 76 7 ((r1r l).map v6v)))] := by
 refine u9u x6x (fn := Tryz.f187) (by kernel_rfl) (by kernel_rfl) rfl (O0 := [.ref 0 0]) 1 8 (Nat.le_of_ble_eq_true rfl) (by rfl) (by repeat (first | exact BndH.nil | refine BndH.dead ?_)) (by repeat (first | exact BndH.nil | refine BndH.row (u3u fun _ => rfl) ?_)) (by rfl) fun γ => ?_
 show Ex Tryz.prog _ _ [(0, a1n c l)] [(0, ((γ 0), .dead)), (8, (0, .dead)), (7, (0, .dead)), (6, (0, .dead)), (5, (0, .dead)), (4, (0, .dead)), (3, (0, .dead)), (2, (0, .dead)), (1, (0, .dead))] _
 refine x4x x6x (by rfl) ?_
 refine x2x rfl ?_
 refine x4x x6x (by rfl) ?_
 refine q8q s4s rfl d1h rfl (by simp only [pI, b4l, d5x, w1w, d5z, a0f, p4p, AV.okc, AV.one, Value.oneCell', List.map_cons, List.map_nil, List.getElem?_cons_zero, List.getElem?_cons_succ, List.take_succ_cons, List.take_zero, List.drop_succ_cons, List.drop_zero, List.cons_append, List.nil_append, List.length_cons, List.length_nil, if_true, and_self, Nat.reduceAdd, Nat.reduceLeDiff]; rfl) ?_
 refine u8u (id := 1) s4s d1h rfl ?_
 refine z5z rfl rfl s4s rfl rfl rfl rfl ?_
 refine x4x x6x (by rfl) ?_
 refine b7l (id := 2) rfl ?_
 refine x2x rfl ?_
 refine x5x fun K1 hK1 => ?_
 refine x4x x6x (by rfl) ?_
 refine x1x rfl ?_
 refine u0u rfl u7u rfl ?_
 refine x1x rfl ?_
 refine y7y ?_
 refine r6r 1 0 7 179 7 rfl rfl rfl rfl rfl ?_
 refine u5u (ι := Nat) (fun i γ1 => [(15, .pv (.int .i64 (i : Int)))]) (fun i γ1 => [(7, ((γ1 7), .row 179 7 ((a8y a1g (q9q (l.take i))).map v6v))), (1, ((0 + 1), .box 255 [.ref 7 (γ1 7), .fn (.func 146) [] []])), (2, ((0 + 1), .map (a5x (l.take i)))), (3, ((γ1 3), .dead)), (4, ((γ1 4), .dead))]) (fun i => i ≤ l.length) (fun i => l.length - i) (Cov.cons (t := 3) rfl (Cov.cons (t := 4) rfl (Cov.cons (t := 13) rfl (Cov.cons (t := 14) rfl Cov.nil)))) (HE.same (id := 0) rfl (HE.same (id := 5) rfl (HE.same (id := 6) rfl (HE.same (id := 8) rfl HE.nil)))) 0 (by omega) [0, 0, 0, _, _, 0, 0, _] (Cov.cons (t := 15) rfl Cov.nil) (HE.row rfl (by rw [List.take_zero]; try rfl) (HE.box rfl rfl (HE.map rfl (by rw [List.take_zero]; try rfl) (HE.kill rfl (HE.kill rfl HE.nil))))) rfl fun i γ1 hi => ?_
 try dsimp only [List.cons_append, List.nil_append]
 refine x4x x6x (by rfl) ?_
 refine y1y rfl rfl rfl ?_
 refine x5x fun K2 hK2 => ?_
 refine x8x rfl (fun hc3 => ?_) (fun hc3 => ?_)
 rotate_left
 ·try simp at hc3
  obtain rfl : i = l.length := by omega
  obtain ⟨H, hH⟩ : ∃ H, H = a8y a1g (q9q (l.take l.length)) := ⟨_, rfl⟩
  rw [← hH]
  have hhl : H.length ≤ 1000000000 := by rw [hH, b1i]; exact Nat.le_trans (b2f _) (by rw [List.length_take]; omega)
  refine v0v ?_
  refine hK1 _ _ ?_
  clear hK2 K2 hK1 K1
  refine x4x x6x (by rfl) ?_
  refine x0x rfl s4s rfl rfl w1w rfl rfl ?_
  refine x3x rfl w1w rfl rfl ?_
  refine a1v rfl w1w rfl rfl (by exact List.length_map _) ?_
  refine c3t x6x (id := 0) u7u rfl z3z rfl rfl (by (simp only [List.length_map, List.length_append, List.length_cons, List.length_nil, T76]; omega)) (by (unfold maxLen; omega)) rfl ?_
  refine x2x rfl ?_
  refine x5x fun K6 hK6 => ?_
  refine x4x x6x (by rfl) ?_
  refine v5v [1, 7] [_, _] (a2w _ hhl) rfl rfl rfl (by decide) rfl rfl (by repeat (first | exact InH.nil | refine InH.cons rfl ?_)) (by (simp only [pI, List.map_cons, List.map_nil, u1u, u2u, gl, nx, q4q, Nat.beq, Nat.add_eq, List.getD_cons_zero, List.getD_cons_succ, List.getD_nil, Bool.or_false, Bool.false_or, Bool.true_or, Bool.or_true, Nat.add_zero, Nat.zero_add]; rfl)) (by (simp only [pI, List.map_cons, List.map_nil, u1u, u2u, gl, nx, q4q, Nat.beq, Nat.add_eq, List.getD_cons_zero, List.getD_cons_succ, List.getD_nil, Bool.or_false, Bool.false_or, Bool.true_or, Bool.or_true, Nat.add_zero, Nat.zero_add]; rfl)) ?_
  refine u0u rfl w1w rfl ?_
  refine x1x rfl ?_
  refine y7y ?_
  obtain ⟨D, hD⟩ : ∃ D, D = a4p a1g H.length H := ⟨_, rfl⟩
  rw [← hD]
  have hDl : D.length ≤ 1000000000 := Nat.le_trans (by rw [hD]; exact b5d _ _) hhl
  refine u5u (ι := Nat) (fun i γ3 => [(8, .ref 0 (γ3 0)), (40, .pv (.int .i64 (i : Int)))]) (fun i γ3 => [(0, ((γ3 0), .row 76 7 ((D.take i).map v6v))), (5, ((γ3 5), .dead)), (6, ((γ3 6), .dead)), (7, ((γ3 7), .dead))]) (fun i => i ≤ D.length) (fun i => D.length - i) (Cov.cons (t := 38) rfl (Cov.cons (t := 39) rfl Cov.nil)) (HE.same (id := 1) rfl (HE.same (id := 2) rfl (HE.same (id := 3) rfl (HE.same (id := 4) rfl (HE.same (id := 8) rfl HE.nil))))) 0 (by omega) [_, 0, 0, 0, 0, _, _, _] (Cov.cons (t := 8) rfl (Cov.cons (t := 40) rfl Cov.nil)) (HE.row rfl (by rw [List.take_zero]; try rfl) (HE.kill rfl (HE.kill rfl (HE.kill rfl HE.nil)))) rfl fun i γ3 hi => ?_
  try dsimp only [List.cons_append, List.nil_append]
  refine x4x x6x (by rfl) ?_
  refine y1y rfl rfl rfl ?_
  refine x5x fun K7 hK7 => ?_
  refine x8x rfl (fun hc8 => ?_) (fun hc8 => ?_)
  rotate_left
  ·try simp at hc8
   refine v0v ?_
   refine hK6 _ _ ?_
   clear hK7 K7 hK6 K6
   refine x4x x6x (by rfl) ?_
   refine x1x rfl ?_
   refine x2x rfl ?_
   refine y0y ?_
   exact ⟨.inr rfl, [_], rfl, rfl, HE.row rfl (by rw [List.take_of_length_le (by omega), hD, hH, List.take_length, b1i, b5f]) HE.nil⟩
  try simp at hc8
  obtain ⟨k1, hk1⟩ : ∃ k1, D[i]? = some k1 := ⟨_, List.getElem?_eq_getElem (by omega)⟩
  have hDi : (D.take i).length ≤ 1000000000 := by rw [List.length_take]; omega
  refine x9x ?_
  refine hK7 _ _ ?_
  clear hK7 K7
  refine x5x fun K9 hK9 => ?_
  refine y7y ?_
  refine x4x x6x (by rfl) ?_
  refine z7z rfl rfl w1w rfl w8w rfl (by assumption) ?_
  refine z6z rfl w8w rfl rfl ?_
  refine u8u (id := 5) w8w b7i rfl ?_
  refine z5z rfl rfl w8w rfl rfl rfl rfl ?_
  refine y3y x6x (by rfl) ?_
  refine x1x rfl ?_
  refine y4y rfl w8w rfl rfl rfl ?_
  refine y9y rfl rfl rfl (a8l ..) ?_
  refine s6s (id := 6) u7u rfl z3z rfl rfl rfl rfl rfl rfl ?_
  refine r5r rfl rfl u7u rfl z3z rfl rfl rfl rfl (by rfl) (by exact a0c _ _ _) (by (simp only [List.length_map, List.length_append, List.length_cons, List.length_nil, T76]; omega)) ?_
  refine x2x rfl ?_
  refine hK9 _ _ ?_
  clear hK9 K9
  refine y3y x6x (by rfl) ?_
  refine z9z (b := 1) rfl rfl (by omega) ?_
  refine x1x rfl ?_
  exact ⟨i + 1, ⟨by omega, by omega⟩, [_, 0, 0, 0, 0, _, _, _], (Cov.cons (t := 8) rfl (Cov.cons (t := 40) rfl Cov.nil)), (Cov.cons (t := 38) rfl (Cov.cons (t := 39) rfl Cov.nil)), (HE.row rfl (by rw [p0p hk1]) (HE.kill rfl (HE.kill rfl (HE.kill rfl HE.nil)))), (HE.same (id := 1) rfl (HE.same (id := 2) rfl (HE.same (id := 3) rfl (HE.same (id := 4) rfl (HE.same (id := 8) rfl HE.nil))))), rfl⟩
 try simp at hc3
 obtain ⟨e, he⟩ : ∃ e, l[i]? = some e := ⟨_, List.getElem?_eq_getElem (by omega)⟩
 have hcnt : (l.take i).count e ≤ 1000000000 := Nat.le_trans List.count_le_length (by rw [List.length_take]; omega)
 refine x9x ?_
 refine hK2 _ _ ?_
 clear hK2 K2
 refine x5x fun K4 hK4 => ?_
 refine y7y ?_
 refine x4x x6x (by rfl) ?_
 refine z7z rfl rfl u7u rfl z3z rfl (by assumption) ?_
 refine z6z rfl z3z rfl rfl ?_
 refine u8u (id := 3) z3z a7c rfl ?_
 refine z5z rfl rfl z3z rfl rfl rfl rfl ?_
 refine x4x x6x (by rfl) ?_
 refine y4y rfl z3z rfl rfl rfl ?_
 refine y9y rfl rfl rfl (a8k ..) ?_
 refine u8u (id := 4) w8w b7i rfl ?_
 refine z5z rfl rfl w8w rfl rfl rfl rfl ?_
 refine b2a (ι := Unit) (fun _i γ2 => []) (fun _i γ2 => [(2, ((0 + 1), .map (a5x (l.take i ++ [e]))))]) (fun _i => True) (Cov.cons (t := 3) rfl (Cov.cons (t := 4) rfl (Cov.cons (t := 7) rfl (Cov.cons (t := 13) rfl (Cov.cons (t := 14) rfl (Cov.cons (t := 15) rfl Cov.nil)))))) (HE.same (id := 0) rfl (HE.same (id := 1) rfl (HE.same (id := 3) rfl (HE.same (id := 4) rfl (HE.same (id := 5) rfl (HE.same (id := 6) rfl (HE.same (id := 7) rfl (HE.same (id := 8) rfl HE.nil)))))))) ?_ fun _i γ2 hi => ?_
 ·refine b6d r4r rfl fun B X0 w0 => ?_
  refine w2w x6x (l := [0, 1]) (by kernel_rfl) (by decide) ?_
  refine .cons rfl rfl rfl ?_ ?_
  ·refine x1x rfl ?_
   refine w9w ?_
   refine w2w x6x (l := [1]) (by kernel_rfl) (by decide) ?_
   refine .cons rfl rfl rfl ?_ ?_
   ·refine y4y rfl w8w rfl rfl rfl ?_
    refine w9w ?_
    refine w2w x6x (l := [2, 4]) (by kernel_rfl) (by decide) ?_
    refine .cons rfl rfl rfl ?_ ?_
    ·refine a3f x6x (ks := q9q (l.take i)) (k := e) Tryz.underlying256 evF rfl rfl (fun _ _ _ h => a2v h) rfl (a0i (l.take i)) (b2o y6y rfl (l.take i) e) ?_
     refine w9w ?_
     refine w2w x6x (l := [3, 4]) (by kernel_rfl) (by decide) ?_
     refine .cons rfl rfl rfl ?_ ?_
     ·refine z9z (b := 1) rfl rfl (by omega) ?_
      refine w9w ?_
      refine w2w x6x (l := [4]) (by kernel_rfl) (by decide) ?_
      refine .cons rfl rfl rfl ?_ ?_
      ·refine a2u x6x (es' := b0f (l.take i) e) (j := a1x (l.take i) e) (out := pI ((l.take i).count e : Nat)) (ks := q9q (l.take i)) (k := e) Tryz.underlying256 evF rfl rfl (fun _ _ _ h => a2v h) rfl (a0i _) (a2g y6y rfl _ _) ?_
       refine w9w ?_
       refine w2w x6x (l := [5]) (by kernel_rfl) (by decide) ?_
       refine .cons rfl rfl rfl ?_ ?_
       ·refine p2p rfl rfl ?_
        refine w9w ?_
        refine w2w x6x (l := [6]) (by kernel_rfl) (by decide) ?_
        refine .cons rfl rfl rfl ?_ ?_
        ·refine r2r (j := a1x (l.take i) e) rfl rfl rfl rfl (a0j _ _) (a0w _ _) ?_
         refine w9w ?_
         refine a0r (by kernel_rfl) ?_
         exact ⟨(), trivial, [], Cov.nil, (Cov.cons (t := 3) rfl (Cov.cons (t := 4) rfl (Cov.cons (t := 7) rfl (Cov.cons (t := 13) rfl (Cov.cons (t := 14) rfl (Cov.cons (t := 15) rfl Cov.nil)))))), (HE.map rfl rfl HE.nil), (HE.same (id := 0) rfl (HE.same (id := 1) rfl (HE.same (id := 3) rfl (HE.same (id := 4) rfl (HE.same (id := 5) rfl (HE.same (id := 6) rfl (HE.same (id := 7) rfl (HE.same (id := 8) rfl HE.nil)))))))), rfl⟩
        exact .nil
       exact .nil
      exact .nil
     refine .cons rfl rfl rfl ?_ ?_
     ·refine a2u x6x (es' := b0f (l.take i) e) (j := a1x (l.take i) e) (out := pI ((l.take i).count e : Nat)) (ks := q9q (l.take i)) (k := e) Tryz.underlying256 evF rfl rfl (fun _ _ _ h => a2v h) rfl (a0i _) (a2g y6y rfl _ _) ?_
      refine w9w ?_
      refine w2w x6x (l := [3, 5]) (by kernel_rfl) (by decide) ?_
      refine .cons rfl rfl rfl ?_ ?_
      ·refine z9z (b := 1) rfl rfl (by omega) ?_
       refine w9w ?_
       refine w2w x6x (l := [5]) (by kernel_rfl) (by decide) ?_
       refine .cons rfl rfl rfl ?_ ?_
       ·refine p2p rfl rfl ?_
        refine w9w ?_
        refine w2w x6x (l := [6]) (by kernel_rfl) (by decide) ?_
        refine .cons rfl rfl rfl ?_ ?_
        ·refine r2r (j := a1x (l.take i) e) rfl rfl rfl rfl (a0j _ _) (a0w _ _) ?_
         refine w9w ?_
         refine a0r (by kernel_rfl) ?_
         exact ⟨(), trivial, [], Cov.nil, (Cov.cons (t := 3) rfl (Cov.cons (t := 4) rfl (Cov.cons (t := 7) rfl (Cov.cons (t := 13) rfl (Cov.cons (t := 14) rfl (Cov.cons (t := 15) rfl Cov.nil)))))), (HE.map rfl rfl HE.nil), (HE.same (id := 0) rfl (HE.same (id := 1) rfl (HE.same (id := 3) rfl (HE.same (id := 4) rfl (HE.same (id := 5) rfl (HE.same (id := 6) rfl (HE.same (id := 7) rfl (HE.same (id := 8) rfl HE.nil)))))))), rfl⟩
        exact .nil
       exact .nil
      refine .cons rfl rfl rfl ?_ ?_
      ·refine p2p rfl rfl ?_
       refine w9w ?_
       refine w2w x6x (l := [3]) (by kernel_rfl) (by decide) ?_
       refine .cons rfl rfl rfl ?_ ?_
       ·refine z9z (b := 1) rfl rfl (by omega) ?_
        refine w9w ?_
        refine w2w x6x (l := [6]) (by kernel_rfl) (by decide) ?_
        refine .cons rfl rfl rfl ?_ ?_
        ·refine r2r (j := a1x (l.take i) e) rfl rfl rfl rfl (a0j _ _) (a0w _ _) ?_
         refine w9w ?_
         refine a0r (by kernel_rfl) ?_
         exact ⟨(), trivial, [], Cov.nil, (Cov.cons (t := 3) rfl (Cov.cons (t := 4) rfl (Cov.cons (t := 7) rfl (Cov.cons (t := 13) rfl (Cov.cons (t := 14) rfl (Cov.cons (t := 15) rfl Cov.nil)))))), (HE.map rfl rfl HE.nil), (HE.same (id := 0) rfl (HE.same (id := 1) rfl (HE.same (id := 3) rfl (HE.same (id := 4) rfl (HE.same (id := 5) rfl (HE.same (id := 6) rfl (HE.same (id := 7) rfl (HE.same (id := 8) rfl HE.nil)))))))), rfl⟩
        exact .nil
       exact .nil
      exact .nil
     exact .nil
    refine .cons rfl rfl rfl ?_ ?_
    ·refine a2u x6x (es' := b0f (l.take i) e) (j := a1x (l.take i) e) (out := pI ((l.take i).count e : Nat)) (ks := q9q (l.take i)) (k := e) Tryz.underlying256 evF rfl rfl (fun _ _ _ h => a2v h) rfl (a0i _) (a2g y6y rfl _ _) ?_
     refine w9w ?_
     refine w2w x6x (l := [2, 5]) (by kernel_rfl) (by decide) ?_
     refine .cons rfl rfl rfl ?_ ?_
     ·refine a3f x6x (ks := d0t (l.take i) e) (k := e) Tryz.underlying256 evF rfl rfl (fun _ _ _ h => a2v h) rfl (a8v (l.take i) e) (a8w (l.take i) e) ?_
      refine w9w ?_
      refine w2w x6x (l := [3, 5]) (by kernel_rfl) (by decide) ?_
      refine .cons rfl rfl rfl ?_ ?_
      ·refine z9z (b := 1) rfl rfl (by omega) ?_
       refine w9w ?_
       refine w2w x6x (l := [5]) (by kernel_rfl) (by decide) ?_
       refine .cons rfl rfl rfl ?_ ?_
       ·refine p2p rfl rfl ?_
        refine w9w ?_
        refine w2w x6x (l := [6]) (by kernel_rfl) (by decide) ?_
        refine .cons rfl rfl rfl ?_ ?_
        ·refine r2r (j := a1x (l.take i) e) rfl rfl rfl rfl (a0j _ _) (a0w _ _) ?_
         refine w9w ?_
         refine a0r (by kernel_rfl) ?_
         exact ⟨(), trivial, [], Cov.nil, (Cov.cons (t := 3) rfl (Cov.cons (t := 4) rfl (Cov.cons (t := 7) rfl (Cov.cons (t := 13) rfl (Cov.cons (t := 14) rfl (Cov.cons (t := 15) rfl Cov.nil)))))), (HE.map rfl rfl HE.nil), (HE.same (id := 0) rfl (HE.same (id := 1) rfl (HE.same (id := 3) rfl (HE.same (id := 4) rfl (HE.same (id := 5) rfl (HE.same (id := 6) rfl (HE.same (id := 7) rfl (HE.same (id := 8) rfl HE.nil)))))))), rfl⟩
        exact .nil
       exact .nil
      refine .cons rfl rfl rfl ?_ ?_
      ·refine p2p rfl rfl ?_
       refine w9w ?_
       refine w2w x6x (l := [3]) (by kernel_rfl) (by decide) ?_
       refine .cons rfl rfl rfl ?_ ?_
       ·refine z9z (b := 1) rfl rfl (by omega) ?_
        refine w9w ?_
        refine w2w x6x (l := [6]) (by kernel_rfl) (by decide) ?_
        refine .cons rfl rfl rfl ?_ ?_
        ·refine r2r (j := a1x (l.take i) e) rfl rfl rfl rfl (a0j _ _) (a0w _ _) ?_
         refine w9w ?_
         refine a0r (by kernel_rfl) ?_
         exact ⟨(), trivial, [], Cov.nil, (Cov.cons (t := 3) rfl (Cov.cons (t := 4) rfl (Cov.cons (t := 7) rfl (Cov.cons (t := 13) rfl (Cov.cons (t := 14) rfl (Cov.cons (t := 15) rfl Cov.nil)))))), (HE.map rfl rfl HE.nil), (HE.same (id := 0) rfl (HE.same (id := 1) rfl (HE.same (id := 3) rfl (HE.same (id := 4) rfl (HE.same (id := 5) rfl (HE.same (id := 6) rfl (HE.same (id := 7) rfl (HE.same (id := 8) rfl HE.nil)))))))), rfl⟩
        exact .nil
       exact .nil
      exact .nil
     refine .cons rfl rfl rfl ?_ ?_
     ·refine p2p rfl rfl ?_
      refine w9w ?_
      refine w2w x6x (l := [2]) (by kernel_rfl) (by decide) ?_
      refine .cons rfl rfl rfl ?_ ?_
      ·refine a3f x6x (ks := d0t (l.take i) e) (k := e) Tryz.underlying256 evF rfl rfl (fun _ _ _ h => a2v h) rfl (a8v (l.take i) e) (a8w (l.take i) e) ?_
       refine w9w ?_
       refine w2w x6x (l := [3]) (by kernel_rfl) (by decide) ?_
       refine .cons rfl rfl rfl ?_ ?_
       ·refine z9z (b := 1) rfl rfl (by omega) ?_
        refine w9w ?_
        refine w2w x6x (l := [6]) (by kernel_rfl) (by decide) ?_
        refine .cons rfl rfl rfl ?_ ?_
        ·refine r2r (j := a1x (l.take i) e) rfl rfl rfl rfl (a0j _ _) (a0w _ _) ?_
         refine w9w ?_
         refine a0r (by kernel_rfl) ?_
         exact ⟨(), trivial, [], Cov.nil, (Cov.cons (t := 3) rfl (Cov.cons (t := 4) rfl (Cov.cons (t := 7) rfl (Cov.cons (t := 13) rfl (Cov.cons (t := 14) rfl (Cov.cons (t := 15) rfl Cov.nil)))))), (HE.map rfl rfl HE.nil), (HE.same (id := 0) rfl (HE.same (id := 1) rfl (HE.same (id := 3) rfl (HE.same (id := 4) rfl (HE.same (id := 5) rfl (HE.same (id := 6) rfl (HE.same (id := 7) rfl (HE.same (id := 8) rfl HE.nil)))))))), rfl⟩
        exact .nil
       exact .nil
      exact .nil
     exact .nil
    exact .nil
   exact .nil
  refine .cons rfl rfl rfl ?_ ?_
  ·refine y4y rfl w8w rfl rfl rfl ?_
   refine w9w ?_
   refine w2w x6x (l := [0]) (by kernel_rfl) (by decide) ?_
   refine .cons rfl rfl rfl ?_ ?_
   ·refine x1x rfl ?_
    refine w9w ?_
    refine w2w x6x (l := [2, 4]) (by kernel_rfl) (by decide) ?_
    refine .cons rfl rfl rfl ?_ ?_
    ·refine a3f x6x (ks := q9q (l.take i)) (k := e) Tryz.underlying256 evF rfl rfl (fun _ _ _ h => a2v h) rfl (a0i (l.take i)) (b2o y6y rfl (l.take i) e) ?_
     refine w9w ?_
     refine w2w x6x (l := [3, 4]) (by kernel_rfl) (by decide) ?_
     refine .cons rfl rfl rfl ?_ ?_
     ·refine z9z (b := 1) rfl rfl (by omega) ?_
      refine w9w ?_
      refine w2w x6x (l := [4]) (by kernel_rfl) (by decide) ?_
      refine .cons rfl rfl rfl ?_ ?_
      ·refine a2u x6x (es' := b0f (l.take i) e) (j := a1x (l.take i) e) (out := pI ((l.take i).count e : Nat)) (ks := q9q (l.take i)) (k := e) Tryz.underlying256 evF rfl rfl (fun _ _ _ h => a2v h) rfl (a0i _) (a2g y6y rfl _ _) ?_
       refine w9w ?_
       refine w2w x6x (l := [5]) (by kernel_rfl) (by decide) ?_
       refine .cons rfl rfl rfl ?_ ?_
       ·refine p2p rfl rfl ?_
        refine w9w ?_
        refine w2w x6x (l := [6]) (by kernel_rfl) (by decide) ?_
        refine .cons rfl rfl rfl ?_ ?_
        ·refine r2r (j := a1x (l.take i) e) rfl rfl rfl rfl (a0j _ _) (a0w _ _) ?_
         refine w9w ?_
         refine a0r (by kernel_rfl) ?_
         exact ⟨(), trivial, [], Cov.nil, (Cov.cons (t := 3) rfl (Cov.cons (t := 4) rfl (Cov.cons (t := 7) rfl (Cov.cons (t := 13) rfl (Cov.cons (t := 14) rfl (Cov.cons (t := 15) rfl Cov.nil)))))), (HE.map rfl rfl HE.nil), (HE.same (id := 0) rfl (HE.same (id := 1) rfl (HE.same (id := 3) rfl (HE.same (id := 4) rfl (HE.same (id := 5) rfl (HE.same (id := 6) rfl (HE.same (id := 7) rfl (HE.same (id := 8) rfl HE.nil)))))))), rfl⟩
        exact .nil
       exact .nil
      exact .nil
     refine .cons rfl rfl rfl ?_ ?_
     ·refine a2u x6x (es' := b0f (l.take i) e) (j := a1x (l.take i) e) (out := pI ((l.take i).count e : Nat)) (ks := q9q (l.take i)) (k := e) Tryz.underlying256 evF rfl rfl (fun _ _ _ h => a2v h) rfl (a0i _) (a2g y6y rfl _ _) ?_
      refine w9w ?_
      refine w2w x6x (l := [3, 5]) (by kernel_rfl) (by decide) ?_
      refine .cons rfl rfl rfl ?_ ?_
      ·refine z9z (b := 1) rfl rfl (by omega) ?_
       refine w9w ?_
       refine w2w x6x (l := [5]) (by kernel_rfl) (by decide) ?_
       refine .cons rfl rfl rfl ?_ ?_
       ·refine p2p rfl rfl ?_
        refine w9w ?_
        refine w2w x6x (l := [6]) (by kernel_rfl) (by decide) ?_
        refine .cons rfl rfl rfl ?_ ?_
        ·refine r2r (j := a1x (l.take i) e) rfl rfl rfl rfl (a0j _ _) (a0w _ _) ?_
         refine w9w ?_
         refine a0r (by kernel_rfl) ?_
         exact ⟨(), trivial, [], Cov.nil, (Cov.cons (t := 3) rfl (Cov.cons (t := 4) rfl (Cov.cons (t := 7) rfl (Cov.cons (t := 13) rfl (Cov.cons (t := 14) rfl (Cov.cons (t := 15) rfl Cov.nil)))))), (HE.map rfl rfl HE.nil), (HE.same (id := 0) rfl (HE.same (id := 1) rfl (HE.same (id := 3) rfl (HE.same (id := 4) rfl (HE.same (id := 5) rfl (HE.same (id := 6) rfl (HE.same (id := 7) rfl (HE.same (id := 8) rfl HE.nil)))))))), rfl⟩
        exact .nil
       exact .nil
      refine .cons rfl rfl rfl ?_ ?_
      ·refine p2p rfl rfl ?_
       refine w9w ?_
       refine w2w x6x (l := [3]) (by kernel_rfl) (by decide) ?_
       refine .cons rfl rfl rfl ?_ ?_
       ·refine z9z (b := 1) rfl rfl (by omega) ?_
        refine w9w ?_
        refine w2w x6x (l := [6]) (by kernel_rfl) (by decide) ?_
        refine .cons rfl rfl rfl ?_ ?_
        ·refine r2r (j := a1x (l.take i) e) rfl rfl rfl rfl (a0j _ _) (a0w _ _) ?_
         refine w9w ?_
         refine a0r (by kernel_rfl) ?_
         exact ⟨(), trivial, [], Cov.nil, (Cov.cons (t := 3) rfl (Cov.cons (t := 4) rfl (Cov.cons (t := 7) rfl (Cov.cons (t := 13) rfl (Cov.cons (t := 14) rfl (Cov.cons (t := 15) rfl Cov.nil)))))), (HE.map rfl rfl HE.nil), (HE.same (id := 0) rfl (HE.same (id := 1) rfl (HE.same (id := 3) rfl (HE.same (id := 4) rfl (HE.same (id := 5) rfl (HE.same (id := 6) rfl (HE.same (id := 7) rfl (HE.same (id := 8) rfl HE.nil)))))))), rfl⟩
        exact .nil
       exact .nil
      exact .nil
     exact .nil
    refine .cons rfl rfl rfl ?_ ?_
    ·refine a2u x6x (es' := b0f (l.take i) e) (j := a1x (l.take i) e) (out := pI ((l.take i).count e : Nat)) (ks := q9q (l.take i)) (k := e) Tryz.underlying256 evF rfl rfl (fun _ _ _ h => a2v h) rfl (a0i _) (a2g y6y rfl _ _) ?_
     refine w9w ?_
     refine w2w x6x (l := [2, 5]) (by kernel_rfl) (by decide) ?_
     refine .cons rfl rfl rfl ?_ ?_
     ·refine a3f x6x (ks := d0t (l.take i) e) (k := e) Tryz.underlying256 evF rfl rfl (fun _ _ _ h => a2v h) rfl (a8v (l.take i) e) (a8w (l.take i) e) ?_
      refine w9w ?_
      refine w2w x6x (l := [3, 5]) (by kernel_rfl) (by decide) ?_
      refine .cons rfl rfl rfl ?_ ?_
      ·refine z9z (b := 1) rfl rfl (by omega) ?_
       refine w9w ?_
       refine w2w x6x (l := [5]) (by kernel_rfl) (by decide) ?_
       refine .cons rfl rfl rfl ?_ ?_
       ·refine p2p rfl rfl ?_
        refine w9w ?_
        refine w2w x6x (l := [6]) (by kernel_rfl) (by decide) ?_
        refine .cons rfl rfl rfl ?_ ?_
        ·refine r2r (j := a1x (l.take i) e) rfl rfl rfl rfl (a0j _ _) (a0w _ _) ?_
         refine w9w ?_
         refine a0r (by kernel_rfl) ?_
         exact ⟨(), trivial, [], Cov.nil, (Cov.cons (t := 3) rfl (Cov.cons (t := 4) rfl (Cov.cons (t := 7) rfl (Cov.cons (t := 13) rfl (Cov.cons (t := 14) rfl (Cov.cons (t := 15) rfl Cov.nil)))))), (HE.map rfl rfl HE.nil), (HE.same (id := 0) rfl (HE.same (id := 1) rfl (HE.same (id := 3) rfl (HE.same (id := 4) rfl (HE.same (id := 5) rfl (HE.same (id := 6) rfl (HE.same (id := 7) rfl (HE.same (id := 8) rfl HE.nil)))))))), rfl⟩
        exact .nil
       exact .nil
      refine .cons rfl rfl rfl ?_ ?_
      ·refine p2p rfl rfl ?_
       refine w9w ?_
       refine w2w x6x (l := [3]) (by kernel_rfl) (by decide) ?_
       refine .cons rfl rfl rfl ?_ ?_
       ·refine z9z (b := 1) rfl rfl (by omega) ?_
        refine w9w ?_
        refine w2w x6x (l := [6]) (by kernel_rfl) (by decide) ?_
        refine .cons rfl rfl rfl ?_ ?_
        ·refine r2r (j := a1x (l.take i) e) rfl rfl rfl rfl (a0j _ _) (a0w _ _) ?_
         refine w9w ?_
         refine a0r (by kernel_rfl) ?_
         exact ⟨(), trivial, [], Cov.nil, (Cov.cons (t := 3) rfl (Cov.cons (t := 4) rfl (Cov.cons (t := 7) rfl (Cov.cons (t := 13) rfl (Cov.cons (t := 14) rfl (Cov.cons (t := 15) rfl Cov.nil)))))), (HE.map rfl rfl HE.nil), (HE.same (id := 0) rfl (HE.same (id := 1) rfl (HE.same (id := 3) rfl (HE.same (id := 4) rfl (HE.same (id := 5) rfl (HE.same (id := 6) rfl (HE.same (id := 7) rfl (HE.same (id := 8) rfl HE.nil)))))))), rfl⟩
        exact .nil
       exact .nil
      exact .nil
     refine .cons rfl rfl rfl ?_ ?_
     ·refine p2p rfl rfl ?_
      refine w9w ?_
      refine w2w x6x (l := [2]) (by kernel_rfl) (by decide) ?_
      refine .cons rfl rfl rfl ?_ ?_
      ·refine a3f x6x (ks := d0t (l.take i) e) (k := e) Tryz.underlying256 evF rfl rfl (fun _ _ _ h => a2v h) rfl (a8v (l.take i) e) (a8w (l.take i) e) ?_
       refine w9w ?_
       refine w2w x6x (l := [3]) (by kernel_rfl) (by decide) ?_
       refine .cons rfl rfl rfl ?_ ?_
       ·refine z9z (b := 1) rfl rfl (by omega) ?_
        refine w9w ?_
        refine w2w x6x (l := [6]) (by kernel_rfl) (by decide) ?_
        refine .cons rfl rfl rfl ?_ ?_
        ·refine r2r (j := a1x (l.take i) e) rfl rfl rfl rfl (a0j _ _) (a0w _ _) ?_
         refine w9w ?_
         refine a0r (by kernel_rfl) ?_
         exact ⟨(), trivial, [], Cov.nil, (Cov.cons (t := 3) rfl (Cov.cons (t := 4) rfl (Cov.cons (t := 7) rfl (Cov.cons (t := 13) rfl (Cov.cons (t := 14) rfl (Cov.cons (t := 15) rfl Cov.nil)))))), (HE.map rfl rfl HE.nil), (HE.same (id := 0) rfl (HE.same (id := 1) rfl (HE.same (id := 3) rfl (HE.same (id := 4) rfl (HE.same (id := 5) rfl (HE.same (id := 6) rfl (HE.same (id := 7) rfl (HE.same (id := 8) rfl HE.nil)))))))), rfl⟩
        exact .nil
       exact .nil
      exact .nil
     exact .nil
    exact .nil
   exact .nil
  exact .nil
 ·try dsimp only [List.cons_append, List.nil_append]
  refine x4x x6x (by rfl) ?_
  refine x1x rfl ?_
  refine y4y rfl w8w rfl rfl rfl ?_
  refine a3f x6x (ks := q9q (l.take i ++ [e])) (k := e) Tryz.underlying256 evF rfl rfl (fun _ _ _ h => a2v h) rfl (a0i (l.take i ++ [e])) (b2o y6y rfl (l.take i ++ [e]) e) ?_
  refine y1y rfl rfl rfl ?_
  refine x8x rfl (fun hc5 => ?_) (fun hc5 => ?_)
  rotate_left
  ·try simp at hc5
   have hq : ¬ (l.take i ++ [e]).count e = 1 := by (have := hc5; simp at this ⊢; omega)
   refine x9x ?_
   refine hK4 _ _ ?_
   clear hK4 K4
   refine y3y x6x (by rfl) ?_
   refine z9z (b := 1) rfl rfl (by omega) ?_
   refine x1x rfl ?_
   exact ⟨i + 1, ⟨by omega, by omega⟩, [0, 0, 0, _, _, 0, 0, _], (Cov.cons (t := 15) rfl Cov.nil), (Cov.cons (t := 3) rfl (Cov.cons (t := 4) rfl (Cov.cons (t := 13) rfl (Cov.cons (t := 14) rfl Cov.nil)))), (HE.row rfl (by rw [p0p he, c3d hq]) (HE.box rfl rfl (HE.map rfl (by rw [p0p he]) (HE.kill rfl (HE.kill rfl HE.nil))))), (HE.same (id := 0) rfl (HE.same (id := 5) rfl (HE.same (id := 6) rfl (HE.same (id := 8) rfl HE.nil)))), rfl⟩
  try simp at hc5
  have hq : (l.take i ++ [e]).count e = 1 := by (have := hc5; simp at this ⊢; omega)
  have hpl : (a8y a1g (q9q (l.take i))).length ≤ 1000000000 := by rw [b1i]; exact Nat.le_trans (b2f _) (by rw [List.length_take]; omega)
  refine y3y x6x (by rfl) ?_
  refine y4y rfl w8w rfl rfl rfl ?_
  refine v5v [1, 7] [_, _] (a3i _ e hpl) rfl rfl rfl (by decide) rfl rfl (by repeat (first | exact InH.nil | refine InH.cons rfl ?_)) (by (simp only [pI, List.map_cons, List.map_nil, u1u, u2u, gl, nx, q4q, Nat.beq, Nat.add_eq, List.getD_cons_zero, List.getD_cons_succ, List.getD_nil, Bool.or_false, Bool.false_or, Bool.true_or, Bool.or_true, Nat.add_zero, Nat.zero_add]; rfl)) (by (simp only [pI, List.map_cons, List.map_nil, u1u, u2u, gl, nx, q4q, Nat.beq, Nat.add_eq, List.getD_cons_zero, List.getD_cons_succ, List.getD_nil, Bool.or_false, Bool.false_or, Bool.true_or, Bool.or_true, Nat.add_zero, Nat.zero_add]; rfl)) ?_
  refine hK4 _ _ ?_
  clear hK4 K4
  refine y3y x6x (by rfl) ?_
  refine z9z (b := 1) rfl rfl (by omega) ?_
  refine x1x rfl ?_
  exact ⟨i + 1, ⟨by omega, by omega⟩, [0, 0, 0, _, _, 0, 0, _], (Cov.cons (t := 15) rfl Cov.nil), (Cov.cons (t := 3) rfl (Cov.cons (t := 4) rfl (Cov.cons (t := 13) rfl (Cov.cons (t := 14) rfl Cov.nil)))), (HE.row rfl (by rw [p0p he, c3b hq]) (HE.box rfl rfl (HE.map rfl (by rw [p0p he]) (HE.kill rfl (HE.kill rfl HE.nil))))), (HE.same (id := 0) rfl (HE.same (id := 5) rfl (HE.same (id := 6) rfl (HE.same (id := 8) rfl HE.nil)))), rfl⟩
end
section
def b5x (c : Bool) (vs : List Vi) : List (Value × AV) := vs.zipIdx.map fun p => (.int .i64 (p.2 : Int), .agg (a4b c p.1))
def b6q (n : Nat) : List Int := (List.range n).map fun (i : Nat) => (i : Int)
theorem d3o {c : Bool} {vs : List Vi} {i : Nat} {v : Vi} (h : vs[i]? = some v) : (b5x c vs)[i]? = some (.int .i64 (i : Int), .agg (a4b c v)) := by
 rw [b5x, List.getElem?_map, List.getElem?_zipIdx, h]; simp
theorem c1u (c : Bool) (vs : List Vi) : (b5x c vs).map (·.1) = (b6q vs.length).map fun n => Value.int .i64 n := by
 apply List.ext_getElem?
 intro i
 simp only [b5x, b6q, List.getElem?_map, List.getElem?_zipIdx, List.getElem?_range]
 by_cases h : i < vs.length
 ·simp [h]
 ·rw [List.getElem?_eq_none (by omega : vs.length ≤ i)]; simp [h]
theorem d0u {n i : Nat} (h : i < n) : a3n (b6q n) (i : Int) = some i := by
 obtain ⟨j, hj⟩ := c0n (k := (i : Int)) (ks := b6q n) (List.mem_map.2 ⟨i, List.mem_range.2 h, rfl⟩)
 have := a9w hj
 simp only [b6q, List.getElem?_map] at this
 cases hr : (List.range n)[j]? with
 | none => rw [hr] at this; cases this
 | some k =>
  rw [hr] at this
  obtain ⟨q1, q2⟩ := List.getElem?_eq_some_iff.1 hr
  simp only [List.getElem_range] at q2
  simp only [Option.map_some, Option.some.injEq] at this
  have : j = i := by omega
  rw [hj, this]
theorem d0v (n : Nat) : a3n (b6q n) (n : Int) = none := a8b.2 fun h => by
 obtain ⟨k, h1, h2⟩ := List.mem_map.1 h
 rw [List.mem_range] at h1
 omega
theorem c9b (c : Bool) (vs : List Vi) (v : Vi) : b5x c (vs ++ [v]) = b5x c vs ++ [(.int .i64 (vs.length : Int), .agg (a4b c v))] := by
 simp [b5x, List.zipIdx_append]
theorem c9d {tt : TT} {et : TypeId} {c : Bool} {vs : List Vi} {i : Nat} {v : Vi} (h : vs[i]? = some v) : (∃ j kv, a3n (b6q vs.length) (i : Int) = some j ∧ (b5x c vs)[j]? = some (kv, .agg (a4b c v))) ∨ (a3n (b6q vs.length) (i : Int) = none ∧ ∃ S, tt et = some S ∧ AV.agg (a4b c v) = b2c S) :=
 .inl ⟨i, _, d0u (List.getElem?_eq_some_iff.1 h).1, d3o h⟩
theorem a5b (c : Bool) (vs : List Vi) : ∀ p ∈ b5x c vs, p.2.flatA = true := fun p hp => by
 obtain ⟨q, _, rfl⟩ := List.mem_map.1 hp; rfl
end
section
theorem b9p (c : Bool) (n : Nd) (hl : n.lanes.length ≤ 1048576) : Meth Tryz.prog 108 1 [] [.agg (a0t c n)] [(0, (0, .dead))] (.agg [pI n.id, pI n.inc, pI n.g, pI n.led, .ref 0 0, a1n c n.kept, a3k c n.outs]) [(0, (0, .row 62 3 ((n.lanes).map fun l => a0e l.base)))] := by
 refine u9u x6x (fn := Tryz.f108) (by kernel_rfl) (by kernel_rfl) rfl (O0 := [.agg [pI n.id, pI n.inc, pI n.g, pI n.led, .ref 0 0, a1n c n.kept, a3k c n.outs]]) 1 6 (Nat.le_of_ble_eq_true rfl) (by rfl) (by repeat (first | exact BndH.nil | refine BndH.dead ?_ )) (by repeat (first | exact BndH.nil | refine BndH.row (u3u fun _ => rfl) ?_ )) (by rfl) fun γ => ?_
 show Ex Tryz.prog _ _ [(0, .agg (a0t c n))] [(0, ((γ 0), .dead)), (6, (0, .dead)), (5, (0, .dead)), (4, (0, .dead)), (3, (0, .dead)), (2, (0, .dead)), (1, (0, .dead))] _
 refine x4x x6x (by rfl) ?_
 refine v1v (id := 1) rfl rfl rfl ?_
 refine u8u (id := 2) a1i c6n rfl ?_
 refine x4x x6x (by rfl) ?_
 refine x0x rfl z8z rfl rfl y6y rfl rfl ?_
 refine x3x rfl y6y rfl rfl ?_
 refine x0x rfl z8z rfl rfl y6y rfl rfl ?_
 refine x3x rfl y6y rfl rfl ?_
 refine x0x rfl z8z rfl rfl y6y rfl rfl ?_
 refine x3x rfl y6y rfl rfl ?_
 refine x0x rfl z8z rfl rfl y6y rfl rfl ?_
 refine x3x rfl y6y rfl rfl ?_
 refine x0x rfl z8z rfl rfl u7u rfl rfl ?_
 refine x3x rfl u7u rfl rfl ?_
 refine x0x rfl z8z rfl rfl w6w rfl rfl ?_
 refine x3x rfl w6w rfl rfl ?_
 refine q8q a1i rfl c6n rfl (by simp only [pI, y6y, T3, u7u, T24, w6w, T25, a6h, d5u, a0f, p4p, AV.okc, AV.one, Value.oneCell', List.map_cons, List.map_nil, List.getElem?_cons_zero, List.getElem?_cons_succ, List.take_succ_cons, List.take_zero, List.drop_succ_cons, List.drop_zero, List.cons_append, List.nil_append, List.length_cons, List.length_nil, if_true, and_self, Nat.reduceAdd, Nat.reduceLeDiff]; rfl) ?_
 refine u8u (id := 3) a1i c6n rfl ?_
 refine z5z rfl rfl a1i rfl rfl rfl rfl ?_
 refine x5x fun K1 hK1 => ?_
 refine x4x x6x (by rfl) ?_
 refine x0x rfl z8z rfl rfl w4w rfl rfl ?_
 refine x3x rfl w4w rfl rfl ?_
 refine u0u rfl w4w rfl ?_
 refine x1x rfl ?_
 refine y7y ?_
 refine r6r 3 4 0 62 3 rfl rfl rfl rfl rfl ?_
 refine u5u (ι := Nat) (fun i γ1 => [(22, .pv (.int .i64 (i : Int)))]) (fun i γ1 => [(0, ((γ1 0), .row 62 3 ((n.lanes.take i).map fun l => a0e l.base))), (3, ((0 + 1), .box 113 [pI n.id, pI n.inc, pI n.g, pI n.led, .ref 0 (γ1 0), a1n c n.kept, a3k c n.outs])), (4, ((γ1 4), .dead)), (5, ((γ1 5), .dead)), (6, ((γ1 6), .dead))]) (fun i => i ≤ n.lanes.length) (fun i => n.lanes.length - i) (Cov.cons (t := 2) rfl (Cov.cons (t := 3) rfl (Cov.cons (t := 20) rfl (Cov.cons (t := 21) rfl Cov.nil)))) (HE.same (id := 1) rfl (HE.same (id := 2) rfl HE.nil)) 0 (by omega) [_, 0, 0, 0, _, _, _] (Cov.cons (t := 22) rfl Cov.nil) (HE.row rfl (by rw [List.take_zero]; rfl) (HE.box rfl rfl (HE.kill rfl (HE.kill rfl (HE.kill rfl HE.nil))))) rfl fun i γ1 hi => ?_
 try dsimp only [List.cons_append, List.nil_append]
 refine x4x x6x (by rfl) ?_
 refine y1y rfl rfl rfl ?_
 refine x5x fun K2 hK2 => ?_
 refine x8x rfl (fun hc3 => ?_) (fun hc3 => ?_)
 rotate_left
 ·try simp at hc3
  obtain rfl : i = n.lanes.length := by omega
  refine v0v ?_
  refine hK1 _ _ ?_
  clear hK2 K2 hK1 K1
  refine x4x x6x (by rfl) ?_
  refine y4y rfl a1i rfl rfl rfl ?_
  refine z5z rfl rfl a1i rfl rfl rfl rfl ?_
  refine y0y ?_
  exact ⟨.inr rfl, [_], rfl, rfl, HE.row rfl (by rw [List.take_length]) HE.nil⟩
 try simp at hc3
 obtain ⟨p, hp⟩ : ∃ p, n.lanes[i]? = some p := ⟨_, List.getElem?_eq_getElem (by omega)⟩
 refine x9x ?_
 refine hK2 _ _ ?_
 clear hK2 K2
 refine x5x fun K4 hK4 => ?_
 refine y7y ?_
 refine x4x x6x (by rfl) ?_
 refine z7z rfl rfl w4w rfl v4v rfl (by assumption) ?_
 refine z6z rfl v4v rfl rfl ?_
 refine u8u (id := 4) v4v a9u rfl ?_
 refine z5z rfl rfl v4v rfl rfl rfl rfl ?_
 refine y3y x6x (by rfl) ?_
 refine x0x rfl a1i rfl rfl a6h rfl rfl ?_
 refine x3x rfl a6h rfl rfl ?_
 refine x0x rfl v4v rfl rfl q5q rfl rfl ?_
 refine x3x (out := .agg (a0e p.base)) rfl q5q rfl rfl ?_
 refine s6s (id := 5) a6h rfl q5q rfl rfl rfl rfl rfl rfl ?_
 refine r5r (zs := (n.lanes.take i ++ [p]).map fun l => a0e l.base) rfl rfl a6h rfl q5q rfl rfl rfl rfl (by rfl) (a0c _ _ _) (by (simp only [List.length_map, List.length_append, List.length_cons, List.length_nil, List.length_take, List.length_range, T62]; omega)) ?_
 refine x0x rfl a1i rfl rfl a6h rfl rfl ?_
 refine u4u rfl rfl a6h rfl rfl rfl rfl rfl (by simp only [List.set_cons_zero, List.set_cons_succ]; rfl) ?_
 refine hK4 _ _ ?_
 clear hK4 K4
 refine y3y x6x (by rfl) ?_
 refine y1y rfl rfl rfl ?_
 refine x1x rfl ?_
 exact ⟨i + 1, ⟨by omega, by omega⟩, [_, 0, 0, 0, _, _, _], (Cov.cons' (t := 22) rfl (by rw [v3v (by omega) (by omega)]; rfl) Cov.nil), (Cov.cons (t := 2) rfl (Cov.cons (t := 3) rfl (Cov.cons (t := 20) rfl (Cov.cons (t := 21) rfl Cov.nil)))), (HE.row rfl (by rw [p0p hp]) (HE.box rfl rfl (HE.kill rfl (HE.kill rfl (HE.kill rfl HE.nil))))), (HE.same (id := 1) rfl (HE.same (id := 2) rfl HE.nil)), rfl⟩
theorem b6r (c : Bool) (n : Nd) (hl : n.lanes.length ≤ 1048576) : Meth Tryz.prog 80 5 [0] [.agg [pI n.id, pI n.inc, pI n.g, pI n.led, .ref 0 0, a1n c n.kept, a3k c n.outs]] [(0, (0, .row 62 3 ((n.lanes).map fun l => a0e l.base))), (1, (0, .dead)), (2, (0, .dead)), (3, (0, .dead)), (4, (0, .dead))] (.ptr 4 0 0) [(4, (0, .box 139 [pI n.id, pI n.inc, pI n.g, pI n.led, .ref 0 0, a1n c n.kept, a3k c n.outs, .pv (.bool false), .ref 1 0, pI 0, .mp 2 0, .ref 3 0, pI 0, pI 41])), (1, (0, .row 63 1 ((n.lanes).map fun _ => [a7l c []]))), (2, (0, .map [])), (3, (0, .row 3 1 ([0, 0, 0].map a0x)))] := by
 refine u9u x6x (fn := Tryz.f80) (by kernel_rfl) (by kernel_rfl) rfl (O0 := [.ptr 4 0 0]) 5 1 (Nat.le_of_ble_eq_true rfl) (by rfl) (by repeat (first | exact BndH.nil | refine BndH.dead ?_ | refine BndH.row (u3u fun _ => rfl) ?_ )) (by repeat (first | exact BndH.nil | refine BndH.box rfl ?_ | refine BndH.row (u3u fun _ => rfl) ?_ | refine BndH.map (by intro p hp; cases hp; done) ?_ )) (by rfl) fun γ => ?_
 show Ex Tryz.prog _ _ [(0, .agg [pI n.id, pI n.inc, pI n.g, pI n.led, .ref 0 (γ 0), a1n c n.kept, a3k c n.outs])] [(0, ((γ 0), .row 62 3 ((n.lanes).map fun l => a0e l.base))), (1, ((γ 1), .dead)), (2, ((γ 2), .dead)), (3, ((γ 3), .dead)), (4, ((γ 4), .dead)), (5, (0, .dead))] _
 refine x4x x6x (by rfl) ?_
 refine v1v (id := 5) rfl rfl rfl ?_
 refine x2x rfl ?_
 refine q7q x6x r4r (by rfl) ?_
 refine y4y rfl a1i rfl rfl rfl ?_
 refine x0x rfl a1i rfl rfl a6h rfl rfl ?_
 refine x3x rfl a6h rfl rfl ?_
 refine a1v rfl a6h rfl rfl (by exact List.length_map _) ?_
 refine a4l (id := 1) a2r rfl v9v d6a rfl rfl rfl rfl (by (simp only [List.length_map, List.length_append, List.length_cons, List.length_nil, List.length_take, List.length_range, T63]; omega)) rfl ?_
 refine b7l (id := 2) rfl ?_
 refine a4l (n := 3) (id := 3) v7v rfl y6y d6v rfl rfl rfl rfl (by (simp only [List.length_map, List.length_append, List.length_cons, List.length_nil, List.length_take, List.length_range, T3]; omega)) rfl ?_
 refine q8q a2l rfl d4h rfl (by simp only [pI, y6y, T3, b5u, T4, v7v, T22, a1i, T113, a2r, d5v, c0i, d5w, a0f, p4p, AV.okc, AV.one, Value.oneCell', List.map_cons, List.map_nil, List.getElem?_cons_zero, List.getElem?_cons_succ, List.take_succ_cons, List.take_zero, List.drop_succ_cons, List.drop_zero, List.cons_append, List.nil_append, List.length_cons, List.length_nil, if_true, and_self, Nat.reduceAdd, Nat.reduceLeDiff]; rfl) ?_
 refine v1v (id := 4) rfl rfl rfl ?_
 refine x2x rfl ?_
 refine ⟨by kernel_rfl, ?_⟩
 refine c7t 1 (xs' := n.lanes.map fun _ => [.pv (.slice none 0 0)]) rfl (by simp [List.map_const', T63]) ?_
 refine d1l (f := fun _ => [.pv (.slice none 0 0)]) (f' := fun _ => [a7l c []]) (l := n.lanes) 1 rfl (fun _ => .le rfl .nil rfl .nil) ?_
 refine y0y ?_
 exact ⟨.inr rfl, [γ 0, _, _, _, _], rfl, rfl, HE.box rfl rfl (HE.row rfl rfl (HE.map rfl rfl (HE.row rfl rfl (HE.same rfl HE.nil))))⟩
theorem b1o (c : Bool) (n : Nd) (hl : n.lanes.length ≤ 1048576) (hv : n.views.length ≤ 1048576) (hk3 : n.known.length = 3) : Meth Tryz.prog 103 5 [] [.agg (a0t c n)] [(0, (0, .dead)), (1, (0, .dead)), (2, (0, .dead)), (3, (0, .dead)), (4, (0, .dead))] (.ptr 4 0 0) [(0, (0, .row 62 3 ((n.lanes).map fun l => a0e l.base))), (1, (0, .row 63 1 ((n.lanes).map fun l => [a7l c l.done]))), (2, (0, .map (b5x c n.views))), (3, (0, .row 3 1 (n.known.map a0x))), (4, (0, .box 139 [pI n.id, pI n.inc, pI n.g, pI n.led, .ref 0 0, a1n c n.kept, a3k c n.outs, .pv (.bool n.up), .ref 1 0, pI n.version, .mp 2 0, .ref 3 0, pI n.round, pI n.low]))] := by
 refine u9u x6x (fn := Tryz.f103) (by kernel_rfl) (by kernel_rfl) rfl (O0 := [.ptr 4 0 0]) 5 3 (Nat.le_of_ble_eq_true rfl) (by rfl) (by repeat (first | exact BndH.nil | refine BndH.dead ?_ )) (by repeat (first | exact BndH.nil | refine BndH.box rfl ?_ | refine BndH.row (u3u fun _ => rfl) ?_ | refine BndH.map (a5b _ _) ?_ )) (by rfl) fun γ => ?_
 show Ex Tryz.prog _ _ [(0, .agg (a0t c n))] [(0, ((γ 0), .dead)), (1, ((γ 1), .dead)), (2, ((γ 2), .dead)), (3, ((γ 3), .dead)), (4, ((γ 4), .dead)), (7, (0, .dead)), (6, (0, .dead)), (5, (0, .dead))] _
 refine x4x x6x (by rfl) ?_
 refine v1v (id := 5) rfl rfl rfl ?_
 refine x2x rfl ?_
 refine x4x x6x (by rfl) ?_
 refine y4y rfl z8z rfl rfl rfl ?_
 refine v5v [0] [_] (b9p c n hl) rfl rfl rfl (by decide) rfl rfl (by repeat (first | exact InH.nil | refine InH.cons rfl ?_)) (by (simp only [pI, List.map_cons, List.map_nil, u1u, u2u, gl, nx, q4q, Nat.beq, Nat.add_eq, List.getD_cons_zero, List.getD_cons_succ, List.getD_nil, Bool.or_false, Bool.false_or, Bool.true_or, Bool.or_true, Nat.add_zero, Nat.zero_add]; rfl)) (by (simp only [pI, List.map_cons, List.map_nil, u1u, u2u, gl, nx, q4q, Nat.beq, Nat.add_eq, List.getD_cons_zero, List.getD_cons_succ, List.getD_nil, Bool.or_false, Bool.false_or, Bool.true_or, Bool.or_true, Nat.add_zero, Nat.zero_add]; rfl)) ?_
 refine v5v [0, 1, 2, 3, 4] [_, _, _, _, _] (b6r c n hl) rfl rfl rfl (by decide) rfl rfl (by repeat (first | exact InH.nil | refine InH.cons rfl ?_)) (by (simp only [pI, List.map_cons, List.map_nil, u1u, u2u, gl, nx, q4q, Nat.beq, Nat.add_eq, List.getD_cons_zero, List.getD_cons_succ, List.getD_nil, Bool.or_false, Bool.false_or, Bool.true_or, Bool.or_true, Nat.add_zero, Nat.zero_add]; rfl)) (by (simp only [pI, List.map_cons, List.map_nil, u1u, u2u, gl, nx, q4q, Nat.beq, Nat.add_eq, List.getD_cons_zero, List.getD_cons_succ, List.getD_nil, Bool.or_false, Bool.false_or, Bool.true_or, Bool.or_true, Nat.add_zero, Nat.zero_add]; rfl)) ?_
 refine x2x rfl ?_
 refine x5x fun K1 hK1 => ?_
 refine x4x x6x (by rfl) ?_
 refine x0x rfl z8z rfl rfl w4w rfl rfl ?_
 refine x3x rfl w4w rfl rfl ?_
 refine u0u rfl w4w rfl ?_
 refine x1x rfl ?_
 refine y7y ?_
 refine u5u (ι := Nat) (fun i γ1 => [(14, .pv (.int .i64 (i : Int)))]) (fun i γ1 => [(1, ((γ 1 + 1), .row 63 1 ((n.lanes.take i).map (fun l => [a7l c l.done]) ++ (n.lanes.drop i).map fun _ => [a7l c []]))), (6, ((γ1 6), .dead))]) (fun i => i ≤ n.lanes.length) (fun i => n.lanes.length - i) (Cov.cons (t := 1) rfl (Cov.cons (t := 3) rfl (Cov.cons (t := 12) rfl (Cov.cons (t := 13) rfl Cov.nil)))) (HE.same (id := 0) rfl (HE.same (id := 2) rfl (HE.same (id := 3) rfl (HE.same (id := 4) rfl (HE.same (id := 5) rfl (HE.same (id := 7) rfl HE.nil)))))) 0 (by omega) [0, 0, 0, 0, 0, 0, _] (Cov.cons (t := 14) rfl Cov.nil) (HE.row rfl (by rw [List.take_zero, List.drop_zero]; rfl) (HE.kill rfl HE.nil)) rfl fun i γ1 hi => ?_
 try dsimp only [List.cons_append, List.nil_append]
 refine x4x x6x (by rfl) ?_
 refine y1y rfl rfl rfl ?_
 refine x5x fun K2 hK2 => ?_
 refine x8x rfl (fun hc3 => ?_) (fun hc3 => ?_)
 ·try simp at hc3
  obtain ⟨p, hp⟩ : ∃ p, n.lanes[i]? = some p := ⟨_, List.getElem?_eq_getElem (by omega)⟩
  have hAl : ((n.lanes.take i).map fun l => [a7l c l.done]).length = i := by rw [List.length_map, List.length_take]; omega
  rw [q1q hp, List.map_cons]
  refine x9x ?_
  refine hK2 _ _ ?_
  clear hK2 K2
  refine x5x fun K4 hK4 => ?_
  refine y7y ?_
  refine x4x x6x (by rfl) ?_
  refine x1x rfl ?_
  refine z7z rfl rfl w4w rfl v4v rfl (by assumption) ?_
  refine z6z rfl v4v rfl rfl ?_
  refine u8u (id := 6) v4v a9u rfl ?_
  refine x2x rfl ?_
  refine z5z rfl rfl v4v rfl rfl rfl rfl ?_
  refine a0b x6x r4r (by rfl) ?_
  refine x1x rfl ?_
  refine q3q rfl rfl ?_
  refine x0x rfl a2l rfl rfl a2r rfl rfl ?_
  refine x3x rfl a2r rfl rfl ?_
  refine x1x rfl ?_
  refine x0x rfl v4v rfl rfl v9v rfl rfl ?_
  refine x3x rfl v9v rfl rfl ?_
  refine q0q rfl rfl a2r rfl v9v rfl rfl hAl ?_
  refine p3p hAl rfl rfl v9v rfl rfl rfl rfl rfl rfl rfl rfl ?_
  refine ⟨by kernel_rfl, ?_⟩
  refine hK4 _ _ ?_
  clear hK4 K4
  refine y3y x6x (by rfl) ?_
  refine y1y rfl rfl rfl ?_
  refine x1x rfl ?_
  exact ⟨i + 1, ⟨by omega, by omega⟩, [0, 0, 0, 0, 0, 0, _], (Cov.cons' (t := 14) rfl (by rw [v3v (by omega) (by omega)]; rfl) Cov.nil), (Cov.cons (t := 1) rfl (Cov.cons (t := 3) rfl (Cov.cons (t := 12) rfl (Cov.cons (t := 13) rfl Cov.nil)))), (HE.row rfl (by rw [p0p hp, List.map_append, List.append_assoc]; rfl) (HE.kill rfl HE.nil)), (HE.same (id := 0) rfl (HE.same (id := 2) rfl (HE.same (id := 3) rfl (HE.same (id := 4) rfl (HE.same (id := 5) rfl (HE.same (id := 7) rfl HE.nil)))))), rfl⟩
 try simp at hc3
 obtain rfl : i = n.lanes.length := by omega
 refine v0v ?_
 refine hK1 _ _ ?_
 clear hK2 K2 hK1 K1
 refine x5x fun K5 hK5 => ?_
 refine x4x x6x (by rfl) ?_
 refine x0x rfl z8z rfl rfl p1p rfl rfl ?_
 refine x3x rfl p1p rfl rfl ?_
 refine u0u rfl p1p rfl ?_
 refine x1x rfl ?_
 refine y7y ?_
 refine u5u (ι := Nat) (fun j γ2 => [(31, .pv (.int .i64 (j : Int)))]) (fun j γ2 => [(2, ((γ 2 + 1), .map (b5x c (n.views.take j)))), (7, ((γ2 7), .dead))]) (fun j => j ≤ n.views.length) (fun j => n.views.length - j) (Cov.cons (t := 1) rfl (Cov.cons (t := 3) rfl (Cov.cons (t := 29) rfl (Cov.cons (t := 30) rfl Cov.nil)))) (HE.same (id := 0) rfl (HE.same (id := 1) rfl (HE.same (id := 3) rfl (HE.same (id := 4) rfl (HE.same (id := 5) rfl (HE.same (id := 6) rfl HE.nil)))))) 0 (by omega) [0, 0, 0, 0, 0, 0, 0, _] (Cov.cons (t := 31) rfl Cov.nil) (HE.map rfl (by rw [List.take_zero]; rfl) (HE.kill rfl HE.nil)) rfl fun j γ2 hi => ?_
 try dsimp only [List.cons_append, List.nil_append]
 refine x4x x6x (by rfl) ?_
 refine y1y rfl rfl rfl ?_
 refine x5x fun K6 hK6 => ?_
 refine x8x rfl (fun hc7 => ?_) (fun hc7 => ?_)
 ·try simp at hc7
  obtain ⟨q, hq⟩ : ∃ q, n.views[j]? = some q := ⟨_, List.getElem?_eq_getElem (by omega)⟩
  have hjl : (n.views.take j).length = j := by rw [List.length_take]; omega
  refine x9x ?_
  refine hK6 _ _ ?_
  clear hK6 K6
  refine x5x fun K8 hK8 => ?_
  refine y7y ?_
  refine x4x x6x (by rfl) ?_
  refine x1x rfl ?_
  refine z7z rfl rfl p1p rfl w0w rfl (by assumption) ?_
  refine z6z rfl w0w rfl rfl ?_
  refine u8u (id := 7) w0w a7y rfl ?_
  refine x2x rfl ?_
  refine z5z rfl rfl w0w rfl rfl rfl rfl ?_
  refine a0b x6x r4r (by rfl) ?_
  refine x1x rfl ?_
  refine q3q rfl rfl ?_
  refine x0x rfl a2l rfl rfl c0i rfl rfl ?_
  refine x3x rfl c0i rfl rfl ?_
  refine x1x rfl ?_
  refine y4y rfl w0w rfl rfl rfl ?_
  refine c0p (κ := Int) (enc := fun n => .int .i64 n) (ks := b6q j) (k := (j : Int)) (es' := b5x c (n.views.take j ++ [q])) Tryz.underlying137 (c0m Tryz.underlying3) rfl rfl rfl (fun _ _ _ h => d4p h) rfl (by rw [c1u, hjl]) (.inr ⟨d0v j, by rw [c9b, hjl]⟩) ?_
  refine ⟨by kernel_rfl, ?_⟩
  refine hK8 _ _ ?_
  clear hK8 K8
  refine y3y x6x (by rfl) ?_
  refine y1y rfl rfl rfl ?_
  refine x1x rfl ?_
  exact ⟨j + 1, ⟨by omega, by omega⟩, [0, 0, 0, 0, 0, 0, 0, _], (Cov.cons' (t := 31) rfl (by rw [v3v (by omega) (by omega)]; rfl) Cov.nil), (Cov.cons (t := 1) rfl (Cov.cons (t := 3) rfl (Cov.cons (t := 29) rfl (Cov.cons (t := 30) rfl Cov.nil)))), (HE.map rfl (by rw [p0p hq]) (HE.kill rfl HE.nil)), (HE.same (id := 0) rfl (HE.same (id := 1) rfl (HE.same (id := 3) rfl (HE.same (id := 4) rfl (HE.same (id := 5) rfl (HE.same (id := 6) rfl HE.nil)))))), rfl⟩
 try simp at hc7
 obtain rfl : j = n.views.length := by omega
 refine v0v ?_
 refine hK5 _ _ ?_
 clear hK6 K6 hK5 K5
 refine q7q x6x r4r (by rfl) ?_
 refine x1x rfl ?_
 refine q3q rfl rfl ?_
 refine x0x rfl a2l rfl rfl v7v rfl rfl ?_
 refine x3x rfl v7v rfl rfl ?_
 refine x0x rfl z8z rfl rfl v7v rfl rfl ?_
 refine x3x rfl v7v rfl rfl ?_
 refine d0b x6x (l := n.known) v7v rfl y6y rfl rfl rfl rfl (by rw [hk3]; rfl) ?_
 refine ⟨by kernel_rfl, ?_⟩
 refine q7q x6x r4r (by rfl) ?_
 refine x1x rfl ?_
 refine x1x rfl ?_
 refine x1x rfl ?_
 refine x1x rfl ?_
 refine x0x rfl z8z rfl rfl b5u rfl rfl ?_
 refine x3x rfl b5u rfl rfl ?_
 refine x0x rfl z8z rfl rfl y6y rfl rfl ?_
 refine x3x rfl y6y rfl rfl ?_
 refine x0x rfl z8z rfl rfl y6y rfl rfl ?_
 refine x3x rfl y6y rfl rfl ?_
 refine x0x rfl z8z rfl rfl y6y rfl rfl ?_
 refine x3x rfl y6y rfl rfl ?_
 refine q3q rfl rfl ?_
 refine x0x rfl a2l rfl rfl b5u rfl rfl ?_
 refine u4u rfl rfl b5u rfl rfl rfl rfl rfl (by simp only [List.set_cons_zero, List.set_cons_succ]; rfl) ?_
 refine q3q rfl rfl ?_
 refine x0x rfl a2l rfl rfl y6y rfl rfl ?_
 refine u4u rfl rfl y6y rfl rfl rfl rfl rfl (by simp only [List.set_cons_zero, List.set_cons_succ]; rfl) ?_
 refine q3q rfl rfl ?_
 refine x0x rfl a2l rfl rfl y6y rfl rfl ?_
 refine u4u rfl rfl y6y rfl rfl rfl rfl rfl (by simp only [List.set_cons_zero, List.set_cons_succ]; rfl) ?_
 refine q3q rfl rfl ?_
 refine x0x rfl a2l rfl rfl y6y rfl rfl ?_
 refine u4u rfl rfl y6y rfl rfl rfl rfl rfl (by simp only [List.set_cons_zero, List.set_cons_succ]; rfl) ?_
 refine ⟨by kernel_rfl, ?_⟩
 refine x4x x6x (by rfl) ?_
 refine x1x rfl ?_
 refine x2x rfl ?_
 refine y0y ?_
 exact ⟨.inr rfl, [_, _, _, _, _], rfl, rfl, HE.row rfl rfl (HE.row rfl (by rw [List.take_length, List.drop_length, List.map_nil, List.append_nil]) (HE.map rfl (by rw [List.take_length]) (HE.row rfl rfl (HE.box rfl rfl HE.nil))))⟩
end
section
theorem b3i (c : Bool) (n : Nd) (hs : (a2b n).length ≤ 5000000) (hlen : n.lanes.length ≤ 1048576) : Meth Tryz.prog 189 6 [0, 1, 2, 3, 4] [.ptr 4 0 0] [(0, (0, .row 62 3 ((n.lanes).map fun l => a0e l.base))), (1, (0, .row 63 1 ((n.lanes).map fun l => [a7l c l.done]))), (2, (0, .map (b5x c n.views))), (3, (0, .row 3 1 (n.known.map a0x))), (4, (0, .box 139 [pI n.id, pI n.inc, pI n.g, pI n.led, .ref 0 0, a1n c n.kept, a3k c n.outs, .pv (.bool n.up), .ref 1 0, pI n.version, .mp 2 0, .ref 3 0, pI n.round, pI n.low])), (5, (0, .dead))] (.ref 5 0) [(5, (0, .row 76 7 ((a2b n).map v6v)))] := by
 refine u9u x6x (fn := Tryz.f189) (by kernel_rfl) (by kernel_rfl) rfl (O0 := [.ref 5 0]) 6 2 (Nat.le_of_ble_eq_true rfl) (by rfl) (by repeat (first | exact BndH.nil | refine BndH.dead ?_ | refine BndH.box rfl ?_ | refine BndH.row (u3u fun _ => rfl) ?_ | refine BndH.map (a5b _ _) ?_ )) (by repeat (first | exact BndH.nil | refine BndH.row (u3u fun _ => rfl) ?_ )) (by rfl) fun γ => ?_
 show Ex Tryz.prog _ _ [(0, .ptr 4 (γ 4) 0)] [(0, ((γ 0), .row 62 3 ((n.lanes).map fun l => a0e l.base))), (1, ((γ 1), .row 63 1 ((n.lanes).map fun l => [a7l c l.done]))), (2, ((γ 2), .map (b5x c n.views))), (3, ((γ 3), .row 3 1 (n.known.map a0x))), (4, ((γ 4), .box 139 [pI n.id, pI n.inc, pI n.g, pI n.led, .ref 0 (γ 0), a1n c n.kept, a3k c n.outs, .pv (.bool n.up), .ref 1 (γ 1), pI n.version, .mp 2 (γ 2), .ref 3 (γ 3), pI n.round, pI n.low])), (5, ((γ 5), .dead)), (7, (0, .dead)), (6, (0, .dead))] _
 have hkl : n.kept.length ≤ 5000000 := by simp only [a2b, List.length_append] at hs; omega
 refine x4x x6x (by rfl) ?_
 refine x2x rfl ?_
 refine x4x x6x (by rfl) ?_
 refine x1x rfl ?_
 refine q3q rfl rfl ?_
 refine x0x rfl a2l rfl rfl a1i rfl rfl ?_
 refine x0x rfl a1i rfl rfl u7u rfl rfl ?_
 refine x3x rfl u7u rfl rfl ?_
 refine v5v [5] [_] (q2q c n.kept (by omega)) rfl rfl rfl (by decide) rfl rfl (by repeat (first | exact InH.nil | refine InH.cons rfl ?_)) (by (simp only [pI, List.map_cons, List.map_nil, u1u, u2u, gl, nx, q4q, Nat.beq, Nat.add_eq, List.getD_cons_zero, List.getD_cons_succ, List.getD_nil, Bool.or_false, Bool.false_or, Bool.true_or, Bool.or_true, Nat.add_zero, Nat.zero_add]; rfl)) (by (simp only [pI, List.map_cons, List.map_nil, u1u, u2u, gl, nx, q4q, Nat.beq, Nat.add_eq, List.getD_cons_zero, List.getD_cons_succ, List.getD_nil, Bool.or_false, Bool.false_or, Bool.true_or, Bool.or_true, Nat.add_zero, Nat.zero_add]; rfl)) ?_
 refine x2x rfl ?_
 refine x5x fun K1 hK1 => ?_
 refine x4x x6x (by rfl) ?_
 refine x1x rfl ?_
 refine q3q rfl rfl ?_
 refine x0x rfl a2l rfl rfl a2r rfl rfl ?_
 refine x3x rfl a2r rfl rfl ?_
 refine a1v rfl a2r rfl rfl (by exact List.length_map _) ?_
 refine x1x rfl ?_
 refine y7y ?_
 refine u5u (ι := Nat) (fun i γ1 => [(3, .ref 5 (γ1 5)), (19, .pv (.int .i64 (i : Int)))]) (fun i γ1 => [(5, ((γ1 5), .row 76 7 ((n.kept ++ (n.lanes.take i).flatMap b0d).map v6v))), (6, ((γ1 6), .dead)), (7, ((γ1 7), .dead))]) (fun i => i ≤ n.lanes.length) (fun i => n.lanes.length - i) (Cov.cons (t := 17) rfl (Cov.cons (t := 18) rfl Cov.nil)) (HE.same (id := 0) rfl (HE.same (id := 1) rfl (HE.same (id := 2) rfl (HE.same (id := 3) rfl (HE.same (id := 4) rfl HE.nil))))) 0 (by omega) [0, 0, 0, 0, 0, _, _, _] (Cov.cons (t := 3) rfl (Cov.cons (t := 19) rfl Cov.nil)) (HE.row rfl (by simp) (HE.kill rfl (HE.kill rfl HE.nil))) rfl fun i γ1 hi => ?_
 try dsimp only [List.cons_append, List.nil_append]
 refine x4x x6x (by rfl) ?_
 refine y1y rfl rfl rfl ?_
 refine x5x fun K2 hK2 => ?_
 refine x8x rfl (fun hc3 => ?_) (fun hc3 => ?_)
 rotate_left
 ·try simp at hc3
  obtain rfl : i = n.lanes.length := by omega
  refine v0v ?_
  refine hK1 _ _ ?_
  clear hK2 K2 hK1 K1
  refine x4x x6x (by rfl) ?_
  refine x1x rfl ?_
  refine x2x rfl ?_
  refine y0y ?_
  exact ⟨.inr rfl, [γ 0, γ 1, γ 2, γ 3, γ 4, _], rfl, rfl, HE.row rfl (by rw [List.take_length]; rfl) (HE.same (id := 0) rfl (HE.same (id := 1) rfl (HE.same (id := 2) rfl (HE.same (id := 3) rfl (HE.same (id := 4) rfl HE.nil)))))⟩
 try simp at hc3
 obtain ⟨p, hp⟩ : ∃ p, n.lanes[i]? = some p := ⟨_, List.getElem?_eq_getElem (by omega)⟩
 refine x9x ?_
 refine hK2 _ _ ?_
 clear hK2 K2
 refine x5x fun K4 hK4 => ?_
 refine y7y ?_
 refine x4x x6x (by rfl) ?_
 refine r3r (j := i) rfl rfl a2r rfl v9v rfl rfl (a0g hp) ?_
 refine b0z rfl v9v rfl hp rfl ?_
 refine x2x rfl ?_
 refine x4x x6x (by rfl) ?_
 refine x1x rfl ?_
 refine u0u rfl v9v rfl ?_
 refine x1x rfl ?_
 refine y7y ?_
 refine w7w 23 rfl fun hlen2 => ?_
 refine u5u (ι := Nat) (fun j γ2 => [(3, .ref 5 (γ2 5)), (25, .pv (.int .i64 (j : Int)))]) (fun j γ2 => [(5, ((γ2 5), .row 76 7 ((n.kept ++ (n.lanes.take i).flatMap b0d ++ (p.done.take j).flatMap Pa.sends).map v6v))), (6, ((γ2 6), .dead)), (7, ((γ2 7), .dead))]) (fun j => j ≤ p.done.length) (fun j => p.done.length - j) (Cov.cons (t := 17) rfl (Cov.cons (t := 18) rfl (Cov.cons (t := 19) rfl (Cov.cons (t := 23) rfl (Cov.cons (t := 24) rfl Cov.nil))))) (HE.same (id := 0) rfl (HE.same (id := 1) rfl (HE.same (id := 2) rfl (HE.same (id := 3) rfl (HE.same (id := 4) rfl HE.nil))))) 0 (by omega) [0, 0, 0, 0, 0, _, _, _] (Cov.cons (t := 3) rfl (Cov.cons (t := 25) rfl Cov.nil)) (HE.row rfl (by simp) (HE.kill rfl (HE.kill rfl HE.nil))) rfl fun j γ2 hi => ?_
 try dsimp only [List.cons_append, List.nil_append]
 refine x4x x6x (by rfl) ?_
 refine y1y rfl rfl rfl ?_
 refine x5x fun K5 hK5 => ?_
 refine x8x rfl (fun hc6 => ?_) (fun hc6 => ?_)
 rotate_left
 ·try simp at hc6
  obtain rfl : j = p.done.length := by omega
  refine v0v ?_
  refine hK4 _ _ ?_
  clear hK5 K5 hK4 K4
  refine y3y x6x (by rfl) ?_
  refine y1y rfl rfl rfl ?_
  refine x1x rfl ?_
  exact ⟨i + 1, ⟨by omega, by omega⟩, [0, 0, 0, 0, 0, _, _, _], (Cov.cons (t := 3) rfl (Cov.cons' (t := 19) rfl (by rw [v3v (by omega) (by omega)]; rfl) Cov.nil)), (Cov.cons (t := 17) rfl (Cov.cons (t := 18) rfl Cov.nil)), (HE.row rfl (by simp only [b1j hp, List.append_assoc, b0d, List.take_length]) (HE.kill rfl (HE.kill rfl HE.nil))), (HE.same (id := 0) rfl (HE.same (id := 1) rfl (HE.same (id := 2) rfl (HE.same (id := 3) rfl (HE.same (id := 4) rfl HE.nil))))), rfl⟩
 try simp at hc6
 obtain ⟨q, hq⟩ : ∃ q, p.done[j]? = some q := ⟨_, List.getElem?_eq_getElem (by omega)⟩
 have hsp := c1d hp hq
 refine x9x ?_
 refine hK5 _ _ ?_
 clear hK5 K5
 refine x5x fun K7 hK7 => ?_
 refine y7y ?_
 refine x4x x6x (by rfl) ?_
 refine z7z rfl rfl v9v rfl v8v rfl (by assumption) ?_
 refine z6z rfl v8v rfl rfl ?_
 refine u8u (id := 6) v8v b4n rfl ?_
 refine z5z rfl rfl v8v rfl rfl rfl rfl ?_
 refine y3y x6x (by rfl) ?_
 refine x1x rfl ?_
 refine x0x rfl v8v rfl rfl u7u rfl rfl ?_
 refine x3x rfl u7u rfl rfl ?_
 refine a0q (zs := (n.kept ++ (n.lanes.take i).flatMap b0d ++ (p.done.take j).flatMap Pa.sends ++ q.sends).map v6v) rfl rfl u7u rfl z3z rfl rfl rfl (by exact a1c (fun _ => rfl) _) (b8g _ _ _) (by have hb56 : T76.bytes = 56 := rfl; rw [List.length_map, hb56]; omega) ?_
 refine x2x rfl ?_
 refine hK7 _ _ ?_
 clear hK7 K7
 refine y3y x6x (by rfl) ?_
 refine y1y rfl rfl rfl ?_
 refine x1x rfl ?_
 exact ⟨j + 1, ⟨by omega, by omega⟩, [0, 0, 0, 0, 0, _, _, _], (Cov.cons (t := 3) rfl (Cov.cons' (t := 25) rfl (by rw [v3v (by omega) (by omega)]; rfl) Cov.nil)), (Cov.cons (t := 17) rfl (Cov.cons (t := 18) rfl (Cov.cons (t := 19) rfl (Cov.cons (t := 23) rfl (Cov.cons (t := 24) rfl Cov.nil))))), (HE.row rfl (by simp only [b1j hq, List.append_assoc]) (HE.kill rfl (HE.kill rfl HE.nil))), (HE.same (id := 0) rfl (HE.same (id := 1) rfl (HE.same (id := 2) rfl (HE.same (id := 3) rfl (HE.same (id := 4) rfl HE.nil))))), rfl⟩
theorem b1p (c : Bool) (n : Nd) (proc : Int) (e : Ev) : Meth Tryz.prog 212 7 [0, 1, 2, 3, 4, 5, 6] [.agg (v6v e), .ptr 5 0 0, .ptr 6 0 0] [(0, (0, .row 62 3 ((n.lanes).map fun l => a0e l.base))), (1, (0, .row 63 1 ((n.lanes).map fun l => [a7l c l.done]))), (2, (0, .map (b5x c n.views))), (3, (0, .row 3 1 (n.known.map a0x))), (4, (0, .box 139 [pI n.id, pI n.inc, pI n.g, pI n.led, .ref 0 0, a1n c n.kept, a3k c n.outs, .pv (.bool n.up), .ref 1 0, pI n.version, .mp 2 0, .ref 3 0, pI n.round, pI n.low])), (5, (0, .box 3 [pI proc])), (6, (0, .box 109 [.ptr 4 0 0]))] (.pv (.bool (a4r proc n.g e))) [] := by
 refine u9u x6x (fn := Tryz.f212) (by kernel_rfl) (by kernel_rfl) rfl (O0 := [.pv (.bool (a4r proc n.g e))]) 7 1 (Nat.le_of_ble_eq_true rfl) (by rfl) (by repeat (first | exact BndH.nil | refine BndH.box rfl ?_ | refine BndH.row (u3u fun _ => rfl) ?_ | refine BndH.map (a5b _ _) ?_ )) (by repeat (exact BndH.nil )) (by rfl) fun γ => ?_
 show Ex Tryz.prog _ _ [(0, .agg (v6v e)), (1, .ptr 5 (γ 5) 0), (2, .ptr 6 (γ 6) 0)] [(0, ((γ 0), .row 62 3 ((n.lanes).map fun l => a0e l.base))), (1, ((γ 1), .row 63 1 ((n.lanes).map fun l => [a7l c l.done]))), (2, ((γ 2), .map (b5x c n.views))), (3, ((γ 3), .row 3 1 (n.known.map a0x))), (4, ((γ 4), .box 139 [pI n.id, pI n.inc, pI n.g, pI n.led, .ref 0 (γ 0), a1n c n.kept, a3k c n.outs, .pv (.bool n.up), .ref 1 (γ 1), pI n.version, .mp 2 (γ 2), .ref 3 (γ 3), pI n.round, pI n.low])), (5, ((γ 5), .box 3 [pI proc])), (6, ((γ 6), .box 109 [.ptr 4 (γ 4) 0])), (7, (0, .dead))] _
 refine x4x x6x (by rfl) ?_
 refine v1v (id := 7) rfl rfl rfl ?_
 refine x2x rfl ?_
 refine q7q x6x r4r (by rfl) ?_
 refine x0x rfl z3z rfl rfl y6y rfl rfl ?_
 refine x3x rfl y6y rfl rfl ?_
 refine x3x rfl y6y rfl rfl ?_
 refine y1y rfl rfl rfl ?_
 refine x1x rfl ?_
 refine s1s rfl rfl (fun hg1 => ?_) (fun hg1 => ?_)
 rotate_left
 ·try simp at hg1
  refine x7x rfl rfl ?_
  refine x7x rfl rfl ?_
  refine x7x rfl rfl ?_
  refine x7x rfl rfl ?_
  refine x7x rfl rfl ?_
  refine x7x rfl rfl ?_
  refine x7x rfl rfl ?_
  refine y2y rfl rfl ?_
  refine x2x rfl ?_
  refine ⟨by kernel_rfl, ?_⟩
  refine y0y ?_
  exact ⟨.inr rfl, [γ 0, γ 1, γ 2, γ 3, γ 4, γ 5, γ 6], rfl, congrArg (fun b : Bool => some [AV.pv (.bool b)]) (by exact (decide_eq_false (by omega)).symm), (HE.same (id := 0) rfl (HE.same (id := 1) rfl (HE.same (id := 2) rfl (HE.same (id := 3) rfl (HE.same (id := 4) rfl (HE.same (id := 5) rfl (HE.same (id := 6) rfl HE.nil)))))))⟩
 try simp at hg1
 refine x0x rfl z3z rfl rfl y6y rfl rfl ?_
 refine y5y rfl rfl ?_
 refine x3x rfl y6y rfl rfl ?_
 refine y5y rfl rfl ?_
 refine x3x rfl c3p rfl rfl ?_
 refine y5y rfl rfl ?_
 refine q3q rfl rfl ?_
 refine y5y rfl rfl ?_
 refine x0x rfl a2l rfl rfl a1i rfl rfl ?_
 refine y5y rfl rfl ?_
 refine x0x rfl a1i rfl rfl y6y rfl rfl ?_
 refine y5y rfl rfl ?_
 refine x3x rfl y6y rfl rfl ?_
 refine y5y rfl rfl ?_
 refine y1y rfl rfl rfl ?_
 refine z0z rfl rfl ?_
 refine x2x rfl ?_
 refine ⟨by kernel_rfl, ?_⟩
 refine y0y ?_
 exact ⟨.inr rfl, [γ 0, γ 1, γ 2, γ 3, γ 4, γ 5, γ 6], rfl, congrArg (fun b : Bool => some [AV.pv (.bool b)]) (by exact decide_eq_decide.2 (by omega)), (HE.same (id := 0) rfl (HE.same (id := 1) rfl (HE.same (id := 2) rfl (HE.same (id := 3) rfl (HE.same (id := 4) rfl (HE.same (id := 5) rfl (HE.same (id := 6) rfl HE.nil)))))))⟩
theorem a5c (c : Bool) (n : Nd) (proc : Int) (l : List Ev) (hl : l.length ≤ 10000000) : Meth Tryz.prog 188 7 [0, 1, 2, 3, 4, 5, 6] [a1n true l, .fn (.func 212) [] [.ptr 5 0 0, .ptr 6 0 0]] [(0, (0, .row 62 3 ((n.lanes).map fun l => a0e l.base))), (1, (0, .row 63 1 ((n.lanes).map fun l => [a7l c l.done]))), (2, (0, .map (b5x c n.views))), (3, (0, .row 3 1 (n.known.map a0x))), (4, (0, .box 139 [pI n.id, pI n.inc, pI n.g, pI n.led, .ref 0 0, a1n c n.kept, a3k c n.outs, .pv (.bool n.up), .ref 1 0, pI n.version, .mp 2 0, .ref 3 0, pI n.round, pI n.low])), (5, (0, .box 3 [pI proc])), (6, (0, .box 109 [.ptr 4 0 0]))] (a1n true (l.filter (a4r proc n.g))) [] := by
 refine u9u x6x (fn := Tryz.f188) (by kernel_rfl) (by kernel_rfl) rfl (O0 := [a1n true (l.filter (a4r proc n.g))]) 7 4 (Nat.le_of_ble_eq_true rfl) (by rfl) (by repeat (first | exact BndH.nil | refine BndH.box rfl ?_ | refine BndH.row (u3u fun _ => rfl) ?_ | refine BndH.map (a5b _ _) ?_ )) (by repeat (exact BndH.nil )) (by rfl) fun γ => ?_
 show Ex Tryz.prog _ _ [(0, a1n true l), (1, .fn (.func 212) [] [.ptr 5 (γ 5) 0, .ptr 6 (γ 6) 0])] [(0, ((γ 0), .row 62 3 ((n.lanes).map fun l => a0e l.base))), (1, ((γ 1), .row 63 1 ((n.lanes).map fun l => [a7l c l.done]))), (2, ((γ 2), .map (b5x c n.views))), (3, ((γ 3), .row 3 1 (n.known.map a0x))), (4, ((γ 4), .box 139 [pI n.id, pI n.inc, pI n.g, pI n.led, .ref 0 (γ 0), a1n c n.kept, a3k c n.outs, .pv (.bool n.up), .ref 1 (γ 1), pI n.version, .mp 2 (γ 2), .ref 3 (γ 3), pI n.round, pI n.low])), (5, ((γ 5), .box 3 [pI proc])), (6, ((γ 6), .box 109 [.ptr 4 (γ 4) 0])), (10, (0, .dead)), (9, (0, .dead)), (8, (0, .dead)), (7, (0, .dead))] _
 refine x4x x6x (by rfl) ?_
 refine x2x rfl ?_
 refine x4x x6x (by rfl) ?_
 refine x2x rfl ?_
 refine x5x fun K1 hK1 => ?_
 refine x4x x6x (by rfl) ?_
 refine x1x rfl ?_
 refine u0u rfl u7u rfl ?_
 refine x1x rfl ?_
 refine y7y ?_
 refine a3e 5 10 76 7 rfl rfl ?_
 refine u5u (ι := Nat) (fun i γ1 => [(5, .ref 10 (γ1 10)), (10, .pv (.int .i64 (i : Int)))]) (fun i γ1 => [(10, ((γ1 10), .row 76 7 (((l.take i).filter (a4r proc n.g)).map v6v))), (7, ((γ1 7), .dead)), (8, ((γ1 8), .dead)), (9, ((γ1 9), .dead))]) (fun i => i ≤ l.length) (fun i => l.length - i) (Cov.cons (t := 1) rfl (Cov.cons (t := 8) rfl (Cov.cons (t := 9) rfl Cov.nil))) (HE.same (id := 0) rfl (HE.same (id := 1) rfl (HE.same (id := 2) rfl (HE.same (id := 3) rfl (HE.same (id := 4) rfl (HE.same (id := 5) rfl (HE.same (id := 6) rfl HE.nil))))))) 0 (by omega) [0, 0, 0, 0, 0, 0, 0, _, _, _, _] (Cov.cons (t := 5) rfl (Cov.cons (t := 10) rfl Cov.nil)) (HE.row rfl (by rw [List.take_zero]; rfl) (HE.kill rfl (HE.kill rfl (HE.kill rfl HE.nil)))) rfl fun i γ1 hi => ?_
 try dsimp only [List.cons_append, List.nil_append]
 refine x4x x6x (by rfl) ?_
 refine y1y rfl rfl rfl ?_
 refine x5x fun K2 hK2 => ?_
 refine x8x rfl (fun hc3 => ?_) (fun hc3 => ?_)
 rotate_left
 ·try simp at hc3
  obtain rfl : i = l.length := by omega
  rw [List.take_length]
  refine v0v ?_
  refine hK1 _ _ ?_
  clear hK2 K2 hK1 K1
  refine b2e 5 rfl rfl (fun _ => rfl) ?_
  refine x4x x6x (by rfl) ?_
  refine x1x rfl ?_
  refine x2x rfl ?_
  refine y0y ?_
  exact ⟨.inr rfl, [γ 0, γ 1, γ 2, γ 3, γ 4, γ 5, γ 6], rfl, rfl, (HE.same (id := 0) rfl (HE.same (id := 1) rfl (HE.same (id := 2) rfl (HE.same (id := 3) rfl (HE.same (id := 4) rfl (HE.same (id := 5) rfl (HE.same (id := 6) rfl HE.nil)))))))⟩
 try simp at hc3
 obtain ⟨p, hp⟩ : ∃ p, l[i]? = some p := ⟨_, List.getElem?_eq_getElem (by omega)⟩
 have hfl : ((l.take i).filter (a4r proc n.g)).length ≤ 10000000 := Nat.le_trans (List.length_filter_le _ _) (by rw [List.length_take]; omega)
 refine x9x ?_
 refine hK2 _ _ ?_
 clear hK2 K2
 refine x5x fun K4 hK4 => ?_
 refine y7y ?_
 refine x4x x6x (by rfl) ?_
 refine z7z rfl rfl u7u rfl z3z rfl (by assumption) ?_
 refine z6z rfl z3z rfl rfl ?_
 refine u8u (id := 7) z3z a7c rfl ?_
 refine z5z rfl rfl z3z rfl rfl rfl rfl ?_
 refine x4x x6x (by rfl) ?_
 refine x1x rfl ?_
 refine y4y rfl z3z rfl rfl rfl ?_
 refine v5v [0, 1, 2, 3, 4, 5, 6] [_, _, _, _, _, _, _] (b1p c n proc p) rfl rfl rfl (by decide) rfl rfl (by repeat (first | exact InH.nil | refine InH.cons rfl ?_)) (by (simp only [pI, List.map_cons, List.map_nil, u1u, u2u, gl, nx, q4q, Nat.beq, Nat.add_eq, List.getD_cons_zero, List.getD_cons_succ, List.getD_nil, Bool.or_false, Bool.false_or, Bool.true_or, Bool.or_true, Nat.add_zero, Nat.zero_add]; rfl)) (by (simp only [pI, List.map_cons, List.map_nil, u1u, u2u, gl, nx, q4q, Nat.beq, Nat.add_eq, List.getD_cons_zero, List.getD_cons_succ, List.getD_nil, Bool.or_false, Bool.false_or, Bool.true_or, Bool.or_true, Nat.add_zero, Nat.zero_add]; rfl)) ?_
 refine x8x rfl (fun hc5 => ?_) (fun hc5 => ?_)
 rotate_left
 ·try simp at hc5
  have hw : ¬ a4r proc n.g p = true := by rw [hc5]; decide
  refine x9x ?_
  refine hK4 _ _ ?_
  clear hK4 K4
  refine y3y x6x (by rfl) ?_
  refine y1y rfl rfl rfl ?_
  refine x1x rfl ?_
  exact ⟨i + 1, ⟨by omega, by omega⟩, [0, 0, 0, 0, 0, 0, 0, _, _, _, _], (Cov.cons (t := 5) rfl (Cov.cons' (t := 10) rfl (by rw [v3v (by omega) (by omega)]; rfl) Cov.nil)), (Cov.cons (t := 1) rfl (Cov.cons (t := 8) rfl (Cov.cons (t := 9) rfl Cov.nil))), (HE.row rfl (by rw [a4s hp]; rw [if_neg hw, List.append_nil]) (HE.kill rfl (HE.kill rfl (HE.kill rfl HE.nil)))), (HE.same (id := 0) rfl (HE.same (id := 1) rfl (HE.same (id := 2) rfl (HE.same (id := 3) rfl (HE.same (id := 4) rfl (HE.same (id := 5) rfl (HE.same (id := 6) rfl HE.nil))))))), rfl⟩
 try simp at hc5
 have hw : a4r proc n.g p = true := hc5
 refine y3y x6x (by rfl) ?_
 refine x1x rfl ?_
 refine y4y rfl z3z rfl rfl rfl ?_
 refine s6s (id := 8) u7u rfl z3z rfl rfl rfl rfl rfl rfl ?_
 refine r5r (zs := ((l.take i).filter (a4r proc n.g) ++ [p]).map v6v) rfl rfl u7u rfl z3z rfl rfl rfl rfl (by rfl) (a0c _ _ _) (by (simp only [List.length_map, List.length_append, List.length_cons, List.length_nil, List.length_take, List.length_range, T76]; omega)) ?_
 refine x2x rfl ?_
 refine hK4 _ _ ?_
 clear hK4 K4
 refine y3y x6x (by rfl) ?_
 refine y1y rfl rfl rfl ?_
 refine x1x rfl ?_
 exact ⟨i + 1, ⟨by omega, by omega⟩, [0, 0, 0, 0, 0, 0, 0, _, _, _, _], (Cov.cons (t := 5) rfl (Cov.cons' (t := 10) rfl (by rw [v3v (by omega) (by omega)]; rfl) Cov.nil)), (Cov.cons (t := 1) rfl (Cov.cons (t := 8) rfl (Cov.cons (t := 9) rfl Cov.nil))), (HE.row rfl (by rw [a4s hp]; rw [if_pos hw]) (HE.kill rfl (HE.kill rfl (HE.kill rfl HE.nil)))), (HE.same (id := 0) rfl (HE.same (id := 1) rfl (HE.same (id := 2) rfl (HE.same (id := 3) rfl (HE.same (id := 4) rfl (HE.same (id := 5) rfl (HE.same (id := 6) rfl HE.nil))))))), rfl⟩
theorem a7n (c : Bool) (n : Nd) (proc : Int) (hs : (a2b n).length + (s7s n 3).length ≤ 5000000) (hlen : n.lanes.length ≤ 1048576) (hv3 : n.views.length = 3) : Meth Tryz.prog 145 6 [0, 1, 2, 3, 4] [.ptr 4 0 0, .pv (.int .i64 proc)] [(0, (0, .row 62 3 ((n.lanes).map fun l => a0e l.base))), (1, (0, .row 63 1 ((n.lanes).map fun l => [a7l c l.done]))), (2, (0, .map (b5x c n.views))), (3, (0, .row 3 1 (n.known.map a0x))), (4, (0, .box 139 [pI n.id, pI n.inc, pI n.g, pI n.led, .ref 0 0, a1n c n.kept, a3k c n.outs, .pv (.bool n.up), .ref 1 0, pI n.version, .mp 2 0, .ref 3 0, pI n.round, pI n.low])), (5, (0, .dead))] (.ref 5 0) [(5, (0, .row 76 7 ((s9s n proc).map v6v)))] := by
 refine u9u x6x (fn := Tryz.f145) (by kernel_rfl) (by kernel_rfl) rfl (O0 := [.ref 5 0]) 6 4 (Nat.le_of_ble_eq_true rfl) (by rfl) (by repeat (first | exact BndH.nil | refine BndH.dead ?_ | refine BndH.box rfl ?_ | refine BndH.row (u3u fun _ => rfl) ?_ | refine BndH.map (a5b _ _) ?_ )) (by repeat (first | exact BndH.nil | refine BndH.row (u3u fun _ => rfl) ?_ )) (by rfl) fun γ => ?_
 show Ex Tryz.prog _ _ [(0, .ptr 4 (γ 4) 0), (1, .pv (.int .i64 proc))] [(0, ((γ 0), .row 62 3 ((n.lanes).map fun l => a0e l.base))), (1, ((γ 1), .row 63 1 ((n.lanes).map fun l => [a7l c l.done]))), (2, ((γ 2), .map (b5x c n.views))), (3, ((γ 3), .row 3 1 (n.known.map a0x))), (4, ((γ 4), .box 139 [pI n.id, pI n.inc, pI n.g, pI n.led, .ref 0 (γ 0), a1n c n.kept, a3k c n.outs, .pv (.bool n.up), .ref 1 (γ 1), pI n.version, .mp 2 (γ 2), .ref 3 (γ 3), pI n.round, pI n.low])), (5, ((γ 5), .dead)), (9, (0, .dead)), (8, (0, .dead)), (7, (0, .dead)), (6, (0, .dead))] _
 refine x4x x6x (by rfl) ?_
 refine c6o (id := 6) rfl rfl rfl rfl ?_
 refine c6o (id := 7) rfl rfl rfl rfl ?_
 refine x2x rfl ?_
 refine x4x x6x (by rfl) ?_
 refine x3x rfl c3p rfl rfl ?_
 refine v5v [0, 1, 2, 3, 4, 9] [_, _, _, _, _, _] (b3i c n (by omega) hlen) rfl rfl rfl (by decide) rfl rfl (by repeat (first | exact InH.nil | refine InH.cons rfl ?_)) (by (simp only [pI, List.map_cons, List.map_nil, u1u, u2u, gl, nx, q4q, Nat.beq, Nat.add_eq, List.getD_cons_zero, List.getD_cons_succ, List.getD_nil, Bool.or_false, Bool.false_or, Bool.true_or, Bool.or_true, Nat.add_zero, Nat.zero_add]; rfl)) (by (simp only [pI, List.map_cons, List.map_nil, u1u, u2u, gl, nx, q4q, Nat.beq, Nat.add_eq, List.getD_cons_zero, List.getD_cons_succ, List.getD_nil, Bool.or_false, Bool.false_or, Bool.true_or, Bool.or_true, Nat.add_zero, Nat.zero_add]; rfl)) ?_
 refine x2x rfl ?_
 refine x5x fun K1 hK1 => ?_
 refine x4x x6x (by rfl) ?_
 refine x1x rfl ?_
 refine y7y ?_
 refine u5u (ι := Nat) (fun i γ1 => [(5, .ref 9 (γ1 9)), (9, .pv (.int .i64 (i : Int)))]) (fun i γ1 => [(9, ((γ1 9), .row 76 7 ((a2b n ++ s7s n i).map v6v))), (8, ((γ1 8), .dead))]) (fun i => i ≤ 3) (fun i => 3 - i) (Cov.cons (t := 2) rfl (Cov.cons (t := 3) rfl Cov.nil)) (HE.same (id := 0) rfl (HE.same (id := 1) rfl (HE.same (id := 2) rfl (HE.same (id := 3) rfl (HE.same (id := 4) rfl (HE.same (id := 5) rfl (HE.same (id := 6) rfl (HE.same (id := 7) rfl HE.nil)))))))) 0 (by omega) [0, 0, 0, 0, 0, 0, 0, 0, _, _] (Cov.cons (t := 5) rfl (Cov.cons (t := 9) rfl Cov.nil)) (HE.row rfl (by simp [s7s]) (HE.kill rfl HE.nil)) rfl fun i γ1 hi => ?_
 try dsimp only [List.cons_append, List.nil_append]
 refine x4x x6x (by rfl) ?_
 refine y1y rfl rfl rfl ?_
 refine x5x fun K2 hK2 => ?_
 refine x8x rfl (fun hc3 => ?_) (fun hc3 => ?_)
 rotate_left
 ·try simp at hc3
  obtain rfl : i = 3 := by omega
  refine v0v ?_
  refine hK1 _ _ ?_
  clear hK2 K2 hK1 K1
  refine b2e 5 rfl rfl (fun _ => rfl) ?_
  refine x4x x6x (by rfl) ?_
  refine x1x rfl ?_
  refine c2p rfl rfl ?_
  refine v5v [0, 1, 2, 3, 4, 7, 6] [_, _, _, _, _, _, _] (a5c c n proc _ (by rw [List.length_append]; omega)) rfl rfl rfl (by decide) rfl rfl (by repeat (first | exact InH.nil | refine InH.cons rfl ?_)) (by (simp only [pI, List.map_cons, List.map_nil, u1u, u2u, gl, nx, q4q, Nat.beq, Nat.add_eq, List.getD_cons_zero, List.getD_cons_succ, List.getD_nil, Bool.or_false, Bool.false_or, Bool.true_or, Bool.or_true, Nat.add_zero, Nat.zero_add]; rfl)) (by (simp only [pI, List.map_cons, List.map_nil, u1u, u2u, gl, nx, q4q, Nat.beq, Nat.add_eq, List.getD_cons_zero, List.getD_cons_succ, List.getD_nil, Bool.or_false, Bool.false_or, Bool.true_or, Bool.or_true, Nat.add_zero, Nat.zero_add]; rfl)) ?_
  refine v5v [5] [_] (b3h true _ (Nat.le_trans (List.length_filter_le _ _) (by rw [List.length_append]; omega))) rfl rfl rfl (by decide) rfl rfl (by repeat (first | exact InH.nil | refine InH.cons rfl ?_)) (by (simp only [pI, List.map_cons, List.map_nil, u1u, u2u, gl, nx, q4q, Nat.beq, Nat.add_eq, List.getD_cons_zero, List.getD_cons_succ, List.getD_nil, Bool.or_false, Bool.false_or, Bool.true_or, Bool.or_true, Nat.add_zero, Nat.zero_add]; rfl)) (by (simp only [pI, List.map_cons, List.map_nil, u1u, u2u, gl, nx, q4q, Nat.beq, Nat.add_eq, List.getD_cons_zero, List.getD_cons_succ, List.getD_nil, Bool.or_false, Bool.false_or, Bool.true_or, Bool.or_true, Nat.add_zero, Nat.zero_add]; rfl)) ?_
  refine x2x rfl ?_
  refine y0y ?_
  exact ⟨.inr rfl, [γ 0, γ 1, γ 2, γ 3, γ 4, _], rfl, rfl, HE.row rfl rfl (HE.same (id := 0) rfl (HE.same (id := 1) rfl (HE.same (id := 2) rfl (HE.same (id := 3) rfl (HE.same (id := 4) rfl HE.nil)))))⟩
 try simp at hc3
 obtain ⟨v, hv⟩ : ∃ v, n.views[i]? = some v := ⟨_, List.getElem?_eq_getElem (by omega)⟩
 have hg : n.views.getD i vi0 = v := by rw [List.getD_eq_getElem?_getD, hv]; rfl
 have hol := c1e n (i := i + 1) (by omega)
 rw [a0n] at hol
 refine x9x ?_
 refine hK2 _ _ ?_
 clear hK2 K2
 refine x5x fun K4 hK4 => ?_
 refine y7y ?_
 refine x4x x6x (by rfl) ?_
 refine x1x rfl ?_
 refine x2x rfl ?_
 refine x4x x6x (by rfl) ?_
 refine x1x rfl ?_
 refine x3x rfl c3p rfl rfl ?_
 refine q3q rfl rfl ?_
 refine x0x rfl a2l rfl rfl a1i rfl rfl ?_
 refine x0x rfl a1i rfl rfl y6y rfl rfl ?_
 refine x3x rfl y6y rfl rfl ?_
 refine y1y rfl rfl rfl ?_
 refine x8x rfl (fun hc5 => ?_) (fun hc5 => ?_)
 rotate_left
 ·try simp at hc5
  have hve : b2i n i = [] := by rw [b2i, if_pos (by exact hc5)]
  refine x9x ?_
  refine hK4 _ _ ?_
  clear hK4 K4
  refine y3y x6x (by rfl) ?_
  refine y1y rfl rfl rfl ?_
  refine x1x rfl ?_
  exact ⟨i + 1, ⟨by omega, by omega⟩, [0, 0, 0, 0, 0, 0, 0, 0, _, _], (Cov.cons (t := 5) rfl (Cov.cons' (t := 9) rfl (by rw [v3v (by omega) (by omega)]; rfl) Cov.nil)), (Cov.cons (t := 2) rfl (Cov.cons (t := 3) rfl Cov.nil)), (HE.row rfl (by rw [a0n, hve]; simp) (HE.kill rfl HE.nil)), (HE.same (id := 0) rfl (HE.same (id := 1) rfl (HE.same (id := 2) rfl (HE.same (id := 3) rfl (HE.same (id := 4) rfl (HE.same (id := 5) rfl (HE.same (id := 6) rfl (HE.same (id := 7) rfl HE.nil)))))))), rfl⟩
 try simp at hc5
 have hve : b2i n i = v.events := by rw [b2i, if_neg (by exact hc5), hg]
 rw [hve] at hol
 simp only [List.length_append] at hol
 refine y3y x6x (by rfl) ?_
 refine x1x rfl ?_
 refine x3x rfl c3p rfl rfl ?_
 refine q3q rfl rfl ?_
 refine x0x rfl a2l rfl rfl c0i rfl rfl ?_
 refine x3x rfl c0i rfl rfl ?_
 refine x1x rfl ?_
 refine a3f (κ := Int) (enc := fun n => .int .i64 n) (ks := b6q n.views.length) (k := (i : Int)) (out := .agg (a4b c v)) x6x Tryz.underlying137 (c0m Tryz.underlying3) rfl rfl (fun _ _ _ h => d4p h) rfl (c1u _ _) (c9d hv) ?_
 refine c9s rfl w0w rfl rfl u7u rfl ?_
 refine a0q (zs := (a2b n ++ s7s n i ++ v.events).map v6v) rfl rfl u7u rfl z3z rfl rfl rfl (by exact a1c (fun _ => rfl) _) (b8g _ _ _) (by have hb56 : T76.bytes = 56 := rfl; rw [List.length_map, hb56]; simp only [List.length_append]; omega) ?_
 refine x2x rfl ?_
 refine hK4 _ _ ?_
 clear hK4 K4
 refine y3y x6x (by rfl) ?_
 refine y1y rfl rfl rfl ?_
 refine x1x rfl ?_
 exact ⟨i + 1, ⟨by omega, by omega⟩, [0, 0, 0, 0, 0, 0, 0, 0, _, _], (Cov.cons (t := 5) rfl (Cov.cons' (t := 9) rfl (by rw [v3v (by omega) (by omega)]; rfl) Cov.nil)), (Cov.cons (t := 2) rfl (Cov.cons (t := 3) rfl Cov.nil)), (HE.row rfl (by rw [a0n, hve]; simp) (HE.kill rfl HE.nil)), (HE.same (id := 0) rfl (HE.same (id := 1) rfl (HE.same (id := 2) rfl (HE.same (id := 3) rfl (HE.same (id := 4) rfl (HE.same (id := 5) rfl (HE.same (id := 6) rfl (HE.same (id := 7) rfl HE.nil)))))))), rfl⟩
end
section
theorem a5q (v : Int) : s8s Tryz.prog 235 [.pv (.int .i64 v)] (.pv (.bool (decide (0 ≤ v ∧ v ≤ 999)))) := by
 refine z1z x6x (fn := Tryz.f235) (by kernel_rfl) (by kernel_rfl) rfl (outs := [.pv (.bool (decide (0 ≤ v ∧ v ≤ 999)))]) (by rfl) (Nat.le_of_ble_eq_true rfl) 0 ?_
 refine x4x x6x (by rfl) ?_
 refine x2x rfl ?_
 refine x4x x6x (by rfl) ?_
 refine x1x rfl ?_
 refine y9y rfl rfl rfl (w5w ..) ?_
 refine x2x rfl ?_
 refine y0y ⟨.inr rfl, ?_⟩
 exact y8y rfl rfl rfl
theorem a5r (v : Int) : s8s Tryz.prog 200 [.pv (.int .i64 v)] (.pv (.bool (decide (0 ≤ v ∧ v ≤ 999)))) := by
 refine z1z x6x (fn := Tryz.f200) (by kernel_rfl) (by kernel_rfl) rfl (outs := [.pv (.bool (decide (0 ≤ v ∧ v ≤ 999)))]) (by rfl) (Nat.le_of_ble_eq_true rfl) 0 ?_
 refine x4x x6x (by rfl) ?_
 refine x2x rfl ?_
 refine x4x x6x (by rfl) ?_
 refine x1x rfl ?_
 refine y9y rfl rfl rfl (p7p ..) ?_
 refine x2x rfl ?_
 refine y0y ⟨.inr rfl, ?_⟩
 exact y8y rfl rfl rfl
theorem b9q (v : Int) : s8s Tryz.prog 256 [.pv (.int .i64 v)] (.pv (.bool (decide (0 ≤ v ∧ v ≤ 3)))) := by
 refine z1z x6x (fn := Tryz.f256) (by kernel_rfl) (by kernel_rfl) rfl (outs := [.pv (.bool (decide (0 ≤ v ∧ v ≤ 3)))]) (by rfl) (Nat.le_of_ble_eq_true rfl) 0 ?_
 refine x4x x6x (by rfl) ?_
 refine x2x rfl ?_
 refine x4x x6x (by rfl) ?_
 refine x1x rfl ?_
 refine y9y rfl rfl rfl (w5w ..) ?_
 refine x2x rfl ?_
 refine y0y ⟨.inr rfl, ?_⟩
 exact y8y rfl rfl rfl
theorem a9k (s : St) : s8s Tryz.prog 196 [.agg (a0e s)] (.pv (.bool (decide (b7q s)))) := by
 refine z1z x6x (fn := Tryz.f196) (by kernel_rfl) (by kernel_rfl) rfl (outs := [.pv (.bool (decide (b7q s)))]) (by rfl) (Nat.le_of_ble_eq_true rfl) 1 ?_
 refine x4x x6x (by rfl) ?_
 refine v1v (id := 0) rfl rfl rfl ?_
 refine x2x rfl ?_
 refine x4x x6x (by rfl) ?_
 refine x0x rfl q5q rfl rfl y6y rfl rfl ?_
 refine x3x rfl y6y rfl rfl ?_
 refine y9y rfl rfl rfl (a5q ..) ?_
 refine x1x rfl ?_
 refine s1s rfl rfl (fun hg1 => ?_) (fun hg1 => ?_)
 rotate_left
 ·try simp at hg1
  refine x7x rfl rfl ?_
  refine x7x rfl rfl ?_
  refine y2y rfl rfl ?_
  refine x1x rfl ?_
  refine x7x rfl rfl ?_
  refine x7x rfl rfl ?_
  refine x7x rfl rfl ?_
  refine y2y rfl rfl ?_
  refine x2x rfl ?_
  refine y0y ⟨.inr rfl, ?_⟩
  refine y8y rfl ?_ rfl
  exact kF (by unfold b7q; omega)
 try simp at hg1
 refine x0x rfl q5q rfl rfl y6y rfl rfl ?_
 refine y5y rfl rfl ?_
 refine x3x rfl y6y rfl rfl ?_
 refine y5y rfl rfl ?_
 refine y9y rfl rfl rfl (a5q ..) ?_
 refine z0z rfl rfl ?_
 refine x1x rfl ?_
 refine s1s rfl rfl (fun hg2 => ?_) (fun hg2 => ?_)
 rotate_left
 ·try simp at hg2
  refine x7x rfl rfl ?_
  refine x7x rfl rfl ?_
  refine y2y rfl rfl ?_
  refine x2x rfl ?_
  refine y0y ⟨.inr rfl, ?_⟩
  refine y8y rfl ?_ rfl
  exact kF (by unfold b7q; omega)
 try simp at hg2
 refine x0x rfl q5q rfl rfl y6y rfl rfl ?_
 refine y5y rfl rfl ?_
 refine x3x rfl y6y rfl rfl ?_
 refine y5y rfl rfl ?_
 refine y9y rfl rfl rfl (w5w ..) ?_
 refine z0z rfl rfl ?_
 refine x2x rfl ?_
 refine y0y ⟨.inr rfl, ?_⟩
 refine y8y rfl ?_ rfl
 exact congrArg (fun b : Bool => [AV.pv (.bool b)]) (decide_eq_decide.2 (by unfold b7q; omega))
theorem a7o (s : St) : s8s Tryz.prog 128 [.agg (a0e s)] (.pv (.bool (decide (b7q s)))) := by
 refine z1z x6x (fn := Tryz.f128) (by kernel_rfl) (by kernel_rfl) rfl (outs := [.pv (.bool (decide (b7q s)))]) (by rfl) (Nat.le_of_ble_eq_true rfl) 1 ?_
 refine x4x x6x (by rfl) ?_
 refine v1v (id := 0) rfl rfl rfl ?_
 refine x2x rfl ?_
 refine x4x x6x (by rfl) ?_
 refine x0x rfl q5q rfl rfl y6y rfl rfl ?_
 refine x3x rfl y6y rfl rfl ?_
 refine y9y rfl rfl rfl (a5r ..) ?_
 refine x1x rfl ?_
 refine s1s rfl rfl (fun hg1 => ?_) (fun hg1 => ?_)
 rotate_left
 ·try simp at hg1
  refine x7x rfl rfl ?_
  refine x7x rfl rfl ?_
  refine y2y rfl rfl ?_
  refine x1x rfl ?_
  refine x7x rfl rfl ?_
  refine x7x rfl rfl ?_
  refine x7x rfl rfl ?_
  refine y2y rfl rfl ?_
  refine x2x rfl ?_
  refine y0y ⟨.inr rfl, ?_⟩
  refine y8y rfl ?_ rfl
  exact kF (by unfold b7q; omega)
 try simp at hg1
 refine x0x rfl q5q rfl rfl y6y rfl rfl ?_
 refine y5y rfl rfl ?_
 refine x3x rfl y6y rfl rfl ?_
 refine y5y rfl rfl ?_
 refine y9y rfl rfl rfl (a5r ..) ?_
 refine z0z rfl rfl ?_
 refine x1x rfl ?_
 refine s1s rfl rfl (fun hg2 => ?_) (fun hg2 => ?_)
 rotate_left
 ·try simp at hg2
  refine x7x rfl rfl ?_
  refine x7x rfl rfl ?_
  refine y2y rfl rfl ?_
  refine x2x rfl ?_
  refine y0y ⟨.inr rfl, ?_⟩
  refine y8y rfl ?_ rfl
  exact kF (by unfold b7q; omega)
 try simp at hg2
 refine x0x rfl q5q rfl rfl y6y rfl rfl ?_
 refine y5y rfl rfl ?_
 refine x3x rfl y6y rfl rfl ?_
 refine y5y rfl rfl ?_
 refine y9y rfl rfl rfl (p7p ..) ?_
 refine z0z rfl rfl ?_
 refine x2x rfl ?_
 refine y0y ⟨.inr rfl, ?_⟩
 refine y8y rfl ?_ rfl
 exact congrArg (fun b : Bool => [AV.pv (.bool b)]) (decide_eq_decide.2 (by unfold b7q; omega))
theorem a9l (e : Ev) : s8s Tryz.prog 236 [.agg (v6v e)] (.pv (.bool (decide (b5w e)))) := by
 refine z1z x6x (fn := Tryz.f236) (by kernel_rfl) (by kernel_rfl) rfl (outs := [.pv (.bool (decide (b5w e)))]) (by rfl) (Nat.le_of_ble_eq_true rfl) 1 ?_
 refine x4x x6x (by rfl) ?_
 refine v1v (id := 0) rfl rfl rfl ?_
 refine x2x rfl ?_
 refine x4x x6x (by rfl) ?_
 refine x0x rfl z3z rfl rfl y6y rfl rfl ?_
 refine x3x rfl y6y rfl rfl ?_
 refine y9y rfl rfl rfl (w5w ..) ?_
 refine x1x rfl ?_
 refine s1s rfl rfl (fun hg1 => ?_) (fun hg1 => ?_)
 rotate_left
 ·try simp at hg1
  refine x7x rfl rfl ?_
  refine x7x rfl rfl ?_
  refine y2y rfl rfl ?_
  refine x1x rfl ?_
  refine x7x rfl rfl ?_
  refine x7x rfl rfl ?_
  refine x7x rfl rfl ?_
  refine y2y rfl rfl ?_
  refine x1x rfl ?_
  refine x7x rfl rfl ?_
  refine x7x rfl rfl ?_
  refine x7x rfl rfl ?_
  refine y2y rfl rfl ?_
  refine x1x rfl ?_
  refine x7x rfl rfl ?_
  refine x7x rfl rfl ?_
  refine x7x rfl rfl ?_
  refine y2y rfl rfl ?_
  refine x1x rfl ?_
  refine x7x rfl rfl ?_
  refine x7x rfl rfl ?_
  refine x7x rfl rfl ?_
  refine y2y rfl rfl ?_
  refine x1x rfl ?_
  refine x7x rfl rfl ?_
  refine x7x rfl rfl ?_
  refine x7x rfl rfl ?_
  refine y2y rfl rfl ?_
  refine x2x rfl ?_
  refine y0y ⟨.inr rfl, ?_⟩
  refine y8y rfl ?_ rfl
  exact kF (by unfold b5w; omega)
 try simp at hg1
 refine x0x rfl z3z rfl rfl y6y rfl rfl ?_
 refine y5y rfl rfl ?_
 refine x3x rfl y6y rfl rfl ?_
 refine y5y rfl rfl ?_
 refine y9y rfl rfl rfl (a4e ..) ?_
 refine z0z rfl rfl ?_
 refine x1x rfl ?_
 refine s1s rfl rfl (fun hg2 => ?_) (fun hg2 => ?_)
 rotate_left
 ·try simp at hg2
  refine x7x rfl rfl ?_
  refine x7x rfl rfl ?_
  refine y2y rfl rfl ?_
  refine x1x rfl ?_
  refine x7x rfl rfl ?_
  refine x7x rfl rfl ?_
  refine x7x rfl rfl ?_
  refine y2y rfl rfl ?_
  refine x1x rfl ?_
  refine x7x rfl rfl ?_
  refine x7x rfl rfl ?_
  refine x7x rfl rfl ?_
  refine y2y rfl rfl ?_
  refine x1x rfl ?_
  refine x7x rfl rfl ?_
  refine x7x rfl rfl ?_
  refine x7x rfl rfl ?_
  refine y2y rfl rfl ?_
  refine x1x rfl ?_
  refine x7x rfl rfl ?_
  refine x7x rfl rfl ?_
  refine x7x rfl rfl ?_
  refine y2y rfl rfl ?_
  refine x2x rfl ?_
  refine y0y ⟨.inr rfl, ?_⟩
  refine y8y rfl ?_ rfl
  exact kF (by unfold b5w; omega)
 try simp at hg2
 refine x0x rfl z3z rfl rfl y6y rfl rfl ?_
 refine y5y rfl rfl ?_
 refine x3x rfl y6y rfl rfl ?_
 refine y5y rfl rfl ?_
 refine y9y rfl rfl rfl (w5w ..) ?_
 refine z0z rfl rfl ?_
 refine x1x rfl ?_
 refine s1s rfl rfl (fun hg3 => ?_) (fun hg3 => ?_)
 rotate_left
 ·try simp at hg3
  refine x7x rfl rfl ?_
  refine x7x rfl rfl ?_
  refine y2y rfl rfl ?_
  refine x1x rfl ?_
  refine x7x rfl rfl ?_
  refine x7x rfl rfl ?_
  refine x7x rfl rfl ?_
  refine y2y rfl rfl ?_
  refine x1x rfl ?_
  refine x7x rfl rfl ?_
  refine x7x rfl rfl ?_
  refine x7x rfl rfl ?_
  refine y2y rfl rfl ?_
  refine x1x rfl ?_
  refine x7x rfl rfl ?_
  refine x7x rfl rfl ?_
  refine x7x rfl rfl ?_
  refine y2y rfl rfl ?_
  refine x2x rfl ?_
  refine y0y ⟨.inr rfl, ?_⟩
  refine y8y rfl ?_ rfl
  exact kF (by unfold b5w; omega)
 try simp at hg3
 refine x0x rfl z3z rfl rfl y6y rfl rfl ?_
 refine y5y rfl rfl ?_
 refine x3x rfl y6y rfl rfl ?_
 refine y5y rfl rfl ?_
 refine y9y rfl rfl rfl (w5w ..) ?_
 refine z0z rfl rfl ?_
 refine x1x rfl ?_
 refine s1s rfl rfl (fun hg4 => ?_) (fun hg4 => ?_)
 rotate_left
 ·try simp at hg4
  refine x7x rfl rfl ?_
  refine x7x rfl rfl ?_
  refine y2y rfl rfl ?_
  refine x1x rfl ?_
  refine x7x rfl rfl ?_
  refine x7x rfl rfl ?_
  refine x7x rfl rfl ?_
  refine y2y rfl rfl ?_
  refine x1x rfl ?_
  refine x7x rfl rfl ?_
  refine x7x rfl rfl ?_
  refine x7x rfl rfl ?_
  refine y2y rfl rfl ?_
  refine x2x rfl ?_
  refine y0y ⟨.inr rfl, ?_⟩
  refine y8y rfl ?_ rfl
  exact kF (by unfold b5w; omega)
 try simp at hg4
 refine x0x rfl z3z rfl rfl y6y rfl rfl ?_
 refine y5y rfl rfl ?_
 refine x3x rfl y6y rfl rfl ?_
 refine y5y rfl rfl ?_
 refine y9y rfl rfl rfl (w5w ..) ?_
 refine z0z rfl rfl ?_
 refine x1x rfl ?_
 refine s1s rfl rfl (fun hg5 => ?_) (fun hg5 => ?_)
 rotate_left
 ·try simp at hg5
  refine x7x rfl rfl ?_
  refine x7x rfl rfl ?_
  refine y2y rfl rfl ?_
  refine x1x rfl ?_
  refine x7x rfl rfl ?_
  refine x7x rfl rfl ?_
  refine x7x rfl rfl ?_
  refine y2y rfl rfl ?_
  refine x2x rfl ?_
  refine y0y ⟨.inr rfl, ?_⟩
  refine y8y rfl ?_ rfl
  exact kF (by unfold b5w; omega)
 try simp at hg5
 refine x0x rfl z3z rfl rfl y6y rfl rfl ?_
 refine y5y rfl rfl ?_
 refine x3x rfl y6y rfl rfl ?_
 refine y5y rfl rfl ?_
 refine y9y rfl rfl rfl (b9q ..) ?_
 refine z0z rfl rfl ?_
 refine x1x rfl ?_
 refine s1s rfl rfl (fun hg6 => ?_) (fun hg6 => ?_)
 rotate_left
 ·try simp at hg6
  refine x7x rfl rfl ?_
  refine x7x rfl rfl ?_
  refine y2y rfl rfl ?_
  refine x2x rfl ?_
  refine y0y ⟨.inr rfl, ?_⟩
  refine y8y rfl ?_ rfl
  exact kF (by unfold b5w; omega)
 try simp at hg6
 refine x0x rfl z3z rfl rfl y6y rfl rfl ?_
 refine y5y rfl rfl ?_
 refine x3x rfl y6y rfl rfl ?_
 refine y5y rfl rfl ?_
 refine y9y rfl rfl rfl (a5q ..) ?_
 refine z0z rfl rfl ?_
 refine x2x rfl ?_
 refine y0y ⟨.inr rfl, ?_⟩
 refine y8y rfl ?_ rfl
 exact congrArg (fun b : Bool => [AV.pv (.bool b)]) (decide_eq_decide.2 (by unfold b5w; omega))
theorem a7p (e : Ev) : s8s Tryz.prog 201 [.agg (v6v e)] (.pv (.bool (decide (b5w e)))) := by
 refine z1z x6x (fn := Tryz.f201) (by kernel_rfl) (by kernel_rfl) rfl (outs := [.pv (.bool (decide (b5w e)))]) (by rfl) (Nat.le_of_ble_eq_true rfl) 1 ?_
 refine x4x x6x (by rfl) ?_
 refine v1v (id := 0) rfl rfl rfl ?_
 refine x2x rfl ?_
 refine x4x x6x (by rfl) ?_
 refine x0x rfl z3z rfl rfl y6y rfl rfl ?_
 refine x3x rfl y6y rfl rfl ?_
 refine y9y rfl rfl rfl (p7p ..) ?_
 refine x1x rfl ?_
 refine s1s rfl rfl (fun hg1 => ?_) (fun hg1 => ?_)
 rotate_left
 ·try simp at hg1
  refine x7x rfl rfl ?_
  refine x7x rfl rfl ?_
  refine y2y rfl rfl ?_
  refine x1x rfl ?_
  refine x7x rfl rfl ?_
  refine x7x rfl rfl ?_
  refine x7x rfl rfl ?_
  refine y2y rfl rfl ?_
  refine x1x rfl ?_
  refine x7x rfl rfl ?_
  refine x7x rfl rfl ?_
  refine x7x rfl rfl ?_
  refine y2y rfl rfl ?_
  refine x1x rfl ?_
  refine x7x rfl rfl ?_
  refine x7x rfl rfl ?_
  refine x7x rfl rfl ?_
  refine y2y rfl rfl ?_
  refine x1x rfl ?_
  refine x7x rfl rfl ?_
  refine x7x rfl rfl ?_
  refine x7x rfl rfl ?_
  refine y2y rfl rfl ?_
  refine x1x rfl ?_
  refine x7x rfl rfl ?_
  refine x7x rfl rfl ?_
  refine x7x rfl rfl ?_
  refine y2y rfl rfl ?_
  refine x2x rfl ?_
  refine y0y ⟨.inr rfl, ?_⟩
  refine y8y rfl ?_ rfl
  exact kF (by unfold b5w; omega)
 try simp at hg1
 refine x0x rfl z3z rfl rfl y6y rfl rfl ?_
 refine y5y rfl rfl ?_
 refine x3x rfl y6y rfl rfl ?_
 refine y5y rfl rfl ?_
 refine y9y rfl rfl rfl (a4f ..) ?_
 refine z0z rfl rfl ?_
 refine x1x rfl ?_
 refine s1s rfl rfl (fun hg2 => ?_) (fun hg2 => ?_)
 rotate_left
 ·try simp at hg2
  refine x7x rfl rfl ?_
  refine x7x rfl rfl ?_
  refine y2y rfl rfl ?_
  refine x1x rfl ?_
  refine x7x rfl rfl ?_
  refine x7x rfl rfl ?_
  refine x7x rfl rfl ?_
  refine y2y rfl rfl ?_
  refine x1x rfl ?_
  refine x7x rfl rfl ?_
  refine x7x rfl rfl ?_
  refine x7x rfl rfl ?_
  refine y2y rfl rfl ?_
  refine x1x rfl ?_
  refine x7x rfl rfl ?_
  refine x7x rfl rfl ?_
  refine x7x rfl rfl ?_
  refine y2y rfl rfl ?_
  refine x1x rfl ?_
  refine x7x rfl rfl ?_
  refine x7x rfl rfl ?_
  refine x7x rfl rfl ?_
  refine y2y rfl rfl ?_
  refine x2x rfl ?_
  refine y0y ⟨.inr rfl, ?_⟩
  refine y8y rfl ?_ rfl
  exact kF (by unfold b5w; omega)
 try simp at hg2
 refine x0x rfl z3z rfl rfl y6y rfl rfl ?_
 refine y5y rfl rfl ?_
 refine x3x rfl y6y rfl rfl ?_
 refine y5y rfl rfl ?_
 refine y9y rfl rfl rfl (p7p ..) ?_
 refine z0z rfl rfl ?_
 refine x1x rfl ?_
 refine s1s rfl rfl (fun hg3 => ?_) (fun hg3 => ?_)
 rotate_left
 ·try simp at hg3
  refine x7x rfl rfl ?_
  refine x7x rfl rfl ?_
  refine y2y rfl rfl ?_
  refine x1x rfl ?_
  refine x7x rfl rfl ?_
  refine x7x rfl rfl ?_
  refine x7x rfl rfl ?_
  refine y2y rfl rfl ?_
  refine x1x rfl ?_
  refine x7x rfl rfl ?_
  refine x7x rfl rfl ?_
  refine x7x rfl rfl ?_
  refine y2y rfl rfl ?_
  refine x1x rfl ?_
  refine x7x rfl rfl ?_
  refine x7x rfl rfl ?_
  refine x7x rfl rfl ?_
  refine y2y rfl rfl ?_
  refine x2x rfl ?_
  refine y0y ⟨.inr rfl, ?_⟩
  refine y8y rfl ?_ rfl
  exact kF (by unfold b5w; omega)
 try simp at hg3
 refine x0x rfl z3z rfl rfl y6y rfl rfl ?_
 refine y5y rfl rfl ?_
 refine x3x rfl y6y rfl rfl ?_
 refine y5y rfl rfl ?_
 refine y9y rfl rfl rfl (p7p ..) ?_
 refine z0z rfl rfl ?_
 refine x1x rfl ?_
 refine s1s rfl rfl (fun hg4 => ?_) (fun hg4 => ?_)
 rotate_left
 ·try simp at hg4
  refine x7x rfl rfl ?_
  refine x7x rfl rfl ?_
  refine y2y rfl rfl ?_
  refine x1x rfl ?_
  refine x7x rfl rfl ?_
  refine x7x rfl rfl ?_
  refine x7x rfl rfl ?_
  refine y2y rfl rfl ?_
  refine x1x rfl ?_
  refine x7x rfl rfl ?_
  refine x7x rfl rfl ?_
  refine x7x rfl rfl ?_
  refine y2y rfl rfl ?_
  refine x2x rfl ?_
  refine y0y ⟨.inr rfl, ?_⟩
  refine y8y rfl ?_ rfl
  exact kF (by unfold b5w; omega)
 try simp at hg4
 refine x0x rfl z3z rfl rfl y6y rfl rfl ?_
 refine y5y rfl rfl ?_
 refine x3x rfl y6y rfl rfl ?_
 refine y5y rfl rfl ?_
 refine y9y rfl rfl rfl (p7p ..) ?_
 refine z0z rfl rfl ?_
 refine x1x rfl ?_
 refine s1s rfl rfl (fun hg5 => ?_) (fun hg5 => ?_)
 rotate_left
 ·try simp at hg5
  refine x7x rfl rfl ?_
  refine x7x rfl rfl ?_
  refine y2y rfl rfl ?_
  refine x1x rfl ?_
  refine x7x rfl rfl ?_
  refine x7x rfl rfl ?_
  refine x7x rfl rfl ?_
  refine y2y rfl rfl ?_
  refine x2x rfl ?_
  refine y0y ⟨.inr rfl, ?_⟩
  refine y8y rfl ?_ rfl
  exact kF (by unfold b5w; omega)
 try simp at hg5
 refine x0x rfl z3z rfl rfl y6y rfl rfl ?_
 refine y5y rfl rfl ?_
 refine x3x rfl y6y rfl rfl ?_
 refine y5y rfl rfl ?_
 refine y9y rfl rfl rfl (p7p ..) ?_
 refine z0z rfl rfl ?_
 refine x1x rfl ?_
 refine s1s rfl rfl (fun hg6 => ?_) (fun hg6 => ?_)
 rotate_left
 ·try simp at hg6
  refine x7x rfl rfl ?_
  refine x7x rfl rfl ?_
  refine y2y rfl rfl ?_
  refine x2x rfl ?_
  refine y0y ⟨.inr rfl, ?_⟩
  refine y8y rfl ?_ rfl
  exact kF (by unfold b5w; omega)
 try simp at hg6
 refine x0x rfl z3z rfl rfl y6y rfl rfl ?_
 refine y5y rfl rfl ?_
 refine x3x rfl y6y rfl rfl ?_
 refine y5y rfl rfl ?_
 refine y9y rfl rfl rfl (a5r ..) ?_
 refine z0z rfl rfl ?_
 refine x2x rfl ?_
 refine y0y ⟨.inr rfl, ?_⟩
 refine y8y rfl ?_ rfl
 exact congrArg (fun b : Bool => [AV.pv (.bool b)]) (decide_eq_decide.2 (by unfold b5w; omega))
theorem a3u (a b : Ev) : s8s Tryz.prog 131 [.agg (v6v a), .agg (v6v b)] (.pv (.bool (a1g a b))) := by
 refine z1z x6x (fn := Tryz.f131) (by kernel_rfl) (by kernel_rfl) rfl (outs := [.pv (.bool (a1g a b))]) (by rfl) (Nat.le_of_ble_eq_true rfl) 2 ?_
 refine x4x x6x (by rfl) ?_
 refine v1v (id := 0) rfl rfl rfl ?_
 refine v1v (id := 1) rfl rfl rfl ?_
 refine x2x rfl ?_
 refine x5x fun K1 hK1 => ?_
 refine y7y ?_
 refine x4x x6x (by rfl) ?_
 refine x0x rfl z3z rfl rfl y6y rfl rfl ?_
 refine x3x rfl y6y rfl rfl ?_
 refine x0x rfl z3z rfl rfl y6y rfl rfl ?_
 refine x3x rfl y6y rfl rfl ?_
 refine y1y rfl rfl rfl ?_
 refine x2x rfl ?_
 refine x8x rfl (fun hc2 => ?_) (fun hc2 => ?_)
 ·try simp at hc2
  refine x4x x6x (by rfl) ?_
  refine x0x rfl z3z rfl rfl y6y rfl rfl ?_
  refine x3x rfl y6y rfl rfl ?_
  refine x0x rfl z3z rfl rfl y6y rfl rfl ?_
  refine x3x rfl y6y rfl rfl ?_
  refine y1y rfl rfl rfl ?_
  refine x2x rfl ?_
  refine y0y ⟨.inr rfl, ?_⟩
  clear hK1 K1
  refine y8y rfl ?_ rfl
  rw [a7e]
  exact congrArg (fun b : Bool => [AV.pv (.bool b)]) (decide_eq_decide.2 (by unfold c8g; omega))
 try simp at hc2
 refine x4x x6x (by rfl) ?_
 refine x0x rfl z3z rfl rfl y6y rfl rfl ?_
 refine x3x rfl y6y rfl rfl ?_
 refine x0x rfl z3z rfl rfl y6y rfl rfl ?_
 refine x3x rfl y6y rfl rfl ?_
 refine y1y rfl rfl rfl ?_
 refine x2x rfl ?_
 refine x8x rfl (fun hc3 => ?_) (fun hc3 => ?_)
 ·try simp at hc3
  refine x4x x6x (by rfl) ?_
  refine x0x rfl z3z rfl rfl y6y rfl rfl ?_
  refine x3x rfl y6y rfl rfl ?_
  refine x0x rfl z3z rfl rfl y6y rfl rfl ?_
  refine x3x rfl y6y rfl rfl ?_
  refine y1y rfl rfl rfl ?_
  refine x2x rfl ?_
  refine y0y ⟨.inr rfl, ?_⟩
  clear hK1 K1
  refine y8y rfl ?_ rfl
  rw [a7e]
  exact congrArg (fun b : Bool => [AV.pv (.bool b)]) (decide_eq_decide.2 (by unfold c8g; omega))
 try simp at hc3
 refine x4x x6x (by rfl) ?_
 refine x0x rfl z3z rfl rfl y6y rfl rfl ?_
 refine x3x rfl y6y rfl rfl ?_
 refine x0x rfl z3z rfl rfl y6y rfl rfl ?_
 refine x3x rfl y6y rfl rfl ?_
 refine y1y rfl rfl rfl ?_
 refine x2x rfl ?_
 refine x8x rfl (fun hc4 => ?_) (fun hc4 => ?_)
 ·try simp at hc4
  refine x4x x6x (by rfl) ?_
  refine x0x rfl z3z rfl rfl y6y rfl rfl ?_
  refine x3x rfl y6y rfl rfl ?_
  refine x0x rfl z3z rfl rfl y6y rfl rfl ?_
  refine x3x rfl y6y rfl rfl ?_
  refine y1y rfl rfl rfl ?_
  refine x2x rfl ?_
  refine y0y ⟨.inr rfl, ?_⟩
  clear hK1 K1
  refine y8y rfl ?_ rfl
  rw [a7e]
  exact congrArg (fun b : Bool => [AV.pv (.bool b)]) (decide_eq_decide.2 (by unfold c8g; omega))
 try simp at hc4
 refine x4x x6x (by rfl) ?_
 refine x0x rfl z3z rfl rfl y6y rfl rfl ?_
 refine x3x rfl y6y rfl rfl ?_
 refine x0x rfl z3z rfl rfl y6y rfl rfl ?_
 refine x3x rfl y6y rfl rfl ?_
 refine y1y rfl rfl rfl ?_
 refine x2x rfl ?_
 refine x8x rfl (fun hc5 => ?_) (fun hc5 => ?_)
 ·try simp at hc5
  refine x4x x6x (by rfl) ?_
  refine x0x rfl z3z rfl rfl y6y rfl rfl ?_
  refine x3x rfl y6y rfl rfl ?_
  refine x0x rfl z3z rfl rfl y6y rfl rfl ?_
  refine x3x rfl y6y rfl rfl ?_
  refine y1y rfl rfl rfl ?_
  refine x2x rfl ?_
  refine y0y ⟨.inr rfl, ?_⟩
  clear hK1 K1
  refine y8y rfl ?_ rfl
  rw [a7e]
  exact congrArg (fun b : Bool => [AV.pv (.bool b)]) (decide_eq_decide.2 (by unfold c8g; omega))
 try simp at hc5
 refine x4x x6x (by rfl) ?_
 refine x0x rfl z3z rfl rfl y6y rfl rfl ?_
 refine x3x rfl y6y rfl rfl ?_
 refine x0x rfl z3z rfl rfl y6y rfl rfl ?_
 refine x3x rfl y6y rfl rfl ?_
 refine y1y rfl rfl rfl ?_
 refine x2x rfl ?_
 refine x8x rfl (fun hc6 => ?_) (fun hc6 => ?_)
 ·try simp at hc6
  refine x4x x6x (by rfl) ?_
  refine x0x rfl z3z rfl rfl y6y rfl rfl ?_
  refine x3x rfl y6y rfl rfl ?_
  refine x0x rfl z3z rfl rfl y6y rfl rfl ?_
  refine x3x rfl y6y rfl rfl ?_
  refine y1y rfl rfl rfl ?_
  refine x2x rfl ?_
  refine y0y ⟨.inr rfl, ?_⟩
  clear hK1 K1
  refine y8y rfl ?_ rfl
  rw [a7e]
  exact congrArg (fun b : Bool => [AV.pv (.bool b)]) (decide_eq_decide.2 (by unfold c8g; omega))
 try simp at hc6
 refine x4x x6x (by rfl) ?_
 refine x0x rfl z3z rfl rfl y6y rfl rfl ?_
 refine x3x rfl y6y rfl rfl ?_
 refine x0x rfl z3z rfl rfl y6y rfl rfl ?_
 refine x3x rfl y6y rfl rfl ?_
 refine y1y rfl rfl rfl ?_
 refine x2x rfl ?_
 refine x8x rfl (fun hc7 => ?_) (fun hc7 => ?_)
 ·try simp at hc7
  refine x4x x6x (by rfl) ?_
  refine x0x rfl z3z rfl rfl y6y rfl rfl ?_
  refine x3x rfl y6y rfl rfl ?_
  refine x0x rfl z3z rfl rfl y6y rfl rfl ?_
  refine x3x rfl y6y rfl rfl ?_
  refine y1y rfl rfl rfl ?_
  refine x2x rfl ?_
  refine y0y ⟨.inr rfl, ?_⟩
  clear hK1 K1
  refine y8y rfl ?_ rfl
  rw [a7e]
  exact congrArg (fun b : Bool => [AV.pv (.bool b)]) (decide_eq_decide.2 (by unfold c8g; omega))
 try simp at hc7
 refine x9x ?_
 refine hK1 _ _ ?_
 clear hK1 K1
 refine x4x x6x (by rfl) ?_
 refine x0x rfl z3z rfl rfl y6y rfl rfl ?_
 refine x3x rfl y6y rfl rfl ?_
 refine x0x rfl z3z rfl rfl y6y rfl rfl ?_
 refine x3x rfl y6y rfl rfl ?_
 refine y1y rfl rfl rfl ?_
 refine x2x rfl ?_
 refine y0y ⟨.inr rfl, ?_⟩
 refine y8y rfl ?_ rfl
 rw [a7e]
 exact congrArg (fun b : Bool => [AV.pv (.bool b)]) (decide_eq_decide.2 (by unfold c8g; omega))
theorem b6s (a b : Ou) : s8s Tryz.prog 191 [.agg (s2s a), .agg (s2s b)] (.pv (.bool (b0c a b))) := by
 refine z1z x6x (fn := Tryz.f191) (by kernel_rfl) (by kernel_rfl) rfl (outs := [.pv (.bool (b0c a b))]) (by rfl) (Nat.le_of_ble_eq_true rfl) 2 ?_
 refine x4x x6x (by rfl) ?_
 refine v1v (id := 0) rfl rfl rfl ?_
 refine v1v (id := 1) rfl rfl rfl ?_
 refine x2x rfl ?_
 refine x5x fun K1 hK1 => ?_
 refine y7y ?_
 refine x4x x6x (by rfl) ?_
 refine x0x rfl v2v rfl rfl y6y rfl rfl ?_
 refine x3x rfl y6y rfl rfl ?_
 refine x0x rfl v2v rfl rfl y6y rfl rfl ?_
 refine x3x rfl y6y rfl rfl ?_
 refine y1y rfl rfl rfl ?_
 refine x2x rfl ?_
 refine x8x rfl (fun hc2 => ?_) (fun hc2 => ?_)
 ·try simp at hc2
  refine x4x x6x (by rfl) ?_
  refine x0x rfl v2v rfl rfl y6y rfl rfl ?_
  refine x3x rfl y6y rfl rfl ?_
  refine x0x rfl v2v rfl rfl y6y rfl rfl ?_
  refine x3x rfl y6y rfl rfl ?_
  refine y1y rfl rfl rfl ?_
  refine x2x rfl ?_
  refine y0y ⟨.inr rfl, ?_⟩
  clear hK1 K1
  refine y8y rfl ?_ rfl
  rw [a8t]
  exact congrArg (fun b : Bool => [AV.pv (.bool b)]) (decide_eq_decide.2 (by unfold c9g; omega))
 try simp at hc2
 refine x4x x6x (by rfl) ?_
 refine x0x rfl v2v rfl rfl y6y rfl rfl ?_
 refine x3x rfl y6y rfl rfl ?_
 refine x0x rfl v2v rfl rfl y6y rfl rfl ?_
 refine x3x rfl y6y rfl rfl ?_
 refine y1y rfl rfl rfl ?_
 refine x2x rfl ?_
 refine x8x rfl (fun hc3 => ?_) (fun hc3 => ?_)
 ·try simp at hc3
  refine x4x x6x (by rfl) ?_
  refine x0x rfl v2v rfl rfl y6y rfl rfl ?_
  refine x3x rfl y6y rfl rfl ?_
  refine x0x rfl v2v rfl rfl y6y rfl rfl ?_
  refine x3x rfl y6y rfl rfl ?_
  refine y1y rfl rfl rfl ?_
  refine x2x rfl ?_
  refine y0y ⟨.inr rfl, ?_⟩
  clear hK1 K1
  refine y8y rfl ?_ rfl
  rw [a8t]
  exact congrArg (fun b : Bool => [AV.pv (.bool b)]) (decide_eq_decide.2 (by unfold c9g; omega))
 try simp at hc3
 refine x4x x6x (by rfl) ?_
 refine x0x rfl v2v rfl rfl y6y rfl rfl ?_
 refine x3x rfl y6y rfl rfl ?_
 refine x0x rfl v2v rfl rfl y6y rfl rfl ?_
 refine x3x rfl y6y rfl rfl ?_
 refine y1y rfl rfl rfl ?_
 refine x2x rfl ?_
 refine x8x rfl (fun hc4 => ?_) (fun hc4 => ?_)
 ·try simp at hc4
  refine x4x x6x (by rfl) ?_
  refine x0x rfl v2v rfl rfl y6y rfl rfl ?_
  refine x3x rfl y6y rfl rfl ?_
  refine x0x rfl v2v rfl rfl y6y rfl rfl ?_
  refine x3x rfl y6y rfl rfl ?_
  refine y1y rfl rfl rfl ?_
  refine x2x rfl ?_
  refine y0y ⟨.inr rfl, ?_⟩
  clear hK1 K1
  refine y8y rfl ?_ rfl
  rw [a8t]
  exact congrArg (fun b : Bool => [AV.pv (.bool b)]) (decide_eq_decide.2 (by unfold c9g; omega))
 try simp at hc4
 refine x4x x6x (by rfl) ?_
 refine x0x rfl v2v rfl rfl y6y rfl rfl ?_
 refine x3x rfl y6y rfl rfl ?_
 refine x0x rfl v2v rfl rfl y6y rfl rfl ?_
 refine x3x rfl y6y rfl rfl ?_
 refine y1y rfl rfl rfl ?_
 refine x2x rfl ?_
 refine x8x rfl (fun hc5 => ?_) (fun hc5 => ?_)
 ·try simp at hc5
  refine x4x x6x (by rfl) ?_
  refine x0x rfl v2v rfl rfl y6y rfl rfl ?_
  refine x3x rfl y6y rfl rfl ?_
  refine x0x rfl v2v rfl rfl y6y rfl rfl ?_
  refine x3x rfl y6y rfl rfl ?_
  refine y1y rfl rfl rfl ?_
  refine x2x rfl ?_
  refine y0y ⟨.inr rfl, ?_⟩
  clear hK1 K1
  refine y8y rfl ?_ rfl
  rw [a8t]
  exact congrArg (fun b : Bool => [AV.pv (.bool b)]) (decide_eq_decide.2 (by unfold c9g; omega))
 try simp at hc5
 refine x9x ?_
 refine hK1 _ _ ?_
 clear hK1 K1
 refine x4x x6x (by rfl) ?_
 refine x0x rfl v2v rfl rfl y6y rfl rfl ?_
 refine x3x rfl y6y rfl rfl ?_
 refine x0x rfl v2v rfl rfl y6y rfl rfl ?_
 refine x3x rfl y6y rfl rfl ?_
 refine y1y rfl rfl rfl ?_
 refine x2x rfl ?_
 refine y0y ⟨.inr rfl, ?_⟩
 refine y8y rfl ?_ rfl
 rw [a8t]
 exact congrArg (fun b : Bool => [AV.pv (.bool b)]) (decide_eq_decide.2 (by unfold c9g; omega))
theorem b6t (a b : Ou) : s8s Tryz.prog 231 [.agg (s2s a), .agg (s2s b)] (.pv (.bool (b0c a b))) := by
 refine z1z x6x (fn := Tryz.f231) (by kernel_rfl) (by kernel_rfl) rfl (outs := [.pv (.bool (b0c a b))]) (by rfl) (Nat.le_of_ble_eq_true rfl) 4 ?_
 refine x4x x6x (by rfl) ?_
 refine v1v (id := 0) rfl rfl rfl ?_
 refine v1v (id := 1) rfl rfl rfl ?_
 refine x2x rfl ?_
 refine x4x x6x (by rfl) ?_
 refine x0x rfl v2v rfl rfl y6y rfl rfl ?_
 refine x3x rfl y6y rfl rfl ?_
 refine x0x rfl v2v rfl rfl y6y rfl rfl ?_
 refine x3x rfl y6y rfl rfl ?_
 refine x0x rfl v2v rfl rfl y6y rfl rfl ?_
 refine x3x rfl y6y rfl rfl ?_
 refine x0x rfl v2v rfl rfl y6y rfl rfl ?_
 refine x3x rfl y6y rfl rfl ?_
 refine x0x rfl v2v rfl rfl y6y rfl rfl ?_
 refine x3x rfl y6y rfl rfl ?_
 refine a9x x6x b2t rfl y6y c3r rfl (by simp only [pI, y6y, b2d, List.range, List.range.loop, List.map_cons, List.map_nil, a0f, p4p, AV.okc, AV.one, Value.oneCell', T3, T4, List.getElem?_cons_zero, List.getElem?_cons_succ, List.take_succ_cons, List.take_zero, List.drop_succ_cons, List.drop_zero, List.cons_append, List.nil_append, List.length_cons, List.length_nil, if_true, and_self, Nat.reduceAdd, Nat.reduceMul, Nat.reduceLeDiff]; rfl) ?_
 refine u8u (id := 2) b2t c3r rfl ?_
 refine z5z rfl rfl b2t rfl rfl rfl rfl ?_
 refine x4x x6x (by rfl) ?_
 refine x0x rfl v2v rfl rfl y6y rfl rfl ?_
 refine x3x rfl y6y rfl rfl ?_
 refine x0x rfl v2v rfl rfl y6y rfl rfl ?_
 refine x3x rfl y6y rfl rfl ?_
 refine x0x rfl v2v rfl rfl y6y rfl rfl ?_
 refine x3x rfl y6y rfl rfl ?_
 refine x0x rfl v2v rfl rfl y6y rfl rfl ?_
 refine x3x rfl y6y rfl rfl ?_
 refine x0x rfl v2v rfl rfl y6y rfl rfl ?_
 refine x3x rfl y6y rfl rfl ?_
 refine a9x x6x b2t rfl y6y c3r rfl (by simp only [pI, y6y, b2d, List.range, List.range.loop, List.map_cons, List.map_nil, a0f, p4p, AV.okc, AV.one, Value.oneCell', T3, T4, List.getElem?_cons_zero, List.getElem?_cons_succ, List.take_succ_cons, List.take_zero, List.drop_succ_cons, List.drop_zero, List.cons_append, List.nil_append, List.length_cons, List.length_nil, if_true, and_self, Nat.reduceAdd, Nat.reduceMul, Nat.reduceLeDiff]; rfl) ?_
 refine u8u (id := 3) b2t c3r rfl ?_
 refine z5z rfl rfl b2t rfl rfl rfl rfl ?_
 refine q7q x6x r4r (by rfl) ?_
 refine c3u x6x rfl b2t rfl y6y rfl ?_
 refine c3u x6x rfl b2t rfl y6y rfl ?_
 refine v5v [2, 3] [_, _] (a2j (ouL a) (ouL b) rfl (Nat.le_of_ble_eq_true rfl) 286) rfl rfl rfl (by decide) rfl rfl (by repeat (first | exact InH.nil | refine InH.cons rfl ?_)) (by (simp only [pI, List.map_cons, List.map_nil, u1u, u2u, gl, nx, q4q, Nat.beq, Nat.add_eq, List.getD_cons_zero, List.getD_cons_succ, List.getD_nil, Bool.or_false, Bool.false_or, Bool.true_or, Bool.or_true, Nat.add_zero, Nat.zero_add]; rfl)) (by (simp only [pI, List.map_cons, List.map_nil, u1u, u2u, gl, nx, q4q, Nat.beq, Nat.add_eq, List.getD_cons_zero, List.getD_cons_succ, List.getD_nil, Bool.or_false, Bool.false_or, Bool.true_or, Bool.or_true, Nat.add_zero, Nat.zero_add]; rfl)) ?_
 refine y1y rfl rfl rfl ?_
 refine x2x rfl ?_
 refine ⟨by kernel_rfl, ?_⟩
 refine y0y ⟨.inr rfl, ?_⟩
 refine y8y rfl ?_ rfl
 simp only [b0c, ← b8s (ouL a) (ouL b) rfl]
theorem a5d (c : Bool) (l : List Ev) (most : Int) : s8s Tryz.prog 203 [a1n c l, .pv (.int .i64 most)] (.pv (.bool (a6c okE a1g l most))) := by
 refine z1z x6x (fn := Tryz.f203) (by kernel_rfl) (by kernel_rfl) rfl (outs := [.pv (.bool (a6c okE a1g l most))]) (by rfl) (Nat.le_of_ble_eq_true rfl) 1 ?_
 refine w7w 0 rfl fun hlen => ?_
 refine x4x x6x (by rfl) ?_
 refine x2x rfl ?_
 refine x5x fun K1 hK1 => ?_
 refine x4x x6x (by rfl) ?_
 refine x1x rfl ?_
 refine u0u rfl u7u rfl ?_
 refine x1x rfl ?_
 refine y1y rfl rfl rfl ?_
 refine x8x rfl (fun hc2 => ?_) (fun hc2 => ?_)
 ·try simp at hc2
  refine x4x x6x (by rfl) ?_
  refine x2x rfl ?_
  refine y0y ⟨.inr rfl, ?_⟩
  clear hK1 K1
  refine y8y rfl ?_ rfl
  exact congrArg (fun b : Bool => [AV.pv (.bool b)]) (a8e (by omega)).symm
 try simp at hc2
 refine x9x ?_
 refine hK1 _ _ ?_
 clear hK1 K1
 refine x5x fun K3 hK3 => ?_
 refine x4x x6x (by rfl) ?_
 refine x1x rfl ?_
 refine u0u rfl u7u rfl ?_
 refine x1x rfl ?_
 refine y7y ?_
 refine u5u (ι := Nat) (fun i γ1 => [(13, .pv (.int .i64 (i : Int)))]) (fun i γ1 => [(0, ((γ1 0), .dead))]) (fun i => i ≤ l.length ∧ a6c okE a1g l most = a6b okE a1g (a7s l i) (l.drop i)) (fun i => l.length - i) (Cov.cons (t := 0) rfl (Cov.cons (t := 11) rfl (Cov.cons (t := 12) rfl Cov.nil))) HE.nil 0 ⟨by omega, b5g (by omega)⟩ [_] (Cov.cons (t := 13) rfl Cov.nil) (HE.kill rfl HE.nil) rfl fun i γ1 hi => ?_
 try dsimp only [List.cons_append, List.nil_append]
 obtain ⟨h1, h2⟩ := hi
 refine x4x x6x (by rfl) ?_
 refine y1y rfl rfl rfl ?_
 refine x5x fun K4 hK4 => ?_
 refine x8x rfl (fun hc5 => ?_) (fun hc5 => ?_)
 rotate_left
 ·try simp at hc5
  obtain rfl : i = l.length := by omega
  rw [List.drop_length] at h2
  refine v0v ?_
  refine hK3 _ _ ?_
  clear hK4 K4 hK3 K3
  refine x4x x6x (by rfl) ?_
  refine x2x rfl ?_
  refine y0y ⟨.inr rfl, ?_⟩
  refine y8y rfl ?_ rfl
  exact congrArg (fun b : Bool => [AV.pv (.bool b)]) h2.symm
 try simp at hc5
 obtain ⟨p, hp⟩ : ∃ p, l[i]? = some p := ⟨_, List.getElem?_eq_getElem (by omega)⟩
 rw [q1q hp] at h2
 refine x9x ?_
 refine hK4 _ _ ?_
 clear hK4 K4
 refine x5x fun K6 hK6 => ?_
 refine y7y ?_
 refine x4x x6x (by rfl) ?_
 refine x1x rfl ?_
 refine z7z rfl rfl u7u rfl z3z rfl hp ?_
 refine z6z rfl z3z rfl rfl ?_
 refine u8u (id := 0) z3z a7c rfl ?_
 refine x2x rfl ?_
 refine z5z rfl rfl z3z rfl rfl rfl rfl ?_
 refine q7q x6x r4r (by rfl) ?_
 refine y4y rfl z3z rfl rfl rfl ?_
 refine y9y rfl rfl rfl (a9l ..) ?_
 refine w3w rfl ?_
 refine x1x rfl ?_
 refine s1s rfl rfl (fun hg7 => ?_) (fun hg7 => ?_)
 rotate_left
 ·try simp at hg7
  have hbad : okE p = false := by simpa [okE] using hg7
  refine x7x rfl rfl ?_
  refine x7x rfl rfl ?_
  refine p5p rfl rfl ?_
  refine p5p rfl rfl ?_
  refine p5p rfl rfl ?_
  refine p5p rfl rfl ?_
  refine p5p rfl rfl ?_
  refine p5p rfl rfl ?_
  refine p5p rfl rfl ?_
  refine p5p rfl rfl ?_
  refine x7x rfl rfl ?_
  refine z0z rfl rfl ?_
  refine ⟨by kernel_rfl, ?_⟩
  refine x8x rfl (fun hc11 => ?_) (fun hc11 => ?_)
  rotate_left
  ·simp at hc11
  try simp at hc11
  try have hlt := hc11
  refine x4x x6x (by rfl) ?_
  refine x2x rfl ?_
  refine y0y ⟨.inr rfl, ?_⟩
  clear hK6 K6 hK3 K3
  refine y8y rfl ?_ rfl
  exact congrArg (fun b : Bool => [AV.pv (.bool b)]) (h2.trans (a2x _ _ hbad)).symm
 try simp at hg7
 have hok : okE p = true := by simpa [okE] using hg7
 refine x1x rfl ?_
 refine y5y rfl rfl ?_
 refine y1y rfl rfl rfl ?_
 refine y5y rfl rfl ?_
 refine x1x rfl ?_
 refine s1s rfl rfl (fun hg8 => ?_) (fun hg8 => ?_)
 rotate_left
 ·try simp at hg8
  have hi0 : i = 0 := by omega
  have hlast : a7s l i = none := by rw [hi0]; rfl
  rw [hlast] at h2
  refine x7x rfl rfl ?_
  refine x7x rfl rfl ?_
  refine x7x rfl rfl ?_
  refine x7x rfl rfl ?_
  refine x7x rfl rfl ?_
  refine x7x rfl rfl ?_
  refine x7x rfl rfl ?_
  refine y5y rfl rfl ?_
  refine y2y rfl rfl ?_
  refine y2y rfl rfl ?_
  refine ⟨by kernel_rfl, ?_⟩
  refine x8x rfl (fun hc10 => ?_) (fun hc10 => ?_)
  ·simp at hc10
  try simp at hc10
  try have hlt := hc10
  refine x9x ?_
  refine hK6 _ _ ?_
  clear hK6 K6
  refine y3y x6x (by rfl) ?_
  refine z9z (b := 1) rfl rfl (by omega) ?_
  refine x1x rfl ?_
  exact ⟨i + 1, ⟨⟨by omega, by rw [h2]; show _ = a6b okE a1g l[i]? _; rw [hp]; exact a4i _ _ hok⟩, by omega⟩, [_], (Cov.cons (t := 13) rfl Cov.nil), (Cov.cons (t := 0) rfl (Cov.cons (t := 11) rfl (Cov.cons (t := 12) rfl Cov.nil))), (HE.kill rfl HE.nil), HE.nil, rfl⟩
 try simp at hg8
 have hi0 : 0 < i := by omega
 obtain ⟨b, hb⟩ : ∃ b, l[i - 1]? = some b := ⟨_, List.getElem?_eq_getElem (by omega)⟩
 have hlast : a7s l i = some b := by obtain ⟨j, rfl⟩ : ∃ j, i = j + 1 := ⟨i - 1, by omega⟩; exact hb
 rw [hlast] at h2
 refine x1x rfl ?_
 refine y5y rfl rfl ?_
 refine x1x rfl ?_
 refine y5y rfl rfl ?_
 refine a0l (b := 1) rfl rfl (by omega) (by omega) ?_
 refine y5y rfl rfl ?_
 refine z7z rfl rfl u7u rfl z3z rfl hb ?_
 refine y5y rfl rfl ?_
 refine z6z rfl z3z rfl rfl ?_
 refine y5y rfl rfl ?_
 refine y4y rfl z3z rfl rfl rfl ?_
 refine y5y rfl rfl ?_
 refine y9y rfl rfl rfl (a7m ..) ?_
 refine y5y rfl rfl ?_
 refine w3w rfl ?_
 refine y5y rfl rfl ?_
 refine z0z rfl rfl ?_
 refine y2y rfl rfl ?_
 refine ⟨by kernel_rfl, ?_⟩
 refine x8x rfl (fun hc9 => ?_) (fun hc9 => ?_)
 rotate_left
 ·try simp at hc9
  try have hlt := hc9
  refine x9x ?_
  refine hK6 _ _ ?_
  clear hK6 K6
  refine y3y x6x (by rfl) ?_
  refine z9z (b := 1) rfl rfl (by omega) ?_
  refine x1x rfl ?_
  exact ⟨i + 1, ⟨⟨by omega, by rw [h2]; show _ = a6b okE a1g l[i]? _; rw [hp]; exact a6q _ _ hok hlt⟩, by omega⟩, [_], (Cov.cons (t := 13) rfl Cov.nil), (Cov.cons (t := 0) rfl (Cov.cons (t := 11) rfl (Cov.cons (t := 12) rfl Cov.nil))), (HE.kill rfl HE.nil), HE.nil, rfl⟩
 try simp at hc9
 try have hlt := hc9
 refine x4x x6x (by rfl) ?_
 refine x2x rfl ?_
 refine y0y ⟨.inr rfl, ?_⟩
 clear hK6 K6 hK3 K3
 refine y8y rfl ?_ rfl
 exact congrArg (fun b : Bool => [AV.pv (.bool b)]) (h2.trans (b2h _ _ hlt)).symm
theorem a2o (c : Bool) (l : List Ev) (most : Int) : s8s Tryz.prog 158 [a1n c l, .pv (.int .i64 most)] (.pv (.bool (a6c okE a1g l most))) := by
 refine z1z x6x (fn := Tryz.f158) (by kernel_rfl) (by kernel_rfl) rfl (outs := [.pv (.bool (a6c okE a1g l most))]) (by rfl) (Nat.le_of_ble_eq_true rfl) 0 ?_
 refine w7w 0 rfl fun hlen => ?_
 refine x4x x6x (by rfl) ?_
 refine x2x rfl ?_
 refine x5x fun K1 hK1 => ?_
 refine x4x x6x (by rfl) ?_
 refine x1x rfl ?_
 refine u0u rfl u7u rfl ?_
 refine x1x rfl ?_
 refine y1y rfl rfl rfl ?_
 refine x8x rfl (fun hc2 => ?_) (fun hc2 => ?_)
 ·try simp at hc2
  refine x4x x6x (by rfl) ?_
  refine x2x rfl ?_
  refine y0y ⟨.inr rfl, ?_⟩
  clear hK1 K1
  refine y8y rfl ?_ rfl
  exact congrArg (fun b : Bool => [AV.pv (.bool b)]) (a8e (by omega)).symm
 try simp at hc2
 refine x9x ?_
 refine hK1 _ _ ?_
 clear hK1 K1
 refine x5x fun K3 hK3 => ?_
 refine x4x x6x (by rfl) ?_
 refine x2x rfl ?_
 refine y7y ?_
 refine u5u (ι := Nat) (fun i γ1 => [(5, .pv (.int .i64 (i : Int)))]) (fun i γ1 => []) (fun i => i ≤ l.length ∧ a6c okE a1g l most = a6b okE a1g (a7s l i) (l.drop i)) (fun i => l.length - i) (Cov.cons (t := 0) rfl Cov.nil) HE.nil 0 ⟨by omega, b5g (by omega)⟩ [] (Cov.cons (t := 5) rfl Cov.nil) HE.nil rfl fun i γ1 hi => ?_
 try dsimp only [List.cons_append, List.nil_append]
 obtain ⟨h1, h2⟩ := hi
 refine x5x fun K4 hK4 => ?_
 refine x4x x6x (by rfl) ?_
 refine x1x rfl ?_
 refine x1x rfl ?_
 refine u0u rfl u7u rfl ?_
 refine y1y rfl rfl rfl ?_
 refine x8x rfl (fun hc5 => ?_) (fun hc5 => ?_)
 rotate_left
 ·try simp at hc5
  obtain rfl : i = l.length := by omega
  rw [List.drop_length] at h2
  refine v0v ?_
  refine hK3 _ _ ?_
  clear hK4 K4 hK3 K3
  refine x4x x6x (by rfl) ?_
  refine x2x rfl ?_
  refine y0y ⟨.inr rfl, ?_⟩
  refine y8y rfl ?_ rfl
  exact congrArg (fun b : Bool => [AV.pv (.bool b)]) h2.symm
 try simp at hc5
 obtain ⟨p, hp⟩ : ∃ p, l[i]? = some p := ⟨_, List.getElem?_eq_getElem (by omega)⟩
 rw [q1q hp] at h2
 refine x9x ?_
 refine hK4 _ _ ?_
 clear hK4 K4
 refine x5x fun K6 hK6 => ?_
 refine y7y ?_
 refine q7q x6x r4r (by rfl) ?_
 refine x1x rfl ?_
 refine x1x rfl ?_
 refine z7z rfl rfl u7u rfl z3z rfl hp ?_
 refine z6z rfl z3z rfl rfl ?_
 refine y9y rfl rfl rfl (a7p ..) ?_
 refine w3w rfl ?_
 refine x1x rfl ?_
 refine s1s rfl rfl (fun hg7 => ?_) (fun hg7 => ?_)
 rotate_left
 ·try simp at hg7
  have hbad : okE p = false := by simpa [okE] using hg7
  refine x7x rfl rfl ?_
  refine x7x rfl rfl ?_
  refine p5p rfl rfl ?_
  refine p5p rfl rfl ?_
  refine p5p rfl rfl ?_
  refine p5p rfl rfl ?_
  refine p5p rfl rfl ?_
  refine p5p rfl rfl ?_
  refine p5p rfl rfl ?_
  refine p5p rfl rfl ?_
  refine p5p rfl rfl ?_
  refine p5p rfl rfl ?_
  refine p5p rfl rfl ?_
  refine x7x rfl rfl ?_
  refine z0z rfl rfl ?_
  refine ⟨by kernel_rfl, ?_⟩
  refine x8x rfl (fun hc11 => ?_) (fun hc11 => ?_)
  rotate_left
  ·simp at hc11
  try simp at hc11
  try have hlt := hc11
  refine x4x x6x (by rfl) ?_
  refine x2x rfl ?_
  refine y0y ⟨.inr rfl, ?_⟩
  clear hK6 K6 hK3 K3
  refine y8y rfl ?_ rfl
  exact congrArg (fun b : Bool => [AV.pv (.bool b)]) (h2.trans (a2x _ _ hbad)).symm
 try simp at hg7
 have hok : okE p = true := by simpa [okE] using hg7
 refine x1x rfl ?_
 refine y5y rfl rfl ?_
 refine y1y rfl rfl rfl ?_
 refine y5y rfl rfl ?_
 refine x1x rfl ?_
 refine s1s rfl rfl (fun hg8 => ?_) (fun hg8 => ?_)
 rotate_left
 ·try simp at hg8
  have hi0 : i = 0 := by omega
  have hlast : a7s l i = none := by rw [hi0]; rfl
  rw [hlast] at h2
  refine x7x rfl rfl ?_
  refine x7x rfl rfl ?_
  refine x7x rfl rfl ?_
  refine x7x rfl rfl ?_
  refine x7x rfl rfl ?_
  refine x7x rfl rfl ?_
  refine x7x rfl rfl ?_
  refine x7x rfl rfl ?_
  refine x7x rfl rfl ?_
  refine x7x rfl rfl ?_
  refine y5y rfl rfl ?_
  refine y2y rfl rfl ?_
  refine y2y rfl rfl ?_
  refine ⟨by kernel_rfl, ?_⟩
  refine x8x rfl (fun hc10 => ?_) (fun hc10 => ?_)
  ·simp at hc10
  try simp at hc10
  try have hlt := hc10
  refine x9x ?_
  refine hK6 _ _ ?_
  clear hK6 K6
  refine y3y x6x (by rfl) ?_
  refine x1x rfl ?_
  refine z9z (b := 1) rfl rfl (by omega) ?_
  refine x2x rfl ?_
  exact ⟨i + 1, ⟨⟨by omega, by rw [h2]; show _ = a6b okE a1g l[i]? _; rw [hp]; exact a4i _ _ hok⟩, by omega⟩, [], (Cov.cons (t := 5) rfl Cov.nil), (Cov.cons (t := 0) rfl Cov.nil), HE.nil, HE.nil, rfl⟩
 try simp at hg8
 have hi0 : 0 < i := by omega
 obtain ⟨b, hb⟩ : ∃ b, l[i - 1]? = some b := ⟨_, List.getElem?_eq_getElem (by omega)⟩
 have hlast : a7s l i = some b := by obtain ⟨j, rfl⟩ : ∃ j, i = j + 1 := ⟨i - 1, by omega⟩; exact hb
 rw [hlast] at h2
 refine x1x rfl ?_
 refine y5y rfl rfl ?_
 refine x1x rfl ?_
 refine y5y rfl rfl ?_
 refine a0l (b := 1) rfl rfl (by omega) (by omega) ?_
 refine y5y rfl rfl ?_
 refine z7z rfl rfl u7u rfl z3z rfl hb ?_
 refine y5y rfl rfl ?_
 refine z6z rfl z3z rfl rfl ?_
 refine y5y rfl rfl ?_
 refine x1x rfl ?_
 refine y5y rfl rfl ?_
 refine x1x rfl ?_
 refine y5y rfl rfl ?_
 refine z7z rfl rfl u7u rfl z3z rfl hp ?_
 refine y5y rfl rfl ?_
 refine z6z rfl z3z rfl rfl ?_
 refine y5y rfl rfl ?_
 refine y9y rfl rfl rfl (a3u ..) ?_
 refine y5y rfl rfl ?_
 refine w3w rfl ?_
 refine y5y rfl rfl ?_
 refine z0z rfl rfl ?_
 refine y2y rfl rfl ?_
 refine ⟨by kernel_rfl, ?_⟩
 refine x8x rfl (fun hc9 => ?_) (fun hc9 => ?_)
 rotate_left
 ·try simp at hc9
  try have hlt := hc9
  refine x9x ?_
  refine hK6 _ _ ?_
  clear hK6 K6
  refine y3y x6x (by rfl) ?_
  refine x1x rfl ?_
  refine z9z (b := 1) rfl rfl (by omega) ?_
  refine x2x rfl ?_
  exact ⟨i + 1, ⟨⟨by omega, by rw [h2]; show _ = a6b okE a1g l[i]? _; rw [hp]; exact a6q _ _ hok hlt⟩, by omega⟩, [], (Cov.cons (t := 5) rfl Cov.nil), (Cov.cons (t := 0) rfl Cov.nil), HE.nil, HE.nil, rfl⟩
 try simp at hc9
 try have hlt := hc9
 refine x4x x6x (by rfl) ?_
 refine x2x rfl ?_
 refine y0y ⟨.inr rfl, ?_⟩
 clear hK6 K6 hK3 K3
 refine y8y rfl ?_ rfl
 exact congrArg (fun b : Bool => [AV.pv (.bool b)]) (h2.trans (b2h _ _ hlt)).symm
theorem b1q (c : Bool) (l : List Ou) (most : Int) : s8s Tryz.prog 215 [a3k c l, .pv (.int .i64 most)] (.pv (.bool (a6c okO b0c l most))) := by
 refine z1z x6x (fn := Tryz.f215) (by kernel_rfl) (by kernel_rfl) rfl (outs := [.pv (.bool (a6c okO b0c l most))]) (by rfl) (Nat.le_of_ble_eq_true rfl) 1 ?_
 refine w7w 0 rfl fun hlen => ?_
 refine x4x x6x (by rfl) ?_
 refine x2x rfl ?_
 refine x5x fun K1 hK1 => ?_
 refine x4x x6x (by rfl) ?_
 refine x1x rfl ?_
 refine u0u rfl w6w rfl ?_
 refine x1x rfl ?_
 refine y1y rfl rfl rfl ?_
 refine x8x rfl (fun hc2 => ?_) (fun hc2 => ?_)
 ·try simp at hc2
  refine x4x x6x (by rfl) ?_
  refine x2x rfl ?_
  refine y0y ⟨.inr rfl, ?_⟩
  clear hK1 K1
  refine y8y rfl ?_ rfl
  exact congrArg (fun b : Bool => [AV.pv (.bool b)]) (a8e (by omega)).symm
 try simp at hc2
 refine x9x ?_
 refine hK1 _ _ ?_
 clear hK1 K1
 refine x5x fun K3 hK3 => ?_
 refine x4x x6x (by rfl) ?_
 refine x1x rfl ?_
 refine u0u rfl w6w rfl ?_
 refine x1x rfl ?_
 refine y7y ?_
 refine u5u (ι := Nat) (fun i γ1 => [(14, .pv (.int .i64 (i : Int)))]) (fun i γ1 => [(0, ((γ1 0), .dead))]) (fun i => i ≤ l.length ∧ a6c okO b0c l most = a6b okO b0c (a7s l i) (l.drop i)) (fun i => l.length - i) (Cov.cons (t := 0) rfl (Cov.cons (t := 12) rfl (Cov.cons (t := 13) rfl Cov.nil))) HE.nil 0 ⟨by omega, b5g (by omega)⟩ [_] (Cov.cons (t := 14) rfl Cov.nil) (HE.kill rfl HE.nil) rfl fun i γ1 hi => ?_
 try dsimp only [List.cons_append, List.nil_append]
 obtain ⟨h1, h2⟩ := hi
 refine x4x x6x (by rfl) ?_
 refine y1y rfl rfl rfl ?_
 refine x5x fun K4 hK4 => ?_
 refine x8x rfl (fun hc5 => ?_) (fun hc5 => ?_)
 rotate_left
 ·try simp at hc5
  obtain rfl : i = l.length := by omega
  rw [List.drop_length] at h2
  refine v0v ?_
  refine hK3 _ _ ?_
  clear hK4 K4 hK3 K3
  refine x4x x6x (by rfl) ?_
  refine x2x rfl ?_
  refine y0y ⟨.inr rfl, ?_⟩
  refine y8y rfl ?_ rfl
  exact congrArg (fun b : Bool => [AV.pv (.bool b)]) h2.symm
 try simp at hc5
 obtain ⟨p, hp⟩ : ∃ p, l[i]? = some p := ⟨_, List.getElem?_eq_getElem (by omega)⟩
 rw [q1q hp] at h2
 refine x9x ?_
 refine hK4 _ _ ?_
 clear hK4 K4
 refine x5x fun K6 hK6 => ?_
 refine y7y ?_
 refine x4x x6x (by rfl) ?_
 refine x1x rfl ?_
 refine z7z rfl rfl w6w rfl v2v rfl hp ?_
 refine z6z rfl v2v rfl rfl ?_
 refine u8u (id := 0) v2v b7h rfl ?_
 refine x2x rfl ?_
 refine z5z rfl rfl v2v rfl rfl rfl rfl ?_
 refine b2a (ι := Unit) (fun _i γ2 => [(7, .pv (.bool (okO p)))]) (fun _i γ2 => []) (fun _i => True) (Cov.cons (t := 0) rfl (Cov.cons (t := 5) rfl (Cov.cons (t := 6) rfl (Cov.cons (t := 12) rfl (Cov.cons (t := 13) rfl (Cov.cons (t := 14) rfl Cov.nil)))))) (HE.same (id := 0) rfl HE.nil) ?_ fun _i γ2 hi => ?_
 ·refine y3y x6x (by rfl) ?_
  refine x0x rfl v2v rfl rfl y6y rfl rfl ?_
  refine x3x rfl y6y rfl rfl ?_
  refine y9y rfl rfl rfl (w5w ..) ?_
  refine x1x rfl ?_
  refine s1s rfl rfl (fun hg7 => ?_) (fun hg7 => ?_)
  rotate_left
  ·try simp at hg7
   refine x7x rfl rfl ?_
   refine x7x rfl rfl ?_
   refine y2y rfl rfl ?_
   refine x1x rfl ?_
   refine x7x rfl rfl ?_
   refine x7x rfl rfl ?_
   refine x7x rfl rfl ?_
   refine y2y rfl rfl ?_
   refine x1x rfl ?_
   refine x7x rfl rfl ?_
   refine x7x rfl rfl ?_
   refine x7x rfl rfl ?_
   refine y2y rfl rfl ?_
   refine x1x rfl ?_
   refine x7x rfl rfl ?_
   refine x7x rfl rfl ?_
   refine x7x rfl rfl ?_
   refine y2y rfl rfl ?_
   refine x2x rfl ?_
   exact ⟨(), trivial, [], (Cov.cons' (t := 7) rfl (by exact congrArg (fun b : Bool => AV.pv (.bool b)) (decide_eq_false (by unfold c4g; omega)).symm) Cov.nil), (Cov.cons (t := 0) rfl (Cov.cons (t := 5) rfl (Cov.cons (t := 6) rfl (Cov.cons (t := 12) rfl (Cov.cons (t := 13) rfl (Cov.cons (t := 14) rfl Cov.nil)))))), HE.nil, (HE.same (id := 0) rfl HE.nil), rfl⟩
  try simp at hg7
  refine x0x rfl v2v rfl rfl y6y rfl rfl ?_
  refine y5y rfl rfl ?_
  refine x3x rfl y6y rfl rfl ?_
  refine y5y rfl rfl ?_
  refine y9y rfl rfl rfl (a4e ..) ?_
  refine z0z rfl rfl ?_
  refine x1x rfl ?_
  refine s1s rfl rfl (fun hg8 => ?_) (fun hg8 => ?_)
  rotate_left
  ·try simp at hg8
   refine x7x rfl rfl ?_
   refine x7x rfl rfl ?_
   refine y2y rfl rfl ?_
   refine x1x rfl ?_
   refine x7x rfl rfl ?_
   refine x7x rfl rfl ?_
   refine x7x rfl rfl ?_
   refine y2y rfl rfl ?_
   refine x1x rfl ?_
   refine x7x rfl rfl ?_
   refine x7x rfl rfl ?_
   refine x7x rfl rfl ?_
   refine y2y rfl rfl ?_
   refine x2x rfl ?_
   exact ⟨(), trivial, [], (Cov.cons' (t := 7) rfl (by exact congrArg (fun b : Bool => AV.pv (.bool b)) (decide_eq_false (by unfold c4g; omega)).symm) Cov.nil), (Cov.cons (t := 0) rfl (Cov.cons (t := 5) rfl (Cov.cons (t := 6) rfl (Cov.cons (t := 12) rfl (Cov.cons (t := 13) rfl (Cov.cons (t := 14) rfl Cov.nil)))))), HE.nil, (HE.same (id := 0) rfl HE.nil), rfl⟩
  try simp at hg8
  refine x0x rfl v2v rfl rfl y6y rfl rfl ?_
  refine y5y rfl rfl ?_
  refine x3x rfl y6y rfl rfl ?_
  refine y5y rfl rfl ?_
  refine y9y rfl rfl rfl (w5w ..) ?_
  refine z0z rfl rfl ?_
  refine x1x rfl ?_
  refine s1s rfl rfl (fun hg9 => ?_) (fun hg9 => ?_)
  rotate_left
  ·try simp at hg9
   refine x7x rfl rfl ?_
   refine x7x rfl rfl ?_
   refine y2y rfl rfl ?_
   refine x1x rfl ?_
   refine x7x rfl rfl ?_
   refine x7x rfl rfl ?_
   refine x7x rfl rfl ?_
   refine y2y rfl rfl ?_
   refine x2x rfl ?_
   exact ⟨(), trivial, [], (Cov.cons' (t := 7) rfl (by exact congrArg (fun b : Bool => AV.pv (.bool b)) (decide_eq_false (by unfold c4g; omega)).symm) Cov.nil), (Cov.cons (t := 0) rfl (Cov.cons (t := 5) rfl (Cov.cons (t := 6) rfl (Cov.cons (t := 12) rfl (Cov.cons (t := 13) rfl (Cov.cons (t := 14) rfl Cov.nil)))))), HE.nil, (HE.same (id := 0) rfl HE.nil), rfl⟩
  try simp at hg9
  refine x0x rfl v2v rfl rfl y6y rfl rfl ?_
  refine y5y rfl rfl ?_
  refine x3x rfl y6y rfl rfl ?_
  refine y5y rfl rfl ?_
  refine y9y rfl rfl rfl (w5w ..) ?_
  refine z0z rfl rfl ?_
  refine x1x rfl ?_
  refine s1s rfl rfl (fun hg10 => ?_) (fun hg10 => ?_)
  rotate_left
  ·try simp at hg10
   refine x7x rfl rfl ?_
   refine x7x rfl rfl ?_
   refine y2y rfl rfl ?_
   refine x2x rfl ?_
   exact ⟨(), trivial, [], (Cov.cons' (t := 7) rfl (by exact congrArg (fun b : Bool => AV.pv (.bool b)) (decide_eq_false (by unfold c4g; omega)).symm) Cov.nil), (Cov.cons (t := 0) rfl (Cov.cons (t := 5) rfl (Cov.cons (t := 6) rfl (Cov.cons (t := 12) rfl (Cov.cons (t := 13) rfl (Cov.cons (t := 14) rfl Cov.nil)))))), HE.nil, (HE.same (id := 0) rfl HE.nil), rfl⟩
  try simp at hg10
  refine x0x rfl v2v rfl rfl y6y rfl rfl ?_
  refine y5y rfl rfl ?_
  refine x3x rfl y6y rfl rfl ?_
  refine y5y rfl rfl ?_
  refine y9y rfl rfl rfl (a5q ..) ?_
  refine z0z rfl rfl ?_
  refine x2x rfl ?_
  exact ⟨(), trivial, [], (Cov.cons' (t := 7) rfl (by exact congrArg (fun b : Bool => AV.pv (.bool b)) (decide_eq_decide.2 (by unfold c4g; omega))) Cov.nil), (Cov.cons (t := 0) rfl (Cov.cons (t := 5) rfl (Cov.cons (t := 6) rfl (Cov.cons (t := 12) rfl (Cov.cons (t := 13) rfl (Cov.cons (t := 14) rfl Cov.nil)))))), HE.nil, (HE.same (id := 0) rfl HE.nil), rfl⟩
 ·try dsimp only [List.cons_append, List.nil_append]
  refine q7q x6x r4r (by rfl) ?_
  refine x1x rfl ?_
  refine w3w rfl ?_
  refine x1x rfl ?_
  refine s1s rfl rfl (fun hg11 => ?_) (fun hg11 => ?_)
  rotate_left
  ·try simp at hg11
   have hbad : okO p = false := by simpa [okO] using hg11
   refine x7x rfl rfl ?_
   refine x7x rfl rfl ?_
   refine p5p rfl rfl ?_
   refine p5p rfl rfl ?_
   refine p5p rfl rfl ?_
   refine p5p rfl rfl ?_
   refine p5p rfl rfl ?_
   refine p5p rfl rfl ?_
   refine p5p rfl rfl ?_
   refine p5p rfl rfl ?_
   refine x7x rfl rfl ?_
   refine z0z rfl rfl ?_
   refine ⟨by kernel_rfl, ?_⟩
   refine x8x rfl (fun hc15 => ?_) (fun hc15 => ?_)
   rotate_left
   ·simp at hc15
   try simp at hc15
   try have hlt := hc15
   refine x4x x6x (by rfl) ?_
   refine x2x rfl ?_
   refine y0y ⟨.inr rfl, ?_⟩
   clear hK6 K6 hK3 K3
   refine y8y rfl ?_ rfl
   exact congrArg (fun b : Bool => [AV.pv (.bool b)]) (h2.trans (a2x _ _ hbad)).symm
  try simp at hg11
  have hok : okO p = true := by simpa [okO] using hg11
  refine x1x rfl ?_
  refine y5y rfl rfl ?_
  refine y1y rfl rfl rfl ?_
  refine y5y rfl rfl ?_
  refine x1x rfl ?_
  refine s1s rfl rfl (fun hg12 => ?_) (fun hg12 => ?_)
  rotate_left
  ·try simp at hg12
   have hi0 : i = 0 := by omega
   have hlast : a7s l i = none := by rw [hi0]; rfl
   rw [hlast] at h2
   refine x7x rfl rfl ?_
   refine x7x rfl rfl ?_
   refine x7x rfl rfl ?_
   refine x7x rfl rfl ?_
   refine x7x rfl rfl ?_
   refine x7x rfl rfl ?_
   refine x7x rfl rfl ?_
   refine y5y rfl rfl ?_
   refine y2y rfl rfl ?_
   refine y2y rfl rfl ?_
   refine ⟨by kernel_rfl, ?_⟩
   refine x8x rfl (fun hc14 => ?_) (fun hc14 => ?_)
   ·simp at hc14
   try simp at hc14
   try have hlt := hc14
   refine x9x ?_
   refine hK6 _ _ ?_
   clear hK6 K6
   refine y3y x6x (by rfl) ?_
   refine z9z (b := 1) rfl rfl (by omega) ?_
   refine x1x rfl ?_
   exact ⟨i + 1, ⟨⟨by omega, by rw [h2]; show _ = a6b okO b0c l[i]? _; rw [hp]; exact a4i _ _ hok⟩, by omega⟩, [_], (Cov.cons (t := 14) rfl Cov.nil), (Cov.cons (t := 0) rfl (Cov.cons (t := 12) rfl (Cov.cons (t := 13) rfl Cov.nil))), (HE.kill rfl HE.nil), HE.nil, rfl⟩
  try simp at hg12
  have hi0 : 0 < i := by omega
  obtain ⟨b, hb⟩ : ∃ b, l[i - 1]? = some b := ⟨_, List.getElem?_eq_getElem (by omega)⟩
  have hlast : a7s l i = some b := by obtain ⟨j, rfl⟩ : ∃ j, i = j + 1 := ⟨i - 1, by omega⟩; exact hb
  rw [hlast] at h2
  refine x1x rfl ?_
  refine y5y rfl rfl ?_
  refine x1x rfl ?_
  refine y5y rfl rfl ?_
  refine a0l (b := 1) rfl rfl (by omega) (by omega) ?_
  refine y5y rfl rfl ?_
  refine z7z rfl rfl w6w rfl v2v rfl hb ?_
  refine y5y rfl rfl ?_
  refine z6z rfl v2v rfl rfl ?_
  refine y5y rfl rfl ?_
  refine y4y rfl v2v rfl rfl rfl ?_
  refine y5y rfl rfl ?_
  refine y9y rfl rfl rfl (b6t ..) ?_
  refine y5y rfl rfl ?_
  refine w3w rfl ?_
  refine y5y rfl rfl ?_
  refine z0z rfl rfl ?_
  refine y2y rfl rfl ?_
  refine ⟨by kernel_rfl, ?_⟩
  refine x8x rfl (fun hc13 => ?_) (fun hc13 => ?_)
  rotate_left
  ·try simp at hc13
   try have hlt := hc13
   refine x9x ?_
   refine hK6 _ _ ?_
   clear hK6 K6
   refine y3y x6x (by rfl) ?_
   refine z9z (b := 1) rfl rfl (by omega) ?_
   refine x1x rfl ?_
   exact ⟨i + 1, ⟨⟨by omega, by rw [h2]; show _ = a6b okO b0c l[i]? _; rw [hp]; exact a6q _ _ hok hlt⟩, by omega⟩, [_], (Cov.cons (t := 14) rfl Cov.nil), (Cov.cons (t := 0) rfl (Cov.cons (t := 12) rfl (Cov.cons (t := 13) rfl Cov.nil))), (HE.kill rfl HE.nil), HE.nil, rfl⟩
  try simp at hc13
  try have hlt := hc13
  refine x4x x6x (by rfl) ?_
  refine x2x rfl ?_
  refine y0y ⟨.inr rfl, ?_⟩
  clear hK6 K6 hK3 K3
  refine y8y rfl ?_ rfl
  exact congrArg (fun b : Bool => [AV.pv (.bool b)]) (h2.trans (b2h _ _ hlt)).symm
theorem b1r (c : Bool) (l : List Ou) (most : Int) : s8s Tryz.prog 159 [a3k c l, .pv (.int .i64 most)] (.pv (.bool (a6c okO b0c l most))) := by
 refine z1z x6x (fn := Tryz.f159) (by kernel_rfl) (by kernel_rfl) rfl (outs := [.pv (.bool (a6c okO b0c l most))]) (by rfl) (Nat.le_of_ble_eq_true rfl) 1 ?_
 refine w7w 0 rfl fun hlen => ?_
 refine x4x x6x (by rfl) ?_
 refine x2x rfl ?_
 refine x5x fun K1 hK1 => ?_
 refine x4x x6x (by rfl) ?_
 refine x1x rfl ?_
 refine u0u rfl w6w rfl ?_
 refine x1x rfl ?_
 refine y1y rfl rfl rfl ?_
 refine x8x rfl (fun hc2 => ?_) (fun hc2 => ?_)
 ·try simp at hc2
  refine x4x x6x (by rfl) ?_
  refine x2x rfl ?_
  refine y0y ⟨.inr rfl, ?_⟩
  clear hK1 K1
  refine y8y rfl ?_ rfl
  exact congrArg (fun b : Bool => [AV.pv (.bool b)]) (a8e (by omega)).symm
 try simp at hc2
 refine x9x ?_
 refine hK1 _ _ ?_
 clear hK1 K1
 refine x5x fun K3 hK3 => ?_
 refine x4x x6x (by rfl) ?_
 refine x2x rfl ?_
 refine y7y ?_
 refine u5u (ι := Nat) (fun i γ1 => [(5, .pv (.int .i64 (i : Int)))]) (fun i γ1 => [(0, ((γ1 0), .dead))]) (fun i => i ≤ l.length ∧ a6c okO b0c l most = a6b okO b0c (a7s l i) (l.drop i)) (fun i => l.length - i) (Cov.cons (t := 0) rfl Cov.nil) HE.nil 0 ⟨by omega, b5g (by omega)⟩ [_] (Cov.cons (t := 5) rfl Cov.nil) (HE.kill rfl HE.nil) rfl fun i γ1 hi => ?_
 try dsimp only [List.cons_append, List.nil_append]
 obtain ⟨h1, h2⟩ := hi
 refine x5x fun K4 hK4 => ?_
 refine x4x x6x (by rfl) ?_
 refine x1x rfl ?_
 refine x1x rfl ?_
 refine u0u rfl w6w rfl ?_
 refine y1y rfl rfl rfl ?_
 refine x8x rfl (fun hc5 => ?_) (fun hc5 => ?_)
 rotate_left
 ·try simp at hc5
  obtain rfl : i = l.length := by omega
  rw [List.drop_length] at h2
  refine v0v ?_
  refine hK3 _ _ ?_
  clear hK4 K4 hK3 K3
  refine x4x x6x (by rfl) ?_
  refine x2x rfl ?_
  refine y0y ⟨.inr rfl, ?_⟩
  refine y8y rfl ?_ rfl
  exact congrArg (fun b : Bool => [AV.pv (.bool b)]) h2.symm
 try simp at hc5
 obtain ⟨p, hp⟩ : ∃ p, l[i]? = some p := ⟨_, List.getElem?_eq_getElem (by omega)⟩
 rw [q1q hp] at h2
 refine x9x ?_
 refine hK4 _ _ ?_
 clear hK4 K4
 refine x5x fun K6 hK6 => ?_
 refine y7y ?_
 refine x4x x6x (by rfl) ?_
 refine x1x rfl ?_
 refine x1x rfl ?_
 refine z7z rfl rfl w6w rfl v2v rfl hp ?_
 refine z6z rfl v2v rfl rfl ?_
 refine u8u (id := 0) v2v b7h rfl ?_
 refine z5z rfl rfl v2v rfl rfl rfl rfl ?_
 refine q7q x6x r4r (by rfl) ?_
 refine x0x rfl v2v rfl rfl y6y rfl rfl ?_
 refine x3x rfl y6y rfl rfl ?_
 refine y9y rfl rfl rfl (p7p ..) ?_
 refine w3w rfl ?_
 refine x1x rfl ?_
 refine s1s rfl rfl (fun hg7 => ?_) (fun hg7 => ?_)
 rotate_left
 ·try simp at hg7
  refine x7x rfl rfl ?_
  refine x7x rfl rfl ?_
  refine x7x rfl rfl ?_
  refine z0z rfl rfl ?_
  refine x1x rfl ?_
  refine x7x rfl rfl ?_
  refine x7x rfl rfl ?_
  refine x7x rfl rfl ?_
  refine x7x rfl rfl ?_
  refine z0z rfl rfl ?_
  refine x1x rfl ?_
  refine x7x rfl rfl ?_
  refine x7x rfl rfl ?_
  refine x7x rfl rfl ?_
  refine x7x rfl rfl ?_
  refine z0z rfl rfl ?_
  refine x1x rfl ?_
  refine x7x rfl rfl ?_
  refine x7x rfl rfl ?_
  refine x7x rfl rfl ?_
  refine x7x rfl rfl ?_
  refine z0z rfl rfl ?_
  refine x1x rfl ?_
  refine x7x rfl rfl ?_
  refine x7x rfl rfl ?_
  refine x7x rfl rfl ?_
  refine p5p rfl rfl ?_
  refine p5p rfl rfl ?_
  refine p5p rfl rfl ?_
  refine p5p rfl rfl ?_
  refine p5p rfl rfl ?_
  refine p5p rfl rfl ?_
  refine p5p rfl rfl ?_
  refine p5p rfl rfl ?_
  refine x7x rfl rfl ?_
  refine z0z rfl rfl ?_
  refine ⟨by kernel_rfl, ?_⟩
  refine x8x rfl (fun hc19 => ?_) (fun hc19 => ?_)
  rotate_left
  ·simp at hc19
  try simp at hc19
  try have hlt := hc19
  refine x4x x6x (by rfl) ?_
  refine x2x rfl ?_
  refine y0y ⟨.inr rfl, ?_⟩
  clear hK6 K6 hK3 K3
  refine y8y rfl ?_ rfl
  exact congrArg (fun b : Bool => [AV.pv (.bool b)]) (h2.trans (a2x _ _ (decide_eq_false (by unfold c4g; omega)))).symm
 try simp at hg7
 refine x0x rfl v2v rfl rfl y6y rfl rfl ?_
 refine y5y rfl rfl ?_
 refine x3x rfl y6y rfl rfl ?_
 refine y5y rfl rfl ?_
 refine y9y rfl rfl rfl (a4f ..) ?_
 refine y5y rfl rfl ?_
 refine w3w rfl ?_
 refine y2y rfl rfl ?_
 refine x1x rfl ?_
 refine s1s rfl rfl (fun hg8 => ?_) (fun hg8 => ?_)
 rotate_left
 ·try simp at hg8
  refine x7x rfl rfl ?_
  refine x7x rfl rfl ?_
  refine x7x rfl rfl ?_
  refine z0z rfl rfl ?_
  refine x1x rfl ?_
  refine x7x rfl rfl ?_
  refine x7x rfl rfl ?_
  refine x7x rfl rfl ?_
  refine x7x rfl rfl ?_
  refine z0z rfl rfl ?_
  refine x1x rfl ?_
  refine x7x rfl rfl ?_
  refine x7x rfl rfl ?_
  refine x7x rfl rfl ?_
  refine x7x rfl rfl ?_
  refine z0z rfl rfl ?_
  refine x1x rfl ?_
  refine x7x rfl rfl ?_
  refine x7x rfl rfl ?_
  refine x7x rfl rfl ?_
  refine p5p rfl rfl ?_
  refine p5p rfl rfl ?_
  refine p5p rfl rfl ?_
  refine p5p rfl rfl ?_
  refine p5p rfl rfl ?_
  refine p5p rfl rfl ?_
  refine p5p rfl rfl ?_
  refine p5p rfl rfl ?_
  refine x7x rfl rfl ?_
  refine z0z rfl rfl ?_
  refine ⟨by kernel_rfl, ?_⟩
  refine x8x rfl (fun hc18 => ?_) (fun hc18 => ?_)
  rotate_left
  ·simp at hc18
  try simp at hc18
  try have hlt := hc18
  refine x4x x6x (by rfl) ?_
  refine x2x rfl ?_
  refine y0y ⟨.inr rfl, ?_⟩
  clear hK6 K6 hK3 K3
  refine y8y rfl ?_ rfl
  exact congrArg (fun b : Bool => [AV.pv (.bool b)]) (h2.trans (a2x _ _ (decide_eq_false (by unfold c4g; omega)))).symm
 try simp at hg8
 refine x0x rfl v2v rfl rfl y6y rfl rfl ?_
 refine y5y rfl rfl ?_
 refine x3x rfl y6y rfl rfl ?_
 refine y5y rfl rfl ?_
 refine y9y rfl rfl rfl (p7p ..) ?_
 refine y5y rfl rfl ?_
 refine w3w rfl ?_
 refine y2y rfl rfl ?_
 refine x1x rfl ?_
 refine s1s rfl rfl (fun hg9 => ?_) (fun hg9 => ?_)
 rotate_left
 ·try simp at hg9
  refine x7x rfl rfl ?_
  refine x7x rfl rfl ?_
  refine x7x rfl rfl ?_
  refine z0z rfl rfl ?_
  refine x1x rfl ?_
  refine x7x rfl rfl ?_
  refine x7x rfl rfl ?_
  refine x7x rfl rfl ?_
  refine x7x rfl rfl ?_
  refine z0z rfl rfl ?_
  refine x1x rfl ?_
  refine x7x rfl rfl ?_
  refine x7x rfl rfl ?_
  refine x7x rfl rfl ?_
  refine p5p rfl rfl ?_
  refine p5p rfl rfl ?_
  refine p5p rfl rfl ?_
  refine p5p rfl rfl ?_
  refine p5p rfl rfl ?_
  refine p5p rfl rfl ?_
  refine p5p rfl rfl ?_
  refine p5p rfl rfl ?_
  refine x7x rfl rfl ?_
  refine z0z rfl rfl ?_
  refine ⟨by kernel_rfl, ?_⟩
  refine x8x rfl (fun hc17 => ?_) (fun hc17 => ?_)
  rotate_left
  ·simp at hc17
  try simp at hc17
  try have hlt := hc17
  refine x4x x6x (by rfl) ?_
  refine x2x rfl ?_
  refine y0y ⟨.inr rfl, ?_⟩
  clear hK6 K6 hK3 K3
  refine y8y rfl ?_ rfl
  exact congrArg (fun b : Bool => [AV.pv (.bool b)]) (h2.trans (a2x _ _ (decide_eq_false (by unfold c4g; omega)))).symm
 try simp at hg9
 refine x0x rfl v2v rfl rfl y6y rfl rfl ?_
 refine y5y rfl rfl ?_
 refine x3x rfl y6y rfl rfl ?_
 refine y5y rfl rfl ?_
 refine y9y rfl rfl rfl (p7p ..) ?_
 refine y5y rfl rfl ?_
 refine w3w rfl ?_
 refine y2y rfl rfl ?_
 refine x1x rfl ?_
 refine s1s rfl rfl (fun hg10 => ?_) (fun hg10 => ?_)
 rotate_left
 ·try simp at hg10
  refine x7x rfl rfl ?_
  refine x7x rfl rfl ?_
  refine x7x rfl rfl ?_
  refine z0z rfl rfl ?_
  refine x1x rfl ?_
  refine x7x rfl rfl ?_
  refine x7x rfl rfl ?_
  refine x7x rfl rfl ?_
  refine p5p rfl rfl ?_
  refine p5p rfl rfl ?_
  refine p5p rfl rfl ?_
  refine p5p rfl rfl ?_
  refine p5p rfl rfl ?_
  refine p5p rfl rfl ?_
  refine p5p rfl rfl ?_
  refine p5p rfl rfl ?_
  refine x7x rfl rfl ?_
  refine z0z rfl rfl ?_
  refine ⟨by kernel_rfl, ?_⟩
  refine x8x rfl (fun hc16 => ?_) (fun hc16 => ?_)
  rotate_left
  ·simp at hc16
  try simp at hc16
  try have hlt := hc16
  refine x4x x6x (by rfl) ?_
  refine x2x rfl ?_
  refine y0y ⟨.inr rfl, ?_⟩
  clear hK6 K6 hK3 K3
  refine y8y rfl ?_ rfl
  exact congrArg (fun b : Bool => [AV.pv (.bool b)]) (h2.trans (a2x _ _ (decide_eq_false (by unfold c4g; omega)))).symm
 try simp at hg10
 refine x0x rfl v2v rfl rfl y6y rfl rfl ?_
 refine y5y rfl rfl ?_
 refine x3x rfl y6y rfl rfl ?_
 refine y5y rfl rfl ?_
 refine y9y rfl rfl rfl (a5r ..) ?_
 refine y5y rfl rfl ?_
 refine w3w rfl ?_
 refine y2y rfl rfl ?_
 refine x1x rfl ?_
 refine s1s rfl rfl (fun hg11 => ?_) (fun hg11 => ?_)
 rotate_left
 ·try simp at hg11
  refine x7x rfl rfl ?_
  refine x7x rfl rfl ?_
  refine p5p rfl rfl ?_
  refine p5p rfl rfl ?_
  refine p5p rfl rfl ?_
  refine p5p rfl rfl ?_
  refine p5p rfl rfl ?_
  refine p5p rfl rfl ?_
  refine p5p rfl rfl ?_
  refine p5p rfl rfl ?_
  refine x7x rfl rfl ?_
  refine z0z rfl rfl ?_
  refine ⟨by kernel_rfl, ?_⟩
  refine x8x rfl (fun hc15 => ?_) (fun hc15 => ?_)
  rotate_left
  ·simp at hc15
  try simp at hc15
  try have hlt := hc15
  refine x4x x6x (by rfl) ?_
  refine x2x rfl ?_
  refine y0y ⟨.inr rfl, ?_⟩
  clear hK6 K6 hK3 K3
  refine y8y rfl ?_ rfl
  exact congrArg (fun b : Bool => [AV.pv (.bool b)]) (h2.trans (a2x _ _ (decide_eq_false (by unfold c4g; omega)))).symm
 try simp at hg11
 have hok : okO p = true := decide_eq_true (by unfold c4g; omega)
 refine x1x rfl ?_
 refine y5y rfl rfl ?_
 refine y1y rfl rfl rfl ?_
 refine y5y rfl rfl ?_
 refine x1x rfl ?_
 refine s1s rfl rfl (fun hg12 => ?_) (fun hg12 => ?_)
 rotate_left
 ·try simp at hg12
  have hi0 : i = 0 := by omega
  have hlast : a7s l i = none := by rw [hi0]; rfl
  rw [hlast] at h2
  refine x7x rfl rfl ?_
  refine x7x rfl rfl ?_
  refine x7x rfl rfl ?_
  refine x7x rfl rfl ?_
  refine x7x rfl rfl ?_
  refine x7x rfl rfl ?_
  refine x7x rfl rfl ?_
  refine y5y rfl rfl ?_
  refine y2y rfl rfl ?_
  refine y2y rfl rfl ?_
  refine ⟨by kernel_rfl, ?_⟩
  refine x8x rfl (fun hc14 => ?_) (fun hc14 => ?_)
  ·simp at hc14
  try simp at hc14
  try have hlt := hc14
  refine x9x ?_
  refine hK6 _ _ ?_
  clear hK6 K6
  refine y3y x6x (by rfl) ?_
  refine x1x rfl ?_
  refine z9z (b := 1) rfl rfl (by omega) ?_
  refine x2x rfl ?_
  exact ⟨i + 1, ⟨⟨by omega, by rw [h2]; show _ = a6b okO b0c l[i]? _; rw [hp]; exact a4i _ _ hok⟩, by omega⟩, [_], (Cov.cons (t := 5) rfl Cov.nil), (Cov.cons (t := 0) rfl Cov.nil), (HE.kill rfl HE.nil), HE.nil, rfl⟩
 try simp at hg12
 have hi0 : 0 < i := by omega
 obtain ⟨b, hb⟩ : ∃ b, l[i - 1]? = some b := ⟨_, List.getElem?_eq_getElem (by omega)⟩
 have hlast : a7s l i = some b := by obtain ⟨j, rfl⟩ : ∃ j, i = j + 1 := ⟨i - 1, by omega⟩; exact hb
 rw [hlast] at h2
 refine x1x rfl ?_
 refine y5y rfl rfl ?_
 refine x1x rfl ?_
 refine y5y rfl rfl ?_
 refine a0l (b := 1) rfl rfl (by omega) (by omega) ?_
 refine y5y rfl rfl ?_
 refine z7z rfl rfl w6w rfl v2v rfl hb ?_
 refine y5y rfl rfl ?_
 refine z6z rfl v2v rfl rfl ?_
 refine y5y rfl rfl ?_
 refine y4y rfl v2v rfl rfl rfl ?_
 refine y5y rfl rfl ?_
 refine y9y rfl rfl rfl (b6s ..) ?_
 refine y5y rfl rfl ?_
 refine w3w rfl ?_
 refine y5y rfl rfl ?_
 refine z0z rfl rfl ?_
 refine y2y rfl rfl ?_
 refine ⟨by kernel_rfl, ?_⟩
 refine x8x rfl (fun hc13 => ?_) (fun hc13 => ?_)
 rotate_left
 ·try simp at hc13
  try have hlt := hc13
  refine x9x ?_
  refine hK6 _ _ ?_
  clear hK6 K6
  refine y3y x6x (by rfl) ?_
  refine x1x rfl ?_
  refine z9z (b := 1) rfl rfl (by omega) ?_
  refine x2x rfl ?_
  exact ⟨i + 1, ⟨⟨by omega, by rw [h2]; show _ = a6b okO b0c l[i]? _; rw [hp]; exact a6q _ _ hok hlt⟩, by omega⟩, [_], (Cov.cons (t := 5) rfl Cov.nil), (Cov.cons (t := 0) rfl Cov.nil), (HE.kill rfl HE.nil), HE.nil, rfl⟩
 try simp at hc13
 try have hlt := hc13
 refine x4x x6x (by rfl) ?_
 refine x2x rfl ?_
 refine y0y ⟨.inr rfl, ?_⟩
 clear hK6 K6 hK3 K3
 refine y8y rfl ?_ rfl
 exact congrArg (fun b : Bool => [AV.pv (.bool b)]) (h2.trans (b2h _ _ hlt)).symm
end
end Go.Proofs.YtpadkogpeobboaaGreat.Am
