/- Part 4 of the texts that the proof of LawFnExactNodeSettle leans on, merged by program. -/
import Derived.Test.YtpadkogpeobboaaGreatKj3
set_option linter.unusedVariables false
set_option linter.unusedSimpArgs false
namespace Go.Proofs.YtpadkogpeobboaaGreat.Am
open Go Go.RowKit
section
theorem b0z (e : Ev) : a0o Tryz.prog 136 [.agg (w0w e)] (.agg (w0w e)) := by
 refine z4z x7x (fn := Tryz.f136) (by kernel_rfl) (by kernel_rfl) rfl (outs := [.agg (w0w e)]) (by rfl) (Nat.le_of_ble_eq_true rfl) 3 ?_
 refine x4x x7x (by rfl) ?_
 refine v5v (id := 0) rfl rfl rfl ?_
 refine u9u (id := 1) z1z a7o rfl ?_
 refine x4x x7x (by rfl) ?_
 refine u9u (id := 2) z1z a7o rfl ?_
 refine x4x x7x (by rfl) ?_
 refine x0x rfl a7n rfl rfl y9y rfl rfl ?_
 refine x3x rfl y9y rfl rfl ?_
 refine x0x rfl z1z rfl rfl y9y rfl rfl ?_
 refine u5u rfl rfl y9y rfl rfl rfl rfl rfl (by simp only [List.set_cons_zero, List.set_cons_succ]; rfl) ?_
 refine x4x x7x (by rfl) ?_
 refine x0x rfl a7n rfl rfl y9y rfl rfl ?_
 refine x3x rfl y9y rfl rfl ?_
 refine x0x rfl z1z rfl rfl y9y rfl rfl ?_
 refine u5u rfl rfl y9y rfl rfl rfl rfl rfl (by simp only [List.set_cons_zero, List.set_cons_succ]; rfl) ?_
 refine x4x x7x (by rfl) ?_
 refine x0x rfl a7n rfl rfl y9y rfl rfl ?_
 refine x3x rfl y9y rfl rfl ?_
 refine x0x rfl z1z rfl rfl y9y rfl rfl ?_
 refine u5u rfl rfl y9y rfl rfl rfl rfl rfl (by simp only [List.set_cons_zero, List.set_cons_succ]; rfl) ?_
 refine x4x x7x (by rfl) ?_
 refine x0x rfl a7n rfl rfl y9y rfl rfl ?_
 refine x3x rfl y9y rfl rfl ?_
 refine x0x rfl z1z rfl rfl y9y rfl rfl ?_
 refine u5u rfl rfl y9y rfl rfl rfl rfl rfl (by simp only [List.set_cons_zero, List.set_cons_succ]; rfl) ?_
 refine x4x x7x (by rfl) ?_
 refine x0x rfl a7n rfl rfl y9y rfl rfl ?_
 refine x3x rfl y9y rfl rfl ?_
 refine x0x rfl z1z rfl rfl y9y rfl rfl ?_
 refine u5u rfl rfl y9y rfl rfl rfl rfl rfl (by simp only [List.set_cons_zero, List.set_cons_succ]; rfl) ?_
 refine x4x x7x (by rfl) ?_
 refine x0x rfl a7n rfl rfl y9y rfl rfl ?_
 refine x3x rfl y9y rfl rfl ?_
 refine x0x rfl z1z rfl rfl y9y rfl rfl ?_
 refine u5u rfl rfl y9y rfl rfl rfl rfl rfl (by simp only [List.set_cons_zero, List.set_cons_succ]; rfl) ?_
 refine x4x x7x (by rfl) ?_
 refine x0x rfl a7n rfl rfl y9y rfl rfl ?_
 refine x3x rfl y9y rfl rfl ?_
 refine x0x rfl z1z rfl rfl y9y rfl rfl ?_
 refine u5u rfl rfl y9y rfl rfl rfl rfl rfl (by simp only [List.set_cons_zero, List.set_cons_succ]; rfl) ?_
 refine x4x x7x (by rfl) ?_
 refine y1y rfl z1z rfl rfl rfl ?_
 refine z2z rfl rfl z1z rfl rfl rfl rfl ?_
 refine y0y ⟨.inr rfl, ?_⟩
 exact b6j rfl rfl rfl rfl
theorem c4d (e : Ou) : a0o Tryz.prog 185 [.agg (r0r e)] (.agg (r0r e)) := by
 refine z4z x7x (fn := Tryz.f185) (by kernel_rfl) (by kernel_rfl) rfl (outs := [.agg (r0r e)]) (by rfl) (Nat.le_of_ble_eq_true rfl) 3 ?_
 refine x4x x7x (by rfl) ?_
 refine v5v (id := 0) rfl rfl rfl ?_
 refine u9u (id := 1) u0u b2j rfl ?_
 refine x4x x7x (by rfl) ?_
 refine u9u (id := 2) u0u b2j rfl ?_
 refine x4x x7x (by rfl) ?_
 refine x0x rfl b2i rfl rfl y9y rfl rfl ?_
 refine x3x rfl y9y rfl rfl ?_
 refine x0x rfl u0u rfl rfl y9y rfl rfl ?_
 refine u5u rfl rfl y9y rfl rfl rfl rfl rfl (by simp only [List.set_cons_zero, List.set_cons_succ]; rfl) ?_
 refine x4x x7x (by rfl) ?_
 refine x0x rfl b2i rfl rfl y9y rfl rfl ?_
 refine x3x rfl y9y rfl rfl ?_
 refine x0x rfl u0u rfl rfl y9y rfl rfl ?_
 refine u5u rfl rfl y9y rfl rfl rfl rfl rfl (by simp only [List.set_cons_zero, List.set_cons_succ]; rfl) ?_
 refine x4x x7x (by rfl) ?_
 refine x0x rfl b2i rfl rfl y9y rfl rfl ?_
 refine x3x rfl y9y rfl rfl ?_
 refine x0x rfl u0u rfl rfl y9y rfl rfl ?_
 refine u5u rfl rfl y9y rfl rfl rfl rfl rfl (by simp only [List.set_cons_zero, List.set_cons_succ]; rfl) ?_
 refine x4x x7x (by rfl) ?_
 refine x0x rfl b2i rfl rfl y9y rfl rfl ?_
 refine x3x rfl y9y rfl rfl ?_
 refine x0x rfl u0u rfl rfl y9y rfl rfl ?_
 refine u5u rfl rfl y9y rfl rfl rfl rfl rfl (by simp only [List.set_cons_zero, List.set_cons_succ]; rfl) ?_
 refine x4x x7x (by rfl) ?_
 refine x0x rfl b2i rfl rfl y9y rfl rfl ?_
 refine x3x rfl y9y rfl rfl ?_
 refine x0x rfl u0u rfl rfl y9y rfl rfl ?_
 refine u5u rfl rfl y9y rfl rfl rfl rfl rfl (by simp only [List.set_cons_zero, List.set_cons_succ]; rfl) ?_
 refine x4x x7x (by rfl) ?_
 refine y1y rfl u0u rfl rfl rfl ?_
 refine z2z rfl rfl u0u rfl rfl rfl rfl ?_
 refine y0y ⟨.inr rfl, ?_⟩
 exact b6j rfl rfl rfl rfl
theorem b1a (e : St) : a0o Tryz.prog 227 [.agg (a0b e)] (.agg (a0b e)) := by
 refine z4z x7x (fn := Tryz.f227) (by kernel_rfl) (by kernel_rfl) rfl (outs := [.agg (a0b e)]) (by rfl) (Nat.le_of_ble_eq_true rfl) 3 ?_
 refine x4x x7x (by rfl) ?_
 refine v5v (id := 0) rfl rfl rfl ?_
 refine u9u (id := 1) p5p d5b rfl ?_
 refine x4x x7x (by rfl) ?_
 refine u9u (id := 2) p5p d5b rfl ?_
 refine x4x x7x (by rfl) ?_
 refine x0x rfl b2h rfl rfl y9y rfl rfl ?_
 refine x3x rfl y9y rfl rfl ?_
 refine x0x rfl p5p rfl rfl y9y rfl rfl ?_
 refine u5u rfl rfl y9y rfl rfl rfl rfl rfl (by simp only [List.set_cons_zero, List.set_cons_succ]; rfl) ?_
 refine x4x x7x (by rfl) ?_
 refine x0x rfl b2h rfl rfl y9y rfl rfl ?_
 refine x3x rfl y9y rfl rfl ?_
 refine x0x rfl p5p rfl rfl y9y rfl rfl ?_
 refine u5u rfl rfl y9y rfl rfl rfl rfl rfl (by simp only [List.set_cons_zero, List.set_cons_succ]; rfl) ?_
 refine x4x x7x (by rfl) ?_
 refine x0x rfl b2h rfl rfl y9y rfl rfl ?_
 refine x3x rfl y9y rfl rfl ?_
 refine x0x rfl p5p rfl rfl y9y rfl rfl ?_
 refine u5u rfl rfl y9y rfl rfl rfl rfl rfl (by simp only [List.set_cons_zero, List.set_cons_succ]; rfl) ?_
 refine x4x x7x (by rfl) ?_
 refine y1y rfl p5p rfl rfl rfl ?_
 refine z2z rfl rfl p5p rfl rfl rfl rfl ?_
 refine y0y ⟨.inr rfl, ?_⟩
 exact b6j rfl rfl rfl rfl
theorem a6b (c : Bool) (l : List Ev) (hl : l.length ≤ 1048576) : Meth Tryz.prog 53 1 [] [a0i c l] [(0, (0, .dead))] (.ref 0 0) [(0, (0, .row 76 7 (l.map w0w)))] := by
 refine u8u x7x (fn := Tryz.f53) (by kernel_rfl) (by kernel_rfl) rfl (O0 := [.ref 0 0]) 1 0 (Nat.le_of_ble_eq_true rfl) (by rfl) (by repeat (first | exact BndH.nil | refine BndH.dead ?_)) (by repeat (first | exact BndH.nil | refine BndH.row (u3u fun _ => rfl) ?_)) (by rfl) fun γ => ?_
 show Ex Tryz.prog _ _ [(0, a0i c l)] [(0, ((γ 0), .dead))] _
 refine x4x x7x (by rfl) ?_
 refine x2x rfl ?_
 refine x4x x7x (by rfl) ?_
 refine x1x rfl ?_
 refine u2u rfl a8f rfl ?_
 refine a5o (id := 0) u6u rfl z1z a7o rfl rfl rfl rfl (by (simp only [List.length_map, List.length_append, List.length_cons, List.length_nil, List.length_take, T76]; omega)) rfl ?_
 refine x2x rfl ?_
 refine x5x fun K1 hK1 => ?_
 refine x4x x7x (by rfl) ?_
 refine x2x rfl ?_
 refine y6y ?_
 refine u4u (ι := Nat) (fun i γ1 => [(4, .pv (.int .i64 (i : Int)))]) (fun i γ1 => [(0, ((γ 0 + 1), .row 76 7 ((l.take i).map w0w ++ (l.drop i).map fun _ => [pI 0, pI 0, pI 0, pI 0, pI 0, pI 0, pI 0])))]) (fun i => i ≤ l.length) (fun i => l.length - i) (Cov.cons (t := 0) rfl (Cov.cons (t := 3) rfl Cov.nil)) HE.nil 0 (by omega) [] (Cov.cons (t := 4) rfl Cov.nil) (HE.row rfl (by rw [List.take_zero, List.drop_zero, List.map_const']; rfl) HE.nil) rfl fun i γ1 hi => ?_
 try dsimp only [List.cons_append, List.nil_append]
 refine x5x fun K2 hK2 => ?_
 refine x4x x7x (by rfl) ?_
 refine x1x rfl ?_
 refine x1x rfl ?_
 refine u2u rfl a8f rfl ?_
 refine y3y rfl rfl rfl ?_
 refine x8x rfl (fun hc3 => ?_) (fun hc3 => ?_)
 rotate_left
 ·try simp at hc3
  obtain rfl : i = l.length := by omega
  refine v0v ?_
  refine hK1 _ _ ?_
  clear hK2 K2 hK1 K1
  refine x4x x7x (by rfl) ?_
  refine x1x rfl ?_
  refine x2x rfl ?_
  refine y0y ?_
  exact ⟨.inr rfl, [_], rfl, rfl, HE.row rfl (by rw [List.take_length, List.drop_length, List.map_nil, List.append_nil]) HE.nil⟩
 try simp at hc3
 obtain ⟨p, hp⟩ : ∃ p, l[i]? = some p := ⟨_, List.getElem?_eq_getElem (by omega)⟩
 have hAl : ((l.take i).map w0w).length = i := by rw [List.length_map, List.length_take]; omega
 rw [q2q hp, List.map_cons]
 refine x9x ?_
 refine hK2 _ _ ?_
 clear hK2 K2
 refine x5x fun K4 hK4 => ?_
 refine y6y ?_
 refine y4y x7x (by rfl) ?_
 refine x1x rfl ?_
 refine x1x rfl ?_
 refine x1x rfl ?_
 refine x1x rfl ?_
 refine z7z rfl rfl a8f rfl a7n rfl (by assumption) ?_
 refine z6z rfl a7n rfl rfl ?_
 refine y7y rfl rfl rfl (b0z p) ?_
 refine q7q rfl rfl u6u rfl z1z rfl rfl hAl ?_
 refine a2h hAl rfl rfl z1z rfl rfl rfl rfl (a0t _) rfl ?_
 refine hK4 _ _ ?_
 clear hK4 K4
 refine y4y x7x (by rfl) ?_
 refine x1x rfl ?_
 refine y3y rfl rfl rfl ?_
 refine x2x rfl ?_
 exact ⟨i + 1, ⟨by omega, by omega⟩, [], (Cov.cons' (t := 4) rfl (by rw [v6v (by omega) (by omega)]; rfl) Cov.nil), (Cov.cons (t := 0) rfl (Cov.cons (t := 3) rfl Cov.nil)), (HE.row rfl (by rw [p1p hp, List.map_append, List.append_assoc]; rfl) HE.nil), HE.nil, rfl⟩
theorem b3d (c : Bool) (l : List Ou) (hl : l.length ≤ 1048576) : Meth Tryz.prog 101 1 [] [a0z c l] [(0, (0, .dead))] (.ref 0 0) [(0, (0, .row 104 5 (l.map r0r)))] := by
 refine u8u x7x (fn := Tryz.f101) (by kernel_rfl) (by kernel_rfl) rfl (O0 := [.ref 0 0]) 1 0 (Nat.le_of_ble_eq_true rfl) (by rfl) (by repeat (first | exact BndH.nil | refine BndH.dead ?_)) (by repeat (first | exact BndH.nil | refine BndH.row (u3u fun _ => rfl) ?_)) (by rfl) fun γ => ?_
 show Ex Tryz.prog _ _ [(0, a0z c l)] [(0, ((γ 0), .dead))] _
 refine x4x x7x (by rfl) ?_
 refine x2x rfl ?_
 refine x4x x7x (by rfl) ?_
 refine x1x rfl ?_
 refine u2u rfl b2g rfl ?_
 refine a5o (id := 0) u7u rfl u0u b2j rfl rfl rfl rfl (by (simp only [List.length_map, List.length_append, List.length_cons, List.length_nil, List.length_take, T104]; omega)) rfl ?_
 refine x2x rfl ?_
 refine x5x fun K1 hK1 => ?_
 refine x4x x7x (by rfl) ?_
 refine x2x rfl ?_
 refine y6y ?_
 refine u4u (ι := Nat) (fun i γ1 => [(4, .pv (.int .i64 (i : Int)))]) (fun i γ1 => [(0, ((γ 0 + 1), .row 104 5 ((l.take i).map r0r ++ (l.drop i).map fun _ => [pI 0, pI 0, pI 0, pI 0, pI 0])))]) (fun i => i ≤ l.length) (fun i => l.length - i) (Cov.cons (t := 0) rfl (Cov.cons (t := 3) rfl Cov.nil)) HE.nil 0 (by omega) [] (Cov.cons (t := 4) rfl Cov.nil) (HE.row rfl (by rw [List.take_zero, List.drop_zero, List.map_const']; rfl) HE.nil) rfl fun i γ1 hi => ?_
 try dsimp only [List.cons_append, List.nil_append]
 refine x5x fun K2 hK2 => ?_
 refine x4x x7x (by rfl) ?_
 refine x1x rfl ?_
 refine x1x rfl ?_
 refine u2u rfl b2g rfl ?_
 refine y3y rfl rfl rfl ?_
 refine x8x rfl (fun hc3 => ?_) (fun hc3 => ?_)
 rotate_left
 ·try simp at hc3
  obtain rfl : i = l.length := by omega
  refine v0v ?_
  refine hK1 _ _ ?_
  clear hK2 K2 hK1 K1
  refine x4x x7x (by rfl) ?_
  refine x1x rfl ?_
  refine x2x rfl ?_
  refine y0y ?_
  exact ⟨.inr rfl, [_], rfl, rfl, HE.row rfl (by rw [List.take_length, List.drop_length, List.map_nil, List.append_nil]) HE.nil⟩
 try simp at hc3
 obtain ⟨p, hp⟩ : ∃ p, l[i]? = some p := ⟨_, List.getElem?_eq_getElem (by omega)⟩
 have hAl : ((l.take i).map r0r).length = i := by rw [List.length_map, List.length_take]; omega
 rw [q2q hp, List.map_cons]
 refine x9x ?_
 refine hK2 _ _ ?_
 clear hK2 K2
 refine x5x fun K4 hK4 => ?_
 refine y6y ?_
 refine y4y x7x (by rfl) ?_
 refine x1x rfl ?_
 refine x1x rfl ?_
 refine x1x rfl ?_
 refine x1x rfl ?_
 refine z7z rfl rfl b2g rfl b2i rfl (by assumption) ?_
 refine z6z rfl b2i rfl rfl ?_
 refine y7y rfl rfl rfl (c4d p) ?_
 refine q7q rfl rfl u7u rfl u0u rfl rfl hAl ?_
 refine a2h hAl rfl rfl u0u rfl rfl rfl rfl (a0t _) rfl ?_
 refine hK4 _ _ ?_
 clear hK4 K4
 refine y4y x7x (by rfl) ?_
 refine x1x rfl ?_
 refine y3y rfl rfl rfl ?_
 refine x2x rfl ?_
 exact ⟨i + 1, ⟨by omega, by omega⟩, [], (Cov.cons' (t := 4) rfl (by rw [v6v (by omega) (by omega)]; rfl) Cov.nil), (Cov.cons (t := 0) rfl (Cov.cons (t := 3) rfl Cov.nil)), (HE.row rfl (by rw [p1p hp, List.map_append, List.append_assoc]; rfl) HE.nil), HE.nil, rfl⟩
theorem c1s (c : Bool) (p : Pa) (hs : p.sends.length ≤ 1048576) (ho : p.outs.length ≤ 1048576) : Meth Tryz.prog 253 2 [] [.agg (a2j c p)] [(0, (0, .dead)), (1, (0, .dead))] (.agg [pI p.ev.time, pI p.ev.to, pI p.ev.from', pI p.ev.count, pI p.ev.n, pI p.ev.kind, pI p.ev.arg, pI p.after.x, pI p.after.y, pI p.after.count, .ref 0 0, .ref 1 0]) [(0, (0, .row 76 7 (p.sends.map w0w))), (1, (0, .row 104 5 (p.outs.map r0r)))] := by
 refine u8u x7x (fn := Tryz.f253) (by kernel_rfl) (by kernel_rfl) rfl (O0 := [.agg [pI p.ev.time, pI p.ev.to, pI p.ev.from', pI p.ev.count, pI p.ev.n, pI p.ev.kind, pI p.ev.arg, pI p.after.x, pI p.after.y, pI p.after.count, .ref 0 0, .ref 1 0]]) 2 3 (Nat.le_of_ble_eq_true rfl) (by rfl) (by repeat (first | exact BndH.nil | refine BndH.dead ?_)) (by repeat (first | exact BndH.nil | refine BndH.row (u3u fun _ => rfl) ?_)) (by rfl) fun γ => ?_
 show Ex Tryz.prog _ _ [(0, .agg (a2j c p))] [(0, ((γ 0), .dead)), (1, ((γ 1), .dead)), (4, (0, .dead)), (3, (0, .dead)), (2, (0, .dead))] _
 refine x4x x7x (by rfl) ?_
 refine v5v (id := 2) rfl rfl rfl ?_
 refine u9u (id := 3) v8v b6f rfl ?_
 refine x4x x7x (by rfl) ?_
 refine u9u (id := 4) v8v b6f rfl ?_
 refine x4x x7x (by rfl) ?_
 refine x0x rfl a8u rfl rfl a7n rfl rfl ?_
 refine x3x (out := .agg (w0w p.ev)) rfl a7n rfl rfl ?_
 refine y7y rfl rfl rfl (b0z ..) ?_
 refine x0x rfl v8v rfl rfl z1z rfl rfl ?_
 refine a1g (cs' := [pI p.ev.time, pI p.ev.to, pI p.ev.from', pI p.ev.count, pI p.ev.n, pI p.ev.kind, pI p.ev.arg, pI 0, pI 0, pI 0, .pv (.slice none 0 0), .pv (.slice none 0 0)]) rfl rfl z1z rfl rfl rfl rfl (Nat.le_of_ble_eq_true rfl) rfl ?_
 refine x4x x7x (by rfl) ?_
 refine x0x rfl a8u rfl rfl b2h rfl rfl ?_
 refine x3x (out := .agg (a0b p.after)) rfl b2h rfl rfl ?_
 refine y7y rfl rfl rfl (b1a ..) ?_
 refine x0x rfl v8v rfl rfl p5p rfl rfl ?_
 refine a1g (cs' := [pI p.ev.time, pI p.ev.to, pI p.ev.from', pI p.ev.count, pI p.ev.n, pI p.ev.kind, pI p.ev.arg, pI p.after.x, pI p.after.y, pI p.after.count, .pv (.slice none 0 0), .pv (.slice none 0 0)]) rfl rfl p5p rfl rfl rfl rfl (Nat.le_of_ble_eq_true rfl) rfl ?_
 refine x4x x7x (by rfl) ?_
 refine x0x rfl a8u rfl rfl a8f rfl rfl ?_
 refine x3x rfl a8f rfl rfl ?_
 refine v4v [0] [_] (a6b c p.sends hs) rfl rfl rfl (by decide) rfl rfl (by repeat (first | exact InH.nil | refine InH.cons rfl ?_)) (by (simp only [pI, List.map_cons, List.map_nil, z8z, z9z, gl, nx, p4p, Nat.beq, Nat.add_eq, List.getD_cons_zero, List.getD_cons_succ, List.getD_nil, Bool.or_false, Bool.false_or, Bool.true_or, Bool.or_true, Nat.add_zero, Nat.zero_add]; rfl)) (by (simp only [pI, List.map_cons, List.map_nil, z8z, z9z, gl, nx, p4p, Nat.beq, Nat.add_eq, List.getD_cons_zero, List.getD_cons_succ, List.getD_nil, Bool.or_false, Bool.false_or, Bool.true_or, Bool.or_true, Nat.add_zero, Nat.zero_add]; rfl)) ?_
 refine x0x rfl v8v rfl rfl u6u rfl rfl ?_
 refine u5u rfl rfl u6u rfl rfl rfl rfl rfl (by simp only [List.set_cons_zero, List.set_cons_succ]; rfl) ?_
 refine x4x x7x (by rfl) ?_
 refine x0x rfl a8u rfl rfl b2g rfl rfl ?_
 refine x3x rfl b2g rfl rfl ?_
 refine v4v [1] [_] (b3d c p.outs ho) rfl rfl rfl (by decide) rfl rfl (by repeat (first | exact InH.nil | refine InH.cons rfl ?_)) (by (simp only [pI, List.map_cons, List.map_nil, z8z, z9z, gl, nx, p4p, Nat.beq, Nat.add_eq, List.getD_cons_zero, List.getD_cons_succ, List.getD_nil, Bool.or_false, Bool.false_or, Bool.true_or, Bool.or_true, Nat.add_zero, Nat.zero_add]; rfl)) (by (simp only [pI, List.map_cons, List.map_nil, z8z, z9z, gl, nx, p4p, Nat.beq, Nat.add_eq, List.getD_cons_zero, List.getD_cons_succ, List.getD_nil, Bool.or_false, Bool.false_or, Bool.true_or, Bool.or_true, Nat.add_zero, Nat.zero_add]; rfl)) ?_
 refine x0x rfl v8v rfl rfl u7u rfl rfl ?_
 refine u5u rfl rfl u7u rfl rfl rfl rfl rfl (by simp only [List.set_cons_zero, List.set_cons_succ]; rfl) ?_
 refine x4x x7x (by rfl) ?_
 refine y1y rfl v8v rfl rfl rfl ?_
 refine z2z rfl rfl v8v rfl rfl rfl rfl ?_
 refine y0y ?_
 exact ⟨.inr rfl, [_, _], rfl, rfl, HE.row rfl rfl (HE.row rfl rfl HE.nil)⟩
theorem b8o (c : Bool) (l : List Pa) (hl : c0y l ≤ 1048576) : Meth Tryz.prog 228 1 [] [a4j c l] [(0, (0, .dead))] (.ref 0 0) [(0, (0, .row 78 12 (l.map a2l)))] := by
 refine u8u x7x (fn := Tryz.f228) (by kernel_rfl) (by kernel_rfl) rfl (O0 := [.ref 0 0]) 1 2 (Nat.le_of_ble_eq_true rfl) (by rfl) (by repeat (first | exact BndH.nil | refine BndH.dead ?_)) (by repeat (first | exact BndH.nil | refine BndH.row (u3u fun _ => rfl) ?_)) (by rfl) fun γ => ?_
 show Ex Tryz.prog _ _ [(0, a4j c l)] [(0, ((γ 0), .dead)), (2, (0, .dead)), (1, (0, .dead))] _
 have hc : c0y l = l.length + szs cPa l := rfl
 refine x4x x7x (by rfl) ?_
 refine x2x rfl ?_
 refine x4x x7x (by rfl) ?_
 refine x1x rfl ?_
 refine u2u rfl a9j rfl ?_
 refine a5o (id := 0) v3v rfl v8v b6f rfl rfl rfl rfl (by (simp only [List.length_map, List.length_append, List.length_cons, List.length_nil, List.length_take, T78]; omega)) rfl ?_
 refine x2x rfl ?_
 refine x5x fun K1 hK1 => ?_
 refine x4x x7x (by rfl) ?_
 refine x2x rfl ?_
 refine y6y ?_
 refine u4u (ι := Nat) (fun i γ1 => [(4, .pv (.int .i64 (i : Int)))]) (fun i γ1 => [(1, ((γ1 1), .dead)), (2, ((γ1 2), .dead)), (0, ((γ 0 + 1), .row 78 12 ((l.take i).map a2l ++ (l.drop i).map fun _ => [pI 0, pI 0, pI 0, pI 0, pI 0, pI 0, pI 0, pI 0, pI 0, pI 0, .pv (.slice none 0 0), .pv (.slice none 0 0)])))]) (fun i => i ≤ l.length) (fun i => l.length - i) (Cov.cons (t := 0) rfl (Cov.cons (t := 3) rfl Cov.nil)) HE.nil 0 (by omega) [0, _, _] (Cov.cons (t := 4) rfl Cov.nil) (HE.kill rfl (HE.kill rfl (HE.row rfl (by rw [List.take_zero, List.drop_zero, List.map_const']; rfl) HE.nil))) rfl fun i γ1 hi => ?_
 try dsimp only [List.cons_append, List.nil_append]
 refine x5x fun K2 hK2 => ?_
 refine x4x x7x (by rfl) ?_
 refine x1x rfl ?_
 refine x1x rfl ?_
 refine u2u rfl a9j rfl ?_
 refine y3y rfl rfl rfl ?_
 refine x8x rfl (fun hc3 => ?_) (fun hc3 => ?_)
 rotate_left
 ·try simp at hc3
  obtain rfl : i = l.length := by omega
  refine v0v ?_
  refine hK1 _ _ ?_
  clear hK2 K2 hK1 K1
  refine x4x x7x (by rfl) ?_
  refine x1x rfl ?_
  refine x2x rfl ?_
  refine y0y ?_
  exact ⟨.inr rfl, [_], rfl, rfl, HE.row rfl (by rw [List.take_length, List.drop_length, List.map_nil, List.append_nil]) HE.nil⟩
 try simp at hc3
 obtain ⟨p, hp⟩ : ∃ p, l[i]? = some p := ⟨_, List.getElem?_eq_getElem (by omega)⟩
 have hAl : ((l.take i).map a2l).length = i := by rw [List.length_map, List.length_take]; omega
 rw [q2q hp, List.map_cons]
 have hat := a2t cPa hp
 have hcp : cPa p = p.sends.length + p.outs.length := rfl
 refine x9x ?_
 refine hK2 _ _ ?_
 clear hK2 K2
 refine x5x fun K4 hK4 => ?_
 refine y6y ?_
 refine y4y x7x (by rfl) ?_
 refine x1x rfl ?_
 refine x1x rfl ?_
 refine x1x rfl ?_
 refine x1x rfl ?_
 refine z7z rfl rfl a9j rfl a8u rfl (by assumption) ?_
 refine z6z rfl a8u rfl rfl ?_
 refine v4v [1, 2] [_, _] (c1s c p (by omega) (by omega)) rfl rfl rfl (by decide) rfl rfl (by repeat (first | exact InH.nil | refine InH.cons rfl ?_)) (by (simp only [pI, List.map_cons, List.map_nil, z8z, z9z, gl, nx, p4p, Nat.beq, Nat.add_eq, List.getD_cons_zero, List.getD_cons_succ, List.getD_nil, Bool.or_false, Bool.false_or, Bool.true_or, Bool.or_true, Nat.add_zero, Nat.zero_add]; rfl)) (by (simp only [pI, List.map_cons, List.map_nil, z8z, z9z, gl, nx, p4p, Nat.beq, Nat.add_eq, List.getD_cons_zero, List.getD_cons_succ, List.getD_nil, Bool.or_false, Bool.false_or, Bool.true_or, Bool.or_true, Nat.add_zero, Nat.zero_add]; rfl)) ?_
 refine q7q rfl rfl v3v rfl v8v rfl rfl hAl ?_
 refine a2h hAl rfl rfl v8v rfl rfl rfl rfl (d4k rfl rfl rfl) rfl ?_
 refine hK4 _ _ ?_
 clear hK4 K4
 refine y4y x7x (by rfl) ?_
 refine x1x rfl ?_
 refine y3y rfl rfl rfl ?_
 refine x2x rfl ?_
 exact ⟨i + 1, ⟨by omega, by omega⟩, [0, _, _], (Cov.cons' (t := 4) rfl (by rw [v6v (by omega) (by omega)]; rfl) Cov.nil), (Cov.cons (t := 0) rfl (Cov.cons (t := 3) rfl Cov.nil)), (HE.kill rfl (HE.kill rfl (HE.row rfl (by rw [p1p hp, List.map_append, List.append_assoc]; rfl) HE.nil))), HE.nil, rfl⟩
theorem c1t (c : Bool) (p : La) (hs : c0y p.done ≤ 1048576) : Meth Tryz.prog 184 1 [] [.agg (a0m c p)] [(0, (0, .dead))] (.agg [pI p.proc, pI p.base.x, pI p.base.y, pI p.base.count, .ref 0 0]) [(0, (0, .row 78 12 (p.done.map a2l)))] := by
 refine u8u x7x (fn := Tryz.f184) (by kernel_rfl) (by kernel_rfl) rfl (O0 := [.agg [pI p.proc, pI p.base.x, pI p.base.y, pI p.base.count, .ref 0 0]]) 1 3 (Nat.le_of_ble_eq_true rfl) (by rfl) (by repeat (first | exact BndH.nil | refine BndH.dead ?_)) (by repeat (first | exact BndH.nil | refine BndH.row (u3u fun _ => rfl) ?_)) (by rfl) fun γ => ?_
 show Ex Tryz.prog _ _ [(0, .agg (a0m c p))] [(0, ((γ 0), .dead)), (3, (0, .dead)), (2, (0, .dead)), (1, (0, .dead))] _
 refine x4x x7x (by rfl) ?_
 refine v5v (id := 1) rfl rfl rfl ?_
 refine u9u (id := 2) v2v a6u rfl ?_
 refine x4x x7x (by rfl) ?_
 refine u9u (id := 3) v2v a6u rfl ?_
 refine x4x x7x (by rfl) ?_
 refine x0x rfl b0r rfl rfl y9y rfl rfl ?_
 refine x3x rfl y9y rfl rfl ?_
 refine x0x rfl v2v rfl rfl y9y rfl rfl ?_
 refine u5u rfl rfl y9y rfl rfl rfl rfl rfl (by simp only [List.set_cons_zero, List.set_cons_succ]; rfl) ?_
 refine x4x x7x (by rfl) ?_
 refine x0x rfl b0r rfl rfl b2h rfl rfl ?_
 refine x3x (out := .agg (a0b p.base)) rfl b2h rfl rfl ?_
 refine y7y rfl rfl rfl (b1a ..) ?_
 refine x0x rfl v2v rfl rfl p5p rfl rfl ?_
 refine a1g (cs' := [pI p.proc, pI p.base.x, pI p.base.y, pI p.base.count, .pv (.slice none 0 0)]) rfl rfl p5p rfl rfl rfl rfl (Nat.le_of_ble_eq_true rfl) rfl ?_
 refine x4x x7x (by rfl) ?_
 refine x0x rfl b0r rfl rfl a9j rfl rfl ?_
 refine x3x rfl a9j rfl rfl ?_
 refine v4v [0] [_] (b8o c p.done hs) rfl rfl rfl (by decide) rfl rfl (by repeat (first | exact InH.nil | refine InH.cons rfl ?_)) (by (simp only [pI, List.map_cons, List.map_nil, z8z, z9z, gl, nx, p4p, Nat.beq, Nat.add_eq, List.getD_cons_zero, List.getD_cons_succ, List.getD_nil, Bool.or_false, Bool.false_or, Bool.true_or, Bool.or_true, Nat.add_zero, Nat.zero_add]; rfl)) (by (simp only [pI, List.map_cons, List.map_nil, z8z, z9z, gl, nx, p4p, Nat.beq, Nat.add_eq, List.getD_cons_zero, List.getD_cons_succ, List.getD_nil, Bool.or_false, Bool.false_or, Bool.true_or, Bool.or_true, Nat.add_zero, Nat.zero_add]; rfl)) ?_
 refine x0x rfl v2v rfl rfl v3v rfl rfl ?_
 refine u5u rfl rfl v3v rfl rfl rfl rfl rfl (by simp only [List.set_cons_zero, List.set_cons_succ]; rfl) ?_
 refine x4x x7x (by rfl) ?_
 refine y1y rfl v2v rfl rfl rfl ?_
 refine z2z rfl rfl v2v rfl rfl rfl rfl ?_
 refine y0y ?_
 exact ⟨.inr rfl, [_], rfl, rfl, HE.row rfl rfl HE.nil⟩
theorem b8p (c : Bool) (l : List La) (hl : b4o l ≤ 1048576) : Meth Tryz.prog 100 1 [] [c1h c l] [(0, (0, .dead))] (.ref 0 0) [(0, (0, .row 65 5 (l.map a1i)))] := by
 refine u8u x7x (fn := Tryz.f100) (by kernel_rfl) (by kernel_rfl) rfl (O0 := [.ref 0 0]) 1 1 (Nat.le_of_ble_eq_true rfl) (by rfl) (by repeat (first | exact BndH.nil | refine BndH.dead ?_)) (by repeat (first | exact BndH.nil | refine BndH.row (u3u fun _ => rfl) ?_)) (by rfl) fun γ => ?_
 show Ex Tryz.prog _ _ [(0, c1h c l)] [(0, ((γ 0), .dead)), (1, (0, .dead))] _
 have hc : b4o l = l.length + szs cLa l := rfl
 refine x4x x7x (by rfl) ?_
 refine x2x rfl ?_
 refine x4x x7x (by rfl) ?_
 refine x1x rfl ?_
 refine u2u rfl b5y rfl ?_
 refine a5o (id := 0) w1w rfl v2v a6u rfl rfl rfl rfl (by (simp only [List.length_map, List.length_append, List.length_cons, List.length_nil, List.length_take, T65]; omega)) rfl ?_
 refine x2x rfl ?_
 refine x5x fun K1 hK1 => ?_
 refine x4x x7x (by rfl) ?_
 refine x2x rfl ?_
 refine y6y ?_
 refine u4u (ι := Nat) (fun i γ1 => [(4, .pv (.int .i64 (i : Int)))]) (fun i γ1 => [(1, ((γ1 1), .dead)), (0, ((γ 0 + 1), .row 65 5 ((l.take i).map a1i ++ (l.drop i).map fun _ => [pI 0, pI 0, pI 0, pI 0, .pv (.slice none 0 0)])))]) (fun i => i ≤ l.length) (fun i => l.length - i) (Cov.cons (t := 0) rfl (Cov.cons (t := 3) rfl Cov.nil)) HE.nil 0 (by omega) [0, _] (Cov.cons (t := 4) rfl Cov.nil) (HE.kill rfl (HE.row rfl (by rw [List.take_zero, List.drop_zero, List.map_const']; rfl) HE.nil)) rfl fun i γ1 hi => ?_
 try dsimp only [List.cons_append, List.nil_append]
 refine x5x fun K2 hK2 => ?_
 refine x4x x7x (by rfl) ?_
 refine x1x rfl ?_
 refine x1x rfl ?_
 refine u2u rfl b5y rfl ?_
 refine y3y rfl rfl rfl ?_
 refine x8x rfl (fun hc3 => ?_) (fun hc3 => ?_)
 rotate_left
 ·try simp at hc3
  obtain rfl : i = l.length := by omega
  refine v0v ?_
  refine hK1 _ _ ?_
  clear hK2 K2 hK1 K1
  refine x4x x7x (by rfl) ?_
  refine x1x rfl ?_
  refine x2x rfl ?_
  refine y0y ?_
  exact ⟨.inr rfl, [_], rfl, rfl, HE.row rfl (by rw [List.take_length, List.drop_length, List.map_nil, List.append_nil]) HE.nil⟩
 try simp at hc3
 obtain ⟨p, hp⟩ : ∃ p, l[i]? = some p := ⟨_, List.getElem?_eq_getElem (by omega)⟩
 have hAl : ((l.take i).map a1i).length = i := by rw [List.length_map, List.length_take]; omega
 rw [q2q hp, List.map_cons]
 have hat := a2t cLa hp
 have hcp : cLa p = c0y p.done := rfl
 refine x9x ?_
 refine hK2 _ _ ?_
 clear hK2 K2
 refine x5x fun K4 hK4 => ?_
 refine y6y ?_
 refine y4y x7x (by rfl) ?_
 refine x1x rfl ?_
 refine x1x rfl ?_
 refine x1x rfl ?_
 refine x1x rfl ?_
 refine z7z rfl rfl b5y rfl b0r rfl (by assumption) ?_
 refine z6z rfl b0r rfl rfl ?_
 refine v4v [1] [_] (c1t c p (by omega)) rfl rfl rfl (by decide) rfl rfl (by repeat (first | exact InH.nil | refine InH.cons rfl ?_)) (by (simp only [pI, List.map_cons, List.map_nil, z8z, z9z, gl, nx, p4p, Nat.beq, Nat.add_eq, List.getD_cons_zero, List.getD_cons_succ, List.getD_nil, Bool.or_false, Bool.false_or, Bool.true_or, Bool.or_true, Nat.add_zero, Nat.zero_add]; rfl)) (by (simp only [pI, List.map_cons, List.map_nil, z8z, z9z, gl, nx, p4p, Nat.beq, Nat.add_eq, List.getD_cons_zero, List.getD_cons_succ, List.getD_nil, Bool.or_false, Bool.false_or, Bool.true_or, Bool.or_true, Nat.add_zero, Nat.zero_add]; rfl)) ?_
 refine q7q rfl rfl w1w rfl v2v rfl rfl hAl ?_
 refine a2h hAl rfl rfl v2v rfl rfl rfl rfl (d4l rfl) rfl ?_
 refine hK4 _ _ ?_
 clear hK4 K4
 refine y4y x7x (by rfl) ?_
 refine x1x rfl ?_
 refine y3y rfl rfl rfl ?_
 refine x2x rfl ?_
 exact ⟨i + 1, ⟨by omega, by omega⟩, [0, _], (Cov.cons' (t := 4) rfl (by rw [v6v (by omega) (by omega)]; rfl) Cov.nil), (Cov.cons (t := 0) rfl (Cov.cons (t := 3) rfl Cov.nil)), (HE.kill rfl (HE.row rfl (by rw [p1p hp, List.map_append, List.append_assoc]; rfl) HE.nil)), HE.nil, rfl⟩
theorem c1u (c : Bool) (p : Vi) (hs : p.events.length ≤ 1048576) : Meth Tryz.prog 186 1 [] [.agg (a2n c p)] [(0, (0, .dead))] (.agg [pI p.inc, pI p.version, .ref 0 0]) [(0, (0, .row 76 7 (p.events.map w0w)))] := by
 refine u8u x7x (fn := Tryz.f186) (by kernel_rfl) (by kernel_rfl) rfl (O0 := [.agg [pI p.inc, pI p.version, .ref 0 0]]) 1 3 (Nat.le_of_ble_eq_true rfl) (by rfl) (by repeat (first | exact BndH.nil | refine BndH.dead ?_)) (by repeat (first | exact BndH.nil | refine BndH.row (u3u fun _ => rfl) ?_)) (by rfl) fun γ => ?_
 show Ex Tryz.prog _ _ [(0, .agg (a2n c p))] [(0, ((γ 0), .dead)), (3, (0, .dead)), (2, (0, .dead)), (1, (0, .dead))] _
 refine x4x x7x (by rfl) ?_
 refine v5v (id := 1) rfl rfl rfl ?_
 refine u9u (id := 2) w5w b0t rfl ?_
 refine x4x x7x (by rfl) ?_
 refine u9u (id := 3) w5w b0t rfl ?_
 refine x4x x7x (by rfl) ?_
 refine x0x rfl b0s rfl rfl y9y rfl rfl ?_
 refine x3x rfl y9y rfl rfl ?_
 refine x0x rfl w5w rfl rfl y9y rfl rfl ?_
 refine u5u rfl rfl y9y rfl rfl rfl rfl rfl (by simp only [List.set_cons_zero, List.set_cons_succ]; rfl) ?_
 refine x4x x7x (by rfl) ?_
 refine x0x rfl b0s rfl rfl y9y rfl rfl ?_
 refine x3x rfl y9y rfl rfl ?_
 refine x0x rfl w5w rfl rfl y9y rfl rfl ?_
 refine u5u rfl rfl y9y rfl rfl rfl rfl rfl (by simp only [List.set_cons_zero, List.set_cons_succ]; rfl) ?_
 refine x4x x7x (by rfl) ?_
 refine x0x rfl b0s rfl rfl a8f rfl rfl ?_
 refine x3x rfl a8f rfl rfl ?_
 refine v4v [0] [_] (a6b c p.events hs) rfl rfl rfl (by decide) rfl rfl (by repeat (first | exact InH.nil | refine InH.cons rfl ?_)) (by (simp only [pI, List.map_cons, List.map_nil, z8z, z9z, gl, nx, p4p, Nat.beq, Nat.add_eq, List.getD_cons_zero, List.getD_cons_succ, List.getD_nil, Bool.or_false, Bool.false_or, Bool.true_or, Bool.or_true, Nat.add_zero, Nat.zero_add]; rfl)) (by (simp only [pI, List.map_cons, List.map_nil, z8z, z9z, gl, nx, p4p, Nat.beq, Nat.add_eq, List.getD_cons_zero, List.getD_cons_succ, List.getD_nil, Bool.or_false, Bool.false_or, Bool.true_or, Bool.or_true, Nat.add_zero, Nat.zero_add]; rfl)) ?_
 refine x0x rfl w5w rfl rfl u6u rfl rfl ?_
 refine u5u rfl rfl u6u rfl rfl rfl rfl rfl (by simp only [List.set_cons_zero, List.set_cons_succ]; rfl) ?_
 refine x4x x7x (by rfl) ?_
 refine y1y rfl w5w rfl rfl rfl ?_
 refine z2z rfl rfl w5w rfl rfl rfl rfl ?_
 refine y0y ?_
 exact ⟨.inr rfl, [_], rfl, rfl, HE.row rfl rfl HE.nil⟩
theorem b8q (c : Bool) (l : List Vi) (hl : b9n l ≤ 1048576) : Meth Tryz.prog 102 1 [] [c1i c l] [(0, (0, .dead))] (.ref 0 0) [(0, (0, .row 141 3 (l.map a1j)))] := by
 refine u8u x7x (fn := Tryz.f102) (by kernel_rfl) (by kernel_rfl) rfl (O0 := [.ref 0 0]) 1 1 (Nat.le_of_ble_eq_true rfl) (by rfl) (by repeat (first | exact BndH.nil | refine BndH.dead ?_)) (by repeat (first | exact BndH.nil | refine BndH.row (u3u fun _ => rfl) ?_)) (by rfl) fun γ => ?_
 show Ex Tryz.prog _ _ [(0, c1i c l)] [(0, ((γ 0), .dead)), (1, (0, .dead))] _
 have hc : b9n l = l.length + szs cVi l := rfl
 refine x4x x7x (by rfl) ?_
 refine x2x rfl ?_
 refine x4x x7x (by rfl) ?_
 refine x1x rfl ?_
 refine u2u rfl b5z rfl ?_
 refine a5o (id := 0) p8p rfl w5w b0t rfl rfl rfl rfl (by (simp only [List.length_map, List.length_append, List.length_cons, List.length_nil, List.length_take, T141]; omega)) rfl ?_
 refine x2x rfl ?_
 refine x5x fun K1 hK1 => ?_
 refine x4x x7x (by rfl) ?_
 refine x2x rfl ?_
 refine y6y ?_
 refine u4u (ι := Nat) (fun i γ1 => [(4, .pv (.int .i64 (i : Int)))]) (fun i γ1 => [(1, ((γ1 1), .dead)), (0, ((γ 0 + 1), .row 141 3 ((l.take i).map a1j ++ (l.drop i).map fun _ => [pI 0, pI 0, .pv (.slice none 0 0)])))]) (fun i => i ≤ l.length) (fun i => l.length - i) (Cov.cons (t := 0) rfl (Cov.cons (t := 3) rfl Cov.nil)) HE.nil 0 (by omega) [0, _] (Cov.cons (t := 4) rfl Cov.nil) (HE.kill rfl (HE.row rfl (by rw [List.take_zero, List.drop_zero, List.map_const']; rfl) HE.nil)) rfl fun i γ1 hi => ?_
 try dsimp only [List.cons_append, List.nil_append]
 refine x5x fun K2 hK2 => ?_
 refine x4x x7x (by rfl) ?_
 refine x1x rfl ?_
 refine x1x rfl ?_
 refine u2u rfl b5z rfl ?_
 refine y3y rfl rfl rfl ?_
 refine x8x rfl (fun hc3 => ?_) (fun hc3 => ?_)
 rotate_left
 ·try simp at hc3
  obtain rfl : i = l.length := by omega
  refine v0v ?_
  refine hK1 _ _ ?_
  clear hK2 K2 hK1 K1
  refine x4x x7x (by rfl) ?_
  refine x1x rfl ?_
  refine x2x rfl ?_
  refine y0y ?_
  exact ⟨.inr rfl, [_], rfl, rfl, HE.row rfl (by rw [List.take_length, List.drop_length, List.map_nil, List.append_nil]) HE.nil⟩
 try simp at hc3
 obtain ⟨p, hp⟩ : ∃ p, l[i]? = some p := ⟨_, List.getElem?_eq_getElem (by omega)⟩
 have hAl : ((l.take i).map a1j).length = i := by rw [List.length_map, List.length_take]; omega
 rw [q2q hp, List.map_cons]
 have hat := a2t cVi hp
 have hcp : cVi p = p.events.length := rfl
 refine x9x ?_
 refine hK2 _ _ ?_
 clear hK2 K2
 refine x5x fun K4 hK4 => ?_
 refine y6y ?_
 refine y4y x7x (by rfl) ?_
 refine x1x rfl ?_
 refine x1x rfl ?_
 refine x1x rfl ?_
 refine x1x rfl ?_
 refine z7z rfl rfl b5z rfl b0s rfl (by assumption) ?_
 refine z6z rfl b0s rfl rfl ?_
 refine v4v [1] [_] (c1u c p (by omega)) rfl rfl rfl (by decide) rfl rfl (by repeat (first | exact InH.nil | refine InH.cons rfl ?_)) (by (simp only [pI, List.map_cons, List.map_nil, z8z, z9z, gl, nx, p4p, Nat.beq, Nat.add_eq, List.getD_cons_zero, List.getD_cons_succ, List.getD_nil, Bool.or_false, Bool.false_or, Bool.true_or, Bool.or_true, Nat.add_zero, Nat.zero_add]; rfl)) (by (simp only [pI, List.map_cons, List.map_nil, z8z, z9z, gl, nx, p4p, Nat.beq, Nat.add_eq, List.getD_cons_zero, List.getD_cons_succ, List.getD_nil, Bool.or_false, Bool.false_or, Bool.true_or, Bool.or_true, Nat.add_zero, Nat.zero_add]; rfl)) ?_
 refine q7q rfl rfl p8p rfl w5w rfl rfl hAl ?_
 refine a2h hAl rfl rfl w5w rfl rfl rfl rfl (d4m rfl) rfl ?_
 refine hK4 _ _ ?_
 clear hK4 K4
 refine y4y x7x (by rfl) ?_
 refine x1x rfl ?_
 refine y3y rfl rfl rfl ?_
 refine x2x rfl ?_
 exact ⟨i + 1, ⟨by omega, by omega⟩, [0, _], (Cov.cons' (t := 4) rfl (by rw [v6v (by omega) (by omega)]; rfl) Cov.nil), (Cov.cons (t := 0) rfl (Cov.cons (t := 3) rfl Cov.nil)), (HE.kill rfl (HE.row rfl (by rw [p1p hp, List.map_append, List.append_assoc]; rfl) HE.nil)), HE.nil, rfl⟩
theorem c1v (c : Bool) (l : List Int) (hl : l.length ≤ 1048576) : Meth Tryz.prog 16 1 [] [a4i c l] [(0, (0, .dead))] (.ref 0 0) [(0, (0, .row 3 1 (l.map a2w)))] := by
 refine u8u x7x (fn := Tryz.f16) (by kernel_rfl) (by kernel_rfl) rfl (O0 := [.ref 0 0]) 1 0 (Nat.le_of_ble_eq_true rfl) (by rfl) (by repeat (first | exact BndH.nil | refine BndH.dead ?_)) (by repeat (first | exact BndH.nil | refine BndH.row (u3u fun _ => rfl) ?_)) (by rfl) fun γ => ?_
 show Ex Tryz.prog _ _ [(0, a4i c l)] [(0, ((γ 0), .dead))] _
 refine x4x x7x (by rfl) ?_
 refine x2x rfl ?_
 refine x4x x7x (by rfl) ?_
 refine x1x rfl ?_
 refine u2u rfl p3p rfl ?_
 refine a5o (id := 0) p3p rfl y9y d9i rfl rfl rfl rfl (by (simp only [List.length_map, List.length_append, List.length_cons, List.length_nil, List.length_take, T3]; omega)) rfl ?_
 refine x2x rfl ?_
 refine x5x fun K1 hK1 => ?_
 refine x4x x7x (by rfl) ?_
 refine x2x rfl ?_
 refine y6y ?_
 refine u4u (ι := Nat) (fun i γ1 => [(4, .pv (.int .i64 (i : Int)))]) (fun i γ1 => [(0, ((γ 0 + 1), .row 3 1 ((l.take i).map a2w ++ (l.drop i).map fun _ => [pI 0])))]) (fun i => i ≤ l.length) (fun i => l.length - i) (Cov.cons (t := 0) rfl (Cov.cons (t := 3) rfl Cov.nil)) HE.nil 0 (by omega) [] (Cov.cons (t := 4) rfl Cov.nil) (HE.row rfl (by rw [List.take_zero, List.drop_zero, List.map_const']; rfl) HE.nil) rfl fun i γ1 hi => ?_
 try dsimp only [List.cons_append, List.nil_append]
 refine x5x fun K2 hK2 => ?_
 refine x4x x7x (by rfl) ?_
 refine x1x rfl ?_
 refine x1x rfl ?_
 refine u2u rfl p3p rfl ?_
 refine y3y rfl rfl rfl ?_
 refine x8x rfl (fun hc3 => ?_) (fun hc3 => ?_)
 rotate_left
 ·try simp at hc3
  obtain rfl : i = l.length := by omega
  refine v0v ?_
  refine hK1 _ _ ?_
  clear hK2 K2 hK1 K1
  refine x4x x7x (by rfl) ?_
  refine x1x rfl ?_
  refine x2x rfl ?_
  refine y0y ?_
  exact ⟨.inr rfl, [_], rfl, rfl, HE.row rfl (by rw [List.take_length, List.drop_length, List.map_nil, List.append_nil]) HE.nil⟩
 try simp at hc3
 obtain ⟨p, hp⟩ : ∃ p, l[i]? = some p := ⟨_, List.getElem?_eq_getElem (by omega)⟩
 have hAl : ((l.take i).map a2w).length = i := by rw [List.length_map, List.length_take]; omega
 rw [q2q hp, List.map_cons]
 refine x9x ?_
 refine hK2 _ _ ?_
 clear hK2 K2
 refine x5x fun K4 hK4 => ?_
 refine y6y ?_
 refine y4y x7x (by rfl) ?_
 refine x1x rfl ?_
 refine x1x rfl ?_
 refine x1x rfl ?_
 refine x1x rfl ?_
 refine z7z rfl rfl p3p rfl y9y rfl (by assumption) ?_
 refine z3z rfl y9y rfl ?_
 refine q7q rfl rfl p3p rfl y9y rfl rfl hAl ?_
 refine p9p hAl rfl rfl y9y rfl rfl rfl rfl rfl rfl rfl rfl ?_
 refine hK4 _ _ ?_
 clear hK4 K4
 refine y4y x7x (by rfl) ?_
 refine x1x rfl ?_
 refine y3y rfl rfl rfl ?_
 refine x2x rfl ?_
 exact ⟨i + 1, ⟨by omega, by omega⟩, [], (Cov.cons' (t := 4) rfl (by rw [v6v (by omega) (by omega)]; rfl) Cov.nil), (Cov.cons (t := 0) rfl (Cov.cons (t := 3) rfl Cov.nil)), (HE.row rfl (by rw [p1p hp, List.map_append, List.append_assoc]; rfl) HE.nil), HE.nil, rfl⟩
theorem a5g (c : Bool) (n : Nd) (hl : cNd n ≤ 1048576) : Meth Tryz.prog 25 5 [] [.agg (a1d c n)] [(0, (0, .dead)), (1, (0, .dead)), (2, (0, .dead)), (3, (0, .dead)), (4, (0, .dead))] (.agg [pI n.id, .pv (.bool n.up), pI n.inc, pI n.g, .ref 0 0, .ref 1 0, .ref 2 0, pI n.led, pI n.version, .ref 3 0, .ref 4 0, pI n.round, pI n.low]) [(0, (0, .row 65 5 (n.lanes.map a1i))), (1, (0, .row 76 7 (n.kept.map w0w))), (2, (0, .row 104 5 (n.outs.map r0r))), (3, (0, .row 141 3 (n.views.map a1j))), (4, (0, .row 3 1 (n.known.map a2w)))] := by
 refine u8u x7x (fn := Tryz.f25) (by kernel_rfl) (by kernel_rfl) rfl (O0 := [.agg [pI n.id, .pv (.bool n.up), pI n.inc, pI n.g, .ref 0 0, .ref 1 0, .ref 2 0, pI n.led, pI n.version, .ref 3 0, .ref 4 0, pI n.round, pI n.low]]) 5 3 (Nat.le_of_ble_eq_true rfl) (by rfl) (by repeat (first | exact BndH.nil | refine BndH.dead ?_)) (by repeat (first | exact BndH.nil | refine BndH.row (u3u fun _ => rfl) ?_)) (by rfl) fun γ => ?_
 show Ex Tryz.prog _ _ [(0, .agg (a1d c n))] [(0, ((γ 0), .dead)), (1, ((γ 1), .dead)), (2, ((γ 2), .dead)), (3, ((γ 3), .dead)), (4, ((γ 4), .dead)), (7, (0, .dead)), (6, (0, .dead)), (5, (0, .dead))] _
 have hc : cNd n = b4o n.lanes + n.kept.length + n.outs.length + b9n n.views + n.known.length := rfl
 refine x4x x7x (by rfl) ?_
 refine v5v (id := 5) rfl rfl rfl ?_
 refine u9u (id := 6) z5z a6g rfl ?_
 refine x4x x7x (by rfl) ?_
 refine u9u (id := 7) z5z a6g rfl ?_
 refine x4x x7x (by rfl) ?_
 refine x0x rfl a4m rfl rfl y9y rfl rfl ?_
 refine x3x rfl y9y rfl rfl ?_
 refine x0x rfl z5z rfl rfl y9y rfl rfl ?_
 refine u5u rfl rfl y9y rfl rfl rfl rfl rfl (by simp only [List.set_cons_zero, List.set_cons_succ]; rfl) ?_
 refine x4x x7x (by rfl) ?_
 refine x0x rfl a4m rfl rfl b4p rfl rfl ?_
 refine x3x rfl b4p rfl rfl ?_
 refine x0x rfl z5z rfl rfl b4p rfl rfl ?_
 refine u5u rfl rfl b4p rfl rfl rfl rfl rfl (by simp only [List.set_cons_zero, List.set_cons_succ]; rfl) ?_
 refine x4x x7x (by rfl) ?_
 refine x0x rfl a4m rfl rfl y9y rfl rfl ?_
 refine x3x rfl y9y rfl rfl ?_
 refine x0x rfl z5z rfl rfl y9y rfl rfl ?_
 refine u5u rfl rfl y9y rfl rfl rfl rfl rfl (by simp only [List.set_cons_zero, List.set_cons_succ]; rfl) ?_
 refine x4x x7x (by rfl) ?_
 refine x0x rfl a4m rfl rfl y9y rfl rfl ?_
 refine x3x rfl y9y rfl rfl ?_
 refine x0x rfl z5z rfl rfl y9y rfl rfl ?_
 refine u5u rfl rfl y9y rfl rfl rfl rfl rfl (by simp only [List.set_cons_zero, List.set_cons_succ]; rfl) ?_
 refine x4x x7x (by rfl) ?_
 refine x0x rfl a4m rfl rfl b5y rfl rfl ?_
 refine x3x rfl b5y rfl rfl ?_
 refine v4v [0] [_] (b8p c n.lanes (by omega)) rfl rfl rfl (by decide) rfl rfl (by repeat (first | exact InH.nil | refine InH.cons rfl ?_)) (by (simp only [pI, List.map_cons, List.map_nil, z8z, z9z, gl, nx, p4p, Nat.beq, Nat.add_eq, List.getD_cons_zero, List.getD_cons_succ, List.getD_nil, Bool.or_false, Bool.false_or, Bool.true_or, Bool.or_true, Nat.add_zero, Nat.zero_add]; rfl)) (by (simp only [pI, List.map_cons, List.map_nil, z8z, z9z, gl, nx, p4p, Nat.beq, Nat.add_eq, List.getD_cons_zero, List.getD_cons_succ, List.getD_nil, Bool.or_false, Bool.false_or, Bool.true_or, Bool.or_true, Nat.add_zero, Nat.zero_add]; rfl)) ?_
 refine x0x rfl z5z rfl rfl w1w rfl rfl ?_
 refine u5u rfl rfl w1w rfl rfl rfl rfl rfl (by simp only [List.set_cons_zero, List.set_cons_succ]; rfl) ?_
 refine x4x x7x (by rfl) ?_
 refine x0x rfl a4m rfl rfl a8f rfl rfl ?_
 refine x3x rfl a8f rfl rfl ?_
 refine v4v [1] [_] (a6b c n.kept (by omega)) rfl rfl rfl (by decide) rfl rfl (by repeat (first | exact InH.nil | refine InH.cons rfl ?_)) (by (simp only [pI, List.map_cons, List.map_nil, z8z, z9z, gl, nx, p4p, Nat.beq, Nat.add_eq, List.getD_cons_zero, List.getD_cons_succ, List.getD_nil, Bool.or_false, Bool.false_or, Bool.true_or, Bool.or_true, Nat.add_zero, Nat.zero_add]; rfl)) (by (simp only [pI, List.map_cons, List.map_nil, z8z, z9z, gl, nx, p4p, Nat.beq, Nat.add_eq, List.getD_cons_zero, List.getD_cons_succ, List.getD_nil, Bool.or_false, Bool.false_or, Bool.true_or, Bool.or_true, Nat.add_zero, Nat.zero_add]; rfl)) ?_
 refine x0x rfl z5z rfl rfl u6u rfl rfl ?_
 refine u5u rfl rfl u6u rfl rfl rfl rfl rfl (by simp only [List.set_cons_zero, List.set_cons_succ]; rfl) ?_
 refine x4x x7x (by rfl) ?_
 refine x0x rfl a4m rfl rfl b2g rfl rfl ?_
 refine x3x rfl b2g rfl rfl ?_
 refine v4v [2] [_] (b3d c n.outs (by omega)) rfl rfl rfl (by decide) rfl rfl (by repeat (first | exact InH.nil | refine InH.cons rfl ?_)) (by (simp only [pI, List.map_cons, List.map_nil, z8z, z9z, gl, nx, p4p, Nat.beq, Nat.add_eq, List.getD_cons_zero, List.getD_cons_succ, List.getD_nil, Bool.or_false, Bool.false_or, Bool.true_or, Bool.or_true, Nat.add_zero, Nat.zero_add]; rfl)) (by (simp only [pI, List.map_cons, List.map_nil, z8z, z9z, gl, nx, p4p, Nat.beq, Nat.add_eq, List.getD_cons_zero, List.getD_cons_succ, List.getD_nil, Bool.or_false, Bool.false_or, Bool.true_or, Bool.or_true, Nat.add_zero, Nat.zero_add]; rfl)) ?_
 refine x0x rfl z5z rfl rfl u7u rfl rfl ?_
 refine u5u rfl rfl u7u rfl rfl rfl rfl rfl (by simp only [List.set_cons_zero, List.set_cons_succ]; rfl) ?_
 refine x4x x7x (by rfl) ?_
 refine x0x rfl a4m rfl rfl y9y rfl rfl ?_
 refine x3x rfl y9y rfl rfl ?_
 refine x0x rfl z5z rfl rfl y9y rfl rfl ?_
 refine u5u rfl rfl y9y rfl rfl rfl rfl rfl (by simp only [List.set_cons_zero, List.set_cons_succ]; rfl) ?_
 refine x4x x7x (by rfl) ?_
 refine x0x rfl a4m rfl rfl y9y rfl rfl ?_
 refine x3x rfl y9y rfl rfl ?_
 refine x0x rfl z5z rfl rfl y9y rfl rfl ?_
 refine u5u rfl rfl y9y rfl rfl rfl rfl rfl (by simp only [List.set_cons_zero, List.set_cons_succ]; rfl) ?_
 refine x4x x7x (by rfl) ?_
 refine x0x rfl a4m rfl rfl b5z rfl rfl ?_
 refine x3x rfl b5z rfl rfl ?_
 refine v4v [3] [_] (b8q c n.views (by omega)) rfl rfl rfl (by decide) rfl rfl (by repeat (first | exact InH.nil | refine InH.cons rfl ?_)) (by (simp only [pI, List.map_cons, List.map_nil, z8z, z9z, gl, nx, p4p, Nat.beq, Nat.add_eq, List.getD_cons_zero, List.getD_cons_succ, List.getD_nil, Bool.or_false, Bool.false_or, Bool.true_or, Bool.or_true, Nat.add_zero, Nat.zero_add]; rfl)) (by (simp only [pI, List.map_cons, List.map_nil, z8z, z9z, gl, nx, p4p, Nat.beq, Nat.add_eq, List.getD_cons_zero, List.getD_cons_succ, List.getD_nil, Bool.or_false, Bool.false_or, Bool.true_or, Bool.or_true, Nat.add_zero, Nat.zero_add]; rfl)) ?_
 refine x0x rfl z5z rfl rfl p8p rfl rfl ?_
 refine u5u rfl rfl p8p rfl rfl rfl rfl rfl (by simp only [List.set_cons_zero, List.set_cons_succ]; rfl) ?_
 refine x4x x7x (by rfl) ?_
 refine x0x rfl a4m rfl rfl p3p rfl rfl ?_
 refine x3x rfl p3p rfl rfl ?_
 refine v4v [4] [_] (c1v c n.known (by omega)) rfl rfl rfl (by decide) rfl rfl (by repeat (first | exact InH.nil | refine InH.cons rfl ?_)) (by (simp only [pI, List.map_cons, List.map_nil, z8z, z9z, gl, nx, p4p, Nat.beq, Nat.add_eq, List.getD_cons_zero, List.getD_cons_succ, List.getD_nil, Bool.or_false, Bool.false_or, Bool.true_or, Bool.or_true, Nat.add_zero, Nat.zero_add]; rfl)) (by (simp only [pI, List.map_cons, List.map_nil, z8z, z9z, gl, nx, p4p, Nat.beq, Nat.add_eq, List.getD_cons_zero, List.getD_cons_succ, List.getD_nil, Bool.or_false, Bool.false_or, Bool.true_or, Bool.or_true, Nat.add_zero, Nat.zero_add]; rfl)) ?_
 refine x0x rfl z5z rfl rfl p3p rfl rfl ?_
 refine u5u rfl rfl p3p rfl rfl rfl rfl rfl (by simp only [List.set_cons_zero, List.set_cons_succ]; rfl) ?_
 refine x4x x7x (by rfl) ?_
 refine x0x rfl a4m rfl rfl y9y rfl rfl ?_
 refine x3x rfl y9y rfl rfl ?_
 refine x0x rfl z5z rfl rfl y9y rfl rfl ?_
 refine u5u rfl rfl y9y rfl rfl rfl rfl rfl (by simp only [List.set_cons_zero, List.set_cons_succ]; rfl) ?_
 refine x4x x7x (by rfl) ?_
 refine x0x rfl a4m rfl rfl y9y rfl rfl ?_
 refine x3x rfl y9y rfl rfl ?_
 refine x0x rfl z5z rfl rfl y9y rfl rfl ?_
 refine u5u rfl rfl y9y rfl rfl rfl rfl rfl (by simp only [List.set_cons_zero, List.set_cons_succ]; rfl) ?_
 refine x4x x7x (by rfl) ?_
 refine y1y rfl z5z rfl rfl rfl ?_
 refine z2z rfl rfl z5z rfl rfl rfl rfl ?_
 refine y0y ?_
 exact ⟨.inr rfl, [_, _, _, _, _], rfl, rfl, HE.row rfl rfl (HE.row rfl rfl (HE.row rfl rfl (HE.row rfl rfl (HE.row rfl rfl HE.nil))))⟩
end
section
theorem w8w (v lo hi : Int) : a0o Tryz.prog 111 [.pv (.int .i64 v), .pv (.int .i64 lo), .pv (.int .i64 hi)] (.pv (.bool (decide (lo ≤ v ∧ v ≤ hi)))) := by
 refine z4z x7x (fn := Tryz.f111) (by kernel_rfl) (by kernel_rfl) rfl (outs := [.pv (.bool (decide (lo ≤ v ∧ v ≤ hi)))]) (by rfl) (Nat.le_of_ble_eq_true rfl) 0 ?_
 refine x4x x7x (by rfl) ?_
 refine x2x rfl ?_
 refine x4x x7x (by rfl) ?_
 refine x1x rfl ?_
 refine x1x rfl ?_
 refine y3y rfl rfl rfl ?_
 refine x1x rfl ?_
 refine s9s rfl rfl (fun hg1 => ?_) (fun hg1 => ?_)
 rotate_left
 ·try simp at hg1
  refine x6x rfl rfl ?_
  refine x6x rfl rfl ?_
  refine y2y rfl rfl ?_
  refine x2x rfl ?_
  refine y0y ⟨.inr rfl, ?_⟩
  refine z0z rfl ?_ rfl
  simp; omega
 try simp at hg1
 refine x1x rfl ?_
 refine y5y rfl rfl ?_
 refine x1x rfl ?_
 refine y5y rfl rfl ?_
 refine y3y rfl rfl rfl ?_
 refine y8y rfl rfl ?_
 refine x2x rfl ?_
 refine y0y ⟨.inr rfl, ?_⟩
 refine z0z rfl ?_ rfl
 simp; omega
theorem q3q (v lo hi : Int) : a0o Tryz.prog 75 [.pv (.int .i64 v), .pv (.int .i64 lo), .pv (.int .i64 hi)] (.pv (.bool (decide (lo ≤ v ∧ v ≤ hi)))) := by
 refine z4z x7x (fn := Tryz.f75) (by kernel_rfl) (by kernel_rfl) rfl (outs := [.pv (.bool (decide (lo ≤ v ∧ v ≤ hi)))]) (by rfl) (Nat.le_of_ble_eq_true rfl) 0 ?_
 refine x4x x7x (by rfl) ?_
 refine x2x rfl ?_
 refine x4x x7x (by rfl) ?_
 refine x1x rfl ?_
 refine x1x rfl ?_
 refine y3y rfl rfl rfl ?_
 refine x1x rfl ?_
 refine s9s rfl rfl (fun hg1 => ?_) (fun hg1 => ?_)
 rotate_left
 ·try simp at hg1
  refine x6x rfl rfl ?_
  refine x6x rfl rfl ?_
  refine y2y rfl rfl ?_
  refine x2x rfl ?_
  refine y0y ⟨.inr rfl, ?_⟩
  refine z0z rfl ?_ rfl
  simp; omega
 try simp at hg1
 refine x1x rfl ?_
 refine y5y rfl rfl ?_
 refine x1x rfl ?_
 refine y5y rfl rfl ?_
 refine y3y rfl rfl rfl ?_
 refine y8y rfl rfl ?_
 refine x2x rfl ?_
 refine y0y ⟨.inr rfl, ?_⟩
 refine z0z rfl ?_ rfl
 simp; omega
theorem a5h (p : Int) : a0o Tryz.prog 155 [.pv (.int .i64 p)] (.pv (.bool (decide (0 ≤ p ∧ p ≤ 3)))) := by
 refine z4z x7x (fn := Tryz.f155) (by kernel_rfl) (by kernel_rfl) rfl (outs := [.pv (.bool (decide (0 ≤ p ∧ p ≤ 3)))]) (by rfl) (Nat.le_of_ble_eq_true rfl) 0 ?_
 refine x4x x7x (by rfl) ?_
 refine x2x rfl ?_
 refine x4x x7x (by rfl) ?_
 refine x1x rfl ?_
 refine y7y rfl rfl rfl (w8w ..) ?_
 refine x2x rfl ?_
 refine y0y ⟨.inr rfl, ?_⟩
 exact z0z rfl rfl rfl
theorem a5i (p : Int) : a0o Tryz.prog 127 [.pv (.int .i64 p)] (.pv (.bool (decide (0 ≤ p ∧ p ≤ 3)))) := by
 refine z4z x7x (fn := Tryz.f127) (by kernel_rfl) (by kernel_rfl) rfl (outs := [.pv (.bool (decide (0 ≤ p ∧ p ≤ 3)))]) (by rfl) (Nat.le_of_ble_eq_true rfl) 0 ?_
 refine x4x x7x (by rfl) ?_
 refine x2x rfl ?_
 refine x4x x7x (by rfl) ?_
 refine x1x rfl ?_
 refine y7y rfl rfl rfl (q3q ..) ?_
 refine x2x rfl ?_
 refine y0y ⟨.inr rfl, ?_⟩
 exact z0z rfl rfl rfl
theorem c1w (p : Int) : a0o Tryz.prog 154 [.pv (.int .i64 p)] (.pv (.bool (decide (0 ≤ p ∧ p ≤ 2)))) := by
 refine z4z x7x (fn := Tryz.f154) (by kernel_rfl) (by kernel_rfl) rfl (outs := [.pv (.bool (decide (0 ≤ p ∧ p ≤ 2)))]) (by rfl) (Nat.le_of_ble_eq_true rfl) 0 ?_
 refine x4x x7x (by rfl) ?_
 refine x2x rfl ?_
 refine x4x x7x (by rfl) ?_
 refine x1x rfl ?_
 refine y7y rfl rfl rfl (w8w ..) ?_
 refine x2x rfl ?_
 refine y0y ⟨.inr rfl, ?_⟩
 exact z0z rfl rfl rfl
theorem b3e (p : Int) : a0o Tryz.prog 65 [.pv (.int .i64 p)] (.pv (.int .i64 (a3k p))) := by
 refine z4z x7x (fn := Tryz.f65) (by kernel_rfl) (by kernel_rfl) rfl (outs := [.pv (.int .i64 (a3k p))]) (by rfl) (Nat.le_of_ble_eq_true rfl) 0 ?_
 refine x4x x7x (by rfl) ?_
 refine x2x rfl ?_
 refine x5x fun K1 hK1 => ?_
 refine x4x x7x (by rfl) ?_
 refine x1x rfl ?_
 refine y7y rfl rfl rfl (a5h ..) ?_
 refine w2w rfl ?_
 refine x8x rfl (fun hc2 => ?_) (fun hc2 => ?_)
 ·try simp at hc2
  refine x4x x7x (by rfl) ?_
  refine x2x rfl ?_
  refine y0y ⟨.inr rfl, ?_⟩
  clear hK1 K1
  refine z0z rfl ?_ rfl
  simp [a3k]; omega
 try simp at hc2
 refine x9x ?_
 refine hK1 _ _ ?_
 clear hK1 K1
 refine x4x x7x (by rfl) ?_
 refine x1x rfl ?_
 refine y3y rfl rfl rfl ?_
 refine x2x rfl ?_
 refine y0y ⟨.inr rfl, ?_⟩
 refine z0z rfl ?_ rfl
 simp [a3k]; omega
theorem b3f (p : Int) : a0o Tryz.prog 115 [.pv (.int .i64 p)] (.pv (.int .i64 (a3k p))) := by
 refine z4z x7x (fn := Tryz.f115) (by kernel_rfl) (by kernel_rfl) rfl (outs := [.pv (.int .i64 (a3k p))]) (by rfl) (Nat.le_of_ble_eq_true rfl) 0 ?_
 refine x4x x7x (by rfl) ?_
 refine x2x rfl ?_
 refine x5x fun K1 hK1 => ?_
 refine x4x x7x (by rfl) ?_
 refine x1x rfl ?_
 refine y7y rfl rfl rfl (a5i ..) ?_
 refine w2w rfl ?_
 refine x8x rfl (fun hc2 => ?_) (fun hc2 => ?_)
 ·try simp at hc2
  refine x4x x7x (by rfl) ?_
  refine x2x rfl ?_
  refine y0y ⟨.inr rfl, ?_⟩
  clear hK1 K1
  refine z0z rfl ?_ rfl
  simp [a3k]; omega
 try simp at hc2
 refine x9x ?_
 refine hK1 _ _ ?_
 clear hK1 K1
 refine x4x x7x (by rfl) ?_
 refine x1x rfl ?_
 refine y3y rfl rfl rfl ?_
 refine x2x rfl ?_
 refine y0y ⟨.inr rfl, ?_⟩
 refine z0z rfl ?_ rfl
 simp [a3k]; omega
theorem a3z (id : Int) : a0o Tryz.prog 149 [.pv (.int .i64 id)] (a4i true (a1c id 4)) := by
 refine z4z x7x (fn := Tryz.f149) (by kernel_rfl) (by kernel_rfl) rfl (outs := [a4i true (a1c id 4)]) (by rfl) (Nat.le_of_ble_eq_true rfl) 2 ?_
 refine x4x x7x (by rfl) ?_
 refine x2x rfl ?_
 refine x4x x7x (by rfl) ?_
 refine x2x rfl ?_
 refine x5x fun K1 hK1 => ?_
 refine x4x x7x (by rfl) ?_
 refine x1x rfl ?_
 refine y6y ?_
 refine a2d 3 1 3 1 rfl rfl ?_
 refine u4u (ι := Nat) (fun i γ1 => [(3, .ref 1 (γ1 1)), (5, .pv (.int .i64 (i : Int)))]) (fun i γ1 => [(1, ((γ1 1), .row 3 1 ((a1c id i).map a2w))), (0, ((γ1 0), .dead))]) (fun i => i ≤ 4) (fun i => 4 - i) (Cov.cons (t := 0) rfl Cov.nil) HE.nil 0 (by omega) [_, _] (Cov.cons (t := 3) rfl (Cov.cons (t := 5) rfl Cov.nil)) (HE.row rfl rfl (HE.kill rfl HE.nil)) rfl fun i γ1 hi => ?_
 try dsimp only [List.cons_append, List.nil_append]
 refine x4x x7x (by rfl) ?_
 refine y3y rfl rfl rfl ?_
 refine x5x fun K2 hK2 => ?_
 refine x8x rfl (fun hc3 => ?_) (fun hc3 => ?_)
 rotate_left
 ·try simp at hc3
  refine v0v ?_
  refine hK1 _ _ ?_
  clear hK2 K2 hK1 K1
  refine x4x x7x (by rfl) ?_
  refine x1x rfl ?_
  refine x2x rfl ?_
  refine y0y ⟨.inr rfl, ?_⟩
  refine c8z rfl rfl (fun _ => rfl) ?_
  have : i = 4 := by omega
  rw [this]
 try simp at hc3
 refine x9x ?_
 refine hK2 _ _ ?_
 clear hK2 K2
 refine x5x fun K4 hK4 => ?_
 refine y6y ?_
 refine x4x x7x (by rfl) ?_
 refine x1x rfl ?_
 refine x2x rfl ?_
 refine x4x x7x (by rfl) ?_
 refine x1x rfl ?_
 refine y7y rfl rfl rfl (b3e ..) ?_
 refine x1x rfl ?_
 refine y3y rfl rfl rfl ?_
 refine x8x rfl (fun hc5 => ?_) (fun hc5 => ?_)
 rotate_left
 ·try simp at hc5
  refine x9x ?_
  refine hK4 _ _ ?_
  clear hK4 K4
  refine y4y x7x (by rfl) ?_
  refine y3y rfl rfl rfl ?_
  refine x1x rfl ?_
  exact ⟨i + 1, ⟨by omega, by omega⟩, [_, _], (Cov.cons (t := 3) rfl (Cov.cons' (t := 5) rfl (by rw [v6v (by omega) (by omega)]; rfl) Cov.nil)), (Cov.cons (t := 0) rfl Cov.nil), (HE.row rfl (by simp only [a7s]; rw [if_neg (by assumption)]) (HE.kill rfl HE.nil)), HE.nil, rfl⟩
 try simp at hc5
 refine y4y x7x (by rfl) ?_
 refine x1x rfl ?_
 refine x1x rfl ?_
 refine c2o (id := 0) p3p rfl y9y rfl rfl rfl rfl rfl ?_
 refine r8r rfl rfl p3p rfl y9y rfl rfl rfl rfl (by rfl) (by exact a0j _ _ _) (by simp only [List.length_map, List.length_append, List.length_cons, List.length_nil, T3]; have := a5v id i; omega) ?_
 refine x2x rfl ?_
 refine hK4 _ _ ?_
 clear hK4 K4
 refine y4y x7x (by rfl) ?_
 refine y3y rfl rfl rfl ?_
 refine x1x rfl ?_
 exact ⟨i + 1, ⟨by omega, by omega⟩, [_, _], (Cov.cons (t := 3) rfl (Cov.cons' (t := 5) rfl (by rw [v6v (by omega) (by omega)]; rfl) Cov.nil)), (Cov.cons (t := 0) rfl Cov.nil), (HE.row rfl (by simp only [a7s]; rw [if_pos (by assumption)]) (HE.kill rfl HE.nil)), HE.nil, rfl⟩
end
section
theorem a9y (x : Int) : a0o Tryz.prog 258 [.pv (.int .i64 x)] (.pv (.bool (false))) := by
 refine z4z x7x (fn := Tryz.f258) (by kernel_rfl) (by kernel_rfl) rfl (outs := [.pv (.bool (false))]) (by rfl) (Nat.le_of_ble_eq_true rfl) 0 ?_
 refine x4x x7x (by rfl) ?_
 refine x2x rfl ?_
 refine x4x x7x (by rfl) ?_
 refine x1x rfl ?_
 refine x1x rfl ?_
 refine y3y rfl rfl rfl ?_
 refine x2x rfl ?_
 refine y0y ⟨.inr rfl, ?_⟩
 refine z0z rfl ?_ rfl
 simp
theorem b4d (x y : Int) : a0o Tryz.prog 240 [.pv (.int .i64 x), .pv (.int .i64 y)] (.pv (.int .i64 (if x < y then -1 else if y < x then 1 else 0))) := by
 refine z4z x7x (fn := Tryz.f240) (by kernel_rfl) (by kernel_rfl) rfl (outs := [.pv (.int .i64 (if x < y then -1 else if y < x then 1 else 0))]) (by rfl) (Nat.le_of_ble_eq_true rfl) 0 ?_
 refine x4x x7x (by rfl) ?_
 refine x2x rfl ?_
 refine x4x x7x (by rfl) ?_
 refine x1x rfl ?_
 refine y7y rfl rfl rfl (a9y ..) ?_
 refine x2x rfl ?_
 refine x4x x7x (by rfl) ?_
 refine x1x rfl ?_
 refine y7y rfl rfl rfl (a9y ..) ?_
 refine x2x rfl ?_
 refine x5x fun K1 hK1 => ?_
 refine x4x x7x (by rfl) ?_
 refine x1x rfl ?_
 refine x8x rfl (fun hc2 => ?_) (fun hc2 => ?_)
 ·simp at hc2
 try simp at hc2
 refine x9x ?_
 refine hK1 _ _ ?_
 clear hK1 K1
 refine x5x fun K3 hK3 => ?_
 refine x4x x7x (by rfl) ?_
 refine x1x rfl ?_
 refine x8x rfl (fun hc4 => ?_) (fun hc4 => ?_)
 ·simp at hc4
 try simp at hc4
 refine x9x ?_
 refine hK3 _ _ ?_
 clear hK3 K3
 refine x5x fun K5 hK5 => ?_
 refine x4x x7x (by rfl) ?_
 refine x1x rfl ?_
 refine x1x rfl ?_
 refine y3y rfl rfl rfl ?_
 refine x8x rfl (fun hc6 => ?_) (fun hc6 => ?_)
 ·try simp at hc6
  refine x4x x7x (by rfl) ?_
  refine x2x rfl ?_
  refine y0y ⟨.inr rfl, ?_⟩
  clear hK5 K5
  refine z0z rfl ?_ rfl
  simp only [List.cons.injEq, and_true, AV.pv.injEq, Value.int.injEq, true_and]
  split <;> (try split) <;> omega
 try simp at hc6
 refine x9x ?_
 refine hK5 _ _ ?_
 clear hK5 K5
 refine x5x fun K7 hK7 => ?_
 refine x4x x7x (by rfl) ?_
 refine x1x rfl ?_
 refine x1x rfl ?_
 refine y3y rfl rfl rfl ?_
 refine x8x rfl (fun hc8 => ?_) (fun hc8 => ?_)
 ·try simp at hc8
  refine x4x x7x (by rfl) ?_
  refine x2x rfl ?_
  refine y0y ⟨.inr rfl, ?_⟩
  clear hK7 K7
  refine z0z rfl ?_ rfl
  simp only [List.cons.injEq, and_true, AV.pv.injEq, Value.int.injEq, true_and]
  split <;> (try split) <;> omega
 try simp at hc8
 refine x9x ?_
 refine hK7 _ _ ?_
 clear hK7 K7
 refine x4x x7x (by rfl) ?_
 refine x2x rfl ?_
 refine y0y ⟨.inr rfl, ?_⟩
 refine z0z rfl ?_ rfl
 simp only [List.cons.injEq, and_true, AV.pv.injEq, Value.int.injEq, true_and]
 split <;> (try split) <;> omega
theorem a3f (u v : List Int) (hab : u.length = v.length) (hn : u.length ≤ 1000000) (ty : Nat) : Meth Tryz.prog 213 2 [0, 1] [.bsl 0 0 0 u.length, .bsl 1 0 0 u.length] [(0, (0, .box ty (u.map pI))), (1, (0, .box ty (v.map pI)))] (.pv (.int .i64 (d1t u v))) [] := by
 refine u8u x7x (fn := Tryz.f213) (by kernel_rfl) (by kernel_rfl) rfl (O0 := [.pv (.int .i64 (d1t u v))]) 2 0 (Nat.le_of_ble_eq_true rfl) (by rfl) (by exact .box (c2w _ _) (.box (c2w _ _) .nil)) (by exact .nil) (by rfl) fun γ => ?_
 have hI : List.map (a5p idf γ) [(0, (0, .box ty (u.map pI))), (1, (0, .box ty (v.map pI)))] = [(0, ((γ 0), .box ty (u.map pI))), (1, ((γ 1), .box ty (v.map pI)))] := by simp only [List.map_cons, List.map_nil, a5p, inE, d2n]; rfl
 rw [hI]
 show Ex Tryz.prog _ _ [(0, .bsl 0 (γ 0) 0 u.length), (1, .bsl 1 (γ 1) 0 u.length)] [(0, ((γ 0), .box ty (u.map pI))), (1, ((γ 1), .box ty (v.map pI)))] _
 refine x4x x7x (by rfl) ?_
 refine x2x rfl ?_
 refine x5x fun K1 hK1 => ?_
 refine x4x x7x (by rfl) ?_
 refine x1x rfl ?_
 refine c2p rfl p3p rfl rfl (by intro s hs; cases hs) rfl ?_
 refine x1x rfl ?_
 refine y6y ?_
 refine u4u (ι := Nat) (fun i γ1 => [(11, .pv (.int .i64 (i : Int)))]) (fun i γ1 => []) (fun i => i ≤ u.length ∧ d1t u v = d1t (u.drop i) (v.drop i)) (fun i => u.length - i) (Cov.cons (t := 0) rfl (Cov.cons (t := 1) rfl (Cov.cons (t := 9) rfl (Cov.cons (t := 10) rfl Cov.nil)))) (HE.same (id := 0) rfl (HE.same (id := 1) rfl HE.nil)) 0 ⟨by omega, rfl⟩ [] (Cov.cons (t := 11) rfl Cov.nil) HE.nil rfl fun i γ1 hi => ?_
 try dsimp only [List.cons_append, List.nil_append]
 obtain ⟨h1, h2⟩ := hi
 refine x4x x7x (by rfl) ?_
 refine y3y rfl rfl rfl ?_
 refine x5x fun K2 hK2 => ?_
 refine x8x rfl (fun hc3 => ?_) (fun hc3 => ?_)
 rotate_left
 ·try simp at hc3
  refine v0v ?_
  refine hK1 _ _ ?_
  clear hK2 K2 hK1 K1
  refine x5x fun K8 hK8 => ?_
  refine x4x x7x (by rfl) ?_
  refine x1x rfl ?_
  refine c2p rfl p3p rfl rfl (by intro s hs; cases hs) rfl ?_
  refine x1x rfl ?_
  refine c2p rfl p3p rfl rfl (by intro s hs; cases hs) rfl ?_
  refine y3y rfl rfl rfl ?_
  refine x8x rfl (fun hc9 => ?_) (fun hc9 => ?_)
  ·simp at hc9
  try simp at hc9
  refine x9x ?_
  refine hK8 _ _ ?_
  clear hK8 K8
  refine x4x x7x (by rfl) ?_
  refine x2x rfl ?_
  refine y0y ?_
  exact ⟨.inr rfl, [γ 0, γ 1], rfl, congrArg (fun z => some [AV.pv (.int .i64 z)]) (by rw [h2, List.drop_of_length_le (by omega), List.drop_of_length_le (by omega)]; rfl), HE.cast hI (HE.same rfl (HE.same rfl HE.nil))⟩
 try simp at hc3
 obtain ⟨a, ha1⟩ : ∃ a, u[i]? = some a := ⟨_, List.getElem?_eq_getElem (by omega)⟩
 obtain ⟨b, hb1⟩ : ∃ b, v[i]? = some b := ⟨_, List.getElem?_eq_getElem (by omega)⟩
 refine x9x ?_
 refine hK2 _ _ ?_
 clear hK2 K2
 refine x5x fun K4 hK4 => ?_
 refine y6y ?_
 refine x4x x7x (by rfl) ?_
 refine x1x rfl ?_
 refine c9l x7x rfl rfl p3p rfl y9y rfl (by omega) ?_
 refine x3x rfl y9y rfl (c6d rfl ha1) ?_
 refine x2x rfl ?_
 refine x2x rfl ?_
 refine x5x fun K5 hK5 => ?_
 refine x4x x7x (by rfl) ?_
 refine x1x rfl ?_
 refine x1x rfl ?_
 refine c2p rfl p3p rfl rfl (by intro s hs; cases hs) rfl ?_
 refine y3y rfl rfl rfl ?_
 refine x8x rfl (fun hc6 => ?_) (fun hc6 => ?_)
 ·try simp at hc6
  omega
 try simp at hc6
 refine x9x ?_
 refine hK5 _ _ ?_
 clear hK5 K5
 refine x4x x7x (by rfl) ?_
 refine x1x rfl ?_
 refine x1x rfl ?_
 refine c9l x7x rfl rfl p3p rfl y9y rfl (by omega) ?_
 refine x3x rfl y9y rfl (c6d rfl hb1) ?_
 refine x2x rfl ?_
 refine x4x x7x (by rfl) ?_
 refine x1x rfl ?_
 refine x1x rfl ?_
 refine y7y rfl rfl rfl (b4d ..) ?_
 refine x2x rfl ?_
 refine x4x x7x (by rfl) ?_
 refine x1x rfl ?_
 refine y3y rfl rfl rfl ?_
 refine x8x rfl (fun hc7 => ?_) (fun hc7 => ?_)
 ·try simp at hc7
  have hz := hc7
  refine x4x x7x (by rfl) ?_
  refine x1x rfl ?_
  refine x2x rfl ?_
  refine y0y ?_
  exact ⟨.inr rfl, [γ 0, γ 1], rfl, congrArg (fun z => some [AV.pv (.int .i64 z)]) (by rw [h2, c3f ha1 hb1]; exact (d7l hz).symm), HE.cast hI (HE.same rfl (HE.same rfl HE.nil))⟩
 try simp at hc7
 have hz := hc7
 refine x9x ?_
 refine hK4 _ _ ?_
 clear hK4 K4
 refine y4y x7x (by rfl) ?_
 refine y3y rfl rfl rfl ?_
 refine x1x rfl ?_
 exact ⟨i + 1, ⟨⟨by omega, by rw [h2, c3f ha1 hb1, d7m hz]⟩, by omega⟩, [], (Cov.cons' (t := 11) rfl (by rw [v6v (by omega) (by omega)]; rfl) Cov.nil), (Cov.cons (t := 0) rfl (Cov.cons (t := 1) rfl (Cov.cons (t := 9) rfl (Cov.cons (t := 10) rfl Cov.nil)))), HE.nil, (HE.same (id := 0) rfl (HE.same (id := 1) rfl HE.nil)), rfl⟩
theorem a9z (e : Ev) : a0o Tryz.prog 147 [.agg (w0w e)] (.agg (w0w e)) := by
 refine z4z x7x (fn := Tryz.f147) (by kernel_rfl) (by kernel_rfl) rfl (outs := [.agg (w0w e)]) (by rfl) (Nat.le_of_ble_eq_true rfl) 2 ?_
 refine x4x x7x (by rfl) ?_
 refine v5v (id := 0) rfl rfl rfl ?_
 refine u9u (id := 1) p0p b9g rfl ?_
 refine x4x x7x (by rfl) ?_
 refine x0x rfl z1z rfl rfl y9y rfl rfl ?_
 refine x3x rfl y9y rfl rfl ?_
 refine x0x rfl z1z rfl rfl y9y rfl rfl ?_
 refine x3x rfl y9y rfl rfl ?_
 refine x0x rfl z1z rfl rfl y9y rfl rfl ?_
 refine x3x rfl y9y rfl rfl ?_
 refine x0x rfl z1z rfl rfl y9y rfl rfl ?_
 refine x3x rfl y9y rfl rfl ?_
 refine x0x rfl z1z rfl rfl y9y rfl rfl ?_
 refine x3x rfl y9y rfl rfl ?_
 refine x0x rfl z1z rfl rfl y9y rfl rfl ?_
 refine x3x rfl y9y rfl rfl ?_
 refine x0x rfl z1z rfl rfl y9y rfl rfl ?_
 refine x3x rfl y9y rfl rfl ?_
 refine b1o x7x p0p rfl y9y b9g rfl (by simp only [pI, y9y, b3s, List.range, List.range.loop, List.map_cons, List.map_nil, a2g, q9q, AV.okc, AV.one, Value.oneCell', T3, T4, List.getElem?_cons_zero, List.getElem?_cons_succ, List.take_succ_cons, List.take_zero, List.drop_succ_cons, List.drop_zero, List.cons_append, List.nil_append, List.length_cons, List.length_nil, if_true, and_self, Nat.reduceAdd, Nat.reduceMul, Nat.reduceLeDiff]; rfl) ?_
 refine z2z rfl rfl p0p rfl rfl rfl rfl ?_
 refine y0y ⟨.inr rfl, ?_⟩
 exact b6j rfl rfl rfl rfl
theorem b0a (e : Ev) : a0o Tryz.prog 169 [.agg (w0w e)] (.agg (w0w e)) := by
 refine z4z x7x (fn := Tryz.f169) (by kernel_rfl) (by kernel_rfl) rfl (outs := [.agg (w0w e)]) (by rfl) (Nat.le_of_ble_eq_true rfl) 2 ?_
 refine x4x x7x (by rfl) ?_
 refine v5v (id := 0) rfl rfl rfl ?_
 refine u9u (id := 1) z1z a7o rfl ?_
 refine x4x x7x (by rfl) ?_
 refine b1p x7x (j := 0) rfl rfl p0p rfl y9y (by decide) rfl ?_
 refine x3x rfl y9y rfl rfl ?_
 refine b1p x7x (j := 1) rfl rfl p0p rfl y9y (by decide) rfl ?_
 refine x3x rfl y9y rfl rfl ?_
 refine b1p x7x (j := 2) rfl rfl p0p rfl y9y (by decide) rfl ?_
 refine x3x rfl y9y rfl rfl ?_
 refine b1p x7x (j := 3) rfl rfl p0p rfl y9y (by decide) rfl ?_
 refine x3x rfl y9y rfl rfl ?_
 refine b1p x7x (j := 4) rfl rfl p0p rfl y9y (by decide) rfl ?_
 refine x3x rfl y9y rfl rfl ?_
 refine b1p x7x (j := 5) rfl rfl p0p rfl y9y (by decide) rfl ?_
 refine x3x rfl y9y rfl rfl ?_
 refine b1p x7x (j := 6) rfl rfl p0p rfl y9y (by decide) rfl ?_
 refine x3x rfl y9y rfl rfl ?_
 refine s5s z1z rfl a7o rfl (by simp only [pI, a2g, q9q, AV.okc, AV.one, T3, T4, List.getElem?_cons_zero, List.getElem?_cons_succ, List.take_succ_cons, List.take_zero, List.drop_succ_cons, List.drop_zero, List.cons_append, List.nil_append, List.length_cons, List.length_nil, if_true, and_self, Nat.reduceAdd, Nat.reduceLeDiff]; rfl) ?_
 refine z2z rfl rfl z1z rfl rfl rfl rfl ?_
 refine y0y ⟨.inr rfl, ?_⟩
 exact b6j rfl rfl rfl rfl
theorem a4b (a b : Ev) : a0o Tryz.prog 146 [.agg (w0w a), .agg (w0w b)] (.pv (.bool (a2b a b))) := by
 refine z4z x7x (fn := Tryz.f146) (by kernel_rfl) (by kernel_rfl) rfl (outs := [.pv (.bool (a2b a b))]) (by rfl) (Nat.le_of_ble_eq_true rfl) 2 ?_
 refine x4x x7x (by rfl) ?_
 refine v5v (id := 0) rfl rfl rfl ?_
 refine v5v (id := 1) rfl rfl rfl ?_
 refine x2x rfl ?_
 refine p6p x7x r2r (by rfl) ?_
 refine c6b x7x rfl p0p rfl y9y rfl ?_
 refine c6b x7x rfl p0p rfl y9y rfl ?_
 refine v4v [0, 1] [_, _] (a3f (evN a) (evN b) rfl (Nat.le_of_ble_eq_true rfl) 179) rfl rfl rfl (by decide) rfl rfl (by repeat (first | exact InH.nil | refine InH.cons rfl ?_)) (by (simp only [pI, List.map_cons, List.map_nil, z8z, z9z, gl, nx, p4p, Nat.beq, Nat.add_eq, List.getD_cons_zero, List.getD_cons_succ, List.getD_nil, Bool.or_false, Bool.false_or, Bool.true_or, Bool.or_true, Nat.add_zero, Nat.zero_add]; rfl)) (by (simp only [pI, List.map_cons, List.map_nil, z8z, z9z, gl, nx, p4p, Nat.beq, Nat.add_eq, List.getD_cons_zero, List.getD_cons_succ, List.getD_nil, Bool.or_false, Bool.false_or, Bool.true_or, Bool.or_true, Nat.add_zero, Nat.zero_add]; rfl)) ?_
 refine y3y rfl rfl rfl ?_
 refine x2x rfl ?_
 refine ⟨by kernel_rfl, ?_⟩
 refine y0y ⟨.inr rfl, ?_⟩
 refine z0z rfl ?_ rfl
 simp only [a2b, ← c0x (evN a) (evN b) rfl]
theorem a8x (a b : Ev) : a0o Tryz.prog 60 [.agg (w0w a), .agg (w0w b)] (.pv (.bool (a2b a b))) := by
 refine z4z x7x (fn := Tryz.f60) (by kernel_rfl) (by kernel_rfl) rfl (outs := [.pv (.bool (a2b a b))]) (by rfl) (Nat.le_of_ble_eq_true rfl) 2 ?_
 refine x4x x7x (by rfl) ?_
 refine v5v (id := 0) rfl rfl rfl ?_
 refine v5v (id := 1) rfl rfl rfl ?_
 refine x2x rfl ?_
 refine p6p x7x r2r (by rfl) ?_
 refine y1y rfl z1z rfl rfl rfl ?_
 refine y7y rfl rfl rfl (a9z ..) ?_
 refine y1y rfl z1z rfl rfl rfl ?_
 refine y7y rfl rfl rfl (a9z ..) ?_
 refine y7y rfl rfl rfl (a4b ..) ?_
 refine x2x rfl ?_
 refine ⟨by kernel_rfl, ?_⟩
 refine y0y ⟨.inr rfl, ?_⟩
 exact z0z rfl rfl rfl
end
section
def a6x (l : List Ev) : List (Value × AV) := (r5r l).map fun k => (b7y (evN k), pI (l.count k : Nat))
def a2o (l : List Ev) (e : Ev) : Nat := (a4o (r5r l) e).getD (r5r l).length
def b1v (l : List Ev) (e : Ev) : List (Value × AV) := if e ∈ l then a6x l else a6x l ++ [(b7y (evN e), pI (l.count e : Nat))]
theorem a1e (l : List Ev) : (a6x l).map (·.1) = (r5r l).map fun k => b7y (evN k) := by
 rw [a6x, List.map_map]; rfl
theorem c6v {l : List Ev} {e : Ev} {j : Nat} (h : a4o (r5r l) e = some j) : (a6x l)[j]? = some (b7y (evN e), pI (l.count e : Nat)) := by
 rw [a6x, List.getElem?_map, b1n h]; rfl
theorem c1x {l : List Ev} {e : Ev} (h : a4o (r5r l) e = none) : e ∉ l ∧ l.count e = 0 := by
 have := a9m.1 h
 rw [a1b] at this
 exact ⟨this, List.count_eq_zero.2 this⟩
theorem b4e {tt : TT} {et : TypeId} {S : TS} (hs : tt et = some S) (hz : b3r S = pI 0) (l : List Ev) (e : Ev) : (∃ j kv, a4o (r5r l) e = some j ∧ (a6x l)[j]? = some (kv, pI (l.count e : Nat))) ∨ (a4o (r5r l) e = none ∧ ∃ S, tt et = some S ∧ pI (l.count e : Nat) = b3r S) := by
 cases h : a4o (r5r l) e with
 | some j => exact .inl ⟨j, _, rfl, c6v h⟩
 | none => exact .inr ⟨rfl, S, hs, by rw [hz, (c1x h).2]; rfl⟩
theorem a3d {tt : TT} {et : TypeId} {S : TS} (hs : tt et = some S) (hz : b3r S = pI 0) (l : List Ev) (e : Ev) :
  (a4o (r5r l) e = some (a2o l e) ∧ (a6x l)[a2o l e]? = some (b7y (evN e), pI (l.count e : Nat)) ∧ b1v l e = a6x l) ∨
   (a4o (r5r l) e = none ∧ a2o l e = (a6x l).length ∧ b1v l e = a6x l ++ [(b7y (evN e), pI (l.count e : Nat))] ∧ ∃ S, tt et = some S ∧ pI (l.count e : Nat) = b3r S) := by
 cases h : a4o (r5r l) e with
 | some j =>
  have hm : e ∈ l := by
   rw [← a1b]; exact List.mem_of_getElem? (b1n h)
  have hp : a2o l e = j := by rw [a2o, h]; rfl
  exact .inl ⟨by rw [hp], by rw [hp]; exact c6v h, if_pos hm⟩
 | none =>
  have hn := c1x h
  exact .inr ⟨rfl, by rw [a2o, h, a6x, List.length_map]; rfl, if_neg hn.1, S, hs, by rw [hz, hn.2]; rfl⟩
theorem a1f (l : List Ev) (e : Ev) : (b1v l e)[a2o l e]? = some (b7y (evN e), pI (l.count e : Nat)) := by
 rcases a3d (tt := fun _ => some ⟨.oth, 1, 8, [.int .i64 0]⟩) (et := 0) rfl rfl l e with ⟨h1, h2, h3⟩ | ⟨h1, h2, h3, _⟩
 ·rw [h3]; exact h2
 ·rw [h3, h2, List.getElem?_append_right (Nat.le_refl _), Nat.sub_self]; rfl
def d3h (l : List Ev) (e : Ev) : List Ev := if e ∈ l then r5r l else r5r l ++ [e]
theorem b0k (l : List Ev) (e : Ev) : (b1v l e).map (·.1) = (d3h l e).map fun k => b7y (evN k) := by
 unfold b1v d3h
 split
 ·exact a1e l
 ·rw [List.map_append, List.map_append, a1e]; rfl
theorem c4e {κ : Type} [DecidableEq κ] {k : κ} : ∀ {ks : List κ}, a4o ks k = none → a4o (ks ++ [k]) k = some ks.length
 | [], _ => by simp [a4o]
 | a :: r, h => by
  simp only [a4o] at h
  split at h
  ·cases h
  ·rename_i hne
   simp only [List.cons_append, a4o, if_neg hne, List.length_cons]
   rw [c4e (by simpa using h)]; rfl
theorem b0l {tt : TT} {et : TypeId} (l : List Ev) (e : Ev) : (∃ j kv, a4o (d3h l e) e = some j ∧ (b1v l e)[j]? = some (kv, pI (l.count e : Nat))) ∨ (a4o (d3h l e) e = none ∧ ∃ S, tt et = some S ∧ pI (l.count e : Nat) = b3r S) := by
 refine .inl ⟨a2o l e, _, ?_, a1f l e⟩
 unfold d3h
 cases h : a4o (r5r l) e with
 | some j =>
  have hm : e ∈ l := by rw [← a1b]; exact List.mem_of_getElem? (b1n h)
  rw [if_pos hm, a2o, h]; rfl
 | none => rw [if_neg (c1x h).1, c4e h, a2o, h]; rfl
theorem a1r (l : List Ev) (e : Ev) : (b1v l e).set (a2o l e) (b7y (evN e), pI ((l.count e + 1 : Nat) : Int)) = a6x (l ++ [e]) := by
 have hc : ∀ k, k ≠ e → (l ++ [e]).count k = l.count k := fun k hk => by
  rw [List.count_append, List.count_singleton]
  simp [Ne.symm hk]
 have hce : (l ++ [e]).count e = l.count e + 1 := by
  rw [List.count_append, List.count_singleton]; simp
 by_cases hm : e ∈ l
 ·have ho : r5r (l ++ [e]) = r5r l := by rw [a8n, if_pos ((a1b e l).2 hm)]
  obtain ⟨j, hj⟩ := c2s ((a1b e l).2 hm)
  have hp : a2o l e = j := by rw [a2o, hj]; rfl
  have hg := b1n hj
  rw [b1v, if_pos hm, hp, a6x, a6x, ho]
  apply List.ext_getElem?
  intro i
  rw [List.getElem?_set, List.getElem?_map, List.length_map]
  by_cases hi : j = i
  ·subst hi
   rw [if_pos rfl, if_pos (List.getElem?_eq_some_iff.1 hg).1, List.getElem?_map, hg]
   simp only [Option.map_some, hce]
  ·rw [if_neg hi, List.getElem?_map]
   cases hk : (r5r l)[i]? with
   | none => rfl
   | some k =>
    have hne : k ≠ e := fun h => by
     subst h
     exact hi ((List.getElem?_inj (List.getElem?_eq_some_iff.1 hg).1 (b4n l)).1 (hg.trans hk.symm))
    simp only [Option.map_some, hc k hne]
 ·have h0 : a4o (r5r l) e = none := a9m.2 (by rw [a1b]; exact hm)
  have ho : r5r (l ++ [e]) = r5r l ++ [e] := by rw [a8n, if_neg (by rw [a1b]; exact hm)]
  have hp : a2o l e = (a6x l).length := by rw [a2o, h0, a6x, List.length_map]; rfl
  rw [b1v, if_neg hm, hp, List.set_append_right _ _ (Nat.le_refl _), Nat.sub_self, List.set_cons_zero, a6x, a6x, ho, List.map_append]
  congr 1
  ·refine List.map_congr_left fun k hk => ?_
   rw [hc k (fun h => hm ((a1b e l).1 (h ▸ hk)))]
  ·simp only [List.map_cons, List.map_nil, hce]
theorem c5k {l : List Ev} {e : Ev} : (l ++ [e]).count e = 1 → a8m a2b (r5r (l ++ [e])) = b2s a2b (a8m a2b (r5r l)) e := fun h => by
 have : e ∉ l := by
  rw [List.count_append, List.count_singleton] at h
  exact List.count_eq_zero.1 (by simpa using h)
 rw [a8n, if_neg (by rw [a1b]; exact this), b9l]
theorem c5l {l : List Ev} {e : Ev} : ¬ (l ++ [e]).count e = 1 → r5r (l ++ [e]) = r5r l := fun h => by
 have : e ∈ l := by
  rw [List.count_append, List.count_singleton] at h
  refine Classical.byContradiction fun hn => h ?_
  rw [List.count_eq_zero.2 hn]; simp
 rw [a8n, if_pos (by rw [a1b]; exact this)]
end
section
theorem a4k (l : List Ev) (x : Ev) (hl : l.length ≤ 1000000000) : Meth Tryz.prog 229 2 [0] [.ptr 0 0 0, .agg (w0w x)] [(0, (0, .box 255 [.ref 1 0, .fn (.func 146) [] []])), (1, (0, .row 179 7 ((l).map w0w)))] (.tup []) [(0, (0, .box 255 [.ref 1 0, .fn (.func 146) [] []])), (1, (0, .row 179 7 ((b2s a2b l x).map w0w)))] := by
 refine u8u x7x (fn := Tryz.f229) (by kernel_rfl) (by kernel_rfl) rfl (O0 := []) 2 3 (Nat.le_of_ble_eq_true rfl) (by rfl) (by repeat (first | exact BndH.nil | refine BndH.box rfl ?_ | refine BndH.row (u3u fun _ => rfl) ?_)) (by repeat (first | exact BndH.nil | refine BndH.box rfl ?_ | refine BndH.row (u3u fun _ => rfl) ?_)) (by rfl) fun γ => ?_
 show Ex Tryz.prog _ _ [(0, .ptr 0 (γ 0) 0), (1, .agg (w0w x))] [(0, ((γ 0), .box 255 [.ref 1 (γ 1), .fn (.func 146) [] []])), (1, ((γ 1), .row 179 7 ((l).map w0w))), (4, (0, .dead)), (3, (0, .dead)), (2, (0, .dead))] _
 refine x4x x7x (by rfl) ?_
 refine v5v (id := 2) rfl rfl rfl ?_
 refine p6p x7x r2r (by rfl) ?_
 refine x1x rfl ?_
 refine x1x rfl ?_
 refine v9v rfl rfl ?_
 refine x0x rfl a0n rfl rfl w3w rfl rfl ?_
 refine x3x rfl w3w rfl rfl ?_
 refine y1y rfl p0p rfl rfl rfl ?_
 refine r6r (id := 3) w3w rfl p0p rfl rfl rfl rfl rfl rfl ?_
 refine r8r rfl rfl w3w rfl p0p rfl rfl rfl rfl (by rfl) (by exact a0j _ _ _) (by (simp only [List.length_map, List.length_append, List.length_cons, List.length_nil, T179]; omega)) ?_
 refine v9v rfl rfl ?_
 refine x0x rfl a0n rfl rfl w3w rfl rfl ?_
 refine u5u rfl rfl w3w rfl rfl rfl rfl rfl (by simp only [List.set_cons_zero, List.set_cons_succ]; rfl) ?_
 refine ⟨by kernel_rfl, ?_⟩
 refine x4x x7x (by rfl) ?_
 refine x1x rfl ?_
 refine v9v rfl rfl ?_
 refine x0x rfl a0n rfl rfl w3w rfl rfl ?_
 refine x3x rfl w3w rfl rfl ?_
 refine a0v rfl w3w rfl rfl (by exact List.length_map _) ?_
 refine a0k (b := 1) rfl rfl (by (simp; done)) (by (simp; omega)) ?_
 refine x2x rfl ?_
 refine y6y ?_
 refine u4u (ι := Nat × List Ev) (fun i γ1 => [(4, .pv (.int .i64 (i.1 : Int)))]) (fun i γ1 => [(1, ((γ1 1), .row 179 7 ((i.2).map w0w))), (0, ((γ 0), .box 255 [.ref 1 (γ1 1), .fn (.func 146) [] []]))]) (fun i => a5s a2b i.2 i.1 = b2s a2b l x ∧ i.1 < i.2.length ∧ i.2.length = l.length + 1) (fun i => i.1) (Cov.cons (t := 0) rfl Cov.nil) (HE.same (id := 2) rfl (HE.same (id := 3) rfl (HE.same (id := 4) rfl HE.nil))) (l.length, l ++ [x]) ⟨rfl, by simp, by simp⟩ [0, _] (Cov.cons' (t := 4) rfl (by simp) Cov.nil) (HE.row rfl rfl (HE.box rfl rfl HE.nil)) rfl fun i γ1 hi => ?_
 try dsimp only [List.cons_append, List.nil_append]
 obtain ⟨k, m⟩ := i
 obtain ⟨h1, h2, h3⟩ := hi
 dsimp only at h1 h2 h3 ⊢
 refine x5x fun K1 hK1 => ?_
 refine x4x x7x (by rfl) ?_
 refine x1x rfl ?_
 refine y3y rfl rfl rfl ?_
 refine x8x rfl (fun hc2 => ?_) (fun hc2 => ?_)
 rotate_left
 ·try simp at hc2
  have hk : k = 0 := by omega
  subst hk
  have hfin := siftUp_zero.symm.trans h1
  refine v0v ?_
  exact ⟨.inl rfl, [γ 0, _], rfl, rfl, HE.box rfl rfl (HE.row rfl (by rw [← hfin]) HE.nil)⟩
 try simp at hc2
 obtain ⟨a, ha⟩ : ∃ a, m[k]? = some a := ⟨_, List.getElem?_eq_getElem (by omega)⟩
 obtain ⟨b, hb⟩ : ∃ b, m[(k - 1) / 2]? = some b := ⟨_, List.getElem?_eq_getElem (by omega)⟩
 have hp : (k - 1) / 2 < k := by omega
 refine x9x ?_
 refine hK1 _ _ ?_
 clear hK1 K1
 refine y6y ?_
 refine x4x x7x (by rfl) ?_
 refine x1x rfl ?_
 refine a0k (b := 1) rfl rfl (by omega) (by omega) ?_
 refine c9b (b := 2) rfl rfl (by omega) (by omega) ?_
 refine x2x rfl ?_
 refine x5x fun K3 hK3 => ?_
 refine p6p x7x r2r (by rfl) ?_
 refine x1x rfl ?_
 refine v9v rfl rfl ?_
 refine x0x rfl a0n rfl rfl b6c rfl rfl ?_
 refine x3x rfl b6c rfl rfl ?_
 refine x1x rfl ?_
 refine v9v rfl rfl ?_
 refine x0x rfl a0n rfl rfl w3w rfl rfl ?_
 refine x3x rfl w3w rfl rfl ?_
 refine x1x rfl ?_
 refine w7w (j := k) rfl rfl w3w rfl p0p rfl rfl (by omega) ?_
 refine q6q rfl p0p rfl ha rfl rfl ?_
 refine x1x rfl ?_
 refine v9v rfl rfl ?_
 refine x0x rfl a0n rfl rfl w3w rfl rfl ?_
 refine x3x rfl w3w rfl rfl ?_
 refine x1x rfl ?_
 refine w7w (j := (k - 1) / 2) rfl rfl w3w rfl p0p rfl rfl (by omega) ?_
 refine q6q rfl p0p rfl hb rfl rfl ?_
 refine y7y rfl rfl rfl (a4b _ _) ?_
 refine w2w rfl ?_
 refine ⟨by kernel_rfl, ?_⟩
 refine x8x rfl (fun hc4 => ?_) (fun hc4 => ?_)
 ·try simp at hc4
  have hfin := (b1s ha hb hc4).symm.trans h1
  refine v0v ?_
  exact ⟨.inl rfl, [γ 0, _], rfl, rfl, HE.box rfl rfl (HE.row rfl (by rw [← hfin]) HE.nil)⟩
 try simp at hc4
 have hg := hc4
 refine x9x ?_
 refine hK3 _ _ ?_
 clear hK3 K3
 refine p6p x7x r2r (by rfl) ?_
 refine x1x rfl ?_
 refine v9v rfl rfl ?_
 refine x0x rfl a0n rfl rfl w3w rfl rfl ?_
 refine x3x rfl w3w rfl rfl ?_
 refine x1x rfl ?_
 refine x1x rfl ?_
 refine v9v rfl rfl ?_
 refine x0x rfl a0n rfl rfl w3w rfl rfl ?_
 refine x3x rfl w3w rfl rfl ?_
 refine x1x rfl ?_
 refine x1x rfl ?_
 refine v9v rfl rfl ?_
 refine x0x rfl a0n rfl rfl w3w rfl rfl ?_
 refine x3x rfl w3w rfl rfl ?_
 refine x1x rfl ?_
 refine w7w (j := (k - 1) / 2) rfl rfl w3w rfl p0p rfl rfl (by omega) ?_
 refine q6q rfl p0p rfl hb rfl rfl ?_
 refine x1x rfl ?_
 refine v9v rfl rfl ?_
 refine x0x rfl a0n rfl rfl w3w rfl rfl ?_
 refine x3x rfl w3w rfl rfl ?_
 refine x1x rfl ?_
 refine w7w (j := k) rfl rfl w3w rfl p0p rfl rfl (by omega) ?_
 refine q6q rfl p0p rfl ha rfl rfl ?_
 refine w7w (j := k) rfl rfl w3w rfl p0p rfl rfl (by omega) ?_
 refine s8s (el' := b) rfl rfl p0p rfl rfl rfl ha rfl (a0t _) rfl rfl ?_
 refine w7w (j := (k - 1) / 2) rfl rfl w3w rfl p0p rfl rfl (by rw [List.length_set]; omega) ?_
 refine s8s (el' := a) rfl rfl p0p rfl rfl rfl (by rw [List.getElem?_set_ne (by omega)]; exact hb) rfl (a0t _) rfl rfl ?_
 refine ⟨by kernel_rfl, ?_⟩
 refine y4y x7x (by rfl) ?_
 refine x1x rfl ?_
 refine x2x rfl ?_
 exact ⟨((k - 1) / 2, sw m k ((k - 1) / 2)), ⟨⟨by rw [← h1, b1r (by omega) ha hb hg], by rw [a6o]; dsimp only; omega, by rw [a6o]; exact h3⟩, (by dsimp only; omega)⟩, [0, _], (Cov.cons (t := 4) rfl Cov.nil), (Cov.cons (t := 0) rfl Cov.nil), (HE.row rfl (by rw [d0i ha hb]) (HE.box rfl rfl HE.nil)), (HE.same (id := 2) rfl (HE.same (id := 3) rfl (HE.same (id := 4) rfl HE.nil))), rfl⟩
theorem a4t (m : Ev) (r : List Ev) (hl : r.length ≤ 1000000000) : Meth Tryz.prog 254 2 [0] [.ptr 0 0 0] [(0, (0, .box 255 [.ref 1 0, .fn (.func 146) [] []])), (1, (0, .row 179 7 ((m :: r).map w0w)))] (.agg (w0w m)) [(0, (0, .box 255 [.ref 1 0, .fn (.func 146) [] []])), (1, (0, .row 179 7 ((a8l a2b (m :: r)).map w0w)))] := by
 refine u8u x7x (fn := Tryz.f254) (by kernel_rfl) (by kernel_rfl) rfl (O0 := [.agg (w0w m)]) 2 2 (Nat.le_of_ble_eq_true rfl) (by rfl) (by repeat (first | exact BndH.nil | refine BndH.box rfl ?_ | refine BndH.row (u3u fun _ => rfl) ?_)) (by repeat (first | exact BndH.nil | refine BndH.box rfl ?_ | refine BndH.row (u3u fun _ => rfl) ?_)) (by rfl) fun γ => ?_
 show Ex Tryz.prog _ _ [(0, .ptr 0 (γ 0) 0)] [(0, ((γ 0), .box 255 [.ref 1 (γ 1), .fn (.func 146) [] []])), (1, ((γ 1), .row 179 7 ((m :: r).map w0w))), (3, (0, .dead)), (2, (0, .dead))] _
 obtain ⟨T0, hT⟩ : ∃ T0, T0 = ((m :: r).set 0 ((m :: r).getLast (by simp))).take r.length := ⟨_, rfl⟩
 have hres : a8l a2b (m :: r) = a0w a2b T0 0 := by rw [hT]; rfl
 have hTl : T0.length = r.length := by rw [hT]; simp
 have hlast : (m :: r)[(m :: r).length - 1]? = some ((m :: r).getLast (by simp)) := by rw [← List.getLast?_eq_getElem?, List.getLast?_eq_some_getLast]
 refine x4x x7x (by rfl) ?_
 refine u9u (id := 2) p0p b9g rfl ?_
 refine x4x x7x (by rfl) ?_
 refine x1x rfl ?_
 refine v9v rfl rfl ?_
 refine x0x rfl a0n rfl rfl w3w rfl rfl ?_
 refine x3x rfl w3w rfl rfl ?_
 refine w7w (j := 0) rfl rfl w3w rfl p0p rfl rfl (by simp) ?_
 refine q6q rfl p0p rfl (show (m :: r)[0]? = some m from rfl) rfl rfl ?_
 refine u9u (id := 3) p0p b9g rfl ?_
 refine z2z rfl rfl p0p rfl rfl rfl rfl ?_
 refine x4x x7x (by rfl) ?_
 refine x1x rfl ?_
 refine v9v rfl rfl ?_
 refine x0x rfl a0n rfl rfl w3w rfl rfl ?_
 refine x3x rfl w3w rfl rfl ?_
 refine a0v rfl w3w rfl rfl (by exact List.length_map _) ?_
 refine a0k (b := 1) rfl rfl (by (simp; done)) (by (simp; omega)) ?_
 refine x2x rfl ?_
 refine p6p x7x r2r (by rfl) ?_
 refine x1x rfl ?_
 refine v9v rfl rfl ?_
 refine x0x rfl a0n rfl rfl w3w rfl rfl ?_
 refine x3x rfl w3w rfl rfl ?_
 refine x1x rfl ?_
 refine v9v rfl rfl ?_
 refine x0x rfl a0n rfl rfl w3w rfl rfl ?_
 refine x3x rfl w3w rfl rfl ?_
 refine x1x rfl ?_
 refine w7w (j := (m :: r).length - 1) rfl rfl w3w rfl p0p rfl rfl (by simp) ?_
 refine q6q rfl p0p rfl hlast rfl rfl ?_
 refine w7w (j := 0) rfl rfl w3w rfl p0p rfl rfl (by simp) ?_
 refine s8s (el' := ((m :: r).getLast (by simp))) rfl rfl p0p rfl rfl rfl (show (m :: r)[0]? = some m from rfl) rfl (a0t _) rfl rfl ?_
 refine ⟨by kernel_rfl, ?_⟩
 refine x4x x7x (by rfl) ?_
 refine x1x rfl ?_
 refine x1x rfl ?_
 refine v9v rfl rfl ?_
 refine x0x rfl a0n rfl rfl w3w rfl rfl ?_
 refine x3x rfl w3w rfl rfl ?_
 refine x1x rfl ?_
 refine c6a x7x (u := (m :: r).length - 1) (ys := T0.map w0w) rfl w3w rfl p0p rfl rfl rfl (by (simp; done)) (by rw [hT, List.map_take]; rfl) ?_
 refine v9v rfl rfl ?_
 refine x0x rfl a0n rfl rfl w3w rfl rfl ?_
 refine u5u rfl rfl w3w rfl rfl rfl rfl rfl (by simp only [List.set_cons_zero, List.set_cons_succ]; rfl) ?_
 refine x4x x7x (by rfl) ?_
 refine x2x rfl ?_
 refine y6y ?_
 refine u4u (ι := Nat × List Ev) (fun i γ1 => [(5, .pv (.int .i64 (i.1 : Int)))]) (fun i γ1 => [(1, ((γ1 1), .row 179 7 ((i.2).map w0w))), (0, ((γ 0), .box 255 [.ref 1 (γ1 1), .fn (.func 146) [] []]))]) (fun i => a0w a2b i.2 i.1 = a8l a2b (m :: r) ∧ i.2.length = r.length ∧ i.1 ≤ r.length) (fun i => i.2.length - i.1) (Cov.cons (t := 0) rfl (Cov.cons (t := 2) rfl (Cov.cons (t := 3) rfl (Cov.cons (t := 4) rfl Cov.nil)))) (HE.same (id := 2) rfl (HE.same (id := 3) rfl HE.nil)) (0, T0) ⟨hres.symm, hTl, by omega⟩ [0, _] (Cov.cons (t := 5) rfl Cov.nil) (HE.row rfl rfl (HE.box rfl rfl HE.nil)) rfl fun i γ1 hi => ?_
 try dsimp only [List.cons_append, List.nil_append]
 obtain ⟨k, t⟩ := i
 obtain ⟨h1, h2, h3⟩ := hi
 dsimp only at h1 h2 h3 ⊢
 refine y6y ?_
 refine x4x x7x (by rfl) ?_
 refine x1x rfl ?_
 refine c9a (a := 2) rfl rfl (by omega) ?_
 refine u1u (b := 1) rfl rfl (by omega) ?_
 refine x2x rfl ?_
 refine x5x fun K1 hK1 => ?_
 refine x4x x7x (by rfl) ?_
 refine x1x rfl ?_
 refine x1x rfl ?_
 refine y3y rfl rfl rfl ?_
 refine x8x rfl (fun hc2 => ?_) (fun hc2 => ?_)
 ·try simp at hc2
  have hfin := (a3j (lt := a2b) (l := t) (k := k) (by omega)).symm.trans h1
  refine x4x x7x (by rfl) ?_
  refine y1y rfl p0p rfl rfl rfl ?_
  refine z2z rfl rfl p0p rfl rfl rfl rfl ?_
  refine y0y ?_
  exact ⟨.inr rfl, [γ 0, _], rfl, rfl, HE.box rfl rfl (HE.row rfl (by rw [← hfin]) HE.nil)⟩
 try simp at hc2
 have hlt : 2 * k + 1 < t.length := by omega
 refine x9x ?_
 refine hK1 _ _ ?_
 clear hK1 K1
 refine a9l (ι := Unit) (fun _i γ2 => [(6, .pv (.int .i64 (a1u a2b t k : Int)))]) (fun _i γ2 => []) (fun _i => True) (Cov.cons (t := 0) rfl (Cov.cons (t := 2) rfl (Cov.cons (t := 3) rfl (Cov.cons (t := 4) rfl (Cov.cons (t := 5) rfl Cov.nil))))) (HE.same (id := 0) rfl (HE.same (id := 1) rfl (HE.same (id := 2) rfl (HE.same (id := 3) rfl HE.nil)))) ?_ fun _i γ2 hi => ?_
 ·refine p6p x7x r2r (by rfl) ?_
  refine x1x rfl ?_
  refine u1u (b := 1) rfl rfl (by omega) ?_
  refine x1x rfl ?_
  refine y3y rfl rfl rfl ?_
  refine x1x rfl ?_
  refine s9s rfl rfl (fun hg3 => ?_) (fun hg3 => ?_)
  rotate_left
  ·try simp at hg3
   have hlt2 : ¬ 2 * k + 2 < t.length := by omega
   refine x6x rfl rfl ?_
   refine x6x rfl rfl ?_
   refine x6x rfl rfl ?_
   refine x6x rfl rfl ?_
   refine x6x rfl rfl ?_
   refine x6x rfl rfl ?_
   refine x6x rfl rfl ?_
   refine x6x rfl rfl ?_
   refine x6x rfl rfl ?_
   refine x6x rfl rfl ?_
   refine x6x rfl rfl ?_
   refine x6x rfl rfl ?_
   refine x6x rfl rfl ?_
   refine x6x rfl rfl ?_
   refine x6x rfl rfl ?_
   refine x6x rfl rfl ?_
   refine x6x rfl rfl ?_
   refine x6x rfl rfl ?_
   refine x6x rfl rfl ?_
   refine y2y rfl rfl ?_
   refine ⟨by kernel_rfl, ?_⟩
   refine x8x rfl (fun hc5 => ?_) (fun hc5 => ?_)
   ·simp at hc5
   try simp at hc5
   try have hl1 := hc5
   refine x9x ?_
   exact ⟨(), trivial, [], (Cov.cons' (t := 6) rfl (by rw [d0n (by omega)]) Cov.nil), (Cov.cons (t := 0) rfl (Cov.cons (t := 2) rfl (Cov.cons (t := 3) rfl (Cov.cons (t := 4) rfl (Cov.cons (t := 5) rfl Cov.nil))))), HE.nil, (HE.same (id := 0) rfl (HE.same (id := 1) rfl (HE.same (id := 2) rfl (HE.same (id := 3) rfl HE.nil)))), rfl⟩
  try simp at hg3
  have hlt2 : 2 * k + 1 + 1 < t.length := by omega
  obtain ⟨c1, hc1⟩ : ∃ c1, t[2 * k + 1 + 1]? = some c1 := ⟨_, List.getElem?_eq_getElem (by omega)⟩
  obtain ⟨d1, hd1⟩ : ∃ d1, t[2 * k + 1]? = some d1 := ⟨_, List.getElem?_eq_getElem (by omega)⟩
  refine x1x rfl ?_
  refine y5y rfl rfl ?_
  refine v9v rfl rfl ?_
  refine y5y rfl rfl ?_
  refine x0x rfl a0n rfl rfl b6c rfl rfl ?_
  refine y5y rfl rfl ?_
  refine x3x rfl b6c rfl rfl ?_
  refine y5y rfl rfl ?_
  refine x1x rfl ?_
  refine y5y rfl rfl ?_
  refine v9v rfl rfl ?_
  refine y5y rfl rfl ?_
  refine x0x rfl a0n rfl rfl w3w rfl rfl ?_
  refine y5y rfl rfl ?_
  refine x3x rfl w3w rfl rfl ?_
  refine y5y rfl rfl ?_
  refine x1x rfl ?_
  refine y5y rfl rfl ?_
  refine u1u (b := 1) rfl rfl (by omega) ?_
  refine y5y rfl rfl ?_
  refine w7w (j := 2 * k + 1 + 1) rfl rfl w3w rfl p0p rfl rfl (by omega) ?_
  refine y5y rfl rfl ?_
  refine q6q rfl p0p rfl hc1 rfl rfl ?_
  refine y5y rfl rfl ?_
  refine x1x rfl ?_
  refine y5y rfl rfl ?_
  refine v9v rfl rfl ?_
  refine y5y rfl rfl ?_
  refine x0x rfl a0n rfl rfl w3w rfl rfl ?_
  refine y5y rfl rfl ?_
  refine x3x rfl w3w rfl rfl ?_
  refine y5y rfl rfl ?_
  refine x1x rfl ?_
  refine y5y rfl rfl ?_
  refine w7w (j := 2 * k + 1) rfl rfl w3w rfl p0p rfl rfl (by omega) ?_
  refine y5y rfl rfl ?_
  refine q6q rfl p0p rfl hd1 rfl rfl ?_
  refine y5y rfl rfl ?_
  refine y7y rfl rfl rfl (a4b _ _) ?_
  refine y8y rfl rfl ?_
  refine ⟨by kernel_rfl, ?_⟩
  refine x8x rfl (fun hc4 => ?_) (fun hc4 => ?_)
  rotate_left
  ·try simp at hc4
   try have hl1 := hc4
   refine x9x ?_
   exact ⟨(), trivial, [], (Cov.cons' (t := 6) rfl (by rw [d0m hc1 hd1 hl1]) Cov.nil), (Cov.cons (t := 0) rfl (Cov.cons (t := 2) rfl (Cov.cons (t := 3) rfl (Cov.cons (t := 4) rfl (Cov.cons (t := 5) rfl Cov.nil))))), HE.nil, (HE.same (id := 0) rfl (HE.same (id := 1) rfl (HE.same (id := 2) rfl (HE.same (id := 3) rfl HE.nil)))), rfl⟩
  try simp at hc4
  have hl1 := hc4
  refine y4y x7x (by rfl) ?_
  refine x1x rfl ?_
  refine u1u (b := 1) rfl rfl (by omega) ?_
  refine x2x rfl ?_
  exact ⟨(), trivial, [], (Cov.cons' (t := 6) rfl (by rw [d0l hc1 hd1 hl1]) Cov.nil), (Cov.cons (t := 0) rfl (Cov.cons (t := 2) rfl (Cov.cons (t := 3) rfl (Cov.cons (t := 4) rfl (Cov.cons (t := 5) rfl Cov.nil))))), HE.nil, (HE.same (id := 0) rfl (HE.same (id := 1) rfl (HE.same (id := 2) rfl (HE.same (id := 3) rfl HE.nil)))), rfl⟩
 ·try dsimp only [List.cons_append, List.nil_append]
  have hch := a8i (lt := a2b) t k
  obtain ⟨a, ha⟩ : ∃ a, t[a1u a2b t k]? = some a := ⟨_, List.getElem?_eq_getElem (by omega)⟩
  obtain ⟨b, hb⟩ : ∃ b, t[k]? = some b := ⟨_, List.getElem?_eq_getElem (by omega)⟩
  refine x5x fun K6 hK6 => ?_
  refine p6p x7x r2r (by rfl) ?_
  refine x1x rfl ?_
  refine v9v rfl rfl ?_
  refine x0x rfl a0n rfl rfl b6c rfl rfl ?_
  refine x3x rfl b6c rfl rfl ?_
  refine x1x rfl ?_
  refine v9v rfl rfl ?_
  refine x0x rfl a0n rfl rfl w3w rfl rfl ?_
  refine x3x rfl w3w rfl rfl ?_
  refine x1x rfl ?_
  refine w7w (j := a1u a2b t k) rfl rfl w3w rfl p0p rfl rfl (by omega) ?_
  refine q6q rfl p0p rfl ha rfl rfl ?_
  refine x1x rfl ?_
  refine v9v rfl rfl ?_
  refine x0x rfl a0n rfl rfl w3w rfl rfl ?_
  refine x3x rfl w3w rfl rfl ?_
  refine x1x rfl ?_
  refine w7w (j := k) rfl rfl w3w rfl p0p rfl rfl (by omega) ?_
  refine q6q rfl p0p rfl hb rfl rfl ?_
  refine y7y rfl rfl rfl (a4b _ _) ?_
  refine w2w rfl ?_
  refine ⟨by kernel_rfl, ?_⟩
  refine x8x rfl (fun hc7 => ?_) (fun hc7 => ?_)
  ·try simp at hc7
   have hfin := (a8k ha hb hc7).symm.trans h1
   refine x4x x7x (by rfl) ?_
   refine y1y rfl p0p rfl rfl rfl ?_
   refine z2z rfl rfl p0p rfl rfl rfl rfl ?_
   refine y0y ?_
   exact ⟨.inr rfl, [γ 0, _], rfl, rfl, HE.box rfl rfl (HE.row rfl (by rw [← hfin]) HE.nil)⟩
  try simp at hc7
  have hg := hc7
  refine x9x ?_
  refine hK6 _ _ ?_
  clear hK6 K6
  refine p6p x7x r2r (by rfl) ?_
  refine x1x rfl ?_
  refine v9v rfl rfl ?_
  refine x0x rfl a0n rfl rfl w3w rfl rfl ?_
  refine x3x rfl w3w rfl rfl ?_
  refine x1x rfl ?_
  refine x1x rfl ?_
  refine v9v rfl rfl ?_
  refine x0x rfl a0n rfl rfl w3w rfl rfl ?_
  refine x3x rfl w3w rfl rfl ?_
  refine x1x rfl ?_
  refine x1x rfl ?_
  refine v9v rfl rfl ?_
  refine x0x rfl a0n rfl rfl w3w rfl rfl ?_
  refine x3x rfl w3w rfl rfl ?_
  refine x1x rfl ?_
  refine w7w (j := a1u a2b t k) rfl rfl w3w rfl p0p rfl rfl (by omega) ?_
  refine q6q rfl p0p rfl ha rfl rfl ?_
  refine x1x rfl ?_
  refine v9v rfl rfl ?_
  refine x0x rfl a0n rfl rfl w3w rfl rfl ?_
  refine x3x rfl w3w rfl rfl ?_
  refine x1x rfl ?_
  refine w7w (j := k) rfl rfl w3w rfl p0p rfl rfl (by omega) ?_
  refine q6q rfl p0p rfl hb rfl rfl ?_
  refine w7w (j := k) rfl rfl w3w rfl p0p rfl rfl (by omega) ?_
  refine s8s (el' := a) rfl rfl p0p rfl rfl rfl hb rfl (a0t _) rfl rfl ?_
  refine w7w (j := a1u a2b t k) rfl rfl w3w rfl p0p rfl rfl (by rw [List.length_set]; omega) ?_
  refine s8s (el' := b) rfl rfl p0p rfl rfl rfl (by rw [List.getElem?_set_ne (by omega)]; exact ha) rfl (a0t _) rfl rfl ?_
  refine ⟨by kernel_rfl, ?_⟩
  refine y4y x7x (by rfl) ?_
  refine x1x rfl ?_
  refine x2x rfl ?_
  exact ⟨(a1u a2b t k, sw t (a1u a2b t k) k), ⟨⟨by rw [← h1, a8j (by omega) ha hb hg], by rw [a6o]; exact h2, by dsimp only; omega⟩, (by dsimp only; rw [a6o]; omega)⟩, [0, _], (Cov.cons (t := 5) rfl Cov.nil), (Cov.cons (t := 0) rfl (Cov.cons (t := 2) rfl (Cov.cons (t := 3) rfl (Cov.cons (t := 4) rfl Cov.nil)))), (HE.row rfl (by rw [d0i ha hb, List.set_comm _ _ (by omega)]) (HE.box rfl rfl HE.nil)), (HE.same (id := 2) rfl (HE.same (id := 3) rfl HE.nil)), rfl⟩
theorem a3x (l : List Ev) (hl : l.length ≤ 1000000000) : Meth Tryz.prog 230 2 [0] [.ptr 0 0 0] [(0, (0, .box 255 [.ref 1 0, .fn (.func 146) [] []])), (1, (0, .row 179 7 ((l).map w0w)))] (.row (.rd true) 179 7 ((a2s a2b l.length l).map w0w)) [(0, (0, .box 255 [.ref 1 0, .fn (.func 146) [] []])), (1, (0, .row 179 7 ((([] : List Ev)).map w0w)))] := by
 refine u8u x7x (fn := Tryz.f230) (by kernel_rfl) (by kernel_rfl) rfl (O0 := [.row (.rd true) 179 7 ((a2s a2b l.length l).map w0w)]) 2 3 (Nat.le_of_ble_eq_true rfl) (by rfl) (by repeat (first | exact BndH.nil | refine BndH.box rfl ?_ | refine BndH.row (u3u fun _ => rfl) ?_)) (by repeat (first | exact BndH.nil | refine BndH.box rfl ?_ | refine BndH.row (u3u fun _ => rfl) ?_)) (by rfl) fun γ => ?_
 show Ex Tryz.prog _ _ [(0, .ptr 0 (γ 0) 0)] [(0, ((γ 0), .box 255 [.ref 1 (γ 1), .fn (.func 146) [] []])), (1, ((γ 1), .row 179 7 ((l).map w0w))), (4, (0, .dead)), (3, (0, .dead)), (2, (0, .dead))] _
 refine x4x x7x (by rfl) ?_
 refine x2x rfl ?_
 refine x4x x7x (by rfl) ?_
 refine x1x rfl ?_
 refine v9v rfl rfl ?_
 refine x0x rfl a0n rfl rfl w3w rfl rfl ?_
 refine x3x rfl w3w rfl rfl ?_
 refine a0v rfl w3w rfl rfl (by exact List.length_map _) ?_
 refine c0h x7x (id := 2) w3w rfl p0p rfl rfl (by (simp only [List.length_map, List.length_append, List.length_cons, List.length_nil, T179]; omega)) (by (unfold maxLen; omega)) rfl ?_
 refine x2x rfl ?_
 refine x5x fun K1 hK1 => ?_
 refine y6y ?_
 refine u4u (ι := List Ev × List Ev) (fun i γ1 => [(3, .ref 2 (γ1 2))]) (fun i γ1 => [(1, ((γ1 1), .row 179 7 ((i.1).map w0w))), (2, ((γ1 2), .row 179 7 ((i.2).map w0w))), (0, ((γ 0), .box 255 [.ref 1 (γ1 1), .fn (.func 146) [] []])), (3, ((γ1 3), .dead)), (4, ((γ1 4), .dead))]) (fun i => i.2 ++ a2s a2b i.1.length i.1 = a2s a2b l.length l ∧ i.1.length + i.2.length = l.length) (fun i => i.1.length) (Cov.cons (t := 0) rfl Cov.nil) HE.nil (l, []) ⟨rfl, rfl⟩ [0, _, _, _, _] (Cov.cons (t := 3) rfl Cov.nil) (HE.row rfl rfl (HE.row rfl rfl (HE.box rfl rfl (HE.kill rfl (HE.kill rfl HE.nil))))) rfl fun i γ1 hi => ?_
 try dsimp only [List.cons_append, List.nil_append]
 obtain ⟨ls, o⟩ := i
 obtain ⟨h1, h2⟩ := hi
 dsimp only at h1 h2 ⊢
 refine x5x fun K2 hK2 => ?_
 refine x4x x7x (by rfl) ?_
 refine x1x rfl ?_
 refine v9v rfl rfl ?_
 refine x0x rfl a0n rfl rfl w3w rfl rfl ?_
 refine x3x rfl w3w rfl rfl ?_
 refine a0v rfl w3w rfl rfl (by exact List.length_map _) ?_
 refine y3y rfl rfl rfl ?_
 refine x8x rfl (fun hc3 => ?_) (fun hc3 => ?_)
 rotate_left
 ·try simp at hc3
  obtain rfl : ls = [] := by exact hc3
  have ho : o = a2s a2b l.length l := by rw [← h1]; simp [a2s]
  subst ho
  refine v0v ?_
  refine hK1 _ _ ?_
  clear hK2 K2 hK1 K1
  refine a0y 3 rfl rfl (fun _ => rfl) ?_
  refine x4x x7x (by rfl) ?_
  refine x1x rfl ?_
  refine x2x rfl ?_
  refine y0y ?_
  exact ⟨.inr rfl, [γ 0, _], rfl, rfl, HE.box rfl rfl (HE.row rfl rfl HE.nil)⟩
 try simp at hc3
 obtain ⟨m, r, rfl⟩ : ∃ m r, ls = m :: r := by cases ls with | nil => simp at hc3 | cons m r => exact ⟨m, r, rfl⟩
 simp only [List.length_cons] at h2
 refine x9x ?_
 refine hK2 _ _ ?_
 clear hK2 K2
 refine y6y ?_
 refine y4y x7x (by rfl) ?_
 refine x1x rfl ?_
 refine x1x rfl ?_
 refine v4v [0, 1] [_, _] (a4t m r (by omega)) rfl rfl rfl (by decide) rfl rfl (by repeat (first | exact InH.nil | refine InH.cons rfl ?_)) (by (simp only [pI, List.map_cons, List.map_nil, z8z, z9z, gl, nx, p4p, Nat.beq, Nat.add_eq, List.getD_cons_zero, List.getD_cons_succ, List.getD_nil, Bool.or_false, Bool.false_or, Bool.true_or, Bool.or_true, Nat.add_zero, Nat.zero_add]; rfl)) (by (simp only [pI, List.map_cons, List.map_nil, z8z, z9z, gl, nx, p4p, Nat.beq, Nat.add_eq, List.getD_cons_zero, List.getD_cons_succ, List.getD_nil, Bool.or_false, Bool.false_or, Bool.true_or, Bool.or_true, Nat.add_zero, Nat.zero_add]; rfl)) ?_
 refine r6r (id := 3) w3w rfl p0p rfl rfl rfl rfl rfl rfl ?_
 refine r8r rfl rfl w3w rfl p0p rfl rfl rfl rfl (by rfl) (by exact a0j _ _ _) (by (simp only [List.length_map, List.length_append, List.length_cons, List.length_nil, T179]; omega)) ?_
 refine x2x rfl ?_
 exact ⟨(a8l a2b (m :: r), o ++ [m]), ⟨⟨by rw [← h1, a5t, List.append_assoc]; rfl, by rw [a5t, List.length_append]; simp only [List.length_cons, List.length_nil] at h2 ⊢; omega⟩, (by dsimp only; rw [a5t]; simp)⟩, [0, _, _, _, _], (Cov.cons (t := 3) rfl Cov.nil), (Cov.cons (t := 0) rfl Cov.nil), (HE.row rfl rfl (HE.row rfl (by simp) (HE.box rfl rfl (HE.kill rfl (HE.kill rfl HE.nil))))), HE.nil, rfl⟩
end
section
theorem a2z (c : Bool) (l : List Ev) (hl : l.length ≤ 1000000000) : Meth Tryz.prog 187 1 [] [a0i c l] [(0, (0, .dead))] (.ref 0 0) [(0, (0, .row 76 7 ((q8q l).map w0w)))] := by
 refine u8u x7x (fn := Tryz.f187) (by kernel_rfl) (by kernel_rfl) rfl (O0 := [.ref 0 0]) 1 8 (Nat.le_of_ble_eq_true rfl) (by rfl) (by repeat (first | exact BndH.nil | refine BndH.dead ?_)) (by repeat (first | exact BndH.nil | refine BndH.row (u3u fun _ => rfl) ?_)) (by rfl) fun γ => ?_
 show Ex Tryz.prog _ _ [(0, a0i c l)] [(0, ((γ 0), .dead)), (8, (0, .dead)), (7, (0, .dead)), (6, (0, .dead)), (5, (0, .dead)), (4, (0, .dead)), (3, (0, .dead)), (2, (0, .dead)), (1, (0, .dead))] _
 refine x4x x7x (by rfl) ?_
 refine x2x rfl ?_
 refine x4x x7x (by rfl) ?_
 refine s5s a0n rfl d3u rfl (by simp only [pI, b6c, d8k, w3w, d8n, a2g, q9q, AV.okc, AV.one, Value.oneCell', List.map_cons, List.map_nil, List.getElem?_cons_zero, List.getElem?_cons_succ, List.take_succ_cons, List.take_zero, List.drop_succ_cons, List.drop_zero, List.cons_append, List.nil_append, List.length_cons, List.length_nil, if_true, and_self, Nat.reduceAdd, Nat.reduceLeDiff]; rfl) ?_
 refine u9u (id := 1) a0n d3u rfl ?_
 refine z2z rfl rfl a0n rfl rfl rfl rfl ?_
 refine x4x x7x (by rfl) ?_
 refine b9j (id := 2) rfl ?_
 refine x2x rfl ?_
 refine x5x fun K1 hK1 => ?_
 refine x4x x7x (by rfl) ?_
 refine x1x rfl ?_
 refine u2u rfl u6u rfl ?_
 refine x1x rfl ?_
 refine y6y ?_
 refine a3i 1 0 7 179 7 rfl rfl rfl rfl rfl ?_
 refine u4u (ι := Nat) (fun i γ1 => [(15, .pv (.int .i64 (i : Int)))]) (fun i γ1 => [(7, ((γ1 7), .row 179 7 ((a8m a2b (r5r (l.take i))).map w0w))), (1, ((0 + 1), .box 255 [.ref 7 (γ1 7), .fn (.func 146) [] []])), (2, ((0 + 1), .map (a6x (l.take i)))), (3, ((γ1 3), .dead)), (4, ((γ1 4), .dead))]) (fun i => i ≤ l.length) (fun i => l.length - i) (Cov.cons (t := 3) rfl (Cov.cons (t := 4) rfl (Cov.cons (t := 13) rfl (Cov.cons (t := 14) rfl Cov.nil)))) (HE.same (id := 0) rfl (HE.same (id := 5) rfl (HE.same (id := 6) rfl (HE.same (id := 8) rfl HE.nil)))) 0 (by omega) [0, 0, 0, _, _, 0, 0, _] (Cov.cons (t := 15) rfl Cov.nil) (HE.row rfl (by rw [List.take_zero]; try rfl) (HE.box rfl rfl (HE.map rfl (by rw [List.take_zero]; try rfl) (HE.kill rfl (HE.kill rfl HE.nil))))) rfl fun i γ1 hi => ?_
 try dsimp only [List.cons_append, List.nil_append]
 refine x4x x7x (by rfl) ?_
 refine y3y rfl rfl rfl ?_
 refine x5x fun K2 hK2 => ?_
 refine x8x rfl (fun hc3 => ?_) (fun hc3 => ?_)
 rotate_left
 ·try simp at hc3
  obtain rfl : i = l.length := by omega
  obtain ⟨H, hH⟩ : ∃ H, H = a8m a2b (r5r (l.take l.length)) := ⟨_, rfl⟩
  rw [← hH]
  have hhl : H.length ≤ 1000000000 := by rw [hH, a5u]; exact Nat.le_trans (b3v _) (by rw [List.length_take]; omega)
  refine v0v ?_
  refine hK1 _ _ ?_
  clear hK2 K2 hK1 K1
  refine x4x x7x (by rfl) ?_
  refine x0x rfl a0n rfl rfl w3w rfl rfl ?_
  refine x3x rfl w3w rfl rfl ?_
  refine a0v rfl w3w rfl rfl (by exact List.length_map _) ?_
  refine c0h x7x (id := 0) u6u rfl z1z rfl rfl (by (simp only [List.length_map, List.length_append, List.length_cons, List.length_nil, T76]; omega)) (by (unfold maxLen; omega)) rfl ?_
  refine x2x rfl ?_
  refine x5x fun K6 hK6 => ?_
  refine x4x x7x (by rfl) ?_
  refine v4v [1, 7] [_, _] (a3x _ hhl) rfl rfl rfl (by decide) rfl rfl (by repeat (first | exact InH.nil | refine InH.cons rfl ?_)) (by (simp only [pI, List.map_cons, List.map_nil, z8z, z9z, gl, nx, p4p, Nat.beq, Nat.add_eq, List.getD_cons_zero, List.getD_cons_succ, List.getD_nil, Bool.or_false, Bool.false_or, Bool.true_or, Bool.or_true, Nat.add_zero, Nat.zero_add]; rfl)) (by (simp only [pI, List.map_cons, List.map_nil, z8z, z9z, gl, nx, p4p, Nat.beq, Nat.add_eq, List.getD_cons_zero, List.getD_cons_succ, List.getD_nil, Bool.or_false, Bool.false_or, Bool.true_or, Bool.or_true, Nat.add_zero, Nat.zero_add]; rfl)) ?_
  refine u2u rfl w3w rfl ?_
  refine x1x rfl ?_
  refine y6y ?_
  obtain ⟨D, hD⟩ : ∃ D, D = a2s a2b H.length H := ⟨_, rfl⟩
  rw [← hD]
  have hDl : D.length ≤ 1000000000 := Nat.le_trans (by rw [hD]; exact b6u _ _) hhl
  refine u4u (ι := Nat) (fun i γ3 => [(8, .ref 0 (γ3 0)), (40, .pv (.int .i64 (i : Int)))]) (fun i γ3 => [(0, ((γ3 0), .row 76 7 ((D.take i).map w0w))), (5, ((γ3 5), .dead)), (6, ((γ3 6), .dead)), (7, ((γ3 7), .dead))]) (fun i => i ≤ D.length) (fun i => D.length - i) (Cov.cons (t := 38) rfl (Cov.cons (t := 39) rfl Cov.nil)) (HE.same (id := 1) rfl (HE.same (id := 2) rfl (HE.same (id := 3) rfl (HE.same (id := 4) rfl (HE.same (id := 8) rfl HE.nil))))) 0 (by omega) [_, 0, 0, 0, 0, _, _, _] (Cov.cons (t := 8) rfl (Cov.cons (t := 40) rfl Cov.nil)) (HE.row rfl (by rw [List.take_zero]; try rfl) (HE.kill rfl (HE.kill rfl (HE.kill rfl HE.nil)))) rfl fun i γ3 hi => ?_
  try dsimp only [List.cons_append, List.nil_append]
  refine x4x x7x (by rfl) ?_
  refine y3y rfl rfl rfl ?_
  refine x5x fun K7 hK7 => ?_
  refine x8x rfl (fun hc8 => ?_) (fun hc8 => ?_)
  rotate_left
  ·try simp at hc8
   refine v0v ?_
   refine hK6 _ _ ?_
   clear hK7 K7 hK6 K6
   refine x4x x7x (by rfl) ?_
   refine x1x rfl ?_
   refine x2x rfl ?_
   refine y0y ?_
   exact ⟨.inr rfl, [_], rfl, rfl, HE.row rfl (by rw [List.take_of_length_le (by omega), hD, hH, List.take_length, a5u, b6w]) HE.nil⟩
  try simp at hc8
  obtain ⟨k1, hk1⟩ : ∃ k1, D[i]? = some k1 := ⟨_, List.getElem?_eq_getElem (by omega)⟩
  have hDi : (D.take i).length ≤ 1000000000 := by rw [List.length_take]; omega
  refine x9x ?_
  refine hK7 _ _ ?_
  clear hK7 K7
  refine x5x fun K9 hK9 => ?_
  refine y6y ?_
  refine x4x x7x (by rfl) ?_
  refine z7z rfl rfl w3w rfl p0p rfl (by assumption) ?_
  refine z6z rfl p0p rfl rfl ?_
  refine u9u (id := 5) p0p b9g rfl ?_
  refine z2z rfl rfl p0p rfl rfl rfl rfl ?_
  refine y4y x7x (by rfl) ?_
  refine x1x rfl ?_
  refine y1y rfl p0p rfl rfl rfl ?_
  refine y7y rfl rfl rfl (b0a ..) ?_
  refine r6r (id := 6) u6u rfl z1z rfl rfl rfl rfl rfl rfl ?_
  refine r8r rfl rfl u6u rfl z1z rfl rfl rfl rfl (by rfl) (by exact a0j _ _ _) (by (simp only [List.length_map, List.length_append, List.length_cons, List.length_nil, T76]; omega)) ?_
  refine x2x rfl ?_
  refine hK9 _ _ ?_
  clear hK9 K9
  refine y4y x7x (by rfl) ?_
  refine u1u (b := 1) rfl rfl (by omega) ?_
  refine x1x rfl ?_
  exact ⟨i + 1, ⟨by omega, by omega⟩, [_, 0, 0, 0, 0, _, _, _], (Cov.cons (t := 8) rfl (Cov.cons (t := 40) rfl Cov.nil)), (Cov.cons (t := 38) rfl (Cov.cons (t := 39) rfl Cov.nil)), (HE.row rfl (by rw [p1p hk1]) (HE.kill rfl (HE.kill rfl (HE.kill rfl HE.nil)))), (HE.same (id := 1) rfl (HE.same (id := 2) rfl (HE.same (id := 3) rfl (HE.same (id := 4) rfl (HE.same (id := 8) rfl HE.nil))))), rfl⟩
 try simp at hc3
 obtain ⟨e, he⟩ : ∃ e, l[i]? = some e := ⟨_, List.getElem?_eq_getElem (by omega)⟩
 have hcnt : (l.take i).count e ≤ 1000000000 := Nat.le_trans List.count_le_length (by rw [List.length_take]; omega)
 refine x9x ?_
 refine hK2 _ _ ?_
 clear hK2 K2
 refine x5x fun K4 hK4 => ?_
 refine y6y ?_
 refine x4x x7x (by rfl) ?_
 refine z7z rfl rfl u6u rfl z1z rfl (by assumption) ?_
 refine z6z rfl z1z rfl rfl ?_
 refine u9u (id := 3) z1z a7o rfl ?_
 refine z2z rfl rfl z1z rfl rfl rfl rfl ?_
 refine x4x x7x (by rfl) ?_
 refine y1y rfl z1z rfl rfl rfl ?_
 refine y7y rfl rfl rfl (a9z ..) ?_
 refine u9u (id := 4) p0p b9g rfl ?_
 refine z2z rfl rfl p0p rfl rfl rfl rfl ?_
 refine a9l (ι := Unit) (fun _i γ2 => []) (fun _i γ2 => [(2, ((0 + 1), .map (a6x (l.take i ++ [e]))))]) (fun _i => True) (Cov.cons (t := 3) rfl (Cov.cons (t := 4) rfl (Cov.cons (t := 7) rfl (Cov.cons (t := 13) rfl (Cov.cons (t := 14) rfl (Cov.cons (t := 15) rfl Cov.nil)))))) (HE.same (id := 0) rfl (HE.same (id := 1) rfl (HE.same (id := 3) rfl (HE.same (id := 4) rfl (HE.same (id := 5) rfl (HE.same (id := 6) rfl (HE.same (id := 7) rfl (HE.same (id := 8) rfl HE.nil)))))))) ?_ fun _i γ2 hi => ?_
 ·refine b8e r2r rfl fun B X0 w0 => ?_
  refine w4w x7x (l := [0, 1]) (by kernel_rfl) (by decide) ?_
  refine .cons rfl rfl rfl ?_ ?_
  ·refine x1x rfl ?_
   refine p2p ?_
   refine w4w x7x (l := [1]) (by kernel_rfl) (by decide) ?_
   refine .cons rfl rfl rfl ?_ ?_
   ·refine y1y rfl p0p rfl rfl rfl ?_
    refine p2p ?_
    refine w4w x7x (l := [2, 4]) (by kernel_rfl) (by decide) ?_
    refine .cons rfl rfl rfl ?_ ?_
    ·refine a3h x7x (ks := r5r (l.take i)) (k := e) Tryz.underlying256 evF rfl rfl (fun _ _ _ h => a3t h) rfl (a1e (l.take i)) (b4e y9y rfl (l.take i) e) ?_
     refine p2p ?_
     refine w4w x7x (l := [3, 4]) (by kernel_rfl) (by decide) ?_
     refine .cons rfl rfl rfl ?_ ?_
     ·refine u1u (b := 1) rfl rfl (by omega) ?_
      refine p2p ?_
      refine w4w x7x (l := [4]) (by kernel_rfl) (by decide) ?_
      refine .cons rfl rfl rfl ?_ ?_
      ·refine a3s x7x (es' := b1v (l.take i) e) (j := a2o (l.take i) e) (out := pI ((l.take i).count e : Nat)) (ks := r5r (l.take i)) (k := e) Tryz.underlying256 evF rfl rfl (fun _ _ _ h => a3t h) rfl (a1e _) (a3d y9y rfl _ _) ?_
       refine p2p ?_
       refine w4w x7x (l := [5]) (by kernel_rfl) (by decide) ?_
       refine .cons rfl rfl rfl ?_ ?_
       ·refine w6w rfl rfl ?_
        refine p2p ?_
        refine w4w x7x (l := [6]) (by kernel_rfl) (by decide) ?_
        refine .cons rfl rfl rfl ?_ ?_
        ·refine s4s (j := a2o (l.take i) e) rfl rfl rfl rfl (a1f _ _) (a1r _ _) ?_
         refine p2p ?_
         refine a1p (by kernel_rfl) ?_
         exact ⟨(), trivial, [], Cov.nil, (Cov.cons (t := 3) rfl (Cov.cons (t := 4) rfl (Cov.cons (t := 7) rfl (Cov.cons (t := 13) rfl (Cov.cons (t := 14) rfl (Cov.cons (t := 15) rfl Cov.nil)))))), (HE.map rfl rfl HE.nil), (HE.same (id := 0) rfl (HE.same (id := 1) rfl (HE.same (id := 3) rfl (HE.same (id := 4) rfl (HE.same (id := 5) rfl (HE.same (id := 6) rfl (HE.same (id := 7) rfl (HE.same (id := 8) rfl HE.nil)))))))), rfl⟩
        exact .nil
       exact .nil
      exact .nil
     refine .cons rfl rfl rfl ?_ ?_
     ·refine a3s x7x (es' := b1v (l.take i) e) (j := a2o (l.take i) e) (out := pI ((l.take i).count e : Nat)) (ks := r5r (l.take i)) (k := e) Tryz.underlying256 evF rfl rfl (fun _ _ _ h => a3t h) rfl (a1e _) (a3d y9y rfl _ _) ?_
      refine p2p ?_
      refine w4w x7x (l := [3, 5]) (by kernel_rfl) (by decide) ?_
      refine .cons rfl rfl rfl ?_ ?_
      ·refine u1u (b := 1) rfl rfl (by omega) ?_
       refine p2p ?_
       refine w4w x7x (l := [5]) (by kernel_rfl) (by decide) ?_
       refine .cons rfl rfl rfl ?_ ?_
       ·refine w6w rfl rfl ?_
        refine p2p ?_
        refine w4w x7x (l := [6]) (by kernel_rfl) (by decide) ?_
        refine .cons rfl rfl rfl ?_ ?_
        ·refine s4s (j := a2o (l.take i) e) rfl rfl rfl rfl (a1f _ _) (a1r _ _) ?_
         refine p2p ?_
         refine a1p (by kernel_rfl) ?_
         exact ⟨(), trivial, [], Cov.nil, (Cov.cons (t := 3) rfl (Cov.cons (t := 4) rfl (Cov.cons (t := 7) rfl (Cov.cons (t := 13) rfl (Cov.cons (t := 14) rfl (Cov.cons (t := 15) rfl Cov.nil)))))), (HE.map rfl rfl HE.nil), (HE.same (id := 0) rfl (HE.same (id := 1) rfl (HE.same (id := 3) rfl (HE.same (id := 4) rfl (HE.same (id := 5) rfl (HE.same (id := 6) rfl (HE.same (id := 7) rfl (HE.same (id := 8) rfl HE.nil)))))))), rfl⟩
        exact .nil
       exact .nil
      refine .cons rfl rfl rfl ?_ ?_
      ·refine w6w rfl rfl ?_
       refine p2p ?_
       refine w4w x7x (l := [3]) (by kernel_rfl) (by decide) ?_
       refine .cons rfl rfl rfl ?_ ?_
       ·refine u1u (b := 1) rfl rfl (by omega) ?_
        refine p2p ?_
        refine w4w x7x (l := [6]) (by kernel_rfl) (by decide) ?_
        refine .cons rfl rfl rfl ?_ ?_
        ·refine s4s (j := a2o (l.take i) e) rfl rfl rfl rfl (a1f _ _) (a1r _ _) ?_
         refine p2p ?_
         refine a1p (by kernel_rfl) ?_
         exact ⟨(), trivial, [], Cov.nil, (Cov.cons (t := 3) rfl (Cov.cons (t := 4) rfl (Cov.cons (t := 7) rfl (Cov.cons (t := 13) rfl (Cov.cons (t := 14) rfl (Cov.cons (t := 15) rfl Cov.nil)))))), (HE.map rfl rfl HE.nil), (HE.same (id := 0) rfl (HE.same (id := 1) rfl (HE.same (id := 3) rfl (HE.same (id := 4) rfl (HE.same (id := 5) rfl (HE.same (id := 6) rfl (HE.same (id := 7) rfl (HE.same (id := 8) rfl HE.nil)))))))), rfl⟩
        exact .nil
       exact .nil
      exact .nil
     exact .nil
    refine .cons rfl rfl rfl ?_ ?_
    ·refine a3s x7x (es' := b1v (l.take i) e) (j := a2o (l.take i) e) (out := pI ((l.take i).count e : Nat)) (ks := r5r (l.take i)) (k := e) Tryz.underlying256 evF rfl rfl (fun _ _ _ h => a3t h) rfl (a1e _) (a3d y9y rfl _ _) ?_
     refine p2p ?_
     refine w4w x7x (l := [2, 5]) (by kernel_rfl) (by decide) ?_
     refine .cons rfl rfl rfl ?_ ?_
     ·refine a3h x7x (ks := d3h (l.take i) e) (k := e) Tryz.underlying256 evF rfl rfl (fun _ _ _ h => a3t h) rfl (b0k (l.take i) e) (b0l (l.take i) e) ?_
      refine p2p ?_
      refine w4w x7x (l := [3, 5]) (by kernel_rfl) (by decide) ?_
      refine .cons rfl rfl rfl ?_ ?_
      ·refine u1u (b := 1) rfl rfl (by omega) ?_
       refine p2p ?_
       refine w4w x7x (l := [5]) (by kernel_rfl) (by decide) ?_
       refine .cons rfl rfl rfl ?_ ?_
       ·refine w6w rfl rfl ?_
        refine p2p ?_
        refine w4w x7x (l := [6]) (by kernel_rfl) (by decide) ?_
        refine .cons rfl rfl rfl ?_ ?_
        ·refine s4s (j := a2o (l.take i) e) rfl rfl rfl rfl (a1f _ _) (a1r _ _) ?_
         refine p2p ?_
         refine a1p (by kernel_rfl) ?_
         exact ⟨(), trivial, [], Cov.nil, (Cov.cons (t := 3) rfl (Cov.cons (t := 4) rfl (Cov.cons (t := 7) rfl (Cov.cons (t := 13) rfl (Cov.cons (t := 14) rfl (Cov.cons (t := 15) rfl Cov.nil)))))), (HE.map rfl rfl HE.nil), (HE.same (id := 0) rfl (HE.same (id := 1) rfl (HE.same (id := 3) rfl (HE.same (id := 4) rfl (HE.same (id := 5) rfl (HE.same (id := 6) rfl (HE.same (id := 7) rfl (HE.same (id := 8) rfl HE.nil)))))))), rfl⟩
        exact .nil
       exact .nil
      refine .cons rfl rfl rfl ?_ ?_
      ·refine w6w rfl rfl ?_
       refine p2p ?_
       refine w4w x7x (l := [3]) (by kernel_rfl) (by decide) ?_
       refine .cons rfl rfl rfl ?_ ?_
       ·refine u1u (b := 1) rfl rfl (by omega) ?_
        refine p2p ?_
        refine w4w x7x (l := [6]) (by kernel_rfl) (by decide) ?_
        refine .cons rfl rfl rfl ?_ ?_
        ·refine s4s (j := a2o (l.take i) e) rfl rfl rfl rfl (a1f _ _) (a1r _ _) ?_
         refine p2p ?_
         refine a1p (by kernel_rfl) ?_
         exact ⟨(), trivial, [], Cov.nil, (Cov.cons (t := 3) rfl (Cov.cons (t := 4) rfl (Cov.cons (t := 7) rfl (Cov.cons (t := 13) rfl (Cov.cons (t := 14) rfl (Cov.cons (t := 15) rfl Cov.nil)))))), (HE.map rfl rfl HE.nil), (HE.same (id := 0) rfl (HE.same (id := 1) rfl (HE.same (id := 3) rfl (HE.same (id := 4) rfl (HE.same (id := 5) rfl (HE.same (id := 6) rfl (HE.same (id := 7) rfl (HE.same (id := 8) rfl HE.nil)))))))), rfl⟩
        exact .nil
       exact .nil
      exact .nil
     refine .cons rfl rfl rfl ?_ ?_
     ·refine w6w rfl rfl ?_
      refine p2p ?_
      refine w4w x7x (l := [2]) (by kernel_rfl) (by decide) ?_
      refine .cons rfl rfl rfl ?_ ?_
      ·refine a3h x7x (ks := d3h (l.take i) e) (k := e) Tryz.underlying256 evF rfl rfl (fun _ _ _ h => a3t h) rfl (b0k (l.take i) e) (b0l (l.take i) e) ?_
       refine p2p ?_
       refine w4w x7x (l := [3]) (by kernel_rfl) (by decide) ?_
       refine .cons rfl rfl rfl ?_ ?_
       ·refine u1u (b := 1) rfl rfl (by omega) ?_
        refine p2p ?_
        refine w4w x7x (l := [6]) (by kernel_rfl) (by decide) ?_
        refine .cons rfl rfl rfl ?_ ?_
        ·refine s4s (j := a2o (l.take i) e) rfl rfl rfl rfl (a1f _ _) (a1r _ _) ?_
         refine p2p ?_
         refine a1p (by kernel_rfl) ?_
         exact ⟨(), trivial, [], Cov.nil, (Cov.cons (t := 3) rfl (Cov.cons (t := 4) rfl (Cov.cons (t := 7) rfl (Cov.cons (t := 13) rfl (Cov.cons (t := 14) rfl (Cov.cons (t := 15) rfl Cov.nil)))))), (HE.map rfl rfl HE.nil), (HE.same (id := 0) rfl (HE.same (id := 1) rfl (HE.same (id := 3) rfl (HE.same (id := 4) rfl (HE.same (id := 5) rfl (HE.same (id := 6) rfl (HE.same (id := 7) rfl (HE.same (id := 8) rfl HE.nil)))))))), rfl⟩
        exact .nil
       exact .nil
      exact .nil
     exact .nil
    exact .nil
   exact .nil
  refine .cons rfl rfl rfl ?_ ?_
  ·refine y1y rfl p0p rfl rfl rfl ?_
   refine p2p ?_
   refine w4w x7x (l := [0]) (by kernel_rfl) (by decide) ?_
   refine .cons rfl rfl rfl ?_ ?_
   ·refine x1x rfl ?_
    refine p2p ?_
    refine w4w x7x (l := [2, 4]) (by kernel_rfl) (by decide) ?_
    refine .cons rfl rfl rfl ?_ ?_
    ·refine a3h x7x (ks := r5r (l.take i)) (k := e) Tryz.underlying256 evF rfl rfl (fun _ _ _ h => a3t h) rfl (a1e (l.take i)) (b4e y9y rfl (l.take i) e) ?_
     refine p2p ?_
     refine w4w x7x (l := [3, 4]) (by kernel_rfl) (by decide) ?_
     refine .cons rfl rfl rfl ?_ ?_
     ·refine u1u (b := 1) rfl rfl (by omega) ?_
      refine p2p ?_
      refine w4w x7x (l := [4]) (by kernel_rfl) (by decide) ?_
      refine .cons rfl rfl rfl ?_ ?_
      ·refine a3s x7x (es' := b1v (l.take i) e) (j := a2o (l.take i) e) (out := pI ((l.take i).count e : Nat)) (ks := r5r (l.take i)) (k := e) Tryz.underlying256 evF rfl rfl (fun _ _ _ h => a3t h) rfl (a1e _) (a3d y9y rfl _ _) ?_
       refine p2p ?_
       refine w4w x7x (l := [5]) (by kernel_rfl) (by decide) ?_
       refine .cons rfl rfl rfl ?_ ?_
       ·refine w6w rfl rfl ?_
        refine p2p ?_
        refine w4w x7x (l := [6]) (by kernel_rfl) (by decide) ?_
        refine .cons rfl rfl rfl ?_ ?_
        ·refine s4s (j := a2o (l.take i) e) rfl rfl rfl rfl (a1f _ _) (a1r _ _) ?_
         refine p2p ?_
         refine a1p (by kernel_rfl) ?_
         exact ⟨(), trivial, [], Cov.nil, (Cov.cons (t := 3) rfl (Cov.cons (t := 4) rfl (Cov.cons (t := 7) rfl (Cov.cons (t := 13) rfl (Cov.cons (t := 14) rfl (Cov.cons (t := 15) rfl Cov.nil)))))), (HE.map rfl rfl HE.nil), (HE.same (id := 0) rfl (HE.same (id := 1) rfl (HE.same (id := 3) rfl (HE.same (id := 4) rfl (HE.same (id := 5) rfl (HE.same (id := 6) rfl (HE.same (id := 7) rfl (HE.same (id := 8) rfl HE.nil)))))))), rfl⟩
        exact .nil
       exact .nil
      exact .nil
     refine .cons rfl rfl rfl ?_ ?_
     ·refine a3s x7x (es' := b1v (l.take i) e) (j := a2o (l.take i) e) (out := pI ((l.take i).count e : Nat)) (ks := r5r (l.take i)) (k := e) Tryz.underlying256 evF rfl rfl (fun _ _ _ h => a3t h) rfl (a1e _) (a3d y9y rfl _ _) ?_
      refine p2p ?_
      refine w4w x7x (l := [3, 5]) (by kernel_rfl) (by decide) ?_
      refine .cons rfl rfl rfl ?_ ?_
      ·refine u1u (b := 1) rfl rfl (by omega) ?_
       refine p2p ?_
       refine w4w x7x (l := [5]) (by kernel_rfl) (by decide) ?_
       refine .cons rfl rfl rfl ?_ ?_
       ·refine w6w rfl rfl ?_
        refine p2p ?_
        refine w4w x7x (l := [6]) (by kernel_rfl) (by decide) ?_
        refine .cons rfl rfl rfl ?_ ?_
        ·refine s4s (j := a2o (l.take i) e) rfl rfl rfl rfl (a1f _ _) (a1r _ _) ?_
         refine p2p ?_
         refine a1p (by kernel_rfl) ?_
         exact ⟨(), trivial, [], Cov.nil, (Cov.cons (t := 3) rfl (Cov.cons (t := 4) rfl (Cov.cons (t := 7) rfl (Cov.cons (t := 13) rfl (Cov.cons (t := 14) rfl (Cov.cons (t := 15) rfl Cov.nil)))))), (HE.map rfl rfl HE.nil), (HE.same (id := 0) rfl (HE.same (id := 1) rfl (HE.same (id := 3) rfl (HE.same (id := 4) rfl (HE.same (id := 5) rfl (HE.same (id := 6) rfl (HE.same (id := 7) rfl (HE.same (id := 8) rfl HE.nil)))))))), rfl⟩
        exact .nil
       exact .nil
      refine .cons rfl rfl rfl ?_ ?_
      ·refine w6w rfl rfl ?_
       refine p2p ?_
       refine w4w x7x (l := [3]) (by kernel_rfl) (by decide) ?_
       refine .cons rfl rfl rfl ?_ ?_
       ·refine u1u (b := 1) rfl rfl (by omega) ?_
        refine p2p ?_
        refine w4w x7x (l := [6]) (by kernel_rfl) (by decide) ?_
        refine .cons rfl rfl rfl ?_ ?_
        ·refine s4s (j := a2o (l.take i) e) rfl rfl rfl rfl (a1f _ _) (a1r _ _) ?_
         refine p2p ?_
         refine a1p (by kernel_rfl) ?_
         exact ⟨(), trivial, [], Cov.nil, (Cov.cons (t := 3) rfl (Cov.cons (t := 4) rfl (Cov.cons (t := 7) rfl (Cov.cons (t := 13) rfl (Cov.cons (t := 14) rfl (Cov.cons (t := 15) rfl Cov.nil)))))), (HE.map rfl rfl HE.nil), (HE.same (id := 0) rfl (HE.same (id := 1) rfl (HE.same (id := 3) rfl (HE.same (id := 4) rfl (HE.same (id := 5) rfl (HE.same (id := 6) rfl (HE.same (id := 7) rfl (HE.same (id := 8) rfl HE.nil)))))))), rfl⟩
        exact .nil
       exact .nil
      exact .nil
     exact .nil
    refine .cons rfl rfl rfl ?_ ?_
    ·refine a3s x7x (es' := b1v (l.take i) e) (j := a2o (l.take i) e) (out := pI ((l.take i).count e : Nat)) (ks := r5r (l.take i)) (k := e) Tryz.underlying256 evF rfl rfl (fun _ _ _ h => a3t h) rfl (a1e _) (a3d y9y rfl _ _) ?_
     refine p2p ?_
     refine w4w x7x (l := [2, 5]) (by kernel_rfl) (by decide) ?_
     refine .cons rfl rfl rfl ?_ ?_
     ·refine a3h x7x (ks := d3h (l.take i) e) (k := e) Tryz.underlying256 evF rfl rfl (fun _ _ _ h => a3t h) rfl (b0k (l.take i) e) (b0l (l.take i) e) ?_
      refine p2p ?_
      refine w4w x7x (l := [3, 5]) (by kernel_rfl) (by decide) ?_
      refine .cons rfl rfl rfl ?_ ?_
      ·refine u1u (b := 1) rfl rfl (by omega) ?_
       refine p2p ?_
       refine w4w x7x (l := [5]) (by kernel_rfl) (by decide) ?_
       refine .cons rfl rfl rfl ?_ ?_
       ·refine w6w rfl rfl ?_
        refine p2p ?_
        refine w4w x7x (l := [6]) (by kernel_rfl) (by decide) ?_
        refine .cons rfl rfl rfl ?_ ?_
        ·refine s4s (j := a2o (l.take i) e) rfl rfl rfl rfl (a1f _ _) (a1r _ _) ?_
         refine p2p ?_
         refine a1p (by kernel_rfl) ?_
         exact ⟨(), trivial, [], Cov.nil, (Cov.cons (t := 3) rfl (Cov.cons (t := 4) rfl (Cov.cons (t := 7) rfl (Cov.cons (t := 13) rfl (Cov.cons (t := 14) rfl (Cov.cons (t := 15) rfl Cov.nil)))))), (HE.map rfl rfl HE.nil), (HE.same (id := 0) rfl (HE.same (id := 1) rfl (HE.same (id := 3) rfl (HE.same (id := 4) rfl (HE.same (id := 5) rfl (HE.same (id := 6) rfl (HE.same (id := 7) rfl (HE.same (id := 8) rfl HE.nil)))))))), rfl⟩
        exact .nil
       exact .nil
      refine .cons rfl rfl rfl ?_ ?_
      ·refine w6w rfl rfl ?_
       refine p2p ?_
       refine w4w x7x (l := [3]) (by kernel_rfl) (by decide) ?_
       refine .cons rfl rfl rfl ?_ ?_
       ·refine u1u (b := 1) rfl rfl (by omega) ?_
        refine p2p ?_
        refine w4w x7x (l := [6]) (by kernel_rfl) (by decide) ?_
        refine .cons rfl rfl rfl ?_ ?_
        ·refine s4s (j := a2o (l.take i) e) rfl rfl rfl rfl (a1f _ _) (a1r _ _) ?_
         refine p2p ?_
         refine a1p (by kernel_rfl) ?_
         exact ⟨(), trivial, [], Cov.nil, (Cov.cons (t := 3) rfl (Cov.cons (t := 4) rfl (Cov.cons (t := 7) rfl (Cov.cons (t := 13) rfl (Cov.cons (t := 14) rfl (Cov.cons (t := 15) rfl Cov.nil)))))), (HE.map rfl rfl HE.nil), (HE.same (id := 0) rfl (HE.same (id := 1) rfl (HE.same (id := 3) rfl (HE.same (id := 4) rfl (HE.same (id := 5) rfl (HE.same (id := 6) rfl (HE.same (id := 7) rfl (HE.same (id := 8) rfl HE.nil)))))))), rfl⟩
        exact .nil
       exact .nil
      exact .nil
     refine .cons rfl rfl rfl ?_ ?_
     ·refine w6w rfl rfl ?_
      refine p2p ?_
      refine w4w x7x (l := [2]) (by kernel_rfl) (by decide) ?_
      refine .cons rfl rfl rfl ?_ ?_
      ·refine a3h x7x (ks := d3h (l.take i) e) (k := e) Tryz.underlying256 evF rfl rfl (fun _ _ _ h => a3t h) rfl (b0k (l.take i) e) (b0l (l.take i) e) ?_
       refine p2p ?_
       refine w4w x7x (l := [3]) (by kernel_rfl) (by decide) ?_
       refine .cons rfl rfl rfl ?_ ?_
       ·refine u1u (b := 1) rfl rfl (by omega) ?_
        refine p2p ?_
        refine w4w x7x (l := [6]) (by kernel_rfl) (by decide) ?_
        refine .cons rfl rfl rfl ?_ ?_
        ·refine s4s (j := a2o (l.take i) e) rfl rfl rfl rfl (a1f _ _) (a1r _ _) ?_
         refine p2p ?_
         refine a1p (by kernel_rfl) ?_
         exact ⟨(), trivial, [], Cov.nil, (Cov.cons (t := 3) rfl (Cov.cons (t := 4) rfl (Cov.cons (t := 7) rfl (Cov.cons (t := 13) rfl (Cov.cons (t := 14) rfl (Cov.cons (t := 15) rfl Cov.nil)))))), (HE.map rfl rfl HE.nil), (HE.same (id := 0) rfl (HE.same (id := 1) rfl (HE.same (id := 3) rfl (HE.same (id := 4) rfl (HE.same (id := 5) rfl (HE.same (id := 6) rfl (HE.same (id := 7) rfl (HE.same (id := 8) rfl HE.nil)))))))), rfl⟩
        exact .nil
       exact .nil
      exact .nil
     exact .nil
    exact .nil
   exact .nil
  exact .nil
 ·try dsimp only [List.cons_append, List.nil_append]
  refine x4x x7x (by rfl) ?_
  refine x1x rfl ?_
  refine y1y rfl p0p rfl rfl rfl ?_
  refine a3h x7x (ks := r5r (l.take i ++ [e])) (k := e) Tryz.underlying256 evF rfl rfl (fun _ _ _ h => a3t h) rfl (a1e (l.take i ++ [e])) (b4e y9y rfl (l.take i ++ [e]) e) ?_
  refine y3y rfl rfl rfl ?_
  refine x8x rfl (fun hc5 => ?_) (fun hc5 => ?_)
  rotate_left
  ·try simp at hc5
   have hq : ¬ (l.take i ++ [e]).count e = 1 := by (have := hc5; simp at this ⊢; omega)
   refine x9x ?_
   refine hK4 _ _ ?_
   clear hK4 K4
   refine y4y x7x (by rfl) ?_
   refine u1u (b := 1) rfl rfl (by omega) ?_
   refine x1x rfl ?_
   exact ⟨i + 1, ⟨by omega, by omega⟩, [0, 0, 0, _, _, 0, 0, _], (Cov.cons (t := 15) rfl Cov.nil), (Cov.cons (t := 3) rfl (Cov.cons (t := 4) rfl (Cov.cons (t := 13) rfl (Cov.cons (t := 14) rfl Cov.nil)))), (HE.row rfl (by rw [p1p he, c5l hq]) (HE.box rfl rfl (HE.map rfl (by rw [p1p he]) (HE.kill rfl (HE.kill rfl HE.nil))))), (HE.same (id := 0) rfl (HE.same (id := 5) rfl (HE.same (id := 6) rfl (HE.same (id := 8) rfl HE.nil)))), rfl⟩
  try simp at hc5
  have hq : (l.take i ++ [e]).count e = 1 := by (have := hc5; simp at this ⊢; omega)
  have hpl : (a8m a2b (r5r (l.take i))).length ≤ 1000000000 := by rw [a5u]; exact Nat.le_trans (b3v _) (by rw [List.length_take]; omega)
  refine y4y x7x (by rfl) ?_
  refine y1y rfl p0p rfl rfl rfl ?_
  refine v4v [1, 7] [_, _] (a4k _ e hpl) rfl rfl rfl (by decide) rfl rfl (by repeat (first | exact InH.nil | refine InH.cons rfl ?_)) (by (simp only [pI, List.map_cons, List.map_nil, z8z, z9z, gl, nx, p4p, Nat.beq, Nat.add_eq, List.getD_cons_zero, List.getD_cons_succ, List.getD_nil, Bool.or_false, Bool.false_or, Bool.true_or, Bool.or_true, Nat.add_zero, Nat.zero_add]; rfl)) (by (simp only [pI, List.map_cons, List.map_nil, z8z, z9z, gl, nx, p4p, Nat.beq, Nat.add_eq, List.getD_cons_zero, List.getD_cons_succ, List.getD_nil, Bool.or_false, Bool.false_or, Bool.true_or, Bool.or_true, Nat.add_zero, Nat.zero_add]; rfl)) ?_
  refine hK4 _ _ ?_
  clear hK4 K4
  refine y4y x7x (by rfl) ?_
  refine u1u (b := 1) rfl rfl (by omega) ?_
  refine x1x rfl ?_
  exact ⟨i + 1, ⟨by omega, by omega⟩, [0, 0, 0, _, _, 0, 0, _], (Cov.cons (t := 15) rfl Cov.nil), (Cov.cons (t := 3) rfl (Cov.cons (t := 4) rfl (Cov.cons (t := 13) rfl (Cov.cons (t := 14) rfl Cov.nil)))), (HE.row rfl (by rw [p1p he, c5k hq]) (HE.box rfl rfl (HE.map rfl (by rw [p1p he]) (HE.kill rfl (HE.kill rfl HE.nil))))), (HE.same (id := 0) rfl (HE.same (id := 5) rfl (HE.same (id := 6) rfl (HE.same (id := 8) rfl HE.nil)))), rfl⟩
end
section
theorem a1w (c : Bool) (a : Ev) (l : List Ev) (hl : (a :: l).length ≤ 10000000) : Meth Tryz.prog 172 1 [] [a0i c (a :: l)] [(0, (0, .dead))] (.ref 0 0) [(0, (0, .row 76 7 ((a :: l).map w0w)))] := by
 refine u8u x7x (fn := Tryz.f172) (by kernel_rfl) (by kernel_rfl) rfl (O0 := [.ref 0 0]) 1 1 (Nat.le_of_ble_eq_true rfl) (by rfl) (by repeat (first | exact BndH.nil | refine BndH.dead ?_)) (by repeat (first | exact BndH.nil | refine BndH.row (u3u fun _ => rfl) ?_)) (by rfl) fun γ => ?_
 show Ex Tryz.prog _ _ [(0, a0i c (a :: l))] [(0, ((γ 0), .dead)), (1, (0, .dead))] _
 refine x4x x7x (by rfl) ?_
 refine x2x rfl ?_
 refine x5x fun K1 hK1 => ?_
 refine x4x x7x (by rfl) ?_
 refine x1x rfl ?_
 refine b1l rfl rfl (by (intro p q h; cases h)) (.inl rfl) (c4z Tryz.underlying24 _ _ (by simp)) ?_
 refine x8x rfl (fun hc2 => ?_) (fun hc2 => ?_)
 ·simp [a3q] at hc2
 try simp at hc2
 refine x9x ?_
 refine hK1 _ _ ?_
 clear hK1 K1
 refine x4x x7x (by rfl) ?_
 refine r4r (id := 0) u6u rfl z1z rfl ?_
 refine x1x rfl ?_
 refine s1s (zs := (a :: l).map w0w) rfl rfl u6u rfl z1z rfl rfl rfl (by exact r9r (fun _ => rfl) _) rfl (by (simp only [List.length_map, List.length_append, List.length_cons, List.length_nil, List.length_take, T76] at *; omega)) ?_
 refine x2x rfl ?_
 refine y0y ?_
 exact ⟨.inr rfl, [_], rfl, rfl, HE.row rfl rfl HE.nil⟩
theorem a2c (c : Bool) : Meth Tryz.prog 172 1 [] [a0i c []] [(0, (0, .dead))] (.ref 0 0) [(0, (0, .row 76 7 (([] : List Ev).map w0w)))] := by
 refine u8u x7x (fn := Tryz.f172) (by kernel_rfl) (by kernel_rfl) rfl (O0 := [.ref 0 0]) 1 1 (Nat.le_of_ble_eq_true rfl) (by rfl) (by repeat (first | exact BndH.nil | refine BndH.dead ?_)) (by repeat (first | exact BndH.nil | refine BndH.row (u3u fun _ => rfl) ?_)) (by rfl) fun γ => ?_
 show Ex Tryz.prog _ _ [(0, a0i c [])] [(0, ((γ 0), .dead)), (1, (0, .dead))] _
 refine c0m 0 rfl fun A0 cap hcap => ?_
 refine x4x x7x (by rfl) ?_
 refine x2x rfl ?_
 refine x5x fun K1 hK1 => ?_
 refine x4x x7x (by rfl) ?_
 refine x1x rfl ?_
 refine b1l rfl rfl (by (intro p q h h2; cases h; cases h2; rfl)) (.inl rfl) (b6p Tryz.underlying24 _ _ _ _ _) ?_
 refine x8x rfl (fun hc2 => ?_) (fun hc2 => ?_)
 ·try simp at hc2
  refine x4x x7x (by rfl) ?_
  refine x2x rfl ?_
  refine a2d 2 0 76 7 rfl rfl ?_
  refine y0y ?_
  exact ⟨.inr rfl, [_], rfl, rfl, HE.row rfl rfl HE.nil⟩
 try simp at hc2
 refine x9x ?_
 refine hK1 _ _ ?_
 clear hK1 K1
 refine c9m 0 76 7 rfl hcap ?_
 refine x4x x7x (by rfl) ?_
 refine r4r (id := 0) u6u rfl z1z rfl ?_
 refine x1x rfl ?_
 refine s1s (zs := ([] : List Ev).map w0w) rfl rfl u6u rfl z1z rfl rfl rfl (by rfl) rfl (by (simp only [List.length_map, List.length_append, List.length_cons, List.length_nil, List.length_take, T76] at *; omega)) ?_
 refine x2x rfl ?_
 refine y0y ?_
 exact ⟨.inr rfl, [_], rfl, rfl, HE.row rfl rfl HE.nil⟩
theorem p7p (c : Bool) (l : List Ev) (hl : l.length ≤ 10000000) : Meth Tryz.prog 172 1 [] [a0i c l] [(0, (0, .dead))] (.ref 0 0) [(0, (0, .row 76 7 (l.map w0w)))] := by
 cases l with
 | nil => exact a2c c
 | cons a l => exact a1w c a l hl
theorem a2p (c : Bool) (a : Ou) (l : List Ou) (hl : (a :: l).length ≤ 10000000) : Meth Tryz.prog 106 1 [] [a0z c (a :: l)] [(0, (0, .dead))] (.ref 0 0) [(0, (0, .row 104 5 ((a :: l).map r0r)))] := by
 refine u8u x7x (fn := Tryz.f106) (by kernel_rfl) (by kernel_rfl) rfl (O0 := [.ref 0 0]) 1 1 (Nat.le_of_ble_eq_true rfl) (by rfl) (by repeat (first | exact BndH.nil | refine BndH.dead ?_)) (by repeat (first | exact BndH.nil | refine BndH.row (u3u fun _ => rfl) ?_)) (by rfl) fun γ => ?_
 show Ex Tryz.prog _ _ [(0, a0z c (a :: l))] [(0, ((γ 0), .dead)), (1, (0, .dead))] _
 refine x4x x7x (by rfl) ?_
 refine x2x rfl ?_
 refine x5x fun K1 hK1 => ?_
 refine x4x x7x (by rfl) ?_
 refine x1x rfl ?_
 refine b1l rfl rfl (by (intro p q h; cases h)) (.inl rfl) (c4z Tryz.underlying25 _ _ (by simp)) ?_
 refine x8x rfl (fun hc2 => ?_) (fun hc2 => ?_)
 ·simp [a3q] at hc2
 try simp at hc2
 refine x9x ?_
 refine hK1 _ _ ?_
 clear hK1 K1
 refine x4x x7x (by rfl) ?_
 refine r4r (id := 0) u7u rfl u0u rfl ?_
 refine x1x rfl ?_
 refine s1s (zs := (a :: l).map r0r) rfl rfl u7u rfl u0u rfl rfl rfl (by exact r9r (fun _ => rfl) _) rfl (by (simp only [List.length_map, List.length_append, List.length_cons, List.length_nil, List.length_take, T104] at *; omega)) ?_
 refine x2x rfl ?_
 refine y0y ?_
 exact ⟨.inr rfl, [_], rfl, rfl, HE.row rfl rfl HE.nil⟩
theorem a2x (c : Bool) : Meth Tryz.prog 106 1 [] [a0z c []] [(0, (0, .dead))] (.ref 0 0) [(0, (0, .row 104 5 (([] : List Ou).map r0r)))] := by
 refine u8u x7x (fn := Tryz.f106) (by kernel_rfl) (by kernel_rfl) rfl (O0 := [.ref 0 0]) 1 1 (Nat.le_of_ble_eq_true rfl) (by rfl) (by repeat (first | exact BndH.nil | refine BndH.dead ?_)) (by repeat (first | exact BndH.nil | refine BndH.row (u3u fun _ => rfl) ?_)) (by rfl) fun γ => ?_
 show Ex Tryz.prog _ _ [(0, a0z c [])] [(0, ((γ 0), .dead)), (1, (0, .dead))] _
 refine c0m 0 rfl fun A0 cap hcap => ?_
 refine x4x x7x (by rfl) ?_
 refine x2x rfl ?_
 refine x5x fun K1 hK1 => ?_
 refine x4x x7x (by rfl) ?_
 refine x1x rfl ?_
 refine b1l rfl rfl (by (intro p q h h2; cases h; cases h2; rfl)) (.inl rfl) (b6p Tryz.underlying25 _ _ _ _ _) ?_
 refine x8x rfl (fun hc2 => ?_) (fun hc2 => ?_)
 ·try simp at hc2
  refine x4x x7x (by rfl) ?_
  refine x2x rfl ?_
  refine a2d 2 0 104 5 rfl rfl ?_
  refine y0y ?_
  exact ⟨.inr rfl, [_], rfl, rfl, HE.row rfl rfl HE.nil⟩
 try simp at hc2
 refine x9x ?_
 refine hK1 _ _ ?_
 clear hK1 K1
 refine c9m 0 104 5 rfl hcap ?_
 refine x4x x7x (by rfl) ?_
 refine r4r (id := 0) u7u rfl u0u rfl ?_
 refine x1x rfl ?_
 refine s1s (zs := ([] : List Ou).map r0r) rfl rfl u7u rfl u0u rfl rfl rfl (by rfl) rfl (by (simp only [List.length_map, List.length_append, List.length_cons, List.length_nil, List.length_take, T76] at *; omega)) ?_
 refine x2x rfl ?_
 refine y0y ?_
 exact ⟨.inr rfl, [_], rfl, rfl, HE.row rfl rfl HE.nil⟩
theorem a0c (c : Bool) (l : List Ou) (hl : l.length ≤ 10000000) : Meth Tryz.prog 106 1 [] [a0z c l] [(0, (0, .dead))] (.ref 0 0) [(0, (0, .row 104 5 (l.map r0r)))] := by
 cases l with
 | nil => exact a2x c
 | cons a l => exact a2p c a l hl
theorem a6c (c : Bool) (a : Int) (l : List Int) (hl : (a :: l).length ≤ 10000000) : Meth Tryz.prog 175 1 [] [a4i c (a :: l)] [(0, (0, .dead))] (.ref 0 0) [(0, (0, .row 3 1 ((a :: l).map a2w)))] := by
 refine u8u x7x (fn := Tryz.f175) (by kernel_rfl) (by kernel_rfl) rfl (O0 := [.ref 0 0]) 1 1 (Nat.le_of_ble_eq_true rfl) (by rfl) (by repeat (first | exact BndH.nil | refine BndH.dead ?_)) (by repeat (first | exact BndH.nil | refine BndH.row (u3u fun _ => rfl) ?_)) (by rfl) fun γ => ?_
 show Ex Tryz.prog _ _ [(0, a4i c (a :: l))] [(0, ((γ 0), .dead)), (1, (0, .dead))] _
 refine x4x x7x (by rfl) ?_
 refine x2x rfl ?_
 refine x5x fun K1 hK1 => ?_
 refine x4x x7x (by rfl) ?_
 refine x1x rfl ?_
 refine b1l rfl rfl (by (intro p q h; cases h)) (.inl rfl) (c4z Tryz.underlying22 _ _ (by simp)) ?_
 refine x8x rfl (fun hc2 => ?_) (fun hc2 => ?_)
 ·simp [a3q] at hc2
 try simp at hc2
 refine x9x ?_
 refine hK1 _ _ ?_
 clear hK1 K1
 refine x4x x7x (by rfl) ?_
 refine r4r (id := 0) p3p rfl y9y rfl ?_
 refine x1x rfl ?_
 refine s1s (zs := (a :: l).map a2w) rfl rfl p3p rfl y9y rfl rfl rfl (by exact r9r (fun _ => rfl) _) rfl (by (simp only [List.length_map, List.length_append, List.length_cons, List.length_nil, List.length_take, T3] at *; omega)) ?_
 refine x2x rfl ?_
 refine y0y ?_
 exact ⟨.inr rfl, [_], rfl, rfl, HE.row rfl rfl HE.nil⟩
theorem a6h (c : Bool) : Meth Tryz.prog 175 1 [] [a4i c []] [(0, (0, .dead))] (.ref 0 0) [(0, (0, .row 3 1 (([] : List Int).map a2w)))] := by
 refine u8u x7x (fn := Tryz.f175) (by kernel_rfl) (by kernel_rfl) rfl (O0 := [.ref 0 0]) 1 1 (Nat.le_of_ble_eq_true rfl) (by rfl) (by repeat (first | exact BndH.nil | refine BndH.dead ?_)) (by repeat (first | exact BndH.nil | refine BndH.row (u3u fun _ => rfl) ?_)) (by rfl) fun γ => ?_
 show Ex Tryz.prog _ _ [(0, a4i c [])] [(0, ((γ 0), .dead)), (1, (0, .dead))] _
 refine c0m 0 rfl fun A0 cap hcap => ?_
 refine x4x x7x (by rfl) ?_
 refine x2x rfl ?_
 refine x5x fun K1 hK1 => ?_
 refine x4x x7x (by rfl) ?_
 refine x1x rfl ?_
 refine b1l rfl rfl (by (intro p q h h2; cases h; cases h2; rfl)) (.inl rfl) (b6p Tryz.underlying22 _ _ _ _ _) ?_
 refine x8x rfl (fun hc2 => ?_) (fun hc2 => ?_)
 ·try simp at hc2
  refine x4x x7x (by rfl) ?_
  refine x2x rfl ?_
  refine a2d 2 0 3 1 rfl rfl ?_
  refine y0y ?_
  exact ⟨.inr rfl, [_], rfl, rfl, HE.row rfl rfl HE.nil⟩
 try simp at hc2
 refine x9x ?_
 refine hK1 _ _ ?_
 clear hK1 K1
 refine c9m 0 3 1 rfl hcap ?_
 refine x4x x7x (by rfl) ?_
 refine r4r (id := 0) p3p rfl y9y rfl ?_
 refine x1x rfl ?_
 refine s1s (zs := ([] : List Int).map a2w) rfl rfl p3p rfl y9y rfl rfl rfl (by rfl) rfl (by (simp only [List.length_map, List.length_append, List.length_cons, List.length_nil, List.length_take, T76] at *; omega)) ?_
 refine x2x rfl ?_
 refine y0y ?_
 exact ⟨.inr rfl, [_], rfl, rfl, HE.row rfl rfl HE.nil⟩
theorem a9g (c : Bool) (l : List Int) (hl : l.length ≤ 10000000) : Meth Tryz.prog 175 1 [] [a4i c l] [(0, (0, .dead))] (.ref 0 0) [(0, (0, .row 3 1 (l.map a2w)))] := by
 cases l with
 | nil => exact a6h c
 | cons a l => exact a6c c a l hl
end
section
def b0o (c : Bool) (vs : List Vi) : List (Value × AV) := vs.zipIdx.map fun p => (.int .i64 (p.2 : Int), .agg (a2n c p.1))
def b7n (n : Nat) : List Int := (List.range n).map fun (i : Nat) => (i : Int)
theorem d6f {c : Bool} {vs : List Vi} {i : Nat} {v : Vi} (h : vs[i]? = some v) : (b0o c vs)[i]? = some (.int .i64 (i : Int), .agg (a2n c v)) := by
 rw [b0o, List.getElem?_map, List.getElem?_zipIdx, h]; simp
theorem b7o (c : Bool) (vs : List Vi) : (b0o c vs).map (·.1) = (b7n vs.length).map fun n => Value.int .i64 n := by
 apply List.ext_getElem?
 intro i
 simp only [b0o, b7n, List.getElem?_map, List.getElem?_zipIdx, List.getElem?_range]
 by_cases h : i < vs.length
 ·simp [h]
 ·rw [List.getElem?_eq_none (by omega : vs.length ≤ i)]; simp [h]
theorem d3i {n i : Nat} (h : i < n) : a4o (b7n n) (i : Int) = some i := by
 obtain ⟨j, hj⟩ := c2s (k := (i : Int)) (ks := b7n n) (List.mem_map.2 ⟨i, List.mem_range.2 h, rfl⟩)
 have := b1n hj
 simp only [b7n, List.getElem?_map] at this
 cases hr : (List.range n)[j]? with
 | none => rw [hr] at this; cases this
 | some k =>
  rw [hr] at this
  obtain ⟨q1, q2⟩ := List.getElem?_eq_some_iff.1 hr
  simp only [List.getElem_range] at q2
  simp only [Option.map_some, Option.some.injEq] at this
  have : j = i := by omega
  rw [hj, this]
theorem d3j (n : Nat) : a4o (b7n n) (n : Int) = none := a9m.2 fun h => by
 obtain ⟨k, h1, h2⟩ := List.mem_map.1 h
 rw [List.mem_range] at h1
 omega
theorem d1s (c : Bool) (vs : List Vi) (v : Vi) : b0o c (vs ++ [v]) = b0o c vs ++ [(.int .i64 (vs.length : Int), .agg (a2n c v))] := by
 simp [b0o, List.zipIdx_append]
theorem c4f {tt : TT} {et : TypeId} {c : Bool} {vs : List Vi} {i : Nat} {v : Vi} (h : vs[i]? = some v) : (∃ j kv, a4o (b7n vs.length) (i : Int) = some j ∧ (b0o c vs)[j]? = some (kv, .agg (a2n c v))) ∨ (a4o (b7n vs.length) (i : Int) = none ∧ ∃ S, tt et = some S ∧ AV.agg (a2n c v) = b3r S) :=
 .inl ⟨i, _, d3i (List.getElem?_eq_some_iff.1 h).1, d6f h⟩
theorem a0s (c : Bool) (vs : List Vi) : ∀ p ∈ b0o c vs, p.2.flatA = true := fun p hp => by
 obtain ⟨q, _, rfl⟩ := List.mem_map.1 hp; rfl
end
section
theorem c1y (c : Bool) (n : Nd) (hl : n.lanes.length ≤ 1048576) : Meth Tryz.prog 108 1 [] [.agg (a1d c n)] [(0, (0, .dead))] (.agg [pI n.id, pI n.inc, pI n.g, pI n.led, .ref 0 0, a0i c n.kept, a0z c n.outs]) [(0, (0, .row 62 3 ((n.lanes).map fun l => a0b l.base)))] := by
 refine u8u x7x (fn := Tryz.f108) (by kernel_rfl) (by kernel_rfl) rfl (O0 := [.agg [pI n.id, pI n.inc, pI n.g, pI n.led, .ref 0 0, a0i c n.kept, a0z c n.outs]]) 1 6 (Nat.le_of_ble_eq_true rfl) (by rfl) (by repeat (first | exact BndH.nil | refine BndH.dead ?_ )) (by repeat (first | exact BndH.nil | refine BndH.row (u3u fun _ => rfl) ?_ )) (by rfl) fun γ => ?_
 show Ex Tryz.prog _ _ [(0, .agg (a1d c n))] [(0, ((γ 0), .dead)), (6, (0, .dead)), (5, (0, .dead)), (4, (0, .dead)), (3, (0, .dead)), (2, (0, .dead)), (1, (0, .dead))] _
 refine x4x x7x (by rfl) ?_
 refine v5v (id := 1) rfl rfl rfl ?_
 refine u9u (id := 2) r1r c8s rfl ?_
 refine x4x x7x (by rfl) ?_
 refine x0x rfl z5z rfl rfl y9y rfl rfl ?_
 refine x3x rfl y9y rfl rfl ?_
 refine x0x rfl z5z rfl rfl y9y rfl rfl ?_
 refine x3x rfl y9y rfl rfl ?_
 refine x0x rfl z5z rfl rfl y9y rfl rfl ?_
 refine x3x rfl y9y rfl rfl ?_
 refine x0x rfl z5z rfl rfl y9y rfl rfl ?_
 refine x3x rfl y9y rfl rfl ?_
 refine x0x rfl z5z rfl rfl u6u rfl rfl ?_
 refine x3x rfl u6u rfl rfl ?_
 refine x0x rfl z5z rfl rfl u7u rfl rfl ?_
 refine x3x rfl u7u rfl rfl ?_
 refine s5s r1r rfl c8s rfl (by simp only [pI, y9y, T3, u6u, T24, u7u, T25, a2k, d8h, a2g, q9q, AV.okc, AV.one, Value.oneCell', List.map_cons, List.map_nil, List.getElem?_cons_zero, List.getElem?_cons_succ, List.take_succ_cons, List.take_zero, List.drop_succ_cons, List.drop_zero, List.cons_append, List.nil_append, List.length_cons, List.length_nil, if_true, and_self, Nat.reduceAdd, Nat.reduceLeDiff]; rfl) ?_
 refine u9u (id := 3) r1r c8s rfl ?_
 refine z2z rfl rfl r1r rfl rfl rfl rfl ?_
 refine x5x fun K1 hK1 => ?_
 refine x4x x7x (by rfl) ?_
 refine x0x rfl z5z rfl rfl w1w rfl rfl ?_
 refine x3x rfl w1w rfl rfl ?_
 refine u2u rfl w1w rfl ?_
 refine x1x rfl ?_
 refine y6y ?_
 refine a3i 3 4 0 62 3 rfl rfl rfl rfl rfl ?_
 refine u4u (ι := Nat) (fun i γ1 => [(22, .pv (.int .i64 (i : Int)))]) (fun i γ1 => [(0, ((γ1 0), .row 62 3 ((n.lanes.take i).map fun l => a0b l.base))), (3, ((0 + 1), .box 113 [pI n.id, pI n.inc, pI n.g, pI n.led, .ref 0 (γ1 0), a0i c n.kept, a0z c n.outs])), (4, ((γ1 4), .dead)), (5, ((γ1 5), .dead)), (6, ((γ1 6), .dead))]) (fun i => i ≤ n.lanes.length) (fun i => n.lanes.length - i) (Cov.cons (t := 2) rfl (Cov.cons (t := 3) rfl (Cov.cons (t := 20) rfl (Cov.cons (t := 21) rfl Cov.nil)))) (HE.same (id := 1) rfl (HE.same (id := 2) rfl HE.nil)) 0 (by omega) [_, 0, 0, 0, _, _, _] (Cov.cons (t := 22) rfl Cov.nil) (HE.row rfl (by rw [List.take_zero]; rfl) (HE.box rfl rfl (HE.kill rfl (HE.kill rfl (HE.kill rfl HE.nil))))) rfl fun i γ1 hi => ?_
 try dsimp only [List.cons_append, List.nil_append]
 refine x4x x7x (by rfl) ?_
 refine y3y rfl rfl rfl ?_
 refine x5x fun K2 hK2 => ?_
 refine x8x rfl (fun hc3 => ?_) (fun hc3 => ?_)
 rotate_left
 ·try simp at hc3
  obtain rfl : i = n.lanes.length := by omega
  refine v0v ?_
  refine hK1 _ _ ?_
  clear hK2 K2 hK1 K1
  refine x4x x7x (by rfl) ?_
  refine y1y rfl r1r rfl rfl rfl ?_
  refine z2z rfl rfl r1r rfl rfl rfl rfl ?_
  refine y0y ?_
  exact ⟨.inr rfl, [_], rfl, rfl, HE.row rfl (by rw [List.take_length]) HE.nil⟩
 try simp at hc3
 obtain ⟨p, hp⟩ : ∃ p, n.lanes[i]? = some p := ⟨_, List.getElem?_eq_getElem (by omega)⟩
 refine x9x ?_
 refine hK2 _ _ ?_
 clear hK2 K2
 refine x5x fun K4 hK4 => ?_
 refine y6y ?_
 refine x4x x7x (by rfl) ?_
 refine z7z rfl rfl w1w rfl v2v rfl (by assumption) ?_
 refine z6z rfl v2v rfl rfl ?_
 refine u9u (id := 4) v2v a6u rfl ?_
 refine z2z rfl rfl v2v rfl rfl rfl rfl ?_
 refine y4y x7x (by rfl) ?_
 refine x0x rfl r1r rfl rfl a2k rfl rfl ?_
 refine x3x rfl a2k rfl rfl ?_
 refine x0x rfl v2v rfl rfl p5p rfl rfl ?_
 refine x3x (out := .agg (a0b p.base)) rfl p5p rfl rfl ?_
 refine r6r (id := 5) a2k rfl p5p rfl rfl rfl rfl rfl rfl ?_
 refine r8r (zs := (n.lanes.take i ++ [p]).map fun l => a0b l.base) rfl rfl a2k rfl p5p rfl rfl rfl rfl (by rfl) (a0j _ _ _) (by (simp only [List.length_map, List.length_append, List.length_cons, List.length_nil, List.length_take, List.length_range, T62]; omega)) ?_
 refine x0x rfl r1r rfl rfl a2k rfl rfl ?_
 refine u5u rfl rfl a2k rfl rfl rfl rfl rfl (by simp only [List.set_cons_zero, List.set_cons_succ]; rfl) ?_
 refine hK4 _ _ ?_
 clear hK4 K4
 refine y4y x7x (by rfl) ?_
 refine y3y rfl rfl rfl ?_
 refine x1x rfl ?_
 exact ⟨i + 1, ⟨by omega, by omega⟩, [_, 0, 0, 0, _, _, _], (Cov.cons' (t := 22) rfl (by rw [v6v (by omega) (by omega)]; rfl) Cov.nil), (Cov.cons (t := 2) rfl (Cov.cons (t := 3) rfl (Cov.cons (t := 20) rfl (Cov.cons (t := 21) rfl Cov.nil)))), (HE.row rfl (by rw [p1p hp]) (HE.box rfl rfl (HE.kill rfl (HE.kill rfl (HE.kill rfl HE.nil))))), (HE.same (id := 1) rfl (HE.same (id := 2) rfl HE.nil)), rfl⟩
theorem b8r (c : Bool) (n : Nd) (hl : n.lanes.length ≤ 1048576) : Meth Tryz.prog 80 5 [0] [.agg [pI n.id, pI n.inc, pI n.g, pI n.led, .ref 0 0, a0i c n.kept, a0z c n.outs]] [(0, (0, .row 62 3 ((n.lanes).map fun l => a0b l.base))), (1, (0, .dead)), (2, (0, .dead)), (3, (0, .dead)), (4, (0, .dead))] (.ptr 4 0 0) [(4, (0, .box 139 [pI n.id, pI n.inc, pI n.g, pI n.led, .ref 0 0, a0i c n.kept, a0z c n.outs, .pv (.bool false), .ref 1 0, pI 0, .mp 2 0, .ref 3 0, pI 0, pI 41])), (1, (0, .row 63 1 ((n.lanes).map fun _ => [a4j c []]))), (2, (0, .map [])), (3, (0, .row 3 1 ([0, 0, 0].map a2w)))] := by
 refine u8u x7x (fn := Tryz.f80) (by kernel_rfl) (by kernel_rfl) rfl (O0 := [.ptr 4 0 0]) 5 1 (Nat.le_of_ble_eq_true rfl) (by rfl) (by repeat (first | exact BndH.nil | refine BndH.dead ?_ | refine BndH.row (u3u fun _ => rfl) ?_ )) (by repeat (first | exact BndH.nil | refine BndH.box rfl ?_ | refine BndH.row (u3u fun _ => rfl) ?_ | refine BndH.map (by intro p hp; cases hp; done) ?_ )) (by rfl) fun γ => ?_
 show Ex Tryz.prog _ _ [(0, .agg [pI n.id, pI n.inc, pI n.g, pI n.led, .ref 0 (γ 0), a0i c n.kept, a0z c n.outs])] [(0, ((γ 0), .row 62 3 ((n.lanes).map fun l => a0b l.base))), (1, ((γ 1), .dead)), (2, ((γ 2), .dead)), (3, ((γ 3), .dead)), (4, ((γ 4), .dead)), (5, (0, .dead))] _
 refine x4x x7x (by rfl) ?_
 refine v5v (id := 5) rfl rfl rfl ?_
 refine x2x rfl ?_
 refine p6p x7x r2r (by rfl) ?_
 refine y1y rfl r1r rfl rfl rfl ?_
 refine x0x rfl r1r rfl rfl a2k rfl rfl ?_
 refine x3x rfl a2k rfl rfl ?_
 refine a0v rfl a2k rfl rfl (by exact List.length_map _) ?_
 refine a5o (id := 1) a2q rfl v3v d8o rfl rfl rfl rfl (by (simp only [List.length_map, List.length_append, List.length_cons, List.length_nil, List.length_take, List.length_range, T63]; omega)) rfl ?_
 refine b9j (id := 2) rfl ?_
 refine a5o (n := 3) (id := 3) p3p rfl y9y d9i rfl rfl rfl rfl (by (simp only [List.length_map, List.length_append, List.length_cons, List.length_nil, List.length_take, List.length_range, T3]; omega)) rfl ?_
 refine s5s s0s rfl d6x rfl (by simp only [pI, y9y, T3, b4p, T4, p3p, T22, r1r, T113, a2q, d8i, b6a, d8j, a2g, q9q, AV.okc, AV.one, Value.oneCell', List.map_cons, List.map_nil, List.getElem?_cons_zero, List.getElem?_cons_succ, List.take_succ_cons, List.take_zero, List.drop_succ_cons, List.drop_zero, List.cons_append, List.nil_append, List.length_cons, List.length_nil, if_true, and_self, Nat.reduceAdd, Nat.reduceLeDiff]; rfl) ?_
 refine v5v (id := 4) rfl rfl rfl ?_
 refine x2x rfl ?_
 refine ⟨by kernel_rfl, ?_⟩
 refine a9o 1 (xs' := n.lanes.map fun _ => [.pv (.slice none 0 0)]) rfl (by simp [List.map_const', T63]) ?_
 refine d3z (f := fun _ => [.pv (.slice none 0 0)]) (f' := fun _ => [a4j c []]) (l := n.lanes) 1 rfl (fun _ => .le rfl .nil rfl .nil) ?_
 refine y0y ?_
 exact ⟨.inr rfl, [γ 0, _, _, _, _], rfl, rfl, HE.box rfl rfl (HE.row rfl rfl (HE.map rfl rfl (HE.row rfl rfl (HE.same rfl HE.nil))))⟩
theorem b3g (c : Bool) (n : Nd) (hl : n.lanes.length ≤ 1048576) (hv : n.views.length ≤ 1048576) (hk3 : n.known.length = 3) : Meth Tryz.prog 103 5 [] [.agg (a1d c n)] [(0, (0, .dead)), (1, (0, .dead)), (2, (0, .dead)), (3, (0, .dead)), (4, (0, .dead))] (.ptr 4 0 0) [(0, (0, .row 62 3 ((n.lanes).map fun l => a0b l.base))), (1, (0, .row 63 1 ((n.lanes).map fun l => [a4j c l.done]))), (2, (0, .map (b0o c n.views))), (3, (0, .row 3 1 (n.known.map a2w))), (4, (0, .box 139 [pI n.id, pI n.inc, pI n.g, pI n.led, .ref 0 0, a0i c n.kept, a0z c n.outs, .pv (.bool n.up), .ref 1 0, pI n.version, .mp 2 0, .ref 3 0, pI n.round, pI n.low]))] := by
 refine u8u x7x (fn := Tryz.f103) (by kernel_rfl) (by kernel_rfl) rfl (O0 := [.ptr 4 0 0]) 5 3 (Nat.le_of_ble_eq_true rfl) (by rfl) (by repeat (first | exact BndH.nil | refine BndH.dead ?_ )) (by repeat (first | exact BndH.nil | refine BndH.box rfl ?_ | refine BndH.row (u3u fun _ => rfl) ?_ | refine BndH.map (a0s _ _) ?_ )) (by rfl) fun γ => ?_
 show Ex Tryz.prog _ _ [(0, .agg (a1d c n))] [(0, ((γ 0), .dead)), (1, ((γ 1), .dead)), (2, ((γ 2), .dead)), (3, ((γ 3), .dead)), (4, ((γ 4), .dead)), (7, (0, .dead)), (6, (0, .dead)), (5, (0, .dead))] _
 refine x4x x7x (by rfl) ?_
 refine v5v (id := 5) rfl rfl rfl ?_
 refine x2x rfl ?_
 refine x4x x7x (by rfl) ?_
 refine y1y rfl z5z rfl rfl rfl ?_
 refine v4v [0] [_] (c1y c n hl) rfl rfl rfl (by decide) rfl rfl (by repeat (first | exact InH.nil | refine InH.cons rfl ?_)) (by (simp only [pI, List.map_cons, List.map_nil, z8z, z9z, gl, nx, p4p, Nat.beq, Nat.add_eq, List.getD_cons_zero, List.getD_cons_succ, List.getD_nil, Bool.or_false, Bool.false_or, Bool.true_or, Bool.or_true, Nat.add_zero, Nat.zero_add]; rfl)) (by (simp only [pI, List.map_cons, List.map_nil, z8z, z9z, gl, nx, p4p, Nat.beq, Nat.add_eq, List.getD_cons_zero, List.getD_cons_succ, List.getD_nil, Bool.or_false, Bool.false_or, Bool.true_or, Bool.or_true, Nat.add_zero, Nat.zero_add]; rfl)) ?_
 refine v4v [0, 1, 2, 3, 4] [_, _, _, _, _] (b8r c n hl) rfl rfl rfl (by decide) rfl rfl (by repeat (first | exact InH.nil | refine InH.cons rfl ?_)) (by (simp only [pI, List.map_cons, List.map_nil, z8z, z9z, gl, nx, p4p, Nat.beq, Nat.add_eq, List.getD_cons_zero, List.getD_cons_succ, List.getD_nil, Bool.or_false, Bool.false_or, Bool.true_or, Bool.or_true, Nat.add_zero, Nat.zero_add]; rfl)) (by (simp only [pI, List.map_cons, List.map_nil, z8z, z9z, gl, nx, p4p, Nat.beq, Nat.add_eq, List.getD_cons_zero, List.getD_cons_succ, List.getD_nil, Bool.or_false, Bool.false_or, Bool.true_or, Bool.or_true, Nat.add_zero, Nat.zero_add]; rfl)) ?_
 refine x2x rfl ?_
 refine x5x fun K1 hK1 => ?_
 refine x4x x7x (by rfl) ?_
 refine x0x rfl z5z rfl rfl w1w rfl rfl ?_
 refine x3x rfl w1w rfl rfl ?_
 refine u2u rfl w1w rfl ?_
 refine x1x rfl ?_
 refine y6y ?_
 refine u4u (ι := Nat) (fun i γ1 => [(14, .pv (.int .i64 (i : Int)))]) (fun i γ1 => [(1, ((γ 1 + 1), .row 63 1 ((n.lanes.take i).map (fun l => [a4j c l.done]) ++ (n.lanes.drop i).map fun _ => [a4j c []]))), (6, ((γ1 6), .dead))]) (fun i => i ≤ n.lanes.length) (fun i => n.lanes.length - i) (Cov.cons (t := 1) rfl (Cov.cons (t := 3) rfl (Cov.cons (t := 12) rfl (Cov.cons (t := 13) rfl Cov.nil)))) (HE.same (id := 0) rfl (HE.same (id := 2) rfl (HE.same (id := 3) rfl (HE.same (id := 4) rfl (HE.same (id := 5) rfl (HE.same (id := 7) rfl HE.nil)))))) 0 (by omega) [0, 0, 0, 0, 0, 0, _] (Cov.cons (t := 14) rfl Cov.nil) (HE.row rfl (by rw [List.take_zero, List.drop_zero]; rfl) (HE.kill rfl HE.nil)) rfl fun i γ1 hi => ?_
 try dsimp only [List.cons_append, List.nil_append]
 refine x4x x7x (by rfl) ?_
 refine y3y rfl rfl rfl ?_
 refine x5x fun K2 hK2 => ?_
 refine x8x rfl (fun hc3 => ?_) (fun hc3 => ?_)
 ·try simp at hc3
  obtain ⟨p, hp⟩ : ∃ p, n.lanes[i]? = some p := ⟨_, List.getElem?_eq_getElem (by omega)⟩
  have hAl : ((n.lanes.take i).map fun l => [a4j c l.done]).length = i := by rw [List.length_map, List.length_take]; omega
  rw [q2q hp, List.map_cons]
  refine x9x ?_
  refine hK2 _ _ ?_
  clear hK2 K2
  refine x5x fun K4 hK4 => ?_
  refine y6y ?_
  refine x4x x7x (by rfl) ?_
  refine x1x rfl ?_
  refine z7z rfl rfl w1w rfl v2v rfl (by assumption) ?_
  refine z6z rfl v2v rfl rfl ?_
  refine u9u (id := 6) v2v a6u rfl ?_
  refine x2x rfl ?_
  refine z2z rfl rfl v2v rfl rfl rfl rfl ?_
  refine s3s x7x r2r (by rfl) ?_
  refine x1x rfl ?_
  refine v9v rfl rfl ?_
  refine x0x rfl s0s rfl rfl a2q rfl rfl ?_
  refine x3x rfl a2q rfl rfl ?_
  refine x1x rfl ?_
  refine x0x rfl v2v rfl rfl v3v rfl rfl ?_
  refine x3x rfl v3v rfl rfl ?_
  refine q7q rfl rfl a2q rfl v3v rfl rfl hAl ?_
  refine p9p hAl rfl rfl v3v rfl rfl rfl rfl rfl rfl rfl rfl ?_
  refine ⟨by kernel_rfl, ?_⟩
  refine hK4 _ _ ?_
  clear hK4 K4
  refine y4y x7x (by rfl) ?_
  refine y3y rfl rfl rfl ?_
  refine x1x rfl ?_
  exact ⟨i + 1, ⟨by omega, by omega⟩, [0, 0, 0, 0, 0, 0, _], (Cov.cons' (t := 14) rfl (by rw [v6v (by omega) (by omega)]; rfl) Cov.nil), (Cov.cons (t := 1) rfl (Cov.cons (t := 3) rfl (Cov.cons (t := 12) rfl (Cov.cons (t := 13) rfl Cov.nil)))), (HE.row rfl (by rw [p1p hp, List.map_append, List.append_assoc]; rfl) (HE.kill rfl HE.nil)), (HE.same (id := 0) rfl (HE.same (id := 2) rfl (HE.same (id := 3) rfl (HE.same (id := 4) rfl (HE.same (id := 5) rfl (HE.same (id := 7) rfl HE.nil)))))), rfl⟩
 try simp at hc3
 obtain rfl : i = n.lanes.length := by omega
 refine v0v ?_
 refine hK1 _ _ ?_
 clear hK2 K2 hK1 K1
 refine x5x fun K5 hK5 => ?_
 refine x4x x7x (by rfl) ?_
 refine x0x rfl z5z rfl rfl p8p rfl rfl ?_
 refine x3x rfl p8p rfl rfl ?_
 refine u2u rfl p8p rfl ?_
 refine x1x rfl ?_
 refine y6y ?_
 refine u4u (ι := Nat) (fun j γ2 => [(31, .pv (.int .i64 (j : Int)))]) (fun j γ2 => [(2, ((γ 2 + 1), .map (b0o c (n.views.take j)))), (7, ((γ2 7), .dead))]) (fun j => j ≤ n.views.length) (fun j => n.views.length - j) (Cov.cons (t := 1) rfl (Cov.cons (t := 3) rfl (Cov.cons (t := 29) rfl (Cov.cons (t := 30) rfl Cov.nil)))) (HE.same (id := 0) rfl (HE.same (id := 1) rfl (HE.same (id := 3) rfl (HE.same (id := 4) rfl (HE.same (id := 5) rfl (HE.same (id := 6) rfl HE.nil)))))) 0 (by omega) [0, 0, 0, 0, 0, 0, 0, _] (Cov.cons (t := 31) rfl Cov.nil) (HE.map rfl (by rw [List.take_zero]; rfl) (HE.kill rfl HE.nil)) rfl fun j γ2 hi => ?_
 try dsimp only [List.cons_append, List.nil_append]
 refine x4x x7x (by rfl) ?_
 refine y3y rfl rfl rfl ?_
 refine x5x fun K6 hK6 => ?_
 refine x8x rfl (fun hc7 => ?_) (fun hc7 => ?_)
 ·try simp at hc7
  obtain ⟨q, hq⟩ : ∃ q, n.views[j]? = some q := ⟨_, List.getElem?_eq_getElem (by omega)⟩
  have hjl : (n.views.take j).length = j := by rw [List.length_take]; omega
  refine x9x ?_
  refine hK6 _ _ ?_
  clear hK6 K6
  refine x5x fun K8 hK8 => ?_
  refine y6y ?_
  refine x4x x7x (by rfl) ?_
  refine x1x rfl ?_
  refine z7z rfl rfl p8p rfl w5w rfl (by assumption) ?_
  refine z6z rfl w5w rfl rfl ?_
  refine u9u (id := 7) w5w b0t rfl ?_
  refine x2x rfl ?_
  refine z2z rfl rfl w5w rfl rfl rfl rfl ?_
  refine s3s x7x r2r (by rfl) ?_
  refine x1x rfl ?_
  refine v9v rfl rfl ?_
  refine x0x rfl s0s rfl rfl b6a rfl rfl ?_
  refine x3x rfl b6a rfl rfl ?_
  refine x1x rfl ?_
  refine y1y rfl w5w rfl rfl rfl ?_
  refine c2u (κ := Int) (enc := fun n => .int .i64 n) (ks := b7n j) (k := (j : Int)) (es' := b0o c (n.views.take j ++ [q])) Tryz.underlying137 (b6k Tryz.underlying3) rfl rfl rfl (fun _ _ _ h => d5i h) rfl (by rw [b7o, hjl]) (.inr ⟨d3j j, by rw [d1s, hjl]⟩) ?_
  refine ⟨by kernel_rfl, ?_⟩
  refine hK8 _ _ ?_
  clear hK8 K8
  refine y4y x7x (by rfl) ?_
  refine y3y rfl rfl rfl ?_
  refine x1x rfl ?_
  exact ⟨j + 1, ⟨by omega, by omega⟩, [0, 0, 0, 0, 0, 0, 0, _], (Cov.cons' (t := 31) rfl (by rw [v6v (by omega) (by omega)]; rfl) Cov.nil), (Cov.cons (t := 1) rfl (Cov.cons (t := 3) rfl (Cov.cons (t := 29) rfl (Cov.cons (t := 30) rfl Cov.nil)))), (HE.map rfl (by rw [p1p hq]) (HE.kill rfl HE.nil)), (HE.same (id := 0) rfl (HE.same (id := 1) rfl (HE.same (id := 3) rfl (HE.same (id := 4) rfl (HE.same (id := 5) rfl (HE.same (id := 6) rfl HE.nil)))))), rfl⟩
 try simp at hc7
 obtain rfl : j = n.views.length := by omega
 refine v0v ?_
 refine hK5 _ _ ?_
 clear hK6 K6 hK5 K5
 refine p6p x7x r2r (by rfl) ?_
 refine x1x rfl ?_
 refine v9v rfl rfl ?_
 refine x0x rfl s0s rfl rfl p3p rfl rfl ?_
 refine x3x rfl p3p rfl rfl ?_
 refine x0x rfl z5z rfl rfl p3p rfl rfl ?_
 refine x3x rfl p3p rfl rfl ?_
 refine d2p x7x (l := n.known) p3p rfl y9y rfl rfl rfl rfl (by rw [hk3]; rfl) ?_
 refine ⟨by kernel_rfl, ?_⟩
 refine p6p x7x r2r (by rfl) ?_
 refine x1x rfl ?_
 refine x1x rfl ?_
 refine x1x rfl ?_
 refine x1x rfl ?_
 refine x0x rfl z5z rfl rfl b4p rfl rfl ?_
 refine x3x rfl b4p rfl rfl ?_
 refine x0x rfl z5z rfl rfl y9y rfl rfl ?_
 refine x3x rfl y9y rfl rfl ?_
 refine x0x rfl z5z rfl rfl y9y rfl rfl ?_
 refine x3x rfl y9y rfl rfl ?_
 refine x0x rfl z5z rfl rfl y9y rfl rfl ?_
 refine x3x rfl y9y rfl rfl ?_
 refine v9v rfl rfl ?_
 refine x0x rfl s0s rfl rfl b4p rfl rfl ?_
 refine u5u rfl rfl b4p rfl rfl rfl rfl rfl (by simp only [List.set_cons_zero, List.set_cons_succ]; rfl) ?_
 refine v9v rfl rfl ?_
 refine x0x rfl s0s rfl rfl y9y rfl rfl ?_
 refine u5u rfl rfl y9y rfl rfl rfl rfl rfl (by simp only [List.set_cons_zero, List.set_cons_succ]; rfl) ?_
 refine v9v rfl rfl ?_
 refine x0x rfl s0s rfl rfl y9y rfl rfl ?_
 refine u5u rfl rfl y9y rfl rfl rfl rfl rfl (by simp only [List.set_cons_zero, List.set_cons_succ]; rfl) ?_
 refine v9v rfl rfl ?_
 refine x0x rfl s0s rfl rfl y9y rfl rfl ?_
 refine u5u rfl rfl y9y rfl rfl rfl rfl rfl (by simp only [List.set_cons_zero, List.set_cons_succ]; rfl) ?_
 refine ⟨by kernel_rfl, ?_⟩
 refine x4x x7x (by rfl) ?_
 refine x1x rfl ?_
 refine x2x rfl ?_
 refine y0y ?_
 exact ⟨.inr rfl, [_, _, _, _, _], rfl, rfl, HE.row rfl rfl (HE.row rfl (by rw [List.take_length, List.drop_length, List.map_nil, List.append_nil]) (HE.map rfl (by rw [List.take_length]) (HE.row rfl rfl (HE.box rfl rfl HE.nil))))⟩
end
section
theorem b4y (c : Bool) (n : Nd) (hs : (a2u n).length ≤ 5000000) (hlen : n.lanes.length ≤ 1048576) : Meth Tryz.prog 189 6 [0, 1, 2, 3, 4] [.ptr 4 0 0] [(0, (0, .row 62 3 ((n.lanes).map fun l => a0b l.base))), (1, (0, .row 63 1 ((n.lanes).map fun l => [a4j c l.done]))), (2, (0, .map (b0o c n.views))), (3, (0, .row 3 1 (n.known.map a2w))), (4, (0, .box 139 [pI n.id, pI n.inc, pI n.g, pI n.led, .ref 0 0, a0i c n.kept, a0z c n.outs, .pv (.bool n.up), .ref 1 0, pI n.version, .mp 2 0, .ref 3 0, pI n.round, pI n.low])), (5, (0, .dead))] (.ref 5 0) [(5, (0, .row 76 7 ((a2u n).map w0w)))] := by
 refine u8u x7x (fn := Tryz.f189) (by kernel_rfl) (by kernel_rfl) rfl (O0 := [.ref 5 0]) 6 2 (Nat.le_of_ble_eq_true rfl) (by rfl) (by repeat (first | exact BndH.nil | refine BndH.dead ?_ | refine BndH.box rfl ?_ | refine BndH.row (u3u fun _ => rfl) ?_ | refine BndH.map (a0s _ _) ?_ )) (by repeat (first | exact BndH.nil | refine BndH.row (u3u fun _ => rfl) ?_ )) (by rfl) fun γ => ?_
 show Ex Tryz.prog _ _ [(0, .ptr 4 (γ 4) 0)] [(0, ((γ 0), .row 62 3 ((n.lanes).map fun l => a0b l.base))), (1, ((γ 1), .row 63 1 ((n.lanes).map fun l => [a4j c l.done]))), (2, ((γ 2), .map (b0o c n.views))), (3, ((γ 3), .row 3 1 (n.known.map a2w))), (4, ((γ 4), .box 139 [pI n.id, pI n.inc, pI n.g, pI n.led, .ref 0 (γ 0), a0i c n.kept, a0z c n.outs, .pv (.bool n.up), .ref 1 (γ 1), pI n.version, .mp 2 (γ 2), .ref 3 (γ 3), pI n.round, pI n.low])), (5, ((γ 5), .dead)), (7, (0, .dead)), (6, (0, .dead))] _
 have hkl : n.kept.length ≤ 5000000 := by simp only [a2u, List.length_append] at hs; omega
 refine x4x x7x (by rfl) ?_
 refine x2x rfl ?_
 refine x4x x7x (by rfl) ?_
 refine x1x rfl ?_
 refine v9v rfl rfl ?_
 refine x0x rfl s0s rfl rfl r1r rfl rfl ?_
 refine x0x rfl r1r rfl rfl u6u rfl rfl ?_
 refine x3x rfl u6u rfl rfl ?_
 refine v4v [5] [_] (p7p c n.kept (by omega)) rfl rfl rfl (by decide) rfl rfl (by repeat (first | exact InH.nil | refine InH.cons rfl ?_)) (by (simp only [pI, List.map_cons, List.map_nil, z8z, z9z, gl, nx, p4p, Nat.beq, Nat.add_eq, List.getD_cons_zero, List.getD_cons_succ, List.getD_nil, Bool.or_false, Bool.false_or, Bool.true_or, Bool.or_true, Nat.add_zero, Nat.zero_add]; rfl)) (by (simp only [pI, List.map_cons, List.map_nil, z8z, z9z, gl, nx, p4p, Nat.beq, Nat.add_eq, List.getD_cons_zero, List.getD_cons_succ, List.getD_nil, Bool.or_false, Bool.false_or, Bool.true_or, Bool.or_true, Nat.add_zero, Nat.zero_add]; rfl)) ?_
 refine x2x rfl ?_
 refine x5x fun K1 hK1 => ?_
 refine x4x x7x (by rfl) ?_
 refine x1x rfl ?_
 refine v9v rfl rfl ?_
 refine x0x rfl s0s rfl rfl a2q rfl rfl ?_
 refine x3x rfl a2q rfl rfl ?_
 refine a0v rfl a2q rfl rfl (by exact List.length_map _) ?_
 refine x1x rfl ?_
 refine y6y ?_
 refine u4u (ι := Nat) (fun i γ1 => [(3, .ref 5 (γ1 5)), (19, .pv (.int .i64 (i : Int)))]) (fun i γ1 => [(5, ((γ1 5), .row 76 7 ((n.kept ++ (n.lanes.take i).flatMap b1t).map w0w))), (6, ((γ1 6), .dead)), (7, ((γ1 7), .dead))]) (fun i => i ≤ n.lanes.length) (fun i => n.lanes.length - i) (Cov.cons (t := 17) rfl (Cov.cons (t := 18) rfl Cov.nil)) (HE.same (id := 0) rfl (HE.same (id := 1) rfl (HE.same (id := 2) rfl (HE.same (id := 3) rfl (HE.same (id := 4) rfl HE.nil))))) 0 (by omega) [0, 0, 0, 0, 0, _, _, _] (Cov.cons (t := 3) rfl (Cov.cons (t := 19) rfl Cov.nil)) (HE.row rfl (by simp) (HE.kill rfl (HE.kill rfl HE.nil))) rfl fun i γ1 hi => ?_
 try dsimp only [List.cons_append, List.nil_append]
 refine x4x x7x (by rfl) ?_
 refine y3y rfl rfl rfl ?_
 refine x5x fun K2 hK2 => ?_
 refine x8x rfl (fun hc3 => ?_) (fun hc3 => ?_)
 rotate_left
 ·try simp at hc3
  obtain rfl : i = n.lanes.length := by omega
  refine v0v ?_
  refine hK1 _ _ ?_
  clear hK2 K2 hK1 K1
  refine x4x x7x (by rfl) ?_
  refine x1x rfl ?_
  refine x2x rfl ?_
  refine y0y ?_
  exact ⟨.inr rfl, [γ 0, γ 1, γ 2, γ 3, γ 4, _], rfl, rfl, HE.row rfl (by rw [List.take_length]; rfl) (HE.same (id := 0) rfl (HE.same (id := 1) rfl (HE.same (id := 2) rfl (HE.same (id := 3) rfl (HE.same (id := 4) rfl HE.nil)))))⟩
 try simp at hc3
 obtain ⟨p, hp⟩ : ∃ p, n.lanes[i]? = some p := ⟨_, List.getElem?_eq_getElem (by omega)⟩
 refine x9x ?_
 refine hK2 _ _ ?_
 clear hK2 K2
 refine x5x fun K4 hK4 => ?_
 refine y6y ?_
 refine x4x x7x (by rfl) ?_
 refine w7w (j := i) rfl rfl a2q rfl v3v rfl rfl (a0e hp) ?_
 refine a8h rfl v3v rfl hp rfl ?_
 refine x2x rfl ?_
 refine x4x x7x (by rfl) ?_
 refine x1x rfl ?_
 refine u2u rfl v3v rfl ?_
 refine x1x rfl ?_
 refine y6y ?_
 refine w9w 23 rfl fun hlen2 => ?_
 refine u4u (ι := Nat) (fun j γ2 => [(3, .ref 5 (γ2 5)), (25, .pv (.int .i64 (j : Int)))]) (fun j γ2 => [(5, ((γ2 5), .row 76 7 ((n.kept ++ (n.lanes.take i).flatMap b1t ++ (p.done.take j).flatMap Pa.sends).map w0w))), (6, ((γ2 6), .dead)), (7, ((γ2 7), .dead))]) (fun j => j ≤ p.done.length) (fun j => p.done.length - j) (Cov.cons (t := 17) rfl (Cov.cons (t := 18) rfl (Cov.cons (t := 19) rfl (Cov.cons (t := 23) rfl (Cov.cons (t := 24) rfl Cov.nil))))) (HE.same (id := 0) rfl (HE.same (id := 1) rfl (HE.same (id := 2) rfl (HE.same (id := 3) rfl (HE.same (id := 4) rfl HE.nil))))) 0 (by omega) [0, 0, 0, 0, 0, _, _, _] (Cov.cons (t := 3) rfl (Cov.cons (t := 25) rfl Cov.nil)) (HE.row rfl (by simp) (HE.kill rfl (HE.kill rfl HE.nil))) rfl fun j γ2 hi => ?_
 try dsimp only [List.cons_append, List.nil_append]
 refine x4x x7x (by rfl) ?_
 refine y3y rfl rfl rfl ?_
 refine x5x fun K5 hK5 => ?_
 refine x8x rfl (fun hc6 => ?_) (fun hc6 => ?_)
 rotate_left
 ·try simp at hc6
  obtain rfl : j = p.done.length := by omega
  refine v0v ?_
  refine hK4 _ _ ?_
  clear hK5 K5 hK4 K4
  refine y4y x7x (by rfl) ?_
  refine y3y rfl rfl rfl ?_
  refine x1x rfl ?_
  exact ⟨i + 1, ⟨by omega, by omega⟩, [0, 0, 0, 0, 0, _, _, _], (Cov.cons (t := 3) rfl (Cov.cons' (t := 19) rfl (by rw [v6v (by omega) (by omega)]; rfl) Cov.nil)), (Cov.cons (t := 17) rfl (Cov.cons (t := 18) rfl Cov.nil)), (HE.row rfl (by simp only [a2v hp, List.append_assoc, b1t, List.take_length]) (HE.kill rfl (HE.kill rfl HE.nil))), (HE.same (id := 0) rfl (HE.same (id := 1) rfl (HE.same (id := 2) rfl (HE.same (id := 3) rfl (HE.same (id := 4) rfl HE.nil))))), rfl⟩
 try simp at hc6
 obtain ⟨q, hq⟩ : ∃ q, p.done[j]? = some q := ⟨_, List.getElem?_eq_getElem (by omega)⟩
 have hsp := c3j hp hq
 refine x9x ?_
 refine hK5 _ _ ?_
 clear hK5 K5
 refine x5x fun K7 hK7 => ?_
 refine y6y ?_
 refine x4x x7x (by rfl) ?_
 refine z7z rfl rfl v3v rfl v8v rfl (by assumption) ?_
 refine z6z rfl v8v rfl rfl ?_
 refine u9u (id := 6) v8v b6f rfl ?_
 refine z2z rfl rfl v8v rfl rfl rfl rfl ?_
 refine y4y x7x (by rfl) ?_
 refine x1x rfl ?_
 refine x0x rfl v8v rfl rfl u6u rfl rfl ?_
 refine x3x rfl u6u rfl rfl ?_
 refine s1s (zs := (n.kept ++ (n.lanes.take i).flatMap b1t ++ (p.done.take j).flatMap Pa.sends ++ q.sends).map w0w) rfl rfl u6u rfl z1z rfl rfl rfl (by exact r9r (fun _ => rfl) _) (a4n _ _ _) (by have hb56 : T76.bytes = 56 := rfl; rw [List.length_map, hb56]; omega) ?_
 refine x2x rfl ?_
 refine hK7 _ _ ?_
 clear hK7 K7
 refine y4y x7x (by rfl) ?_
 refine y3y rfl rfl rfl ?_
 refine x1x rfl ?_
 exact ⟨j + 1, ⟨by omega, by omega⟩, [0, 0, 0, 0, 0, _, _, _], (Cov.cons (t := 3) rfl (Cov.cons' (t := 25) rfl (by rw [v6v (by omega) (by omega)]; rfl) Cov.nil)), (Cov.cons (t := 17) rfl (Cov.cons (t := 18) rfl (Cov.cons (t := 19) rfl (Cov.cons (t := 23) rfl (Cov.cons (t := 24) rfl Cov.nil))))), (HE.row rfl (by simp only [a2v hq, List.append_assoc]) (HE.kill rfl (HE.kill rfl HE.nil))), (HE.same (id := 0) rfl (HE.same (id := 1) rfl (HE.same (id := 2) rfl (HE.same (id := 3) rfl (HE.same (id := 4) rfl HE.nil))))), rfl⟩
theorem b3h (c : Bool) (n : Nd) (proc : Int) (e : Ev) : Meth Tryz.prog 212 7 [0, 1, 2, 3, 4, 5, 6] [.agg (w0w e), .ptr 5 0 0, .ptr 6 0 0] [(0, (0, .row 62 3 ((n.lanes).map fun l => a0b l.base))), (1, (0, .row 63 1 ((n.lanes).map fun l => [a4j c l.done]))), (2, (0, .map (b0o c n.views))), (3, (0, .row 3 1 (n.known.map a2w))), (4, (0, .box 139 [pI n.id, pI n.inc, pI n.g, pI n.led, .ref 0 0, a0i c n.kept, a0z c n.outs, .pv (.bool n.up), .ref 1 0, pI n.version, .mp 2 0, .ref 3 0, pI n.round, pI n.low])), (5, (0, .box 3 [pI proc])), (6, (0, .box 109 [.ptr 4 0 0]))] (.pv (.bool (a5x proc n.g e))) [] := by
 refine u8u x7x (fn := Tryz.f212) (by kernel_rfl) (by kernel_rfl) rfl (O0 := [.pv (.bool (a5x proc n.g e))]) 7 1 (Nat.le_of_ble_eq_true rfl) (by rfl) (by repeat (first | exact BndH.nil | refine BndH.box rfl ?_ | refine BndH.row (u3u fun _ => rfl) ?_ | refine BndH.map (a0s _ _) ?_ )) (by repeat (exact BndH.nil )) (by rfl) fun γ => ?_
 show Ex Tryz.prog _ _ [(0, .agg (w0w e)), (1, .ptr 5 (γ 5) 0), (2, .ptr 6 (γ 6) 0)] [(0, ((γ 0), .row 62 3 ((n.lanes).map fun l => a0b l.base))), (1, ((γ 1), .row 63 1 ((n.lanes).map fun l => [a4j c l.done]))), (2, ((γ 2), .map (b0o c n.views))), (3, ((γ 3), .row 3 1 (n.known.map a2w))), (4, ((γ 4), .box 139 [pI n.id, pI n.inc, pI n.g, pI n.led, .ref 0 (γ 0), a0i c n.kept, a0z c n.outs, .pv (.bool n.up), .ref 1 (γ 1), pI n.version, .mp 2 (γ 2), .ref 3 (γ 3), pI n.round, pI n.low])), (5, ((γ 5), .box 3 [pI proc])), (6, ((γ 6), .box 109 [.ptr 4 (γ 4) 0])), (7, (0, .dead))] _
 refine x4x x7x (by rfl) ?_
 refine v5v (id := 7) rfl rfl rfl ?_
 refine x2x rfl ?_
 refine p6p x7x r2r (by rfl) ?_
 refine x0x rfl z1z rfl rfl y9y rfl rfl ?_
 refine x3x rfl y9y rfl rfl ?_
 refine x3x rfl y9y rfl rfl ?_
 refine y3y rfl rfl rfl ?_
 refine x1x rfl ?_
 refine s9s rfl rfl (fun hg1 => ?_) (fun hg1 => ?_)
 rotate_left
 ·try simp at hg1
  refine x6x rfl rfl ?_
  refine x6x rfl rfl ?_
  refine x6x rfl rfl ?_
  refine x6x rfl rfl ?_
  refine x6x rfl rfl ?_
  refine x6x rfl rfl ?_
  refine x6x rfl rfl ?_
  refine y2y rfl rfl ?_
  refine x2x rfl ?_
  refine ⟨by kernel_rfl, ?_⟩
  refine y0y ?_
  exact ⟨.inr rfl, [γ 0, γ 1, γ 2, γ 3, γ 4, γ 5, γ 6], rfl, congrArg (fun b : Bool => some [AV.pv (.bool b)]) (by exact (decide_eq_false (by omega)).symm), (HE.same (id := 0) rfl (HE.same (id := 1) rfl (HE.same (id := 2) rfl (HE.same (id := 3) rfl (HE.same (id := 4) rfl (HE.same (id := 5) rfl (HE.same (id := 6) rfl HE.nil)))))))⟩
 try simp at hg1
 refine x0x rfl z1z rfl rfl y9y rfl rfl ?_
 refine y5y rfl rfl ?_
 refine x3x rfl y9y rfl rfl ?_
 refine y5y rfl rfl ?_
 refine x3x rfl a4x rfl rfl ?_
 refine y5y rfl rfl ?_
 refine v9v rfl rfl ?_
 refine y5y rfl rfl ?_
 refine x0x rfl s0s rfl rfl r1r rfl rfl ?_
 refine y5y rfl rfl ?_
 refine x0x rfl r1r rfl rfl y9y rfl rfl ?_
 refine y5y rfl rfl ?_
 refine x3x rfl y9y rfl rfl ?_
 refine y5y rfl rfl ?_
 refine y3y rfl rfl rfl ?_
 refine y8y rfl rfl ?_
 refine x2x rfl ?_
 refine ⟨by kernel_rfl, ?_⟩
 refine y0y ?_
 exact ⟨.inr rfl, [γ 0, γ 1, γ 2, γ 3, γ 4, γ 5, γ 6], rfl, congrArg (fun b : Bool => some [AV.pv (.bool b)]) (by exact decide_eq_decide.2 (by omega)), (HE.same (id := 0) rfl (HE.same (id := 1) rfl (HE.same (id := 2) rfl (HE.same (id := 3) rfl (HE.same (id := 4) rfl (HE.same (id := 5) rfl (HE.same (id := 6) rfl HE.nil)))))))⟩
theorem a6d (c : Bool) (n : Nd) (proc : Int) (l : List Ev) (hl : l.length ≤ 10000000) : Meth Tryz.prog 188 7 [0, 1, 2, 3, 4, 5, 6] [a0i true l, .fn (.func 212) [] [.ptr 5 0 0, .ptr 6 0 0]] [(0, (0, .row 62 3 ((n.lanes).map fun l => a0b l.base))), (1, (0, .row 63 1 ((n.lanes).map fun l => [a4j c l.done]))), (2, (0, .map (b0o c n.views))), (3, (0, .row 3 1 (n.known.map a2w))), (4, (0, .box 139 [pI n.id, pI n.inc, pI n.g, pI n.led, .ref 0 0, a0i c n.kept, a0z c n.outs, .pv (.bool n.up), .ref 1 0, pI n.version, .mp 2 0, .ref 3 0, pI n.round, pI n.low])), (5, (0, .box 3 [pI proc])), (6, (0, .box 109 [.ptr 4 0 0]))] (a0i true (l.filter (a5x proc n.g))) [] := by
 refine u8u x7x (fn := Tryz.f188) (by kernel_rfl) (by kernel_rfl) rfl (O0 := [a0i true (l.filter (a5x proc n.g))]) 7 4 (Nat.le_of_ble_eq_true rfl) (by rfl) (by repeat (first | exact BndH.nil | refine BndH.box rfl ?_ | refine BndH.row (u3u fun _ => rfl) ?_ | refine BndH.map (a0s _ _) ?_ )) (by repeat (exact BndH.nil )) (by rfl) fun γ => ?_
 show Ex Tryz.prog _ _ [(0, a0i true l), (1, .fn (.func 212) [] [.ptr 5 (γ 5) 0, .ptr 6 (γ 6) 0])] [(0, ((γ 0), .row 62 3 ((n.lanes).map fun l => a0b l.base))), (1, ((γ 1), .row 63 1 ((n.lanes).map fun l => [a4j c l.done]))), (2, ((γ 2), .map (b0o c n.views))), (3, ((γ 3), .row 3 1 (n.known.map a2w))), (4, ((γ 4), .box 139 [pI n.id, pI n.inc, pI n.g, pI n.led, .ref 0 (γ 0), a0i c n.kept, a0z c n.outs, .pv (.bool n.up), .ref 1 (γ 1), pI n.version, .mp 2 (γ 2), .ref 3 (γ 3), pI n.round, pI n.low])), (5, ((γ 5), .box 3 [pI proc])), (6, ((γ 6), .box 109 [.ptr 4 (γ 4) 0])), (10, (0, .dead)), (9, (0, .dead)), (8, (0, .dead)), (7, (0, .dead))] _
 refine x4x x7x (by rfl) ?_
 refine x2x rfl ?_
 refine x4x x7x (by rfl) ?_
 refine x2x rfl ?_
 refine x5x fun K1 hK1 => ?_
 refine x4x x7x (by rfl) ?_
 refine x1x rfl ?_
 refine u2u rfl u6u rfl ?_
 refine x1x rfl ?_
 refine y6y ?_
 refine a2d 5 10 76 7 rfl rfl ?_
 refine u4u (ι := Nat) (fun i γ1 => [(5, .ref 10 (γ1 10)), (10, .pv (.int .i64 (i : Int)))]) (fun i γ1 => [(10, ((γ1 10), .row 76 7 (((l.take i).filter (a5x proc n.g)).map w0w))), (7, ((γ1 7), .dead)), (8, ((γ1 8), .dead)), (9, ((γ1 9), .dead))]) (fun i => i ≤ l.length) (fun i => l.length - i) (Cov.cons (t := 1) rfl (Cov.cons (t := 8) rfl (Cov.cons (t := 9) rfl Cov.nil))) (HE.same (id := 0) rfl (HE.same (id := 1) rfl (HE.same (id := 2) rfl (HE.same (id := 3) rfl (HE.same (id := 4) rfl (HE.same (id := 5) rfl (HE.same (id := 6) rfl HE.nil))))))) 0 (by omega) [0, 0, 0, 0, 0, 0, 0, _, _, _, _] (Cov.cons (t := 5) rfl (Cov.cons (t := 10) rfl Cov.nil)) (HE.row rfl (by rw [List.take_zero]; rfl) (HE.kill rfl (HE.kill rfl (HE.kill rfl HE.nil)))) rfl fun i γ1 hi => ?_
 try dsimp only [List.cons_append, List.nil_append]
 refine x4x x7x (by rfl) ?_
 refine y3y rfl rfl rfl ?_
 refine x5x fun K2 hK2 => ?_
 refine x8x rfl (fun hc3 => ?_) (fun hc3 => ?_)
 rotate_left
 ·try simp at hc3
  obtain rfl : i = l.length := by omega
  rw [List.take_length]
  refine v0v ?_
  refine hK1 _ _ ?_
  clear hK2 K2 hK1 K1
  refine a0y 5 rfl rfl (fun _ => rfl) ?_
  refine x4x x7x (by rfl) ?_
  refine x1x rfl ?_
  refine x2x rfl ?_
  refine y0y ?_
  exact ⟨.inr rfl, [γ 0, γ 1, γ 2, γ 3, γ 4, γ 5, γ 6], rfl, rfl, (HE.same (id := 0) rfl (HE.same (id := 1) rfl (HE.same (id := 2) rfl (HE.same (id := 3) rfl (HE.same (id := 4) rfl (HE.same (id := 5) rfl (HE.same (id := 6) rfl HE.nil)))))))⟩
 try simp at hc3
 obtain ⟨p, hp⟩ : ∃ p, l[i]? = some p := ⟨_, List.getElem?_eq_getElem (by omega)⟩
 have hfl : ((l.take i).filter (a5x proc n.g)).length ≤ 10000000 := Nat.le_trans (List.length_filter_le _ _) (by rw [List.length_take]; omega)
 refine x9x ?_
 refine hK2 _ _ ?_
 clear hK2 K2
 refine x5x fun K4 hK4 => ?_
 refine y6y ?_
 refine x4x x7x (by rfl) ?_
 refine z7z rfl rfl u6u rfl z1z rfl (by assumption) ?_
 refine z6z rfl z1z rfl rfl ?_
 refine u9u (id := 7) z1z a7o rfl ?_
 refine z2z rfl rfl z1z rfl rfl rfl rfl ?_
 refine x4x x7x (by rfl) ?_
 refine x1x rfl ?_
 refine y1y rfl z1z rfl rfl rfl ?_
 refine v4v [0, 1, 2, 3, 4, 5, 6] [_, _, _, _, _, _, _] (b3h c n proc p) rfl rfl rfl (by decide) rfl rfl (by repeat (first | exact InH.nil | refine InH.cons rfl ?_)) (by (simp only [pI, List.map_cons, List.map_nil, z8z, z9z, gl, nx, p4p, Nat.beq, Nat.add_eq, List.getD_cons_zero, List.getD_cons_succ, List.getD_nil, Bool.or_false, Bool.false_or, Bool.true_or, Bool.or_true, Nat.add_zero, Nat.zero_add]; rfl)) (by (simp only [pI, List.map_cons, List.map_nil, z8z, z9z, gl, nx, p4p, Nat.beq, Nat.add_eq, List.getD_cons_zero, List.getD_cons_succ, List.getD_nil, Bool.or_false, Bool.false_or, Bool.true_or, Bool.or_true, Nat.add_zero, Nat.zero_add]; rfl)) ?_
 refine x8x rfl (fun hc5 => ?_) (fun hc5 => ?_)
 rotate_left
 ·try simp at hc5
  have hw : ¬ a5x proc n.g p = true := by rw [hc5]; decide
  refine x9x ?_
  refine hK4 _ _ ?_
  clear hK4 K4
  refine y4y x7x (by rfl) ?_
  refine y3y rfl rfl rfl ?_
  refine x1x rfl ?_
  exact ⟨i + 1, ⟨by omega, by omega⟩, [0, 0, 0, 0, 0, 0, 0, _, _, _, _], (Cov.cons (t := 5) rfl (Cov.cons' (t := 10) rfl (by rw [v6v (by omega) (by omega)]; rfl) Cov.nil)), (Cov.cons (t := 1) rfl (Cov.cons (t := 8) rfl (Cov.cons (t := 9) rfl Cov.nil))), (HE.row rfl (by rw [a1l hp]; rw [if_neg hw, List.append_nil]) (HE.kill rfl (HE.kill rfl (HE.kill rfl HE.nil)))), (HE.same (id := 0) rfl (HE.same (id := 1) rfl (HE.same (id := 2) rfl (HE.same (id := 3) rfl (HE.same (id := 4) rfl (HE.same (id := 5) rfl (HE.same (id := 6) rfl HE.nil))))))), rfl⟩
 try simp at hc5
 have hw : a5x proc n.g p = true := hc5
 refine y4y x7x (by rfl) ?_
 refine x1x rfl ?_
 refine y1y rfl z1z rfl rfl rfl ?_
 refine r6r (id := 8) u6u rfl z1z rfl rfl rfl rfl rfl rfl ?_
 refine r8r (zs := ((l.take i).filter (a5x proc n.g) ++ [p]).map w0w) rfl rfl u6u rfl z1z rfl rfl rfl rfl (by rfl) (a0j _ _ _) (by (simp only [List.length_map, List.length_append, List.length_cons, List.length_nil, List.length_take, List.length_range, T76]; omega)) ?_
 refine x2x rfl ?_
 refine hK4 _ _ ?_
 clear hK4 K4
 refine y4y x7x (by rfl) ?_
 refine y3y rfl rfl rfl ?_
 refine x1x rfl ?_
 exact ⟨i + 1, ⟨by omega, by omega⟩, [0, 0, 0, 0, 0, 0, 0, _, _, _, _], (Cov.cons (t := 5) rfl (Cov.cons' (t := 10) rfl (by rw [v6v (by omega) (by omega)]; rfl) Cov.nil)), (Cov.cons (t := 1) rfl (Cov.cons (t := 8) rfl (Cov.cons (t := 9) rfl Cov.nil))), (HE.row rfl (by rw [a1l hp]; rw [if_pos hw]) (HE.kill rfl (HE.kill rfl (HE.kill rfl HE.nil)))), (HE.same (id := 0) rfl (HE.same (id := 1) rfl (HE.same (id := 2) rfl (HE.same (id := 3) rfl (HE.same (id := 4) rfl (HE.same (id := 5) rfl (HE.same (id := 6) rfl HE.nil))))))), rfl⟩
theorem a8y (c : Bool) (n : Nd) (proc : Int) (hs : (a2u n).length + (a0q n 3).length ≤ 5000000) (hlen : n.lanes.length ≤ 1048576) (hv3 : n.views.length = 3) : Meth Tryz.prog 145 6 [0, 1, 2, 3, 4] [.ptr 4 0 0, .pv (.int .i64 proc)] [(0, (0, .row 62 3 ((n.lanes).map fun l => a0b l.base))), (1, (0, .row 63 1 ((n.lanes).map fun l => [a4j c l.done]))), (2, (0, .map (b0o c n.views))), (3, (0, .row 3 1 (n.known.map a2w))), (4, (0, .box 139 [pI n.id, pI n.inc, pI n.g, pI n.led, .ref 0 0, a0i c n.kept, a0z c n.outs, .pv (.bool n.up), .ref 1 0, pI n.version, .mp 2 0, .ref 3 0, pI n.round, pI n.low])), (5, (0, .dead))] (.ref 5 0) [(5, (0, .row 76 7 ((a0u n proc).map w0w)))] := by
 refine u8u x7x (fn := Tryz.f145) (by kernel_rfl) (by kernel_rfl) rfl (O0 := [.ref 5 0]) 6 4 (Nat.le_of_ble_eq_true rfl) (by rfl) (by repeat (first | exact BndH.nil | refine BndH.dead ?_ | refine BndH.box rfl ?_ | refine BndH.row (u3u fun _ => rfl) ?_ | refine BndH.map (a0s _ _) ?_ )) (by repeat (first | exact BndH.nil | refine BndH.row (u3u fun _ => rfl) ?_ )) (by rfl) fun γ => ?_
 show Ex Tryz.prog _ _ [(0, .ptr 4 (γ 4) 0), (1, .pv (.int .i64 proc))] [(0, ((γ 0), .row 62 3 ((n.lanes).map fun l => a0b l.base))), (1, ((γ 1), .row 63 1 ((n.lanes).map fun l => [a4j c l.done]))), (2, ((γ 2), .map (b0o c n.views))), (3, ((γ 3), .row 3 1 (n.known.map a2w))), (4, ((γ 4), .box 139 [pI n.id, pI n.inc, pI n.g, pI n.led, .ref 0 (γ 0), a0i c n.kept, a0z c n.outs, .pv (.bool n.up), .ref 1 (γ 1), pI n.version, .mp 2 (γ 2), .ref 3 (γ 3), pI n.round, pI n.low])), (5, ((γ 5), .dead)), (9, (0, .dead)), (8, (0, .dead)), (7, (0, .dead)), (6, (0, .dead))] _
 refine x4x x7x (by rfl) ?_
 refine c4v (id := 6) rfl rfl rfl rfl ?_
 refine c4v (id := 7) rfl rfl rfl rfl ?_
 refine x2x rfl ?_
 refine x4x x7x (by rfl) ?_
 refine x3x rfl a4x rfl rfl ?_
 refine v4v [0, 1, 2, 3, 4, 9] [_, _, _, _, _, _] (b4y c n (by omega) hlen) rfl rfl rfl (by decide) rfl rfl (by repeat (first | exact InH.nil | refine InH.cons rfl ?_)) (by (simp only [pI, List.map_cons, List.map_nil, z8z, z9z, gl, nx, p4p, Nat.beq, Nat.add_eq, List.getD_cons_zero, List.getD_cons_succ, List.getD_nil, Bool.or_false, Bool.false_or, Bool.true_or, Bool.or_true, Nat.add_zero, Nat.zero_add]; rfl)) (by (simp only [pI, List.map_cons, List.map_nil, z8z, z9z, gl, nx, p4p, Nat.beq, Nat.add_eq, List.getD_cons_zero, List.getD_cons_succ, List.getD_nil, Bool.or_false, Bool.false_or, Bool.true_or, Bool.or_true, Nat.add_zero, Nat.zero_add]; rfl)) ?_
 refine x2x rfl ?_
 refine x5x fun K1 hK1 => ?_
 refine x4x x7x (by rfl) ?_
 refine x1x rfl ?_
 refine y6y ?_
 refine u4u (ι := Nat) (fun i γ1 => [(5, .ref 9 (γ1 9)), (9, .pv (.int .i64 (i : Int)))]) (fun i γ1 => [(9, ((γ1 9), .row 76 7 ((a2u n ++ a0q n i).map w0w))), (8, ((γ1 8), .dead))]) (fun i => i ≤ 3) (fun i => 3 - i) (Cov.cons (t := 2) rfl (Cov.cons (t := 3) rfl Cov.nil)) (HE.same (id := 0) rfl (HE.same (id := 1) rfl (HE.same (id := 2) rfl (HE.same (id := 3) rfl (HE.same (id := 4) rfl (HE.same (id := 5) rfl (HE.same (id := 6) rfl (HE.same (id := 7) rfl HE.nil)))))))) 0 (by omega) [0, 0, 0, 0, 0, 0, 0, 0, _, _] (Cov.cons (t := 5) rfl (Cov.cons (t := 9) rfl Cov.nil)) (HE.row rfl (by simp [a0q]) (HE.kill rfl HE.nil)) rfl fun i γ1 hi => ?_
 try dsimp only [List.cons_append, List.nil_append]
 refine x4x x7x (by rfl) ?_
 refine y3y rfl rfl rfl ?_
 refine x5x fun K2 hK2 => ?_
 refine x8x rfl (fun hc3 => ?_) (fun hc3 => ?_)
 rotate_left
 ·try simp at hc3
  obtain rfl : i = 3 := by omega
  refine v0v ?_
  refine hK1 _ _ ?_
  clear hK2 K2 hK1 K1
  refine a0y 5 rfl rfl (fun _ => rfl) ?_
  refine x4x x7x (by rfl) ?_
  refine x1x rfl ?_
  refine b6q rfl rfl ?_
  refine v4v [0, 1, 2, 3, 4, 7, 6] [_, _, _, _, _, _, _] (a6d c n proc _ (by rw [List.length_append]; omega)) rfl rfl rfl (by decide) rfl rfl (by repeat (first | exact InH.nil | refine InH.cons rfl ?_)) (by (simp only [pI, List.map_cons, List.map_nil, z8z, z9z, gl, nx, p4p, Nat.beq, Nat.add_eq, List.getD_cons_zero, List.getD_cons_succ, List.getD_nil, Bool.or_false, Bool.false_or, Bool.true_or, Bool.or_true, Nat.add_zero, Nat.zero_add]; rfl)) (by (simp only [pI, List.map_cons, List.map_nil, z8z, z9z, gl, nx, p4p, Nat.beq, Nat.add_eq, List.getD_cons_zero, List.getD_cons_succ, List.getD_nil, Bool.or_false, Bool.false_or, Bool.true_or, Bool.or_true, Nat.add_zero, Nat.zero_add]; rfl)) ?_
  refine v4v [5] [_] (a2z true _ (Nat.le_trans (List.length_filter_le _ _) (by rw [List.length_append]; omega))) rfl rfl rfl (by decide) rfl rfl (by repeat (first | exact InH.nil | refine InH.cons rfl ?_)) (by (simp only [pI, List.map_cons, List.map_nil, z8z, z9z, gl, nx, p4p, Nat.beq, Nat.add_eq, List.getD_cons_zero, List.getD_cons_succ, List.getD_nil, Bool.or_false, Bool.false_or, Bool.true_or, Bool.or_true, Nat.add_zero, Nat.zero_add]; rfl)) (by (simp only [pI, List.map_cons, List.map_nil, z8z, z9z, gl, nx, p4p, Nat.beq, Nat.add_eq, List.getD_cons_zero, List.getD_cons_succ, List.getD_nil, Bool.or_false, Bool.false_or, Bool.true_or, Bool.or_true, Nat.add_zero, Nat.zero_add]; rfl)) ?_
  refine x2x rfl ?_
  refine y0y ?_
  exact ⟨.inr rfl, [γ 0, γ 1, γ 2, γ 3, γ 4, _], rfl, rfl, HE.row rfl rfl (HE.same (id := 0) rfl (HE.same (id := 1) rfl (HE.same (id := 2) rfl (HE.same (id := 3) rfl (HE.same (id := 4) rfl HE.nil)))))⟩
 try simp at hc3
 obtain ⟨v, hv⟩ : ∃ v, n.views[i]? = some v := ⟨_, List.getElem?_eq_getElem (by omega)⟩
 have hg : n.views.getD i vi0 = v := by rw [List.getD_eq_getElem?_getD, hv]; rfl
 have hol := c3k n (i := i + 1) (by omega)
 rw [a1k] at hol
 refine x9x ?_
 refine hK2 _ _ ?_
 clear hK2 K2
 refine x5x fun K4 hK4 => ?_
 refine y6y ?_
 refine x4x x7x (by rfl) ?_
 refine x1x rfl ?_
 refine x2x rfl ?_
 refine x4x x7x (by rfl) ?_
 refine x1x rfl ?_
 refine x3x rfl a4x rfl rfl ?_
 refine v9v rfl rfl ?_
 refine x0x rfl s0s rfl rfl r1r rfl rfl ?_
 refine x0x rfl r1r rfl rfl y9y rfl rfl ?_
 refine x3x rfl y9y rfl rfl ?_
 refine y3y rfl rfl rfl ?_
 refine x8x rfl (fun hc5 => ?_) (fun hc5 => ?_)
 rotate_left
 ·try simp at hc5
  have hve : b3y n i = [] := by rw [b3y, if_pos (by exact hc5)]
  refine x9x ?_
  refine hK4 _ _ ?_
  clear hK4 K4
  refine y4y x7x (by rfl) ?_
  refine y3y rfl rfl rfl ?_
  refine x1x rfl ?_
  exact ⟨i + 1, ⟨by omega, by omega⟩, [0, 0, 0, 0, 0, 0, 0, 0, _, _], (Cov.cons (t := 5) rfl (Cov.cons' (t := 9) rfl (by rw [v6v (by omega) (by omega)]; rfl) Cov.nil)), (Cov.cons (t := 2) rfl (Cov.cons (t := 3) rfl Cov.nil)), (HE.row rfl (by rw [a1k, hve]; simp) (HE.kill rfl HE.nil)), (HE.same (id := 0) rfl (HE.same (id := 1) rfl (HE.same (id := 2) rfl (HE.same (id := 3) rfl (HE.same (id := 4) rfl (HE.same (id := 5) rfl (HE.same (id := 6) rfl (HE.same (id := 7) rfl HE.nil)))))))), rfl⟩
 try simp at hc5
 have hve : b3y n i = v.events := by rw [b3y, if_neg (by exact hc5), hg]
 rw [hve] at hol
 simp only [List.length_append] at hol
 refine y4y x7x (by rfl) ?_
 refine x1x rfl ?_
 refine x3x rfl a4x rfl rfl ?_
 refine v9v rfl rfl ?_
 refine x0x rfl s0s rfl rfl b6a rfl rfl ?_
 refine x3x rfl b6a rfl rfl ?_
 refine x1x rfl ?_
 refine a3h (κ := Int) (enc := fun n => .int .i64 n) (ks := b7n n.views.length) (k := (i : Int)) (out := .agg (a2n c v)) x7x Tryz.underlying137 (b6k Tryz.underlying3) rfl rfl (fun _ _ _ h => d5i h) rfl (b7o _ _) (c4f hv) ?_
 refine d2h rfl w5w rfl rfl u6u rfl ?_
 refine s1s (zs := (a2u n ++ a0q n i ++ v.events).map w0w) rfl rfl u6u rfl z1z rfl rfl rfl (by exact r9r (fun _ => rfl) _) (a4n _ _ _) (by have hb56 : T76.bytes = 56 := rfl; rw [List.length_map, hb56]; simp only [List.length_append]; omega) ?_
 refine x2x rfl ?_
 refine hK4 _ _ ?_
 clear hK4 K4
 refine y4y x7x (by rfl) ?_
 refine y3y rfl rfl rfl ?_
 refine x1x rfl ?_
 exact ⟨i + 1, ⟨by omega, by omega⟩, [0, 0, 0, 0, 0, 0, 0, 0, _, _], (Cov.cons (t := 5) rfl (Cov.cons' (t := 9) rfl (by rw [v6v (by omega) (by omega)]; rfl) Cov.nil)), (Cov.cons (t := 2) rfl (Cov.cons (t := 3) rfl Cov.nil)), (HE.row rfl (by rw [a1k, hve]; simp) (HE.kill rfl HE.nil)), (HE.same (id := 0) rfl (HE.same (id := 1) rfl (HE.same (id := 2) rfl (HE.same (id := 3) rfl (HE.same (id := 4) rfl (HE.same (id := 5) rfl (HE.same (id := 6) rfl (HE.same (id := 7) rfl HE.nil)))))))), rfl⟩
end
section
theorem a6r (v : Int) : a0o Tryz.prog 235 [.pv (.int .i64 v)] (.pv (.bool (decide (0 ≤ v ∧ v ≤ 999)))) := by
 refine z4z x7x (fn := Tryz.f235) (by kernel_rfl) (by kernel_rfl) rfl (outs := [.pv (.bool (decide (0 ≤ v ∧ v ≤ 999)))]) (by rfl) (Nat.le_of_ble_eq_true rfl) 0 ?_
 refine x4x x7x (by rfl) ?_
 refine x2x rfl ?_
 refine x4x x7x (by rfl) ?_
 refine x1x rfl ?_
 refine y7y rfl rfl rfl (w8w ..) ?_
 refine x2x rfl ?_
 refine y0y ⟨.inr rfl, ?_⟩
 exact z0z rfl rfl rfl
theorem a6s (v : Int) : a0o Tryz.prog 200 [.pv (.int .i64 v)] (.pv (.bool (decide (0 ≤ v ∧ v ≤ 999)))) := by
 refine z4z x7x (fn := Tryz.f200) (by kernel_rfl) (by kernel_rfl) rfl (outs := [.pv (.bool (decide (0 ≤ v ∧ v ≤ 999)))]) (by rfl) (Nat.le_of_ble_eq_true rfl) 0 ?_
 refine x4x x7x (by rfl) ?_
 refine x2x rfl ?_
 refine x4x x7x (by rfl) ?_
 refine x1x rfl ?_
 refine y7y rfl rfl rfl (q3q ..) ?_
 refine x2x rfl ?_
 refine y0y ⟨.inr rfl, ?_⟩
 exact z0z rfl rfl rfl
theorem c1z (v : Int) : a0o Tryz.prog 256 [.pv (.int .i64 v)] (.pv (.bool (decide (0 ≤ v ∧ v ≤ 3)))) := by
 refine z4z x7x (fn := Tryz.f256) (by kernel_rfl) (by kernel_rfl) rfl (outs := [.pv (.bool (decide (0 ≤ v ∧ v ≤ 3)))]) (by rfl) (Nat.le_of_ble_eq_true rfl) 0 ?_
 refine x4x x7x (by rfl) ?_
 refine x2x rfl ?_
 refine x4x x7x (by rfl) ?_
 refine x1x rfl ?_
 refine y7y rfl rfl rfl (w8w ..) ?_
 refine x2x rfl ?_
 refine y0y ⟨.inr rfl, ?_⟩
 exact z0z rfl rfl rfl
theorem b1c (s : St) : a0o Tryz.prog 196 [.agg (a0b s)] (.pv (.bool (decide (b9o s)))) := by
 refine z4z x7x (fn := Tryz.f196) (by kernel_rfl) (by kernel_rfl) rfl (outs := [.pv (.bool (decide (b9o s)))]) (by rfl) (Nat.le_of_ble_eq_true rfl) 1 ?_
 refine x4x x7x (by rfl) ?_
 refine v5v (id := 0) rfl rfl rfl ?_
 refine x2x rfl ?_
 refine x4x x7x (by rfl) ?_
 refine x0x rfl p5p rfl rfl y9y rfl rfl ?_
 refine x3x rfl y9y rfl rfl ?_
 refine y7y rfl rfl rfl (a6r ..) ?_
 refine x1x rfl ?_
 refine s9s rfl rfl (fun hg1 => ?_) (fun hg1 => ?_)
 rotate_left
 ·try simp at hg1
  refine x6x rfl rfl ?_
  refine x6x rfl rfl ?_
  refine y2y rfl rfl ?_
  refine x1x rfl ?_
  refine x6x rfl rfl ?_
  refine x6x rfl rfl ?_
  refine x6x rfl rfl ?_
  refine y2y rfl rfl ?_
  refine x2x rfl ?_
  refine y0y ⟨.inr rfl, ?_⟩
  refine z0z rfl ?_ rfl
  exact kF (by unfold b9o; omega)
 try simp at hg1
 refine x0x rfl p5p rfl rfl y9y rfl rfl ?_
 refine y5y rfl rfl ?_
 refine x3x rfl y9y rfl rfl ?_
 refine y5y rfl rfl ?_
 refine y7y rfl rfl rfl (a6r ..) ?_
 refine y8y rfl rfl ?_
 refine x1x rfl ?_
 refine s9s rfl rfl (fun hg2 => ?_) (fun hg2 => ?_)
 rotate_left
 ·try simp at hg2
  refine x6x rfl rfl ?_
  refine x6x rfl rfl ?_
  refine y2y rfl rfl ?_
  refine x2x rfl ?_
  refine y0y ⟨.inr rfl, ?_⟩
  refine z0z rfl ?_ rfl
  exact kF (by unfold b9o; omega)
 try simp at hg2
 refine x0x rfl p5p rfl rfl y9y rfl rfl ?_
 refine y5y rfl rfl ?_
 refine x3x rfl y9y rfl rfl ?_
 refine y5y rfl rfl ?_
 refine y7y rfl rfl rfl (w8w ..) ?_
 refine y8y rfl rfl ?_
 refine x2x rfl ?_
 refine y0y ⟨.inr rfl, ?_⟩
 refine z0z rfl ?_ rfl
 exact congrArg (fun b : Bool => [AV.pv (.bool b)]) (decide_eq_decide.2 (by unfold b9o; omega))
theorem a8z (s : St) : a0o Tryz.prog 128 [.agg (a0b s)] (.pv (.bool (decide (b9o s)))) := by
 refine z4z x7x (fn := Tryz.f128) (by kernel_rfl) (by kernel_rfl) rfl (outs := [.pv (.bool (decide (b9o s)))]) (by rfl) (Nat.le_of_ble_eq_true rfl) 1 ?_
 refine x4x x7x (by rfl) ?_
 refine v5v (id := 0) rfl rfl rfl ?_
 refine x2x rfl ?_
 refine x4x x7x (by rfl) ?_
 refine x0x rfl p5p rfl rfl y9y rfl rfl ?_
 refine x3x rfl y9y rfl rfl ?_
 refine y7y rfl rfl rfl (a6s ..) ?_
 refine x1x rfl ?_
 refine s9s rfl rfl (fun hg1 => ?_) (fun hg1 => ?_)
 rotate_left
 ·try simp at hg1
  refine x6x rfl rfl ?_
  refine x6x rfl rfl ?_
  refine y2y rfl rfl ?_
  refine x1x rfl ?_
  refine x6x rfl rfl ?_
  refine x6x rfl rfl ?_
  refine x6x rfl rfl ?_
  refine y2y rfl rfl ?_
  refine x2x rfl ?_
  refine y0y ⟨.inr rfl, ?_⟩
  refine z0z rfl ?_ rfl
  exact kF (by unfold b9o; omega)
 try simp at hg1
 refine x0x rfl p5p rfl rfl y9y rfl rfl ?_
 refine y5y rfl rfl ?_
 refine x3x rfl y9y rfl rfl ?_
 refine y5y rfl rfl ?_
 refine y7y rfl rfl rfl (a6s ..) ?_
 refine y8y rfl rfl ?_
 refine x1x rfl ?_
 refine s9s rfl rfl (fun hg2 => ?_) (fun hg2 => ?_)
 rotate_left
 ·try simp at hg2
  refine x6x rfl rfl ?_
  refine x6x rfl rfl ?_
  refine y2y rfl rfl ?_
  refine x2x rfl ?_
  refine y0y ⟨.inr rfl, ?_⟩
  refine z0z rfl ?_ rfl
  exact kF (by unfold b9o; omega)
 try simp at hg2
 refine x0x rfl p5p rfl rfl y9y rfl rfl ?_
 refine y5y rfl rfl ?_
 refine x3x rfl y9y rfl rfl ?_
 refine y5y rfl rfl ?_
 refine y7y rfl rfl rfl (q3q ..) ?_
 refine y8y rfl rfl ?_
 refine x2x rfl ?_
 refine y0y ⟨.inr rfl, ?_⟩
 refine z0z rfl ?_ rfl
 exact congrArg (fun b : Bool => [AV.pv (.bool b)]) (decide_eq_decide.2 (by unfold b9o; omega))
theorem b1d (e : Ev) : a0o Tryz.prog 236 [.agg (w0w e)] (.pv (.bool (decide (b6x e)))) := by
 refine z4z x7x (fn := Tryz.f236) (by kernel_rfl) (by kernel_rfl) rfl (outs := [.pv (.bool (decide (b6x e)))]) (by rfl) (Nat.le_of_ble_eq_true rfl) 1 ?_
 refine x4x x7x (by rfl) ?_
 refine v5v (id := 0) rfl rfl rfl ?_
 refine x2x rfl ?_
 refine x4x x7x (by rfl) ?_
 refine x0x rfl z1z rfl rfl y9y rfl rfl ?_
 refine x3x rfl y9y rfl rfl ?_
 refine y7y rfl rfl rfl (w8w ..) ?_
 refine x1x rfl ?_
 refine s9s rfl rfl (fun hg1 => ?_) (fun hg1 => ?_)
 rotate_left
 ·try simp at hg1
  refine x6x rfl rfl ?_
  refine x6x rfl rfl ?_
  refine y2y rfl rfl ?_
  refine x1x rfl ?_
  refine x6x rfl rfl ?_
  refine x6x rfl rfl ?_
  refine x6x rfl rfl ?_
  refine y2y rfl rfl ?_
  refine x1x rfl ?_
  refine x6x rfl rfl ?_
  refine x6x rfl rfl ?_
  refine x6x rfl rfl ?_
  refine y2y rfl rfl ?_
  refine x1x rfl ?_
  refine x6x rfl rfl ?_
  refine x6x rfl rfl ?_
  refine x6x rfl rfl ?_
  refine y2y rfl rfl ?_
  refine x1x rfl ?_
  refine x6x rfl rfl ?_
  refine x6x rfl rfl ?_
  refine x6x rfl rfl ?_
  refine y2y rfl rfl ?_
  refine x1x rfl ?_
  refine x6x rfl rfl ?_
  refine x6x rfl rfl ?_
  refine x6x rfl rfl ?_
  refine y2y rfl rfl ?_
  refine x2x rfl ?_
  refine y0y ⟨.inr rfl, ?_⟩
  refine z0z rfl ?_ rfl
  exact kF (by unfold b6x; omega)
 try simp at hg1
 refine x0x rfl z1z rfl rfl y9y rfl rfl ?_
 refine y5y rfl rfl ?_
 refine x3x rfl y9y rfl rfl ?_
 refine y5y rfl rfl ?_
 refine y7y rfl rfl rfl (a5h ..) ?_
 refine y8y rfl rfl ?_
 refine x1x rfl ?_
 refine s9s rfl rfl (fun hg2 => ?_) (fun hg2 => ?_)
 rotate_left
 ·try simp at hg2
  refine x6x rfl rfl ?_
  refine x6x rfl rfl ?_
  refine y2y rfl rfl ?_
  refine x1x rfl ?_
  refine x6x rfl rfl ?_
  refine x6x rfl rfl ?_
  refine x6x rfl rfl ?_
  refine y2y rfl rfl ?_
  refine x1x rfl ?_
  refine x6x rfl rfl ?_
  refine x6x rfl rfl ?_
  refine x6x rfl rfl ?_
  refine y2y rfl rfl ?_
  refine x1x rfl ?_
  refine x6x rfl rfl ?_
  refine x6x rfl rfl ?_
  refine x6x rfl rfl ?_
  refine y2y rfl rfl ?_
  refine x1x rfl ?_
  refine x6x rfl rfl ?_
  refine x6x rfl rfl ?_
  refine x6x rfl rfl ?_
  refine y2y rfl rfl ?_
  refine x2x rfl ?_
  refine y0y ⟨.inr rfl, ?_⟩
  refine z0z rfl ?_ rfl
  exact kF (by unfold b6x; omega)
 try simp at hg2
 refine x0x rfl z1z rfl rfl y9y rfl rfl ?_
 refine y5y rfl rfl ?_
 refine x3x rfl y9y rfl rfl ?_
 refine y5y rfl rfl ?_
 refine y7y rfl rfl rfl (w8w ..) ?_
 refine y8y rfl rfl ?_
 refine x1x rfl ?_
 refine s9s rfl rfl (fun hg3 => ?_) (fun hg3 => ?_)
 rotate_left
 ·try simp at hg3
  refine x6x rfl rfl ?_
  refine x6x rfl rfl ?_
  refine y2y rfl rfl ?_
  refine x1x rfl ?_
  refine x6x rfl rfl ?_
  refine x6x rfl rfl ?_
  refine x6x rfl rfl ?_
  refine y2y rfl rfl ?_
  refine x1x rfl ?_
  refine x6x rfl rfl ?_
  refine x6x rfl rfl ?_
  refine x6x rfl rfl ?_
  refine y2y rfl rfl ?_
  refine x1x rfl ?_
  refine x6x rfl rfl ?_
  refine x6x rfl rfl ?_
  refine x6x rfl rfl ?_
  refine y2y rfl rfl ?_
  refine x2x rfl ?_
  refine y0y ⟨.inr rfl, ?_⟩
  refine z0z rfl ?_ rfl
  exact kF (by unfold b6x; omega)
 try simp at hg3
 refine x0x rfl z1z rfl rfl y9y rfl rfl ?_
 refine y5y rfl rfl ?_
 refine x3x rfl y9y rfl rfl ?_
 refine y5y rfl rfl ?_
 refine y7y rfl rfl rfl (w8w ..) ?_
 refine y8y rfl rfl ?_
 refine x1x rfl ?_
 refine s9s rfl rfl (fun hg4 => ?_) (fun hg4 => ?_)
 rotate_left
 ·try simp at hg4
  refine x6x rfl rfl ?_
  refine x6x rfl rfl ?_
  refine y2y rfl rfl ?_
  refine x1x rfl ?_
  refine x6x rfl rfl ?_
  refine x6x rfl rfl ?_
  refine x6x rfl rfl ?_
  refine y2y rfl rfl ?_
  refine x1x rfl ?_
  refine x6x rfl rfl ?_
  refine x6x rfl rfl ?_
  refine x6x rfl rfl ?_
  refine y2y rfl rfl ?_
  refine x2x rfl ?_
  refine y0y ⟨.inr rfl, ?_⟩
  refine z0z rfl ?_ rfl
  exact kF (by unfold b6x; omega)
 try simp at hg4
 refine x0x rfl z1z rfl rfl y9y rfl rfl ?_
 refine y5y rfl rfl ?_
 refine x3x rfl y9y rfl rfl ?_
 refine y5y rfl rfl ?_
 refine y7y rfl rfl rfl (w8w ..) ?_
 refine y8y rfl rfl ?_
 refine x1x rfl ?_
 refine s9s rfl rfl (fun hg5 => ?_) (fun hg5 => ?_)
 rotate_left
 ·try simp at hg5
  refine x6x rfl rfl ?_
  refine x6x rfl rfl ?_
  refine y2y rfl rfl ?_
  refine x1x rfl ?_
  refine x6x rfl rfl ?_
  refine x6x rfl rfl ?_
  refine x6x rfl rfl ?_
  refine y2y rfl rfl ?_
  refine x2x rfl ?_
  refine y0y ⟨.inr rfl, ?_⟩
  refine z0z rfl ?_ rfl
  exact kF (by unfold b6x; omega)
 try simp at hg5
 refine x0x rfl z1z rfl rfl y9y rfl rfl ?_
 refine y5y rfl rfl ?_
 refine x3x rfl y9y rfl rfl ?_
 refine y5y rfl rfl ?_
 refine y7y rfl rfl rfl (c1z ..) ?_
 refine y8y rfl rfl ?_
 refine x1x rfl ?_
 refine s9s rfl rfl (fun hg6 => ?_) (fun hg6 => ?_)
 rotate_left
 ·try simp at hg6
  refine x6x rfl rfl ?_
  refine x6x rfl rfl ?_
  refine y2y rfl rfl ?_
  refine x2x rfl ?_
  refine y0y ⟨.inr rfl, ?_⟩
  refine z0z rfl ?_ rfl
  exact kF (by unfold b6x; omega)
 try simp at hg6
 refine x0x rfl z1z rfl rfl y9y rfl rfl ?_
 refine y5y rfl rfl ?_
 refine x3x rfl y9y rfl rfl ?_
 refine y5y rfl rfl ?_
 refine y7y rfl rfl rfl (a6r ..) ?_
 refine y8y rfl rfl ?_
 refine x2x rfl ?_
 refine y0y ⟨.inr rfl, ?_⟩
 refine z0z rfl ?_ rfl
 exact congrArg (fun b : Bool => [AV.pv (.bool b)]) (decide_eq_decide.2 (by unfold b6x; omega))
theorem a9b (e : Ev) : a0o Tryz.prog 201 [.agg (w0w e)] (.pv (.bool (decide (b6x e)))) := by
 refine z4z x7x (fn := Tryz.f201) (by kernel_rfl) (by kernel_rfl) rfl (outs := [.pv (.bool (decide (b6x e)))]) (by rfl) (Nat.le_of_ble_eq_true rfl) 1 ?_
 refine x4x x7x (by rfl) ?_
 refine v5v (id := 0) rfl rfl rfl ?_
 refine x2x rfl ?_
 refine x4x x7x (by rfl) ?_
 refine x0x rfl z1z rfl rfl y9y rfl rfl ?_
 refine x3x rfl y9y rfl rfl ?_
 refine y7y rfl rfl rfl (q3q ..) ?_
 refine x1x rfl ?_
 refine s9s rfl rfl (fun hg1 => ?_) (fun hg1 => ?_)
 rotate_left
 ·try simp at hg1
  refine x6x rfl rfl ?_
  refine x6x rfl rfl ?_
  refine y2y rfl rfl ?_
  refine x1x rfl ?_
  refine x6x rfl rfl ?_
  refine x6x rfl rfl ?_
  refine x6x rfl rfl ?_
  refine y2y rfl rfl ?_
  refine x1x rfl ?_
  refine x6x rfl rfl ?_
  refine x6x rfl rfl ?_
  refine x6x rfl rfl ?_
  refine y2y rfl rfl ?_
  refine x1x rfl ?_
  refine x6x rfl rfl ?_
  refine x6x rfl rfl ?_
  refine x6x rfl rfl ?_
  refine y2y rfl rfl ?_
  refine x1x rfl ?_
  refine x6x rfl rfl ?_
  refine x6x rfl rfl ?_
  refine x6x rfl rfl ?_
  refine y2y rfl rfl ?_
  refine x1x rfl ?_
  refine x6x rfl rfl ?_
  refine x6x rfl rfl ?_
  refine x6x rfl rfl ?_
  refine y2y rfl rfl ?_
  refine x2x rfl ?_
  refine y0y ⟨.inr rfl, ?_⟩
  refine z0z rfl ?_ rfl
  exact kF (by unfold b6x; omega)
 try simp at hg1
 refine x0x rfl z1z rfl rfl y9y rfl rfl ?_
 refine y5y rfl rfl ?_
 refine x3x rfl y9y rfl rfl ?_
 refine y5y rfl rfl ?_
 refine y7y rfl rfl rfl (a5i ..) ?_
 refine y8y rfl rfl ?_
 refine x1x rfl ?_
 refine s9s rfl rfl (fun hg2 => ?_) (fun hg2 => ?_)
 rotate_left
 ·try simp at hg2
  refine x6x rfl rfl ?_
  refine x6x rfl rfl ?_
  refine y2y rfl rfl ?_
  refine x1x rfl ?_
  refine x6x rfl rfl ?_
  refine x6x rfl rfl ?_
  refine x6x rfl rfl ?_
  refine y2y rfl rfl ?_
  refine x1x rfl ?_
  refine x6x rfl rfl ?_
  refine x6x rfl rfl ?_
  refine x6x rfl rfl ?_
  refine y2y rfl rfl ?_
  refine x1x rfl ?_
  refine x6x rfl rfl ?_
  refine x6x rfl rfl ?_
  refine x6x rfl rfl ?_
  refine y2y rfl rfl ?_
  refine x1x rfl ?_
  refine x6x rfl rfl ?_
  refine x6x rfl rfl ?_
  refine x6x rfl rfl ?_
  refine y2y rfl rfl ?_
  refine x2x rfl ?_
  refine y0y ⟨.inr rfl, ?_⟩
  refine z0z rfl ?_ rfl
  exact kF (by unfold b6x; omega)
 try simp at hg2
 refine x0x rfl z1z rfl rfl y9y rfl rfl ?_
 refine y5y rfl rfl ?_
 refine x3x rfl y9y rfl rfl ?_
 refine y5y rfl rfl ?_
 refine y7y rfl rfl rfl (q3q ..) ?_
 refine y8y rfl rfl ?_
 refine x1x rfl ?_
 refine s9s rfl rfl (fun hg3 => ?_) (fun hg3 => ?_)
 rotate_left
 ·try simp at hg3
  refine x6x rfl rfl ?_
  refine x6x rfl rfl ?_
  refine y2y rfl rfl ?_
  refine x1x rfl ?_
  refine x6x rfl rfl ?_
  refine x6x rfl rfl ?_
  refine x6x rfl rfl ?_
  refine y2y rfl rfl ?_
  refine x1x rfl ?_
  refine x6x rfl rfl ?_
  refine x6x rfl rfl ?_
  refine x6x rfl rfl ?_
  refine y2y rfl rfl ?_
  refine x1x rfl ?_
  refine x6x rfl rfl ?_
  refine x6x rfl rfl ?_
  refine x6x rfl rfl ?_
  refine y2y rfl rfl ?_
  refine x2x rfl ?_
  refine y0y ⟨.inr rfl, ?_⟩
  refine z0z rfl ?_ rfl
  exact kF (by unfold b6x; omega)
 try simp at hg3
 refine x0x rfl z1z rfl rfl y9y rfl rfl ?_
 refine y5y rfl rfl ?_
 refine x3x rfl y9y rfl rfl ?_
 refine y5y rfl rfl ?_
 refine y7y rfl rfl rfl (q3q ..) ?_
 refine y8y rfl rfl ?_
 refine x1x rfl ?_
 refine s9s rfl rfl (fun hg4 => ?_) (fun hg4 => ?_)
 rotate_left
 ·try simp at hg4
  refine x6x rfl rfl ?_
  refine x6x rfl rfl ?_
  refine y2y rfl rfl ?_
  refine x1x rfl ?_
  refine x6x rfl rfl ?_
  refine x6x rfl rfl ?_
  refine x6x rfl rfl ?_
  refine y2y rfl rfl ?_
  refine x1x rfl ?_
  refine x6x rfl rfl ?_
  refine x6x rfl rfl ?_
  refine x6x rfl rfl ?_
  refine y2y rfl rfl ?_
  refine x2x rfl ?_
  refine y0y ⟨.inr rfl, ?_⟩
  refine z0z rfl ?_ rfl
  exact kF (by unfold b6x; omega)
 try simp at hg4
 refine x0x rfl z1z rfl rfl y9y rfl rfl ?_
 refine y5y rfl rfl ?_
 refine x3x rfl y9y rfl rfl ?_
 refine y5y rfl rfl ?_
 refine y7y rfl rfl rfl (q3q ..) ?_
 refine y8y rfl rfl ?_
 refine x1x rfl ?_
 refine s9s rfl rfl (fun hg5 => ?_) (fun hg5 => ?_)
 rotate_left
 ·try simp at hg5
  refine x6x rfl rfl ?_
  refine x6x rfl rfl ?_
  refine y2y rfl rfl ?_
  refine x1x rfl ?_
  refine x6x rfl rfl ?_
  refine x6x rfl rfl ?_
  refine x6x rfl rfl ?_
  refine y2y rfl rfl ?_
  refine x2x rfl ?_
  refine y0y ⟨.inr rfl, ?_⟩
  refine z0z rfl ?_ rfl
  exact kF (by unfold b6x; omega)
 try simp at hg5
 refine x0x rfl z1z rfl rfl y9y rfl rfl ?_
 refine y5y rfl rfl ?_
 refine x3x rfl y9y rfl rfl ?_
 refine y5y rfl rfl ?_
 refine y7y rfl rfl rfl (q3q ..) ?_
 refine y8y rfl rfl ?_
 refine x1x rfl ?_
 refine s9s rfl rfl (fun hg6 => ?_) (fun hg6 => ?_)
 rotate_left
 ·try simp at hg6
  refine x6x rfl rfl ?_
  refine x6x rfl rfl ?_
  refine y2y rfl rfl ?_
  refine x2x rfl ?_
  refine y0y ⟨.inr rfl, ?_⟩
  refine z0z rfl ?_ rfl
  exact kF (by unfold b6x; omega)
 try simp at hg6
 refine x0x rfl z1z rfl rfl y9y rfl rfl ?_
 refine y5y rfl rfl ?_
 refine x3x rfl y9y rfl rfl ?_
 refine y5y rfl rfl ?_
 refine y7y rfl rfl rfl (a6s ..) ?_
 refine y8y rfl rfl ?_
 refine x2x rfl ?_
 refine y0y ⟨.inr rfl, ?_⟩
 refine z0z rfl ?_ rfl
 exact congrArg (fun b : Bool => [AV.pv (.bool b)]) (decide_eq_decide.2 (by unfold b6x; omega))
theorem a4u (a b : Ev) : a0o Tryz.prog 131 [.agg (w0w a), .agg (w0w b)] (.pv (.bool (a2b a b))) := by
 refine z4z x7x (fn := Tryz.f131) (by kernel_rfl) (by kernel_rfl) rfl (outs := [.pv (.bool (a2b a b))]) (by rfl) (Nat.le_of_ble_eq_true rfl) 2 ?_
 refine x4x x7x (by rfl) ?_
 refine v5v (id := 0) rfl rfl rfl ?_
 refine v5v (id := 1) rfl rfl rfl ?_
 refine x2x rfl ?_
 refine x5x fun K1 hK1 => ?_
 refine y6y ?_
 refine x4x x7x (by rfl) ?_
 refine x0x rfl z1z rfl rfl y9y rfl rfl ?_
 refine x3x rfl y9y rfl rfl ?_
 refine x0x rfl z1z rfl rfl y9y rfl rfl ?_
 refine x3x rfl y9y rfl rfl ?_
 refine y3y rfl rfl rfl ?_
 refine x2x rfl ?_
 refine x8x rfl (fun hc2 => ?_) (fun hc2 => ?_)
 ·try simp at hc2
  refine x4x x7x (by rfl) ?_
  refine x0x rfl z1z rfl rfl y9y rfl rfl ?_
  refine x3x rfl y9y rfl rfl ?_
  refine x0x rfl z1z rfl rfl y9y rfl rfl ?_
  refine x3x rfl y9y rfl rfl ?_
  refine y3y rfl rfl rfl ?_
  refine x2x rfl ?_
  refine y0y ⟨.inr rfl, ?_⟩
  clear hK1 K1
  refine z0z rfl ?_ rfl
  rw [a8o]
  exact congrArg (fun b : Bool => [AV.pv (.bool b)]) (decide_eq_decide.2 (by unfold d0s; omega))
 try simp at hc2
 refine x4x x7x (by rfl) ?_
 refine x0x rfl z1z rfl rfl y9y rfl rfl ?_
 refine x3x rfl y9y rfl rfl ?_
 refine x0x rfl z1z rfl rfl y9y rfl rfl ?_
 refine x3x rfl y9y rfl rfl ?_
 refine y3y rfl rfl rfl ?_
 refine x2x rfl ?_
 refine x8x rfl (fun hc3 => ?_) (fun hc3 => ?_)
 ·try simp at hc3
  refine x4x x7x (by rfl) ?_
  refine x0x rfl z1z rfl rfl y9y rfl rfl ?_
  refine x3x rfl y9y rfl rfl ?_
  refine x0x rfl z1z rfl rfl y9y rfl rfl ?_
  refine x3x rfl y9y rfl rfl ?_
  refine y3y rfl rfl rfl ?_
  refine x2x rfl ?_
  refine y0y ⟨.inr rfl, ?_⟩
  clear hK1 K1
  refine z0z rfl ?_ rfl
  rw [a8o]
  exact congrArg (fun b : Bool => [AV.pv (.bool b)]) (decide_eq_decide.2 (by unfold d0s; omega))
 try simp at hc3
 refine x4x x7x (by rfl) ?_
 refine x0x rfl z1z rfl rfl y9y rfl rfl ?_
 refine x3x rfl y9y rfl rfl ?_
 refine x0x rfl z1z rfl rfl y9y rfl rfl ?_
 refine x3x rfl y9y rfl rfl ?_
 refine y3y rfl rfl rfl ?_
 refine x2x rfl ?_
 refine x8x rfl (fun hc4 => ?_) (fun hc4 => ?_)
 ·try simp at hc4
  refine x4x x7x (by rfl) ?_
  refine x0x rfl z1z rfl rfl y9y rfl rfl ?_
  refine x3x rfl y9y rfl rfl ?_
  refine x0x rfl z1z rfl rfl y9y rfl rfl ?_
  refine x3x rfl y9y rfl rfl ?_
  refine y3y rfl rfl rfl ?_
  refine x2x rfl ?_
  refine y0y ⟨.inr rfl, ?_⟩
  clear hK1 K1
  refine z0z rfl ?_ rfl
  rw [a8o]
  exact congrArg (fun b : Bool => [AV.pv (.bool b)]) (decide_eq_decide.2 (by unfold d0s; omega))
 try simp at hc4
 refine x4x x7x (by rfl) ?_
 refine x0x rfl z1z rfl rfl y9y rfl rfl ?_
 refine x3x rfl y9y rfl rfl ?_
 refine x0x rfl z1z rfl rfl y9y rfl rfl ?_
 refine x3x rfl y9y rfl rfl ?_
 refine y3y rfl rfl rfl ?_
 refine x2x rfl ?_
 refine x8x rfl (fun hc5 => ?_) (fun hc5 => ?_)
 ·try simp at hc5
  refine x4x x7x (by rfl) ?_
  refine x0x rfl z1z rfl rfl y9y rfl rfl ?_
  refine x3x rfl y9y rfl rfl ?_
  refine x0x rfl z1z rfl rfl y9y rfl rfl ?_
  refine x3x rfl y9y rfl rfl ?_
  refine y3y rfl rfl rfl ?_
  refine x2x rfl ?_
  refine y0y ⟨.inr rfl, ?_⟩
  clear hK1 K1
  refine z0z rfl ?_ rfl
  rw [a8o]
  exact congrArg (fun b : Bool => [AV.pv (.bool b)]) (decide_eq_decide.2 (by unfold d0s; omega))
 try simp at hc5
 refine x4x x7x (by rfl) ?_
 refine x0x rfl z1z rfl rfl y9y rfl rfl ?_
 refine x3x rfl y9y rfl rfl ?_
 refine x0x rfl z1z rfl rfl y9y rfl rfl ?_
 refine x3x rfl y9y rfl rfl ?_
 refine y3y rfl rfl rfl ?_
 refine x2x rfl ?_
 refine x8x rfl (fun hc6 => ?_) (fun hc6 => ?_)
 ·try simp at hc6
  refine x4x x7x (by rfl) ?_
  refine x0x rfl z1z rfl rfl y9y rfl rfl ?_
  refine x3x rfl y9y rfl rfl ?_
  refine x0x rfl z1z rfl rfl y9y rfl rfl ?_
  refine x3x rfl y9y rfl rfl ?_
  refine y3y rfl rfl rfl ?_
  refine x2x rfl ?_
  refine y0y ⟨.inr rfl, ?_⟩
  clear hK1 K1
  refine z0z rfl ?_ rfl
  rw [a8o]
  exact congrArg (fun b : Bool => [AV.pv (.bool b)]) (decide_eq_decide.2 (by unfold d0s; omega))
 try simp at hc6
 refine x4x x7x (by rfl) ?_
 refine x0x rfl z1z rfl rfl y9y rfl rfl ?_
 refine x3x rfl y9y rfl rfl ?_
 refine x0x rfl z1z rfl rfl y9y rfl rfl ?_
 refine x3x rfl y9y rfl rfl ?_
 refine y3y rfl rfl rfl ?_
 refine x2x rfl ?_
 refine x8x rfl (fun hc7 => ?_) (fun hc7 => ?_)
 ·try simp at hc7
  refine x4x x7x (by rfl) ?_
  refine x0x rfl z1z rfl rfl y9y rfl rfl ?_
  refine x3x rfl y9y rfl rfl ?_
  refine x0x rfl z1z rfl rfl y9y rfl rfl ?_
  refine x3x rfl y9y rfl rfl ?_
  refine y3y rfl rfl rfl ?_
  refine x2x rfl ?_
  refine y0y ⟨.inr rfl, ?_⟩
  clear hK1 K1
  refine z0z rfl ?_ rfl
  rw [a8o]
  exact congrArg (fun b : Bool => [AV.pv (.bool b)]) (decide_eq_decide.2 (by unfold d0s; omega))
 try simp at hc7
 refine x9x ?_
 refine hK1 _ _ ?_
 clear hK1 K1
 refine x4x x7x (by rfl) ?_
 refine x0x rfl z1z rfl rfl y9y rfl rfl ?_
 refine x3x rfl y9y rfl rfl ?_
 refine x0x rfl z1z rfl rfl y9y rfl rfl ?_
 refine x3x rfl y9y rfl rfl ?_
 refine y3y rfl rfl rfl ?_
 refine x2x rfl ?_
 refine y0y ⟨.inr rfl, ?_⟩
 refine z0z rfl ?_ rfl
 rw [a8o]
 exact congrArg (fun b : Bool => [AV.pv (.bool b)]) (decide_eq_decide.2 (by unfold d0s; omega))
theorem b1e (a b : Ou) : a0o Tryz.prog 191 [.agg (r0r a), .agg (r0r b)] (.pv (.bool (a3c a b))) := by
 refine z4z x7x (fn := Tryz.f191) (by kernel_rfl) (by kernel_rfl) rfl (outs := [.pv (.bool (a3c a b))]) (by rfl) (Nat.le_of_ble_eq_true rfl) 2 ?_
 refine x4x x7x (by rfl) ?_
 refine v5v (id := 0) rfl rfl rfl ?_
 refine v5v (id := 1) rfl rfl rfl ?_
 refine x2x rfl ?_
 refine x5x fun K1 hK1 => ?_
 refine y6y ?_
 refine x4x x7x (by rfl) ?_
 refine x0x rfl u0u rfl rfl y9y rfl rfl ?_
 refine x3x rfl y9y rfl rfl ?_
 refine x0x rfl u0u rfl rfl y9y rfl rfl ?_
 refine x3x rfl y9y rfl rfl ?_
 refine y3y rfl rfl rfl ?_
 refine x2x rfl ?_
 refine x8x rfl (fun hc2 => ?_) (fun hc2 => ?_)
 ·try simp at hc2
  refine x4x x7x (by rfl) ?_
  refine x0x rfl u0u rfl rfl y9y rfl rfl ?_
  refine x3x rfl y9y rfl rfl ?_
  refine x0x rfl u0u rfl rfl y9y rfl rfl ?_
  refine x3x rfl y9y rfl rfl ?_
  refine y3y rfl rfl rfl ?_
  refine x2x rfl ?_
  refine y0y ⟨.inr rfl, ?_⟩
  clear hK1 K1
  refine z0z rfl ?_ rfl
  rw [b0j]
  exact congrArg (fun b : Bool => [AV.pv (.bool b)]) (decide_eq_decide.2 (by unfold d1u; omega))
 try simp at hc2
 refine x4x x7x (by rfl) ?_
 refine x0x rfl u0u rfl rfl y9y rfl rfl ?_
 refine x3x rfl y9y rfl rfl ?_
 refine x0x rfl u0u rfl rfl y9y rfl rfl ?_
 refine x3x rfl y9y rfl rfl ?_
 refine y3y rfl rfl rfl ?_
 refine x2x rfl ?_
 refine x8x rfl (fun hc3 => ?_) (fun hc3 => ?_)
 ·try simp at hc3
  refine x4x x7x (by rfl) ?_
  refine x0x rfl u0u rfl rfl y9y rfl rfl ?_
  refine x3x rfl y9y rfl rfl ?_
  refine x0x rfl u0u rfl rfl y9y rfl rfl ?_
  refine x3x rfl y9y rfl rfl ?_
  refine y3y rfl rfl rfl ?_
  refine x2x rfl ?_
  refine y0y ⟨.inr rfl, ?_⟩
  clear hK1 K1
  refine z0z rfl ?_ rfl
  rw [b0j]
  exact congrArg (fun b : Bool => [AV.pv (.bool b)]) (decide_eq_decide.2 (by unfold d1u; omega))
 try simp at hc3
 refine x4x x7x (by rfl) ?_
 refine x0x rfl u0u rfl rfl y9y rfl rfl ?_
 refine x3x rfl y9y rfl rfl ?_
 refine x0x rfl u0u rfl rfl y9y rfl rfl ?_
 refine x3x rfl y9y rfl rfl ?_
 refine y3y rfl rfl rfl ?_
 refine x2x rfl ?_
 refine x8x rfl (fun hc4 => ?_) (fun hc4 => ?_)
 ·try simp at hc4
  refine x4x x7x (by rfl) ?_
  refine x0x rfl u0u rfl rfl y9y rfl rfl ?_
  refine x3x rfl y9y rfl rfl ?_
  refine x0x rfl u0u rfl rfl y9y rfl rfl ?_
  refine x3x rfl y9y rfl rfl ?_
  refine y3y rfl rfl rfl ?_
  refine x2x rfl ?_
  refine y0y ⟨.inr rfl, ?_⟩
  clear hK1 K1
  refine z0z rfl ?_ rfl
  rw [b0j]
  exact congrArg (fun b : Bool => [AV.pv (.bool b)]) (decide_eq_decide.2 (by unfold d1u; omega))
 try simp at hc4
 refine x4x x7x (by rfl) ?_
 refine x0x rfl u0u rfl rfl y9y rfl rfl ?_
 refine x3x rfl y9y rfl rfl ?_
 refine x0x rfl u0u rfl rfl y9y rfl rfl ?_
 refine x3x rfl y9y rfl rfl ?_
 refine y3y rfl rfl rfl ?_
 refine x2x rfl ?_
 refine x8x rfl (fun hc5 => ?_) (fun hc5 => ?_)
 ·try simp at hc5
  refine x4x x7x (by rfl) ?_
  refine x0x rfl u0u rfl rfl y9y rfl rfl ?_
  refine x3x rfl y9y rfl rfl ?_
  refine x0x rfl u0u rfl rfl y9y rfl rfl ?_
  refine x3x rfl y9y rfl rfl ?_
  refine y3y rfl rfl rfl ?_
  refine x2x rfl ?_
  refine y0y ⟨.inr rfl, ?_⟩
  clear hK1 K1
  refine z0z rfl ?_ rfl
  rw [b0j]
  exact congrArg (fun b : Bool => [AV.pv (.bool b)]) (decide_eq_decide.2 (by unfold d1u; omega))
 try simp at hc5
 refine x9x ?_
 refine hK1 _ _ ?_
 clear hK1 K1
 refine x4x x7x (by rfl) ?_
 refine x0x rfl u0u rfl rfl y9y rfl rfl ?_
 refine x3x rfl y9y rfl rfl ?_
 refine x0x rfl u0u rfl rfl y9y rfl rfl ?_
 refine x3x rfl y9y rfl rfl ?_
 refine y3y rfl rfl rfl ?_
 refine x2x rfl ?_
 refine y0y ⟨.inr rfl, ?_⟩
 refine z0z rfl ?_ rfl
 rw [b0j]
 exact congrArg (fun b : Bool => [AV.pv (.bool b)]) (decide_eq_decide.2 (by unfold d1u; omega))
theorem a4c (a b : Ou) : a0o Tryz.prog 231 [.agg (r0r a), .agg (r0r b)] (.pv (.bool (a3c a b))) := by
 refine z4z x7x (fn := Tryz.f231) (by kernel_rfl) (by kernel_rfl) rfl (outs := [.pv (.bool (a3c a b))]) (by rfl) (Nat.le_of_ble_eq_true rfl) 4 ?_
 refine x4x x7x (by rfl) ?_
 refine v5v (id := 0) rfl rfl rfl ?_
 refine v5v (id := 1) rfl rfl rfl ?_
 refine x2x rfl ?_
 refine x4x x7x (by rfl) ?_
 refine x0x rfl u0u rfl rfl y9y rfl rfl ?_
 refine x3x rfl y9y rfl rfl ?_
 refine x0x rfl u0u rfl rfl y9y rfl rfl ?_
 refine x3x rfl y9y rfl rfl ?_
 refine x0x rfl u0u rfl rfl y9y rfl rfl ?_
 refine x3x rfl y9y rfl rfl ?_
 refine x0x rfl u0u rfl rfl y9y rfl rfl ?_
 refine x3x rfl y9y rfl rfl ?_
 refine x0x rfl u0u rfl rfl y9y rfl rfl ?_
 refine x3x rfl y9y rfl rfl ?_
 refine b1o x7x b4l rfl y9y c5y rfl (by simp only [pI, y9y, b3s, List.range, List.range.loop, List.map_cons, List.map_nil, a2g, q9q, AV.okc, AV.one, Value.oneCell', T3, T4, List.getElem?_cons_zero, List.getElem?_cons_succ, List.take_succ_cons, List.take_zero, List.drop_succ_cons, List.drop_zero, List.cons_append, List.nil_append, List.length_cons, List.length_nil, if_true, and_self, Nat.reduceAdd, Nat.reduceMul, Nat.reduceLeDiff]; rfl) ?_
 refine u9u (id := 2) b4l c5y rfl ?_
 refine z2z rfl rfl b4l rfl rfl rfl rfl ?_
 refine x4x x7x (by rfl) ?_
 refine x0x rfl u0u rfl rfl y9y rfl rfl ?_
 refine x3x rfl y9y rfl rfl ?_
 refine x0x rfl u0u rfl rfl y9y rfl rfl ?_
 refine x3x rfl y9y rfl rfl ?_
 refine x0x rfl u0u rfl rfl y9y rfl rfl ?_
 refine x3x rfl y9y rfl rfl ?_
 refine x0x rfl u0u rfl rfl y9y rfl rfl ?_
 refine x3x rfl y9y rfl rfl ?_
 refine x0x rfl u0u rfl rfl y9y rfl rfl ?_
 refine x3x rfl y9y rfl rfl ?_
 refine b1o x7x b4l rfl y9y c5y rfl (by simp only [pI, y9y, b3s, List.range, List.range.loop, List.map_cons, List.map_nil, a2g, q9q, AV.okc, AV.one, Value.oneCell', T3, T4, List.getElem?_cons_zero, List.getElem?_cons_succ, List.take_succ_cons, List.take_zero, List.drop_succ_cons, List.drop_zero, List.cons_append, List.nil_append, List.length_cons, List.length_nil, if_true, and_self, Nat.reduceAdd, Nat.reduceMul, Nat.reduceLeDiff]; rfl) ?_
 refine u9u (id := 3) b4l c5y rfl ?_
 refine z2z rfl rfl b4l rfl rfl rfl rfl ?_
 refine p6p x7x r2r (by rfl) ?_
 refine c6b x7x rfl b4l rfl y9y rfl ?_
 refine c6b x7x rfl b4l rfl y9y rfl ?_
 refine v4v [2, 3] [_, _] (a3f (ouL a) (ouL b) rfl (Nat.le_of_ble_eq_true rfl) 286) rfl rfl rfl (by decide) rfl rfl (by repeat (first | exact InH.nil | refine InH.cons rfl ?_)) (by (simp only [pI, List.map_cons, List.map_nil, z8z, z9z, gl, nx, p4p, Nat.beq, Nat.add_eq, List.getD_cons_zero, List.getD_cons_succ, List.getD_nil, Bool.or_false, Bool.false_or, Bool.true_or, Bool.or_true, Nat.add_zero, Nat.zero_add]; rfl)) (by (simp only [pI, List.map_cons, List.map_nil, z8z, z9z, gl, nx, p4p, Nat.beq, Nat.add_eq, List.getD_cons_zero, List.getD_cons_succ, List.getD_nil, Bool.or_false, Bool.false_or, Bool.true_or, Bool.or_true, Nat.add_zero, Nat.zero_add]; rfl)) ?_
 refine y3y rfl rfl rfl ?_
 refine x2x rfl ?_
 refine ⟨by kernel_rfl, ?_⟩
 refine y0y ⟨.inr rfl, ?_⟩
 refine z0z rfl ?_ rfl
 simp only [a3c, ← c0x (ouL a) (ouL b) rfl]
theorem a6e (c : Bool) (l : List Ev) (most : Int) : a0o Tryz.prog 203 [a0i c l, .pv (.int .i64 most)] (.pv (.bool (a7i okE a2b l most))) := by
 refine z4z x7x (fn := Tryz.f203) (by kernel_rfl) (by kernel_rfl) rfl (outs := [.pv (.bool (a7i okE a2b l most))]) (by rfl) (Nat.le_of_ble_eq_true rfl) 1 ?_
 refine w9w 0 rfl fun hlen => ?_
 refine x4x x7x (by rfl) ?_
 refine x2x rfl ?_
 refine x5x fun K1 hK1 => ?_
 refine x4x x7x (by rfl) ?_
 refine x1x rfl ?_
 refine u2u rfl u6u rfl ?_
 refine x1x rfl ?_
 refine y3y rfl rfl rfl ?_
 refine x8x rfl (fun hc2 => ?_) (fun hc2 => ?_)
 ·try simp at hc2
  refine x4x x7x (by rfl) ?_
  refine x2x rfl ?_
  refine y0y ⟨.inr rfl, ?_⟩
  clear hK1 K1
  refine z0z rfl ?_ rfl
  exact congrArg (fun b : Bool => [AV.pv (.bool b)]) (a9r (by omega)).symm
 try simp at hc2
 refine x9x ?_
 refine hK1 _ _ ?_
 clear hK1 K1
 refine x5x fun K3 hK3 => ?_
 refine x4x x7x (by rfl) ?_
 refine x1x rfl ?_
 refine u2u rfl u6u rfl ?_
 refine x1x rfl ?_
 refine y6y ?_
 refine u4u (ι := Nat) (fun i γ1 => [(13, .pv (.int .i64 (i : Int)))]) (fun i γ1 => [(0, ((γ1 0), .dead))]) (fun i => i ≤ l.length ∧ a7i okE a2b l most = a7h okE a2b (a9d l i) (l.drop i)) (fun i => l.length - i) (Cov.cons (t := 0) rfl (Cov.cons (t := 11) rfl (Cov.cons (t := 12) rfl Cov.nil))) HE.nil 0 ⟨by omega, b6y (by omega)⟩ [_] (Cov.cons (t := 13) rfl Cov.nil) (HE.kill rfl HE.nil) rfl fun i γ1 hi => ?_
 try dsimp only [List.cons_append, List.nil_append]
 obtain ⟨h1, h2⟩ := hi
 refine x4x x7x (by rfl) ?_
 refine y3y rfl rfl rfl ?_
 refine x5x fun K4 hK4 => ?_
 refine x8x rfl (fun hc5 => ?_) (fun hc5 => ?_)
 rotate_left
 ·try simp at hc5
  obtain rfl : i = l.length := by omega
  rw [List.drop_length] at h2
  refine v0v ?_
  refine hK3 _ _ ?_
  clear hK4 K4 hK3 K3
  refine x4x x7x (by rfl) ?_
  refine x2x rfl ?_
  refine y0y ⟨.inr rfl, ?_⟩
  refine z0z rfl ?_ rfl
  exact congrArg (fun b : Bool => [AV.pv (.bool b)]) h2.symm
 try simp at hc5
 obtain ⟨p, hp⟩ : ∃ p, l[i]? = some p := ⟨_, List.getElem?_eq_getElem (by omega)⟩
 rw [q2q hp] at h2
 refine x9x ?_
 refine hK4 _ _ ?_
 clear hK4 K4
 refine x5x fun K6 hK6 => ?_
 refine y6y ?_
 refine x4x x7x (by rfl) ?_
 refine x1x rfl ?_
 refine z7z rfl rfl u6u rfl z1z rfl hp ?_
 refine z6z rfl z1z rfl rfl ?_
 refine u9u (id := 0) z1z a7o rfl ?_
 refine x2x rfl ?_
 refine z2z rfl rfl z1z rfl rfl rfl rfl ?_
 refine p6p x7x r2r (by rfl) ?_
 refine y1y rfl z1z rfl rfl rfl ?_
 refine y7y rfl rfl rfl (b1d ..) ?_
 refine w2w rfl ?_
 refine x1x rfl ?_
 refine s9s rfl rfl (fun hg7 => ?_) (fun hg7 => ?_)
 rotate_left
 ·try simp at hg7
  have hbad : okE p = false := by simpa [okE] using hg7
  refine x6x rfl rfl ?_
  refine x6x rfl rfl ?_
  refine q1q rfl rfl ?_
  refine q1q rfl rfl ?_
  refine q1q rfl rfl ?_
  refine q1q rfl rfl ?_
  refine q1q rfl rfl ?_
  refine q1q rfl rfl ?_
  refine q1q rfl rfl ?_
  refine q1q rfl rfl ?_
  refine x6x rfl rfl ?_
  refine y8y rfl rfl ?_
  refine ⟨by kernel_rfl, ?_⟩
  refine x8x rfl (fun hc11 => ?_) (fun hc11 => ?_)
  rotate_left
  ·simp at hc11
  try simp at hc11
  try have hlt := hc11
  refine x4x x7x (by rfl) ?_
  refine x2x rfl ?_
  refine y0y ⟨.inr rfl, ?_⟩
  clear hK6 K6 hK3 K3
  refine z0z rfl ?_ rfl
  exact congrArg (fun b : Bool => [AV.pv (.bool b)]) (h2.trans (a3y _ _ hbad)).symm
 try simp at hg7
 have hok : okE p = true := by simpa [okE] using hg7
 refine x1x rfl ?_
 refine y5y rfl rfl ?_
 refine y3y rfl rfl rfl ?_
 refine y5y rfl rfl ?_
 refine x1x rfl ?_
 refine s9s rfl rfl (fun hg8 => ?_) (fun hg8 => ?_)
 rotate_left
 ·try simp at hg8
  have hi0 : i = 0 := by omega
  have hlast : a9d l i = none := by rw [hi0]; rfl
  rw [hlast] at h2
  refine x6x rfl rfl ?_
  refine x6x rfl rfl ?_
  refine x6x rfl rfl ?_
  refine x6x rfl rfl ?_
  refine x6x rfl rfl ?_
  refine x6x rfl rfl ?_
  refine x6x rfl rfl ?_
  refine y5y rfl rfl ?_
  refine y2y rfl rfl ?_
  refine y2y rfl rfl ?_
  refine ⟨by kernel_rfl, ?_⟩
  refine x8x rfl (fun hc10 => ?_) (fun hc10 => ?_)
  ·simp at hc10
  try simp at hc10
  try have hlt := hc10
  refine x9x ?_
  refine hK6 _ _ ?_
  clear hK6 K6
  refine y4y x7x (by rfl) ?_
  refine u1u (b := 1) rfl rfl (by omega) ?_
  refine x1x rfl ?_
  exact ⟨i + 1, ⟨⟨by omega, by rw [h2]; show _ = a7h okE a2b l[i]? _; rw [hp]; exact a5l _ _ hok⟩, by omega⟩, [_], (Cov.cons (t := 13) rfl Cov.nil), (Cov.cons (t := 0) rfl (Cov.cons (t := 11) rfl (Cov.cons (t := 12) rfl Cov.nil))), (HE.kill rfl HE.nil), HE.nil, rfl⟩
 try simp at hg8
 have hi0 : 0 < i := by omega
 obtain ⟨b, hb⟩ : ∃ b, l[i - 1]? = some b := ⟨_, List.getElem?_eq_getElem (by omega)⟩
 have hlast : a9d l i = some b := by obtain ⟨j, rfl⟩ : ∃ j, i = j + 1 := ⟨i - 1, by omega⟩; exact hb
 rw [hlast] at h2
 refine x1x rfl ?_
 refine y5y rfl rfl ?_
 refine x1x rfl ?_
 refine y5y rfl rfl ?_
 refine a0k (b := 1) rfl rfl (by omega) (by omega) ?_
 refine y5y rfl rfl ?_
 refine z7z rfl rfl u6u rfl z1z rfl hb ?_
 refine y5y rfl rfl ?_
 refine z6z rfl z1z rfl rfl ?_
 refine y5y rfl rfl ?_
 refine y1y rfl z1z rfl rfl rfl ?_
 refine y5y rfl rfl ?_
 refine y7y rfl rfl rfl (a8x ..) ?_
 refine y5y rfl rfl ?_
 refine w2w rfl ?_
 refine y5y rfl rfl ?_
 refine y8y rfl rfl ?_
 refine y2y rfl rfl ?_
 refine ⟨by kernel_rfl, ?_⟩
 refine x8x rfl (fun hc9 => ?_) (fun hc9 => ?_)
 rotate_left
 ·try simp at hc9
  try have hlt := hc9
  refine x9x ?_
  refine hK6 _ _ ?_
  clear hK6 K6
  refine y4y x7x (by rfl) ?_
  refine u1u (b := 1) rfl rfl (by omega) ?_
  refine x1x rfl ?_
  exact ⟨i + 1, ⟨⟨by omega, by rw [h2]; show _ = a7h okE a2b l[i]? _; rw [hp]; exact a7u _ _ hok hlt⟩, by omega⟩, [_], (Cov.cons (t := 13) rfl Cov.nil), (Cov.cons (t := 0) rfl (Cov.cons (t := 11) rfl (Cov.cons (t := 12) rfl Cov.nil))), (HE.kill rfl HE.nil), HE.nil, rfl⟩
 try simp at hc9
 try have hlt := hc9
 refine x4x x7x (by rfl) ?_
 refine x2x rfl ?_
 refine y0y ⟨.inr rfl, ?_⟩
 clear hK6 K6 hK3 K3
 refine z0z rfl ?_ rfl
 exact congrArg (fun b : Bool => [AV.pv (.bool b)]) (h2.trans (b3x _ _ hlt)).symm
theorem a3n (c : Bool) (l : List Ev) (most : Int) : a0o Tryz.prog 158 [a0i c l, .pv (.int .i64 most)] (.pv (.bool (a7i okE a2b l most))) := by
 refine z4z x7x (fn := Tryz.f158) (by kernel_rfl) (by kernel_rfl) rfl (outs := [.pv (.bool (a7i okE a2b l most))]) (by rfl) (Nat.le_of_ble_eq_true rfl) 0 ?_
 refine w9w 0 rfl fun hlen => ?_
 refine x4x x7x (by rfl) ?_
 refine x2x rfl ?_
 refine x5x fun K1 hK1 => ?_
 refine x4x x7x (by rfl) ?_
 refine x1x rfl ?_
 refine u2u rfl u6u rfl ?_
 refine x1x rfl ?_
 refine y3y rfl rfl rfl ?_
 refine x8x rfl (fun hc2 => ?_) (fun hc2 => ?_)
 ·try simp at hc2
  refine x4x x7x (by rfl) ?_
  refine x2x rfl ?_
  refine y0y ⟨.inr rfl, ?_⟩
  clear hK1 K1
  refine z0z rfl ?_ rfl
  exact congrArg (fun b : Bool => [AV.pv (.bool b)]) (a9r (by omega)).symm
 try simp at hc2
 refine x9x ?_
 refine hK1 _ _ ?_
 clear hK1 K1
 refine x5x fun K3 hK3 => ?_
 refine x4x x7x (by rfl) ?_
 refine x2x rfl ?_
 refine y6y ?_
 refine u4u (ι := Nat) (fun i γ1 => [(5, .pv (.int .i64 (i : Int)))]) (fun i γ1 => []) (fun i => i ≤ l.length ∧ a7i okE a2b l most = a7h okE a2b (a9d l i) (l.drop i)) (fun i => l.length - i) (Cov.cons (t := 0) rfl Cov.nil) HE.nil 0 ⟨by omega, b6y (by omega)⟩ [] (Cov.cons (t := 5) rfl Cov.nil) HE.nil rfl fun i γ1 hi => ?_
 try dsimp only [List.cons_append, List.nil_append]
 obtain ⟨h1, h2⟩ := hi
 refine x5x fun K4 hK4 => ?_
 refine x4x x7x (by rfl) ?_
 refine x1x rfl ?_
 refine x1x rfl ?_
 refine u2u rfl u6u rfl ?_
 refine y3y rfl rfl rfl ?_
 refine x8x rfl (fun hc5 => ?_) (fun hc5 => ?_)
 rotate_left
 ·try simp at hc5
  obtain rfl : i = l.length := by omega
  rw [List.drop_length] at h2
  refine v0v ?_
  refine hK3 _ _ ?_
  clear hK4 K4 hK3 K3
  refine x4x x7x (by rfl) ?_
  refine x2x rfl ?_
  refine y0y ⟨.inr rfl, ?_⟩
  refine z0z rfl ?_ rfl
  exact congrArg (fun b : Bool => [AV.pv (.bool b)]) h2.symm
 try simp at hc5
 obtain ⟨p, hp⟩ : ∃ p, l[i]? = some p := ⟨_, List.getElem?_eq_getElem (by omega)⟩
 rw [q2q hp] at h2
 refine x9x ?_
 refine hK4 _ _ ?_
 clear hK4 K4
 refine x5x fun K6 hK6 => ?_
 refine y6y ?_
 refine p6p x7x r2r (by rfl) ?_
 refine x1x rfl ?_
 refine x1x rfl ?_
 refine z7z rfl rfl u6u rfl z1z rfl hp ?_
 refine z6z rfl z1z rfl rfl ?_
 refine y7y rfl rfl rfl (a9b ..) ?_
 refine w2w rfl ?_
 refine x1x rfl ?_
 refine s9s rfl rfl (fun hg7 => ?_) (fun hg7 => ?_)
 rotate_left
 ·try simp at hg7
  have hbad : okE p = false := by simpa [okE] using hg7
  refine x6x rfl rfl ?_
  refine x6x rfl rfl ?_
  refine q1q rfl rfl ?_
  refine q1q rfl rfl ?_
  refine q1q rfl rfl ?_
  refine q1q rfl rfl ?_
  refine q1q rfl rfl ?_
  refine q1q rfl rfl ?_
  refine q1q rfl rfl ?_
  refine q1q rfl rfl ?_
  refine q1q rfl rfl ?_
  refine q1q rfl rfl ?_
  refine q1q rfl rfl ?_
  refine x6x rfl rfl ?_
  refine y8y rfl rfl ?_
  refine ⟨by kernel_rfl, ?_⟩
  refine x8x rfl (fun hc11 => ?_) (fun hc11 => ?_)
  rotate_left
  ·simp at hc11
  try simp at hc11
  try have hlt := hc11
  refine x4x x7x (by rfl) ?_
  refine x2x rfl ?_
  refine y0y ⟨.inr rfl, ?_⟩
  clear hK6 K6 hK3 K3
  refine z0z rfl ?_ rfl
  exact congrArg (fun b : Bool => [AV.pv (.bool b)]) (h2.trans (a3y _ _ hbad)).symm
 try simp at hg7
 have hok : okE p = true := by simpa [okE] using hg7
 refine x1x rfl ?_
 refine y5y rfl rfl ?_
 refine y3y rfl rfl rfl ?_
 refine y5y rfl rfl ?_
 refine x1x rfl ?_
 refine s9s rfl rfl (fun hg8 => ?_) (fun hg8 => ?_)
 rotate_left
 ·try simp at hg8
  have hi0 : i = 0 := by omega
  have hlast : a9d l i = none := by rw [hi0]; rfl
  rw [hlast] at h2
  refine x6x rfl rfl ?_
  refine x6x rfl rfl ?_
  refine x6x rfl rfl ?_
  refine x6x rfl rfl ?_
  refine x6x rfl rfl ?_
  refine x6x rfl rfl ?_
  refine x6x rfl rfl ?_
  refine x6x rfl rfl ?_
  refine x6x rfl rfl ?_
  refine x6x rfl rfl ?_
  refine y5y rfl rfl ?_
  refine y2y rfl rfl ?_
  refine y2y rfl rfl ?_
  refine ⟨by kernel_rfl, ?_⟩
  refine x8x rfl (fun hc10 => ?_) (fun hc10 => ?_)
  ·simp at hc10
  try simp at hc10
  try have hlt := hc10
  refine x9x ?_
  refine hK6 _ _ ?_
  clear hK6 K6
  refine y4y x7x (by rfl) ?_
  refine x1x rfl ?_
  refine u1u (b := 1) rfl rfl (by omega) ?_
  refine x2x rfl ?_
  exact ⟨i + 1, ⟨⟨by omega, by rw [h2]; show _ = a7h okE a2b l[i]? _; rw [hp]; exact a5l _ _ hok⟩, by omega⟩, [], (Cov.cons (t := 5) rfl Cov.nil), (Cov.cons (t := 0) rfl Cov.nil), HE.nil, HE.nil, rfl⟩
 try simp at hg8
 have hi0 : 0 < i := by omega
 obtain ⟨b, hb⟩ : ∃ b, l[i - 1]? = some b := ⟨_, List.getElem?_eq_getElem (by omega)⟩
 have hlast : a9d l i = some b := by obtain ⟨j, rfl⟩ : ∃ j, i = j + 1 := ⟨i - 1, by omega⟩; exact hb
 rw [hlast] at h2
 refine x1x rfl ?_
 refine y5y rfl rfl ?_
 refine x1x rfl ?_
 refine y5y rfl rfl ?_
 refine a0k (b := 1) rfl rfl (by omega) (by omega) ?_
 refine y5y rfl rfl ?_
 refine z7z rfl rfl u6u rfl z1z rfl hb ?_
 refine y5y rfl rfl ?_
 refine z6z rfl z1z rfl rfl ?_
 refine y5y rfl rfl ?_
 refine x1x rfl ?_
 refine y5y rfl rfl ?_
 refine x1x rfl ?_
 refine y5y rfl rfl ?_
 refine z7z rfl rfl u6u rfl z1z rfl hp ?_
 refine y5y rfl rfl ?_
 refine z6z rfl z1z rfl rfl ?_
 refine y5y rfl rfl ?_
 refine y7y rfl rfl rfl (a4u ..) ?_
 refine y5y rfl rfl ?_
 refine w2w rfl ?_
 refine y5y rfl rfl ?_
 refine y8y rfl rfl ?_
 refine y2y rfl rfl ?_
 refine ⟨by kernel_rfl, ?_⟩
 refine x8x rfl (fun hc9 => ?_) (fun hc9 => ?_)
 rotate_left
 ·try simp at hc9
  try have hlt := hc9
  refine x9x ?_
  refine hK6 _ _ ?_
  clear hK6 K6
  refine y4y x7x (by rfl) ?_
  refine x1x rfl ?_
  refine u1u (b := 1) rfl rfl (by omega) ?_
  refine x2x rfl ?_
  exact ⟨i + 1, ⟨⟨by omega, by rw [h2]; show _ = a7h okE a2b l[i]? _; rw [hp]; exact a7u _ _ hok hlt⟩, by omega⟩, [], (Cov.cons (t := 5) rfl Cov.nil), (Cov.cons (t := 0) rfl Cov.nil), HE.nil, HE.nil, rfl⟩
 try simp at hc9
 try have hlt := hc9
 refine x4x x7x (by rfl) ?_
 refine x2x rfl ?_
 refine y0y ⟨.inr rfl, ?_⟩
 clear hK6 K6 hK3 K3
 refine z0z rfl ?_ rfl
 exact congrArg (fun b : Bool => [AV.pv (.bool b)]) (h2.trans (b3x _ _ hlt)).symm
theorem b3i (c : Bool) (l : List Ou) (most : Int) : a0o Tryz.prog 215 [a0z c l, .pv (.int .i64 most)] (.pv (.bool (a7i okO a3c l most))) := by
 refine z4z x7x (fn := Tryz.f215) (by kernel_rfl) (by kernel_rfl) rfl (outs := [.pv (.bool (a7i okO a3c l most))]) (by rfl) (Nat.le_of_ble_eq_true rfl) 1 ?_
 refine w9w 0 rfl fun hlen => ?_
 refine x4x x7x (by rfl) ?_
 refine x2x rfl ?_
 refine x5x fun K1 hK1 => ?_
 refine x4x x7x (by rfl) ?_
 refine x1x rfl ?_
 refine u2u rfl u7u rfl ?_
 refine x1x rfl ?_
 refine y3y rfl rfl rfl ?_
 refine x8x rfl (fun hc2 => ?_) (fun hc2 => ?_)
 ·try simp at hc2
  refine x4x x7x (by rfl) ?_
  refine x2x rfl ?_
  refine y0y ⟨.inr rfl, ?_⟩
  clear hK1 K1
  refine z0z rfl ?_ rfl
  exact congrArg (fun b : Bool => [AV.pv (.bool b)]) (a9r (by omega)).symm
 try simp at hc2
 refine x9x ?_
 refine hK1 _ _ ?_
 clear hK1 K1
 refine x5x fun K3 hK3 => ?_
 refine x4x x7x (by rfl) ?_
 refine x1x rfl ?_
 refine u2u rfl u7u rfl ?_
 refine x1x rfl ?_
 refine y6y ?_
 refine u4u (ι := Nat) (fun i γ1 => [(14, .pv (.int .i64 (i : Int)))]) (fun i γ1 => [(0, ((γ1 0), .dead))]) (fun i => i ≤ l.length ∧ a7i okO a3c l most = a7h okO a3c (a9d l i) (l.drop i)) (fun i => l.length - i) (Cov.cons (t := 0) rfl (Cov.cons (t := 12) rfl (Cov.cons (t := 13) rfl Cov.nil))) HE.nil 0 ⟨by omega, b6y (by omega)⟩ [_] (Cov.cons (t := 14) rfl Cov.nil) (HE.kill rfl HE.nil) rfl fun i γ1 hi => ?_
 try dsimp only [List.cons_append, List.nil_append]
 obtain ⟨h1, h2⟩ := hi
 refine x4x x7x (by rfl) ?_
 refine y3y rfl rfl rfl ?_
 refine x5x fun K4 hK4 => ?_
 refine x8x rfl (fun hc5 => ?_) (fun hc5 => ?_)
 rotate_left
 ·try simp at hc5
  obtain rfl : i = l.length := by omega
  rw [List.drop_length] at h2
  refine v0v ?_
  refine hK3 _ _ ?_
  clear hK4 K4 hK3 K3
  refine x4x x7x (by rfl) ?_
  refine x2x rfl ?_
  refine y0y ⟨.inr rfl, ?_⟩
  refine z0z rfl ?_ rfl
  exact congrArg (fun b : Bool => [AV.pv (.bool b)]) h2.symm
 try simp at hc5
 obtain ⟨p, hp⟩ : ∃ p, l[i]? = some p := ⟨_, List.getElem?_eq_getElem (by omega)⟩
 rw [q2q hp] at h2
 refine x9x ?_
 refine hK4 _ _ ?_
 clear hK4 K4
 refine x5x fun K6 hK6 => ?_
 refine y6y ?_
 refine x4x x7x (by rfl) ?_
 refine x1x rfl ?_
 refine z7z rfl rfl u7u rfl u0u rfl hp ?_
 refine z6z rfl u0u rfl rfl ?_
 refine u9u (id := 0) u0u b2j rfl ?_
 refine x2x rfl ?_
 refine z2z rfl rfl u0u rfl rfl rfl rfl ?_
 refine a9l (ι := Unit) (fun _i γ2 => [(7, .pv (.bool (okO p)))]) (fun _i γ2 => []) (fun _i => True) (Cov.cons (t := 0) rfl (Cov.cons (t := 5) rfl (Cov.cons (t := 6) rfl (Cov.cons (t := 12) rfl (Cov.cons (t := 13) rfl (Cov.cons (t := 14) rfl Cov.nil)))))) (HE.same (id := 0) rfl HE.nil) ?_ fun _i γ2 hi => ?_
 ·refine y4y x7x (by rfl) ?_
  refine x0x rfl u0u rfl rfl y9y rfl rfl ?_
  refine x3x rfl y9y rfl rfl ?_
  refine y7y rfl rfl rfl (w8w ..) ?_
  refine x1x rfl ?_
  refine s9s rfl rfl (fun hg7 => ?_) (fun hg7 => ?_)
  rotate_left
  ·try simp at hg7
   refine x6x rfl rfl ?_
   refine x6x rfl rfl ?_
   refine y2y rfl rfl ?_
   refine x1x rfl ?_
   refine x6x rfl rfl ?_
   refine x6x rfl rfl ?_
   refine x6x rfl rfl ?_
   refine y2y rfl rfl ?_
   refine x1x rfl ?_
   refine x6x rfl rfl ?_
   refine x6x rfl rfl ?_
   refine x6x rfl rfl ?_
   refine y2y rfl rfl ?_
   refine x1x rfl ?_
   refine x6x rfl rfl ?_
   refine x6x rfl rfl ?_
   refine x6x rfl rfl ?_
   refine y2y rfl rfl ?_
   refine x2x rfl ?_
   exact ⟨(), trivial, [], (Cov.cons' (t := 7) rfl (by exact congrArg (fun b : Bool => AV.pv (.bool b)) (decide_eq_false (by unfold c6k; omega)).symm) Cov.nil), (Cov.cons (t := 0) rfl (Cov.cons (t := 5) rfl (Cov.cons (t := 6) rfl (Cov.cons (t := 12) rfl (Cov.cons (t := 13) rfl (Cov.cons (t := 14) rfl Cov.nil)))))), HE.nil, (HE.same (id := 0) rfl HE.nil), rfl⟩
  try simp at hg7
  refine x0x rfl u0u rfl rfl y9y rfl rfl ?_
  refine y5y rfl rfl ?_
  refine x3x rfl y9y rfl rfl ?_
  refine y5y rfl rfl ?_
  refine y7y rfl rfl rfl (a5h ..) ?_
  refine y8y rfl rfl ?_
  refine x1x rfl ?_
  refine s9s rfl rfl (fun hg8 => ?_) (fun hg8 => ?_)
  rotate_left
  ·try simp at hg8
   refine x6x rfl rfl ?_
   refine x6x rfl rfl ?_
   refine y2y rfl rfl ?_
   refine x1x rfl ?_
   refine x6x rfl rfl ?_
   refine x6x rfl rfl ?_
   refine x6x rfl rfl ?_
   refine y2y rfl rfl ?_
   refine x1x rfl ?_
   refine x6x rfl rfl ?_
   refine x6x rfl rfl ?_
   refine x6x rfl rfl ?_
   refine y2y rfl rfl ?_
   refine x2x rfl ?_
   exact ⟨(), trivial, [], (Cov.cons' (t := 7) rfl (by exact congrArg (fun b : Bool => AV.pv (.bool b)) (decide_eq_false (by unfold c6k; omega)).symm) Cov.nil), (Cov.cons (t := 0) rfl (Cov.cons (t := 5) rfl (Cov.cons (t := 6) rfl (Cov.cons (t := 12) rfl (Cov.cons (t := 13) rfl (Cov.cons (t := 14) rfl Cov.nil)))))), HE.nil, (HE.same (id := 0) rfl HE.nil), rfl⟩
  try simp at hg8
  refine x0x rfl u0u rfl rfl y9y rfl rfl ?_
  refine y5y rfl rfl ?_
  refine x3x rfl y9y rfl rfl ?_
  refine y5y rfl rfl ?_
  refine y7y rfl rfl rfl (w8w ..) ?_
  refine y8y rfl rfl ?_
  refine x1x rfl ?_
  refine s9s rfl rfl (fun hg9 => ?_) (fun hg9 => ?_)
  rotate_left
  ·try simp at hg9
   refine x6x rfl rfl ?_
   refine x6x rfl rfl ?_
   refine y2y rfl rfl ?_
   refine x1x rfl ?_
   refine x6x rfl rfl ?_
   refine x6x rfl rfl ?_
   refine x6x rfl rfl ?_
   refine y2y rfl rfl ?_
   refine x2x rfl ?_
   exact ⟨(), trivial, [], (Cov.cons' (t := 7) rfl (by exact congrArg (fun b : Bool => AV.pv (.bool b)) (decide_eq_false (by unfold c6k; omega)).symm) Cov.nil), (Cov.cons (t := 0) rfl (Cov.cons (t := 5) rfl (Cov.cons (t := 6) rfl (Cov.cons (t := 12) rfl (Cov.cons (t := 13) rfl (Cov.cons (t := 14) rfl Cov.nil)))))), HE.nil, (HE.same (id := 0) rfl HE.nil), rfl⟩
  try simp at hg9
  refine x0x rfl u0u rfl rfl y9y rfl rfl ?_
  refine y5y rfl rfl ?_
  refine x3x rfl y9y rfl rfl ?_
  refine y5y rfl rfl ?_
  refine y7y rfl rfl rfl (w8w ..) ?_
  refine y8y rfl rfl ?_
  refine x1x rfl ?_
  refine s9s rfl rfl (fun hg10 => ?_) (fun hg10 => ?_)
  rotate_left
  ·try simp at hg10
   refine x6x rfl rfl ?_
   refine x6x rfl rfl ?_
   refine y2y rfl rfl ?_
   refine x2x rfl ?_
   exact ⟨(), trivial, [], (Cov.cons' (t := 7) rfl (by exact congrArg (fun b : Bool => AV.pv (.bool b)) (decide_eq_false (by unfold c6k; omega)).symm) Cov.nil), (Cov.cons (t := 0) rfl (Cov.cons (t := 5) rfl (Cov.cons (t := 6) rfl (Cov.cons (t := 12) rfl (Cov.cons (t := 13) rfl (Cov.cons (t := 14) rfl Cov.nil)))))), HE.nil, (HE.same (id := 0) rfl HE.nil), rfl⟩
  try simp at hg10
  refine x0x rfl u0u rfl rfl y9y rfl rfl ?_
  refine y5y rfl rfl ?_
  refine x3x rfl y9y rfl rfl ?_
  refine y5y rfl rfl ?_
  refine y7y rfl rfl rfl (a6r ..) ?_
  refine y8y rfl rfl ?_
  refine x2x rfl ?_
  exact ⟨(), trivial, [], (Cov.cons' (t := 7) rfl (by exact congrArg (fun b : Bool => AV.pv (.bool b)) (decide_eq_decide.2 (by unfold c6k; omega))) Cov.nil), (Cov.cons (t := 0) rfl (Cov.cons (t := 5) rfl (Cov.cons (t := 6) rfl (Cov.cons (t := 12) rfl (Cov.cons (t := 13) rfl (Cov.cons (t := 14) rfl Cov.nil)))))), HE.nil, (HE.same (id := 0) rfl HE.nil), rfl⟩
 ·try dsimp only [List.cons_append, List.nil_append]
  refine p6p x7x r2r (by rfl) ?_
  refine x1x rfl ?_
  refine w2w rfl ?_
  refine x1x rfl ?_
  refine s9s rfl rfl (fun hg11 => ?_) (fun hg11 => ?_)
  rotate_left
  ·try simp at hg11
   have hbad : okO p = false := by simpa [okO] using hg11
   refine x6x rfl rfl ?_
   refine x6x rfl rfl ?_
   refine q1q rfl rfl ?_
   refine q1q rfl rfl ?_
   refine q1q rfl rfl ?_
   refine q1q rfl rfl ?_
   refine q1q rfl rfl ?_
   refine q1q rfl rfl ?_
   refine q1q rfl rfl ?_
   refine q1q rfl rfl ?_
   refine x6x rfl rfl ?_
   refine y8y rfl rfl ?_
   refine ⟨by kernel_rfl, ?_⟩
   refine x8x rfl (fun hc15 => ?_) (fun hc15 => ?_)
   rotate_left
   ·simp at hc15
   try simp at hc15
   try have hlt := hc15
   refine x4x x7x (by rfl) ?_
   refine x2x rfl ?_
   refine y0y ⟨.inr rfl, ?_⟩
   clear hK6 K6 hK3 K3
   refine z0z rfl ?_ rfl
   exact congrArg (fun b : Bool => [AV.pv (.bool b)]) (h2.trans (a3y _ _ hbad)).symm
  try simp at hg11
  have hok : okO p = true := by simpa [okO] using hg11
  refine x1x rfl ?_
  refine y5y rfl rfl ?_
  refine y3y rfl rfl rfl ?_
  refine y5y rfl rfl ?_
  refine x1x rfl ?_
  refine s9s rfl rfl (fun hg12 => ?_) (fun hg12 => ?_)
  rotate_left
  ·try simp at hg12
   have hi0 : i = 0 := by omega
   have hlast : a9d l i = none := by rw [hi0]; rfl
   rw [hlast] at h2
   refine x6x rfl rfl ?_
   refine x6x rfl rfl ?_
   refine x6x rfl rfl ?_
   refine x6x rfl rfl ?_
   refine x6x rfl rfl ?_
   refine x6x rfl rfl ?_
   refine x6x rfl rfl ?_
   refine y5y rfl rfl ?_
   refine y2y rfl rfl ?_
   refine y2y rfl rfl ?_
   refine ⟨by kernel_rfl, ?_⟩
   refine x8x rfl (fun hc14 => ?_) (fun hc14 => ?_)
   ·simp at hc14
   try simp at hc14
   try have hlt := hc14
   refine x9x ?_
   refine hK6 _ _ ?_
   clear hK6 K6
   refine y4y x7x (by rfl) ?_
   refine u1u (b := 1) rfl rfl (by omega) ?_
   refine x1x rfl ?_
   exact ⟨i + 1, ⟨⟨by omega, by rw [h2]; show _ = a7h okO a3c l[i]? _; rw [hp]; exact a5l _ _ hok⟩, by omega⟩, [_], (Cov.cons (t := 14) rfl Cov.nil), (Cov.cons (t := 0) rfl (Cov.cons (t := 12) rfl (Cov.cons (t := 13) rfl Cov.nil))), (HE.kill rfl HE.nil), HE.nil, rfl⟩
  try simp at hg12
  have hi0 : 0 < i := by omega
  obtain ⟨b, hb⟩ : ∃ b, l[i - 1]? = some b := ⟨_, List.getElem?_eq_getElem (by omega)⟩
  have hlast : a9d l i = some b := by obtain ⟨j, rfl⟩ : ∃ j, i = j + 1 := ⟨i - 1, by omega⟩; exact hb
  rw [hlast] at h2
  refine x1x rfl ?_
  refine y5y rfl rfl ?_
  refine x1x rfl ?_
  refine y5y rfl rfl ?_
  refine a0k (b := 1) rfl rfl (by omega) (by omega) ?_
  refine y5y rfl rfl ?_
  refine z7z rfl rfl u7u rfl u0u rfl hb ?_
  refine y5y rfl rfl ?_
  refine z6z rfl u0u rfl rfl ?_
  refine y5y rfl rfl ?_
  refine y1y rfl u0u rfl rfl rfl ?_
  refine y5y rfl rfl ?_
  refine y7y rfl rfl rfl (a4c ..) ?_
  refine y5y rfl rfl ?_
  refine w2w rfl ?_
  refine y5y rfl rfl ?_
  refine y8y rfl rfl ?_
  refine y2y rfl rfl ?_
  refine ⟨by kernel_rfl, ?_⟩
  refine x8x rfl (fun hc13 => ?_) (fun hc13 => ?_)
  rotate_left
  ·try simp at hc13
   try have hlt := hc13
   refine x9x ?_
   refine hK6 _ _ ?_
   clear hK6 K6
   refine y4y x7x (by rfl) ?_
   refine u1u (b := 1) rfl rfl (by omega) ?_
   refine x1x rfl ?_
   exact ⟨i + 1, ⟨⟨by omega, by rw [h2]; show _ = a7h okO a3c l[i]? _; rw [hp]; exact a7u _ _ hok hlt⟩, by omega⟩, [_], (Cov.cons (t := 14) rfl Cov.nil), (Cov.cons (t := 0) rfl (Cov.cons (t := 12) rfl (Cov.cons (t := 13) rfl Cov.nil))), (HE.kill rfl HE.nil), HE.nil, rfl⟩
  try simp at hc13
  try have hlt := hc13
  refine x4x x7x (by rfl) ?_
  refine x2x rfl ?_
  refine y0y ⟨.inr rfl, ?_⟩
  clear hK6 K6 hK3 K3
  refine z0z rfl ?_ rfl
  exact congrArg (fun b : Bool => [AV.pv (.bool b)]) (h2.trans (b3x _ _ hlt)).symm
theorem b3j (c : Bool) (l : List Ou) (most : Int) : a0o Tryz.prog 159 [a0z c l, .pv (.int .i64 most)] (.pv (.bool (a7i okO a3c l most))) := by
 refine z4z x7x (fn := Tryz.f159) (by kernel_rfl) (by kernel_rfl) rfl (outs := [.pv (.bool (a7i okO a3c l most))]) (by rfl) (Nat.le_of_ble_eq_true rfl) 1 ?_
 refine w9w 0 rfl fun hlen => ?_
 refine x4x x7x (by rfl) ?_
 refine x2x rfl ?_
 refine x5x fun K1 hK1 => ?_
 refine x4x x7x (by rfl) ?_
 refine x1x rfl ?_
 refine u2u rfl u7u rfl ?_
 refine x1x rfl ?_
 refine y3y rfl rfl rfl ?_
 refine x8x rfl (fun hc2 => ?_) (fun hc2 => ?_)
 ·try simp at hc2
  refine x4x x7x (by rfl) ?_
  refine x2x rfl ?_
  refine y0y ⟨.inr rfl, ?_⟩
  clear hK1 K1
  refine z0z rfl ?_ rfl
  exact congrArg (fun b : Bool => [AV.pv (.bool b)]) (a9r (by omega)).symm
 try simp at hc2
 refine x9x ?_
 refine hK1 _ _ ?_
 clear hK1 K1
 refine x5x fun K3 hK3 => ?_
 refine x4x x7x (by rfl) ?_
 refine x2x rfl ?_
 refine y6y ?_
 refine u4u (ι := Nat) (fun i γ1 => [(5, .pv (.int .i64 (i : Int)))]) (fun i γ1 => [(0, ((γ1 0), .dead))]) (fun i => i ≤ l.length ∧ a7i okO a3c l most = a7h okO a3c (a9d l i) (l.drop i)) (fun i => l.length - i) (Cov.cons (t := 0) rfl Cov.nil) HE.nil 0 ⟨by omega, b6y (by omega)⟩ [_] (Cov.cons (t := 5) rfl Cov.nil) (HE.kill rfl HE.nil) rfl fun i γ1 hi => ?_
 try dsimp only [List.cons_append, List.nil_append]
 obtain ⟨h1, h2⟩ := hi
 refine x5x fun K4 hK4 => ?_
 refine x4x x7x (by rfl) ?_
 refine x1x rfl ?_
 refine x1x rfl ?_
 refine u2u rfl u7u rfl ?_
 refine y3y rfl rfl rfl ?_
 refine x8x rfl (fun hc5 => ?_) (fun hc5 => ?_)
 rotate_left
 ·try simp at hc5
  obtain rfl : i = l.length := by omega
  rw [List.drop_length] at h2
  refine v0v ?_
  refine hK3 _ _ ?_
  clear hK4 K4 hK3 K3
  refine x4x x7x (by rfl) ?_
  refine x2x rfl ?_
  refine y0y ⟨.inr rfl, ?_⟩
  refine z0z rfl ?_ rfl
  exact congrArg (fun b : Bool => [AV.pv (.bool b)]) h2.symm
 try simp at hc5
 obtain ⟨p, hp⟩ : ∃ p, l[i]? = some p := ⟨_, List.getElem?_eq_getElem (by omega)⟩
 rw [q2q hp] at h2
 refine x9x ?_
 refine hK4 _ _ ?_
 clear hK4 K4
 refine x5x fun K6 hK6 => ?_
 refine y6y ?_
 refine x4x x7x (by rfl) ?_
 refine x1x rfl ?_
 refine x1x rfl ?_
 refine z7z rfl rfl u7u rfl u0u rfl hp ?_
 refine z6z rfl u0u rfl rfl ?_
 refine u9u (id := 0) u0u b2j rfl ?_
 refine z2z rfl rfl u0u rfl rfl rfl rfl ?_
 refine p6p x7x r2r (by rfl) ?_
 refine x0x rfl u0u rfl rfl y9y rfl rfl ?_
 refine x3x rfl y9y rfl rfl ?_
 refine y7y rfl rfl rfl (q3q ..) ?_
 refine w2w rfl ?_
 refine x1x rfl ?_
 refine s9s rfl rfl (fun hg7 => ?_) (fun hg7 => ?_)
 rotate_left
 ·try simp at hg7
  refine x6x rfl rfl ?_
  refine x6x rfl rfl ?_
  refine x6x rfl rfl ?_
  refine y8y rfl rfl ?_
  refine x1x rfl ?_
  refine x6x rfl rfl ?_
  refine x6x rfl rfl ?_
  refine x6x rfl rfl ?_
  refine x6x rfl rfl ?_
  refine y8y rfl rfl ?_
  refine x1x rfl ?_
  refine x6x rfl rfl ?_
  refine x6x rfl rfl ?_
  refine x6x rfl rfl ?_
  refine x6x rfl rfl ?_
  refine y8y rfl rfl ?_
  refine x1x rfl ?_
  refine x6x rfl rfl ?_
  refine x6x rfl rfl ?_
  refine x6x rfl rfl ?_
  refine x6x rfl rfl ?_
  refine y8y rfl rfl ?_
  refine x1x rfl ?_
  refine x6x rfl rfl ?_
  refine x6x rfl rfl ?_
  refine x6x rfl rfl ?_
  refine q1q rfl rfl ?_
  refine q1q rfl rfl ?_
  refine q1q rfl rfl ?_
  refine q1q rfl rfl ?_
  refine q1q rfl rfl ?_
  refine q1q rfl rfl ?_
  refine q1q rfl rfl ?_
  refine q1q rfl rfl ?_
  refine x6x rfl rfl ?_
  refine y8y rfl rfl ?_
  refine ⟨by kernel_rfl, ?_⟩
  refine x8x rfl (fun hc19 => ?_) (fun hc19 => ?_)
  rotate_left
  ·simp at hc19
  try simp at hc19
  try have hlt := hc19
  refine x4x x7x (by rfl) ?_
  refine x2x rfl ?_
  refine y0y ⟨.inr rfl, ?_⟩
  clear hK6 K6 hK3 K3
  refine z0z rfl ?_ rfl
  exact congrArg (fun b : Bool => [AV.pv (.bool b)]) (h2.trans (a3y _ _ (decide_eq_false (by unfold c6k; omega)))).symm
 try simp at hg7
 refine x0x rfl u0u rfl rfl y9y rfl rfl ?_
 refine y5y rfl rfl ?_
 refine x3x rfl y9y rfl rfl ?_
 refine y5y rfl rfl ?_
 refine y7y rfl rfl rfl (a5i ..) ?_
 refine y5y rfl rfl ?_
 refine w2w rfl ?_
 refine y2y rfl rfl ?_
 refine x1x rfl ?_
 refine s9s rfl rfl (fun hg8 => ?_) (fun hg8 => ?_)
 rotate_left
 ·try simp at hg8
  refine x6x rfl rfl ?_
  refine x6x rfl rfl ?_
  refine x6x rfl rfl ?_
  refine y8y rfl rfl ?_
  refine x1x rfl ?_
  refine x6x rfl rfl ?_
  refine x6x rfl rfl ?_
  refine x6x rfl rfl ?_
  refine x6x rfl rfl ?_
  refine y8y rfl rfl ?_
  refine x1x rfl ?_
  refine x6x rfl rfl ?_
  refine x6x rfl rfl ?_
  refine x6x rfl rfl ?_
  refine x6x rfl rfl ?_
  refine y8y rfl rfl ?_
  refine x1x rfl ?_
  refine x6x rfl rfl ?_
  refine x6x rfl rfl ?_
  refine x6x rfl rfl ?_
  refine q1q rfl rfl ?_
  refine q1q rfl rfl ?_
  refine q1q rfl rfl ?_
  refine q1q rfl rfl ?_
  refine q1q rfl rfl ?_
  refine q1q rfl rfl ?_
  refine q1q rfl rfl ?_
  refine q1q rfl rfl ?_
  refine x6x rfl rfl ?_
  refine y8y rfl rfl ?_
  refine ⟨by kernel_rfl, ?_⟩
  refine x8x rfl (fun hc18 => ?_) (fun hc18 => ?_)
  rotate_left
  ·simp at hc18
  try simp at hc18
  try have hlt := hc18
  refine x4x x7x (by rfl) ?_
  refine x2x rfl ?_
  refine y0y ⟨.inr rfl, ?_⟩
  clear hK6 K6 hK3 K3
  refine z0z rfl ?_ rfl
  exact congrArg (fun b : Bool => [AV.pv (.bool b)]) (h2.trans (a3y _ _ (decide_eq_false (by unfold c6k; omega)))).symm
 try simp at hg8
 refine x0x rfl u0u rfl rfl y9y rfl rfl ?_
 refine y5y rfl rfl ?_
 refine x3x rfl y9y rfl rfl ?_
 refine y5y rfl rfl ?_
 refine y7y rfl rfl rfl (q3q ..) ?_
 refine y5y rfl rfl ?_
 refine w2w rfl ?_
 refine y2y rfl rfl ?_
 refine x1x rfl ?_
 refine s9s rfl rfl (fun hg9 => ?_) (fun hg9 => ?_)
 rotate_left
 ·try simp at hg9
  refine x6x rfl rfl ?_
  refine x6x rfl rfl ?_
  refine x6x rfl rfl ?_
  refine y8y rfl rfl ?_
  refine x1x rfl ?_
  refine x6x rfl rfl ?_
  refine x6x rfl rfl ?_
  refine x6x rfl rfl ?_
  refine x6x rfl rfl ?_
  refine y8y rfl rfl ?_
  refine x1x rfl ?_
  refine x6x rfl rfl ?_
  refine x6x rfl rfl ?_
  refine x6x rfl rfl ?_
  refine q1q rfl rfl ?_
  refine q1q rfl rfl ?_
  refine q1q rfl rfl ?_
  refine q1q rfl rfl ?_
  refine q1q rfl rfl ?_
  refine q1q rfl rfl ?_
  refine q1q rfl rfl ?_
  refine q1q rfl rfl ?_
  refine x6x rfl rfl ?_
  refine y8y rfl rfl ?_
  refine ⟨by kernel_rfl, ?_⟩
  refine x8x rfl (fun hc17 => ?_) (fun hc17 => ?_)
  rotate_left
  ·simp at hc17
  try simp at hc17
  try have hlt := hc17
  refine x4x x7x (by rfl) ?_
  refine x2x rfl ?_
  refine y0y ⟨.inr rfl, ?_⟩
  clear hK6 K6 hK3 K3
  refine z0z rfl ?_ rfl
  exact congrArg (fun b : Bool => [AV.pv (.bool b)]) (h2.trans (a3y _ _ (decide_eq_false (by unfold c6k; omega)))).symm
 try simp at hg9
 refine x0x rfl u0u rfl rfl y9y rfl rfl ?_
 refine y5y rfl rfl ?_
 refine x3x rfl y9y rfl rfl ?_
 refine y5y rfl rfl ?_
 refine y7y rfl rfl rfl (q3q ..) ?_
 refine y5y rfl rfl ?_
 refine w2w rfl ?_
 refine y2y rfl rfl ?_
 refine x1x rfl ?_
 refine s9s rfl rfl (fun hg10 => ?_) (fun hg10 => ?_)
 rotate_left
 ·try simp at hg10
  refine x6x rfl rfl ?_
  refine x6x rfl rfl ?_
  refine x6x rfl rfl ?_
  refine y8y rfl rfl ?_
  refine x1x rfl ?_
  refine x6x rfl rfl ?_
  refine x6x rfl rfl ?_
  refine x6x rfl rfl ?_
  refine q1q rfl rfl ?_
  refine q1q rfl rfl ?_
  refine q1q rfl rfl ?_
  refine q1q rfl rfl ?_
  refine q1q rfl rfl ?_
  refine q1q rfl rfl ?_
  refine q1q rfl rfl ?_
  refine q1q rfl rfl ?_
  refine x6x rfl rfl ?_
  refine y8y rfl rfl ?_
  refine ⟨by kernel_rfl, ?_⟩
  refine x8x rfl (fun hc16 => ?_) (fun hc16 => ?_)
  rotate_left
  ·simp at hc16
  try simp at hc16
  try have hlt := hc16
  refine x4x x7x (by rfl) ?_
  refine x2x rfl ?_
  refine y0y ⟨.inr rfl, ?_⟩
  clear hK6 K6 hK3 K3
  refine z0z rfl ?_ rfl
  exact congrArg (fun b : Bool => [AV.pv (.bool b)]) (h2.trans (a3y _ _ (decide_eq_false (by unfold c6k; omega)))).symm
 try simp at hg10
 refine x0x rfl u0u rfl rfl y9y rfl rfl ?_
 refine y5y rfl rfl ?_
 refine x3x rfl y9y rfl rfl ?_
 refine y5y rfl rfl ?_
 refine y7y rfl rfl rfl (a6s ..) ?_
 refine y5y rfl rfl ?_
 refine w2w rfl ?_
 refine y2y rfl rfl ?_
 refine x1x rfl ?_
 refine s9s rfl rfl (fun hg11 => ?_) (fun hg11 => ?_)
 rotate_left
 ·try simp at hg11
  refine x6x rfl rfl ?_
  refine x6x rfl rfl ?_
  refine q1q rfl rfl ?_
  refine q1q rfl rfl ?_
  refine q1q rfl rfl ?_
  refine q1q rfl rfl ?_
  refine q1q rfl rfl ?_
  refine q1q rfl rfl ?_
  refine q1q rfl rfl ?_
  refine q1q rfl rfl ?_
  refine x6x rfl rfl ?_
  refine y8y rfl rfl ?_
  refine ⟨by kernel_rfl, ?_⟩
  refine x8x rfl (fun hc15 => ?_) (fun hc15 => ?_)
  rotate_left
  ·simp at hc15
  try simp at hc15
  try have hlt := hc15
  refine x4x x7x (by rfl) ?_
  refine x2x rfl ?_
  refine y0y ⟨.inr rfl, ?_⟩
  clear hK6 K6 hK3 K3
  refine z0z rfl ?_ rfl
  exact congrArg (fun b : Bool => [AV.pv (.bool b)]) (h2.trans (a3y _ _ (decide_eq_false (by unfold c6k; omega)))).symm
 try simp at hg11
 have hok : okO p = true := decide_eq_true (by unfold c6k; omega)
 refine x1x rfl ?_
 refine y5y rfl rfl ?_
 refine y3y rfl rfl rfl ?_
 refine y5y rfl rfl ?_
 refine x1x rfl ?_
 refine s9s rfl rfl (fun hg12 => ?_) (fun hg12 => ?_)
 rotate_left
 ·try simp at hg12
  have hi0 : i = 0 := by omega
  have hlast : a9d l i = none := by rw [hi0]; rfl
  rw [hlast] at h2
  refine x6x rfl rfl ?_
  refine x6x rfl rfl ?_
  refine x6x rfl rfl ?_
  refine x6x rfl rfl ?_
  refine x6x rfl rfl ?_
  refine x6x rfl rfl ?_
  refine x6x rfl rfl ?_
  refine y5y rfl rfl ?_
  refine y2y rfl rfl ?_
  refine y2y rfl rfl ?_
  refine ⟨by kernel_rfl, ?_⟩
  refine x8x rfl (fun hc14 => ?_) (fun hc14 => ?_)
  ·simp at hc14
  try simp at hc14
  try have hlt := hc14
  refine x9x ?_
  refine hK6 _ _ ?_
  clear hK6 K6
  refine y4y x7x (by rfl) ?_
  refine x1x rfl ?_
  refine u1u (b := 1) rfl rfl (by omega) ?_
  refine x2x rfl ?_
  exact ⟨i + 1, ⟨⟨by omega, by rw [h2]; show _ = a7h okO a3c l[i]? _; rw [hp]; exact a5l _ _ hok⟩, by omega⟩, [_], (Cov.cons (t := 5) rfl Cov.nil), (Cov.cons (t := 0) rfl Cov.nil), (HE.kill rfl HE.nil), HE.nil, rfl⟩
 try simp at hg12
 have hi0 : 0 < i := by omega
 obtain ⟨b, hb⟩ : ∃ b, l[i - 1]? = some b := ⟨_, List.getElem?_eq_getElem (by omega)⟩
 have hlast : a9d l i = some b := by obtain ⟨j, rfl⟩ : ∃ j, i = j + 1 := ⟨i - 1, by omega⟩; exact hb
 rw [hlast] at h2
 refine x1x rfl ?_
 refine y5y rfl rfl ?_
 refine x1x rfl ?_
 refine y5y rfl rfl ?_
 refine a0k (b := 1) rfl rfl (by omega) (by omega) ?_
 refine y5y rfl rfl ?_
 refine z7z rfl rfl u7u rfl u0u rfl hb ?_
 refine y5y rfl rfl ?_
 refine z6z rfl u0u rfl rfl ?_
 refine y5y rfl rfl ?_
 refine y1y rfl u0u rfl rfl rfl ?_
 refine y5y rfl rfl ?_
 refine y7y rfl rfl rfl (b1e ..) ?_
 refine y5y rfl rfl ?_
 refine w2w rfl ?_
 refine y5y rfl rfl ?_
 refine y8y rfl rfl ?_
 refine y2y rfl rfl ?_
 refine ⟨by kernel_rfl, ?_⟩
 refine x8x rfl (fun hc13 => ?_) (fun hc13 => ?_)
 rotate_left
 ·try simp at hc13
  try have hlt := hc13
  refine x9x ?_
  refine hK6 _ _ ?_
  clear hK6 K6
  refine y4y x7x (by rfl) ?_
  refine x1x rfl ?_
  refine u1u (b := 1) rfl rfl (by omega) ?_
  refine x2x rfl ?_
  exact ⟨i + 1, ⟨⟨by omega, by rw [h2]; show _ = a7h okO a3c l[i]? _; rw [hp]; exact a7u _ _ hok hlt⟩, by omega⟩, [_], (Cov.cons (t := 5) rfl Cov.nil), (Cov.cons (t := 0) rfl Cov.nil), (HE.kill rfl HE.nil), HE.nil, rfl⟩
 try simp at hc13
 try have hlt := hc13
 refine x4x x7x (by rfl) ?_
 refine x2x rfl ?_
 refine y0y ⟨.inr rfl, ?_⟩
 clear hK6 K6 hK3 K3
 refine z0z rfl ?_ rfl
 exact congrArg (fun b : Bool => [AV.pv (.bool b)]) (h2.trans (b3x _ _ hlt)).symm
end
section
theorem c2a (c : Bool) (p : Pa) (proc : Int) : a0o Tryz.prog 197 [.agg (a2j c p), .pv (.int .i64 proc)] (.pv (.bool (b2t proc p))) := by
 refine z4z x7x (fn := Tryz.f197) (by kernel_rfl) (by kernel_rfl) rfl (outs := [.pv (.bool (b2t proc p))]) (by rfl) (Nat.le_of_ble_eq_true rfl) 1 ?_
 refine x4x x7x (by rfl) ?_
 refine v5v (id := 0) rfl rfl rfl ?_
 refine x2x rfl ?_
 refine x4x x7x (by rfl) ?_
 refine x0x rfl v8v rfl rfl z1z rfl rfl ?_
 refine x3x (out := .agg (w0w p.ev)) rfl z1z rfl rfl ?_
 refine y7y rfl rfl rfl (b1d ..) ?_
 refine x1x rfl ?_
 refine s9s rfl rfl (fun hg1 => ?_) (fun hg1 => ?_)
 rotate_left
 ·try simp at hg1
  refine x6x rfl rfl ?_
  refine x6x rfl rfl ?_
  refine x6x rfl rfl ?_
  refine x6x rfl rfl ?_
  refine y2y rfl rfl ?_
  refine x1x rfl ?_
  refine x6x rfl rfl ?_
  refine x6x rfl rfl ?_
  refine x6x rfl rfl ?_
  refine y2y rfl rfl ?_
  refine x1x rfl ?_
  refine x6x rfl rfl ?_
  refine x6x rfl rfl ?_
  refine x6x rfl rfl ?_
  refine y2y rfl rfl ?_
  refine x1x rfl ?_
  refine x6x rfl rfl ?_
  refine x6x rfl rfl ?_
  refine x6x rfl rfl ?_
  refine y2y rfl rfl ?_
  refine x2x rfl ?_
  refine y0y ⟨.inr rfl, ?_⟩
  refine z0z rfl ?_ rfl
  simp [b2t, *]
 try simp at hg1
 refine x0x rfl v8v rfl rfl z1z rfl rfl ?_
 refine y5y rfl rfl ?_
 refine x0x rfl z1z rfl rfl y9y rfl rfl ?_
 refine y5y rfl rfl ?_
 refine x3x rfl y9y rfl rfl ?_
 refine y5y rfl rfl ?_
 refine x1x rfl ?_
 refine y5y rfl rfl ?_
 refine y3y rfl rfl rfl ?_
 refine y8y rfl rfl ?_
 refine x1x rfl ?_
 refine s9s rfl rfl (fun hg2 => ?_) (fun hg2 => ?_)
 rotate_left
 ·try simp at hg2
  refine x6x rfl rfl ?_
  refine x6x rfl rfl ?_
  refine y2y rfl rfl ?_
  refine x1x rfl ?_
  refine x6x rfl rfl ?_
  refine x6x rfl rfl ?_
  refine x6x rfl rfl ?_
  refine y2y rfl rfl ?_
  refine x1x rfl ?_
  refine x6x rfl rfl ?_
  refine x6x rfl rfl ?_
  refine x6x rfl rfl ?_
  refine y2y rfl rfl ?_
  refine x2x rfl ?_
  refine y0y ⟨.inr rfl, ?_⟩
  refine z0z rfl ?_ rfl
  simp [b2t, *]
 try simp at hg2
 refine x0x rfl v8v rfl rfl p5p rfl rfl ?_
 refine y5y rfl rfl ?_
 refine x3x (out := .agg (a0b p.after)) rfl p5p rfl rfl ?_
 refine y5y rfl rfl ?_
 refine y7y rfl rfl rfl (b1c ..) ?_
 refine y8y rfl rfl ?_
 refine x1x rfl ?_
 refine s9s rfl rfl (fun hg3 => ?_) (fun hg3 => ?_)
 rotate_left
 ·try simp at hg3
  refine x6x rfl rfl ?_
  refine x6x rfl rfl ?_
  refine y2y rfl rfl ?_
  refine x1x rfl ?_
  refine x6x rfl rfl ?_
  refine x6x rfl rfl ?_
  refine x6x rfl rfl ?_
  refine y2y rfl rfl ?_
  refine x2x rfl ?_
  refine y0y ⟨.inr rfl, ?_⟩
  refine z0z rfl ?_ rfl
  simp [b2t, *]
 try simp at hg3
 refine x0x rfl v8v rfl rfl u6u rfl rfl ?_
 refine y5y rfl rfl ?_
 refine x3x rfl u6u rfl rfl ?_
 refine y5y rfl rfl ?_
 refine y7y rfl rfl rfl (a6e ..) ?_
 refine y8y rfl rfl ?_
 refine x1x rfl ?_
 refine s9s rfl rfl (fun hg4 => ?_) (fun hg4 => ?_)
 rotate_left
 ·try simp at hg4
  refine x6x rfl rfl ?_
  refine x6x rfl rfl ?_
  refine y2y rfl rfl ?_
  refine x2x rfl ?_
  refine y0y ⟨.inr rfl, ?_⟩
  refine z0z rfl ?_ rfl
  simp [b2t, *]
 try simp at hg4
 refine x0x rfl v8v rfl rfl u7u rfl rfl ?_
 refine y5y rfl rfl ?_
 refine x3x rfl u7u rfl rfl ?_
 refine y5y rfl rfl ?_
 refine y7y rfl rfl rfl (b3i ..) ?_
 refine y8y rfl rfl ?_
 refine x2x rfl ?_
 refine y0y ⟨.inr rfl, ?_⟩
 refine z0z rfl ?_ rfl
 simp [b2t, *]
theorem b4z (c : Bool) (p : Pa) (proc : Int) : a0o Tryz.prog 130 [.agg (a2j c p), .pv (.int .i64 proc)] (.pv (.bool (b2t proc p))) := by
 refine z4z x7x (fn := Tryz.f130) (by kernel_rfl) (by kernel_rfl) rfl (outs := [.pv (.bool (b2t proc p))]) (by rfl) (Nat.le_of_ble_eq_true rfl) 1 ?_
 refine x4x x7x (by rfl) ?_
 refine v5v (id := 0) rfl rfl rfl ?_
 refine x2x rfl ?_
 refine x4x x7x (by rfl) ?_
 refine x0x rfl v8v rfl rfl z1z rfl rfl ?_
 refine x3x (out := .agg (w0w p.ev)) rfl z1z rfl rfl ?_
 refine y7y rfl rfl rfl (a9b ..) ?_
 refine x1x rfl ?_
 refine s9s rfl rfl (fun hg1 => ?_) (fun hg1 => ?_)
 rotate_left
 ·try simp at hg1
  refine x6x rfl rfl ?_
  refine x6x rfl rfl ?_
  refine x6x rfl rfl ?_
  refine x6x rfl rfl ?_
  refine y2y rfl rfl ?_
  refine x1x rfl ?_
  refine x6x rfl rfl ?_
  refine x6x rfl rfl ?_
  refine x6x rfl rfl ?_
  refine y2y rfl rfl ?_
  refine x1x rfl ?_
  refine x6x rfl rfl ?_
  refine x6x rfl rfl ?_
  refine x6x rfl rfl ?_
  refine y2y rfl rfl ?_
  refine x1x rfl ?_
  refine x6x rfl rfl ?_
  refine x6x rfl rfl ?_
  refine x6x rfl rfl ?_
  refine y2y rfl rfl ?_
  refine x2x rfl ?_
  refine y0y ⟨.inr rfl, ?_⟩
  refine z0z rfl ?_ rfl
  simp [b2t, *]
 try simp at hg1
 refine x0x rfl v8v rfl rfl z1z rfl rfl ?_
 refine y5y rfl rfl ?_
 refine x0x rfl z1z rfl rfl y9y rfl rfl ?_
 refine y5y rfl rfl ?_
 refine x3x rfl y9y rfl rfl ?_
 refine y5y rfl rfl ?_
 refine x1x rfl ?_
 refine y5y rfl rfl ?_
 refine y3y rfl rfl rfl ?_
 refine y8y rfl rfl ?_
 refine x1x rfl ?_
 refine s9s rfl rfl (fun hg2 => ?_) (fun hg2 => ?_)
 rotate_left
 ·try simp at hg2
  refine x6x rfl rfl ?_
  refine x6x rfl rfl ?_
  refine y2y rfl rfl ?_
  refine x1x rfl ?_
  refine x6x rfl rfl ?_
  refine x6x rfl rfl ?_
  refine x6x rfl rfl ?_
  refine y2y rfl rfl ?_
  refine x1x rfl ?_
  refine x6x rfl rfl ?_
  refine x6x rfl rfl ?_
  refine x6x rfl rfl ?_
  refine y2y rfl rfl ?_
  refine x2x rfl ?_
  refine y0y ⟨.inr rfl, ?_⟩
  refine z0z rfl ?_ rfl
  simp [b2t, *]
 try simp at hg2
 refine x0x rfl v8v rfl rfl p5p rfl rfl ?_
 refine y5y rfl rfl ?_
 refine x3x (out := .agg (a0b p.after)) rfl p5p rfl rfl ?_
 refine y5y rfl rfl ?_
 refine y7y rfl rfl rfl (a8z ..) ?_
 refine y8y rfl rfl ?_
 refine x1x rfl ?_
 refine s9s rfl rfl (fun hg3 => ?_) (fun hg3 => ?_)
 rotate_left
 ·try simp at hg3
  refine x6x rfl rfl ?_
  refine x6x rfl rfl ?_
  refine y2y rfl rfl ?_
  refine x1x rfl ?_
  refine x6x rfl rfl ?_
  refine x6x rfl rfl ?_
  refine x6x rfl rfl ?_
  refine y2y rfl rfl ?_
  refine x2x rfl ?_
  refine y0y ⟨.inr rfl, ?_⟩
  refine z0z rfl ?_ rfl
  simp [b2t, *]
 try simp at hg3
 refine x0x rfl v8v rfl rfl u6u rfl rfl ?_
 refine y5y rfl rfl ?_
 refine x3x rfl u6u rfl rfl ?_
 refine y5y rfl rfl ?_
 refine y7y rfl rfl rfl (a3n ..) ?_
 refine y8y rfl rfl ?_
 refine x1x rfl ?_
 refine s9s rfl rfl (fun hg4 => ?_) (fun hg4 => ?_)
 rotate_left
 ·try simp at hg4
  refine x6x rfl rfl ?_
  refine x6x rfl rfl ?_
  refine y2y rfl rfl ?_
  refine x2x rfl ?_
  refine y0y ⟨.inr rfl, ?_⟩
  refine z0z rfl ?_ rfl
  simp [b2t, *]
 try simp at hg4
 refine x0x rfl v8v rfl rfl u7u rfl rfl ?_
 refine y5y rfl rfl ?_
 refine x3x rfl u7u rfl rfl ?_
 refine y5y rfl rfl ?_
 refine y7y rfl rfl rfl (b3j ..) ?_
 refine y8y rfl rfl ?_
 refine x2x rfl ?_
 refine y0y ⟨.inr rfl, ?_⟩
 refine z0z rfl ?_ rfl
 simp [b2t, *]
theorem a3o  : a0o Tryz.prog 129 [] (.pv (.int .i64 100)) := by
 refine z4z x7x (fn := Tryz.f129) (by kernel_rfl) (by kernel_rfl) rfl (outs := [.pv (.int .i64 100)]) (by rfl) (Nat.le_of_ble_eq_true rfl) 0 ?_
 refine x4x x7x (by rfl) ?_
 refine x2x rfl ?_
 refine x4x x7x (by rfl) ?_
 refine x2x rfl ?_
 refine y0y ⟨.inr rfl, ?_⟩
 exact z0z rfl rfl rfl
theorem c2b (c : Bool) (l : La) : a0o Tryz.prog 123 [.agg (a0m c l)] (.pv (.bool (a6v l))) := by
 refine z4z x7x (fn := Tryz.f123) (by kernel_rfl) (by kernel_rfl) rfl (outs := [.pv (.bool (a6v l))]) (by rfl) (Nat.le_of_ble_eq_true rfl) 2 ?_
 refine x4x x7x (by rfl) ?_
 refine v5v (id := 0) rfl rfl rfl ?_
 refine x2x rfl ?_
 refine x5x fun K1 hK1 => ?_
 refine x4x x7x (by rfl) ?_
 refine x0x rfl v2v rfl rfl y9y rfl rfl ?_
 refine x3x rfl y9y rfl rfl ?_
 refine y7y rfl rfl rfl (a5h ..) ?_
 refine w2w rfl ?_
 refine x1x rfl ?_
 refine s9s rfl rfl (fun hg2 => ?_) (fun hg2 => ?_)
 rotate_left
 ·try simp at hg2
  have hn1 : ¬ (0 ≤ l.proc ∧ l.proc ≤ 3) := by omega
  refine x6x rfl rfl ?_
  refine x6x rfl rfl ?_
  refine x6x rfl rfl ?_
  refine y8y rfl rfl ?_
  refine x1x rfl ?_
  refine x6x rfl rfl ?_
  refine x6x rfl rfl ?_
  refine x6x rfl rfl ?_
  refine x6x rfl rfl ?_
  refine y8y rfl rfl ?_
  refine x8x rfl (fun hc15 => ?_) (fun hc15 => ?_)
  rotate_left
  ·simp at hc15
  try simp at hc15
  try have hn3 : ¬ l.done.length ≤ 100 := by omega
  refine x4x x7x (by rfl) ?_
  refine x2x rfl ?_
  refine y0y ⟨.inr rfl, ?_⟩
  clear hK1 K1
  refine z0z rfl ?_ rfl
  exact congrArg (fun b : Bool => [AV.pv (.bool b)]) (d4c hn1).symm
 try simp at hg2
 have hc1 : 0 ≤ l.proc ∧ l.proc ≤ 3 := by exact hg2
 refine x0x rfl v2v rfl rfl p5p rfl rfl ?_
 refine y5y rfl rfl ?_
 refine x3x (out := .agg (a0b l.base)) rfl p5p rfl rfl ?_
 refine y5y rfl rfl ?_
 refine y7y rfl rfl rfl (b1c ..) ?_
 refine y5y rfl rfl ?_
 refine w2w rfl ?_
 refine y2y rfl rfl ?_
 refine x1x rfl ?_
 refine s9s rfl rfl (fun hg3 => ?_) (fun hg3 => ?_)
 rotate_left
 ·try simp at hg3
  have hn2 : ¬ b9o l.base := by exact hg3
  refine x6x rfl rfl ?_
  refine x6x rfl rfl ?_
  refine x6x rfl rfl ?_
  refine y8y rfl rfl ?_
  refine x8x rfl (fun hc14 => ?_) (fun hc14 => ?_)
  rotate_left
  ·simp at hc14
  try simp at hc14
  try have hn3 : ¬ l.done.length ≤ 100 := by omega
  refine x4x x7x (by rfl) ?_
  refine x2x rfl ?_
  refine y0y ⟨.inr rfl, ?_⟩
  clear hK1 K1
  refine z0z rfl ?_ rfl
  exact congrArg (fun b : Bool => [AV.pv (.bool b)]) (d4e hn2).symm
 try simp at hg3
 have hc2 : b9o l.base := by exact hg3
 refine x0x rfl v2v rfl rfl v3v rfl rfl ?_
 refine y5y rfl rfl ?_
 refine x3x rfl v3v rfl rfl ?_
 refine y5y rfl rfl ?_
 refine u2u rfl v3v rfl ?_
 refine y5y rfl rfl ?_
 refine y3y rfl rfl rfl ?_
 refine y2y rfl rfl ?_
 refine x8x rfl (fun hc4 => ?_) (fun hc4 => ?_)
 ·try simp at hc4
  try have hn3 : ¬ l.done.length ≤ 100 := by omega
  refine x4x x7x (by rfl) ?_
  refine x2x rfl ?_
  refine y0y ⟨.inr rfl, ?_⟩
  clear hK1 K1
  refine z0z rfl ?_ rfl
  exact congrArg (fun b : Bool => [AV.pv (.bool b)]) (d4f hn3).symm
 try simp at hc4
 have hc3 : l.done.length ≤ 100 := by omega
 refine x9x ?_
 refine hK1 _ _ ?_
 clear hK1 K1
 refine x5x fun K5 hK5 => ?_
 refine x4x x7x (by rfl) ?_
 refine x0x rfl v2v rfl rfl v3v rfl rfl ?_
 refine x3x rfl v3v rfl rfl ?_
 refine u2u rfl v3v rfl ?_
 refine x1x rfl ?_
 refine y6y ?_
 refine u4u (ι := Nat) (fun i γ1 => [(24, .pv (.int .i64 (i : Int)))]) (fun i γ1 => [(1, ((γ1 1), .dead))]) (fun i => i ≤ l.done.length ∧ a6v l = a7h (b2t l.proc) d4b (a9d l.done i) (l.done.drop i)) (fun i => l.done.length - i) (Cov.cons (t := 1) rfl (Cov.cons (t := 22) rfl (Cov.cons (t := 23) rfl Cov.nil))) (HE.same (id := 0) rfl HE.nil) 0 ⟨by omega, d0t hc1 hc2 hc3⟩ [0, _] (Cov.cons (t := 24) rfl Cov.nil) (HE.kill rfl HE.nil) rfl fun i γ1 hi => ?_
 try dsimp only [List.cons_append, List.nil_append]
 obtain ⟨h1, h2⟩ := hi
 refine x4x x7x (by rfl) ?_
 refine y3y rfl rfl rfl ?_
 refine x5x fun K6 hK6 => ?_
 refine x8x rfl (fun hc7 => ?_) (fun hc7 => ?_)
 rotate_left
 ·try simp at hc7
  obtain rfl : i = l.done.length := by omega
  rw [List.drop_length] at h2
  refine v0v ?_
  refine hK5 _ _ ?_
  clear hK6 K6 hK5 K5
  refine x4x x7x (by rfl) ?_
  refine x2x rfl ?_
  refine y0y ⟨.inr rfl, ?_⟩
  refine z0z rfl ?_ rfl
  exact congrArg (fun b : Bool => [AV.pv (.bool b)]) h2.symm
 try simp at hc7
 obtain ⟨p, hp⟩ : ∃ p, l.done[i]? = some p := ⟨_, List.getElem?_eq_getElem (by omega)⟩
 rw [q2q hp] at h2
 refine x9x ?_
 refine hK6 _ _ ?_
 clear hK6 K6
 refine x5x fun K8 hK8 => ?_
 refine y6y ?_
 refine x4x x7x (by rfl) ?_
 refine x1x rfl ?_
 refine z7z rfl rfl v3v rfl v8v rfl hp ?_
 refine z6z rfl v8v rfl rfl ?_
 refine u9u (id := 1) v8v b6f rfl ?_
 refine x2x rfl ?_
 refine z2z rfl rfl v8v rfl rfl rfl rfl ?_
 refine p6p x7x r2r (by rfl) ?_
 refine y1y rfl v8v rfl rfl rfl ?_
 refine x0x rfl v2v rfl rfl y9y rfl rfl ?_
 refine x3x rfl y9y rfl rfl ?_
 refine y7y rfl rfl rfl (c2a ..) ?_
 refine w2w rfl ?_
 refine x1x rfl ?_
 refine s9s rfl rfl (fun hg9 => ?_) (fun hg9 => ?_)
 rotate_left
 ·try simp at hg9
  have hbad : b2t l.proc p = false := by simpa using hg9
  refine x6x rfl rfl ?_
  refine x6x rfl rfl ?_
  refine q1q rfl rfl ?_
  refine q1q rfl rfl ?_
  refine q1q rfl rfl ?_
  refine q1q rfl rfl ?_
  refine q1q rfl rfl ?_
  refine q1q rfl rfl ?_
  refine q1q rfl rfl ?_
  refine q1q rfl rfl ?_
  refine q1q rfl rfl ?_
  refine q1q rfl rfl ?_
  refine q1q rfl rfl ?_
  refine x6x rfl rfl ?_
  refine y8y rfl rfl ?_
  refine ⟨by kernel_rfl, ?_⟩
  refine x8x rfl (fun hc13 => ?_) (fun hc13 => ?_)
  rotate_left
  ·simp at hc13
  try simp at hc13
  try have hlt := hc13
  refine x4x x7x (by rfl) ?_
  refine x2x rfl ?_
  refine y0y ⟨.inr rfl, ?_⟩
  clear hK8 K8 hK5 K5
  refine z0z rfl ?_ rfl
  exact congrArg (fun b : Bool => [AV.pv (.bool b)]) (h2.trans (a3y _ _ hbad)).symm
 try simp at hg9
 have hok : b2t l.proc p = true := by simpa using hg9
 refine x1x rfl ?_
 refine y5y rfl rfl ?_
 refine y3y rfl rfl rfl ?_
 refine y5y rfl rfl ?_
 refine x1x rfl ?_
 refine s9s rfl rfl (fun hg10 => ?_) (fun hg10 => ?_)
 rotate_left
 ·try simp at hg10
  have hi0 : i = 0 := by omega
  have hlast : a9d l.done i = none := by rw [hi0]; rfl
  rw [hlast] at h2
  refine x6x rfl rfl ?_
  refine x6x rfl rfl ?_
  refine x6x rfl rfl ?_
  refine x6x rfl rfl ?_
  refine x6x rfl rfl ?_
  refine x6x rfl rfl ?_
  refine x6x rfl rfl ?_
  refine x6x rfl rfl ?_
  refine x6x rfl rfl ?_
  refine x6x rfl rfl ?_
  refine y5y rfl rfl ?_
  refine y2y rfl rfl ?_
  refine y2y rfl rfl ?_
  refine ⟨by kernel_rfl, ?_⟩
  refine x8x rfl (fun hc12 => ?_) (fun hc12 => ?_)
  ·simp at hc12
  try simp at hc12
  try have hlt := hc12
  refine x9x ?_
  refine hK8 _ _ ?_
  clear hK8 K8
  refine y4y x7x (by rfl) ?_
  refine u1u (b := 1) rfl rfl (by omega) ?_
  refine x1x rfl ?_
  exact ⟨i + 1, ⟨⟨by omega, by rw [h2]; show _ = a7h (b2t l.proc) d4b l.done[i]? _; rw [hp]; exact a5l _ _ hok⟩, by omega⟩, [0, _], (Cov.cons (t := 24) rfl Cov.nil), (Cov.cons (t := 1) rfl (Cov.cons (t := 22) rfl (Cov.cons (t := 23) rfl Cov.nil))), (HE.kill rfl HE.nil), (HE.same (id := 0) rfl HE.nil), rfl⟩
 try simp at hg10
 have hi0 : 0 < i := by omega
 obtain ⟨b, hb⟩ : ∃ b, l.done[i - 1]? = some b := ⟨_, List.getElem?_eq_getElem (by omega)⟩
 have hlast : a9d l.done i = some b := by obtain ⟨j, rfl⟩ : ∃ j, i = j + 1 := ⟨i - 1, by omega⟩; exact hb
 rw [hlast] at h2
 refine x0x rfl v2v rfl rfl v3v rfl rfl ?_
 refine y5y rfl rfl ?_
 refine x3x rfl v3v rfl rfl ?_
 refine y5y rfl rfl ?_
 refine x1x rfl ?_
 refine y5y rfl rfl ?_
 refine a0k (b := 1) rfl rfl (by omega) (by omega) ?_
 refine y5y rfl rfl ?_
 refine z7z rfl rfl v3v rfl v8v rfl hb ?_
 refine y5y rfl rfl ?_
 refine x0x rfl v8v rfl rfl z1z rfl rfl ?_
 refine y5y rfl rfl ?_
 refine z3z (out := .agg (w0w b.ev)) rfl z1z rfl ?_
 refine y5y rfl rfl ?_
 refine x0x rfl v8v rfl rfl z1z rfl rfl ?_
 refine y5y rfl rfl ?_
 refine x3x (out := .agg (w0w p.ev)) rfl z1z rfl rfl ?_
 refine y5y rfl rfl ?_
 refine y7y rfl rfl rfl (a8x ..) ?_
 refine y5y rfl rfl ?_
 refine w2w rfl ?_
 refine y5y rfl rfl ?_
 refine y8y rfl rfl ?_
 refine y2y rfl rfl ?_
 refine ⟨by kernel_rfl, ?_⟩
 refine x8x rfl (fun hc11 => ?_) (fun hc11 => ?_)
 rotate_left
 ·try simp at hc11
  try have hlt := hc11
  refine x9x ?_
  refine hK8 _ _ ?_
  clear hK8 K8
  refine y4y x7x (by rfl) ?_
  refine u1u (b := 1) rfl rfl (by omega) ?_
  refine x1x rfl ?_
  exact ⟨i + 1, ⟨⟨by omega, by rw [h2]; show _ = a7h (b2t l.proc) d4b l.done[i]? _; rw [hp]; exact a7u _ _ hok hlt⟩, by omega⟩, [0, _], (Cov.cons (t := 24) rfl Cov.nil), (Cov.cons (t := 1) rfl (Cov.cons (t := 22) rfl (Cov.cons (t := 23) rfl Cov.nil))), (HE.kill rfl HE.nil), (HE.same (id := 0) rfl HE.nil), rfl⟩
 try simp at hc11
 try have hlt := hc11
 refine x4x x7x (by rfl) ?_
 refine x2x rfl ?_
 refine y0y ⟨.inr rfl, ?_⟩
 clear hK8 K8 hK5 K5
 refine z0z rfl ?_ rfl
 exact congrArg (fun b : Bool => [AV.pv (.bool b)]) (h2.trans (b3x _ _ hlt)).symm
theorem a8s (c : Bool) (l : La) : a0o Tryz.prog 49 [.agg (a0m c l)] (.pv (.bool (a6v l))) := by
 refine z4z x7x (fn := Tryz.f49) (by kernel_rfl) (by kernel_rfl) rfl (outs := [.pv (.bool (a6v l))]) (by rfl) (Nat.le_of_ble_eq_true rfl) 1 ?_
 refine x4x x7x (by rfl) ?_
 refine v5v (id := 0) rfl rfl rfl ?_
 refine x2x rfl ?_
 refine x5x fun K1 hK1 => ?_
 refine p6p x7x r2r (by rfl) ?_
 refine x0x rfl v2v rfl rfl y9y rfl rfl ?_
 refine x3x rfl y9y rfl rfl ?_
 refine y7y rfl rfl rfl (a5i ..) ?_
 refine w2w rfl ?_
 refine x1x rfl ?_
 refine s9s rfl rfl (fun hg2 => ?_) (fun hg2 => ?_)
 rotate_left
 ·try simp at hg2
  have hn1 : ¬ (0 ≤ l.proc ∧ l.proc ≤ 3) := by omega
  refine x6x rfl rfl ?_
  refine x6x rfl rfl ?_
  refine x6x rfl rfl ?_
  refine y8y rfl rfl ?_
  refine x1x rfl ?_
  refine x6x rfl rfl ?_
  refine x6x rfl rfl ?_
  refine x6x rfl rfl ?_
  refine x6x rfl rfl ?_
  refine x6x rfl rfl ?_
  refine y8y rfl rfl ?_
  refine ⟨by kernel_rfl, ?_⟩
  refine x8x rfl (fun hc15 => ?_) (fun hc15 => ?_)
  rotate_left
  ·simp at hc15
  try simp at hc15
  try have hn3 : ¬ l.done.length ≤ 100 := by omega
  refine x4x x7x (by rfl) ?_
  refine x2x rfl ?_
  refine y0y ⟨.inr rfl, ?_⟩
  clear hK1 K1
  refine z0z rfl ?_ rfl
  exact congrArg (fun b : Bool => [AV.pv (.bool b)]) (d4c hn1).symm
 try simp at hg2
 have hc1 : 0 ≤ l.proc ∧ l.proc ≤ 3 := by exact hg2
 refine x0x rfl v2v rfl rfl p5p rfl rfl ?_
 refine y5y rfl rfl ?_
 refine x3x (out := .agg (a0b l.base)) rfl p5p rfl rfl ?_
 refine y5y rfl rfl ?_
 refine y7y rfl rfl rfl (a8z ..) ?_
 refine y5y rfl rfl ?_
 refine w2w rfl ?_
 refine y2y rfl rfl ?_
 refine x1x rfl ?_
 refine s9s rfl rfl (fun hg3 => ?_) (fun hg3 => ?_)
 rotate_left
 ·try simp at hg3
  have hn2 : ¬ b9o l.base := by exact hg3
  refine x6x rfl rfl ?_
  refine x6x rfl rfl ?_
  refine x6x rfl rfl ?_
  refine x6x rfl rfl ?_
  refine y8y rfl rfl ?_
  refine ⟨by kernel_rfl, ?_⟩
  refine x8x rfl (fun hc14 => ?_) (fun hc14 => ?_)
  rotate_left
  ·simp at hc14
  try simp at hc14
  try have hn3 : ¬ l.done.length ≤ 100 := by omega
  refine x4x x7x (by rfl) ?_
  refine x2x rfl ?_
  refine y0y ⟨.inr rfl, ?_⟩
  clear hK1 K1
  refine z0z rfl ?_ rfl
  exact congrArg (fun b : Bool => [AV.pv (.bool b)]) (d4e hn2).symm
 try simp at hg3
 have hc2 : b9o l.base := by exact hg3
 refine x0x rfl v2v rfl rfl v3v rfl rfl ?_
 refine y5y rfl rfl ?_
 refine x3x rfl v3v rfl rfl ?_
 refine y5y rfl rfl ?_
 refine u2u rfl v3v rfl ?_
 refine y5y rfl rfl ?_
 refine y7y rfl rfl rfl (a3o ..) ?_
 refine y5y rfl rfl ?_
 refine y3y rfl rfl rfl ?_
 refine y2y rfl rfl ?_
 refine ⟨by kernel_rfl, ?_⟩
 refine x8x rfl (fun hc4 => ?_) (fun hc4 => ?_)
 ·try simp at hc4
  try have hn3 : ¬ l.done.length ≤ 100 := by omega
  refine x4x x7x (by rfl) ?_
  refine x2x rfl ?_
  refine y0y ⟨.inr rfl, ?_⟩
  clear hK1 K1
  refine z0z rfl ?_ rfl
  exact congrArg (fun b : Bool => [AV.pv (.bool b)]) (d4f hn3).symm
 try simp at hc4
 have hc3 : l.done.length ≤ 100 := by omega
 refine x9x ?_
 refine hK1 _ _ ?_
 clear hK1 K1
 refine x5x fun K5 hK5 => ?_
 refine x4x x7x (by rfl) ?_
 refine x2x rfl ?_
 refine y6y ?_
 refine u4u (ι := Nat) (fun i γ1 => [(3, .pv (.int .i64 (i : Int)))]) (fun i γ1 => []) (fun i => i ≤ l.done.length ∧ a6v l = a7h (b2t l.proc) d4b (a9d l.done i) (l.done.drop i)) (fun i => l.done.length - i) (Cov.cons (t := 1) rfl Cov.nil) (HE.same (id := 0) rfl HE.nil) 0 ⟨by omega, d0t hc1 hc2 hc3⟩ [] (Cov.cons (t := 3) rfl Cov.nil) HE.nil rfl fun i γ1 hi => ?_
 try dsimp only [List.cons_append, List.nil_append]
 obtain ⟨h1, h2⟩ := hi
 refine x5x fun K6 hK6 => ?_
 refine x4x x7x (by rfl) ?_
 refine x1x rfl ?_
 refine x0x rfl v2v rfl rfl v3v rfl rfl ?_
 refine x3x rfl v3v rfl rfl ?_
 refine u2u rfl v3v rfl ?_
 refine y3y rfl rfl rfl ?_
 refine x8x rfl (fun hc7 => ?_) (fun hc7 => ?_)
 rotate_left
 ·try simp at hc7
  obtain rfl : i = l.done.length := by omega
  rw [List.drop_length] at h2
  refine v0v ?_
  refine hK5 _ _ ?_
  clear hK6 K6 hK5 K5
  refine x4x x7x (by rfl) ?_
  refine x2x rfl ?_
  refine y0y ⟨.inr rfl, ?_⟩
  refine z0z rfl ?_ rfl
  exact congrArg (fun b : Bool => [AV.pv (.bool b)]) h2.symm
 try simp at hc7
 obtain ⟨p, hp⟩ : ∃ p, l.done[i]? = some p := ⟨_, List.getElem?_eq_getElem (by omega)⟩
 rw [q2q hp] at h2
 refine x9x ?_
 refine hK6 _ _ ?_
 clear hK6 K6
 refine x5x fun K8 hK8 => ?_
 refine y6y ?_
 refine p6p x7x r2r (by rfl) ?_
 refine x0x rfl v2v rfl rfl v3v rfl rfl ?_
 refine x3x rfl v3v rfl rfl ?_
 refine x1x rfl ?_
 refine z7z rfl rfl v3v rfl v8v rfl hp ?_
 refine z6z rfl v8v rfl rfl ?_
 refine x0x rfl v2v rfl rfl y9y rfl rfl ?_
 refine x3x rfl y9y rfl rfl ?_
 refine y7y rfl rfl rfl (b4z ..) ?_
 refine w2w rfl ?_
 refine x1x rfl ?_
 refine s9s rfl rfl (fun hg9 => ?_) (fun hg9 => ?_)
 rotate_left
 ·try simp at hg9
  have hbad : b2t l.proc p = false := by simpa using hg9
  refine x6x rfl rfl ?_
  refine x6x rfl rfl ?_
  refine q1q rfl rfl ?_
  refine q1q rfl rfl ?_
  refine q1q rfl rfl ?_
  refine q1q rfl rfl ?_
  refine q1q rfl rfl ?_
  refine q1q rfl rfl ?_
  refine q1q rfl rfl ?_
  refine q1q rfl rfl ?_
  refine q1q rfl rfl ?_
  refine q1q rfl rfl ?_
  refine q1q rfl rfl ?_
  refine q1q rfl rfl ?_
  refine q1q rfl rfl ?_
  refine q1q rfl rfl ?_
  refine q1q rfl rfl ?_
  refine x6x rfl rfl ?_
  refine y8y rfl rfl ?_
  refine ⟨by kernel_rfl, ?_⟩
  refine x8x rfl (fun hc13 => ?_) (fun hc13 => ?_)
  rotate_left
  ·simp at hc13
  try simp at hc13
  try have hlt := hc13
  refine x4x x7x (by rfl) ?_
  refine x2x rfl ?_
  refine y0y ⟨.inr rfl, ?_⟩
  clear hK8 K8 hK5 K5
  refine z0z rfl ?_ rfl
  exact congrArg (fun b : Bool => [AV.pv (.bool b)]) (h2.trans (a3y _ _ hbad)).symm
 try simp at hg9
 have hok : b2t l.proc p = true := by simpa using hg9
 refine x1x rfl ?_
 refine y5y rfl rfl ?_
 refine y3y rfl rfl rfl ?_
 refine y5y rfl rfl ?_
 refine x1x rfl ?_
 refine s9s rfl rfl (fun hg10 => ?_) (fun hg10 => ?_)
 rotate_left
 ·try simp at hg10
  have hi0 : i = 0 := by omega
  have hlast : a9d l.done i = none := by rw [hi0]; rfl
  rw [hlast] at h2
  refine x6x rfl rfl ?_
  refine x6x rfl rfl ?_
  refine x6x rfl rfl ?_
  refine x6x rfl rfl ?_
  refine x6x rfl rfl ?_
  refine x6x rfl rfl ?_
  refine x6x rfl rfl ?_
  refine x6x rfl rfl ?_
  refine x6x rfl rfl ?_
  refine x6x rfl rfl ?_
  refine x6x rfl rfl ?_
  refine x6x rfl rfl ?_
  refine x6x rfl rfl ?_
  refine x6x rfl rfl ?_
  refine y5y rfl rfl ?_
  refine y2y rfl rfl ?_
  refine y2y rfl rfl ?_
  refine ⟨by kernel_rfl, ?_⟩
  refine x8x rfl (fun hc12 => ?_) (fun hc12 => ?_)
  ·simp at hc12
  try simp at hc12
  try have hlt := hc12
  refine x9x ?_
  refine hK8 _ _ ?_
  clear hK8 K8
  refine y4y x7x (by rfl) ?_
  refine x1x rfl ?_
  refine u1u (b := 1) rfl rfl (by omega) ?_
  refine x2x rfl ?_
  exact ⟨i + 1, ⟨⟨by omega, by rw [h2]; show _ = a7h (b2t l.proc) d4b l.done[i]? _; rw [hp]; exact a5l _ _ hok⟩, by omega⟩, [], (Cov.cons (t := 3) rfl Cov.nil), (Cov.cons (t := 1) rfl Cov.nil), HE.nil, (HE.same (id := 0) rfl HE.nil), rfl⟩
 try simp at hg10
 have hi0 : 0 < i := by omega
 obtain ⟨b, hb⟩ : ∃ b, l.done[i - 1]? = some b := ⟨_, List.getElem?_eq_getElem (by omega)⟩
 have hlast : a9d l.done i = some b := by obtain ⟨j, rfl⟩ : ∃ j, i = j + 1 := ⟨i - 1, by omega⟩; exact hb
 rw [hlast] at h2
 refine x0x rfl v2v rfl rfl v3v rfl rfl ?_
 refine y5y rfl rfl ?_
 refine x3x rfl v3v rfl rfl ?_
 refine y5y rfl rfl ?_
 refine x1x rfl ?_
 refine y5y rfl rfl ?_
 refine a0k (b := 1) rfl rfl (by omega) (by omega) ?_
 refine y5y rfl rfl ?_
 refine z7z rfl rfl v3v rfl v8v rfl hb ?_
 refine y5y rfl rfl ?_
 refine x0x rfl v8v rfl rfl z1z rfl rfl ?_
 refine y5y rfl rfl ?_
 refine z3z (out := .agg (w0w b.ev)) rfl z1z rfl ?_
 refine y5y rfl rfl ?_
 refine x0x rfl v2v rfl rfl v3v rfl rfl ?_
 refine y5y rfl rfl ?_
 refine x3x rfl v3v rfl rfl ?_
 refine y5y rfl rfl ?_
 refine x1x rfl ?_
 refine y5y rfl rfl ?_
 refine z7z rfl rfl v3v rfl v8v rfl hp ?_
 refine y5y rfl rfl ?_
 refine x0x rfl v8v rfl rfl z1z rfl rfl ?_
 refine y5y rfl rfl ?_
 refine z3z (out := .agg (w0w p.ev)) rfl z1z rfl ?_
 refine y5y rfl rfl ?_
 refine y7y rfl rfl rfl (a4u ..) ?_
 refine y5y rfl rfl ?_
 refine w2w rfl ?_
 refine y5y rfl rfl ?_
 refine y8y rfl rfl ?_
 refine y2y rfl rfl ?_
 refine ⟨by kernel_rfl, ?_⟩
 refine x8x rfl (fun hc11 => ?_) (fun hc11 => ?_)
 rotate_left
 ·try simp at hc11
  try have hlt := hc11
  refine x9x ?_
  refine hK8 _ _ ?_
  clear hK8 K8
  refine y4y x7x (by rfl) ?_
  refine x1x rfl ?_
  refine u1u (b := 1) rfl rfl (by omega) ?_
  refine x2x rfl ?_
  exact ⟨i + 1, ⟨⟨by omega, by rw [h2]; show _ = a7h (b2t l.proc) d4b l.done[i]? _; rw [hp]; exact a7u _ _ hok hlt⟩, by omega⟩, [], (Cov.cons (t := 3) rfl Cov.nil), (Cov.cons (t := 1) rfl Cov.nil), HE.nil, (HE.same (id := 0) rfl HE.nil), rfl⟩
 try simp at hc11
 try have hlt := hc11
 refine x4x x7x (by rfl) ?_
 refine x2x rfl ?_
 refine y0y ⟨.inr rfl, ?_⟩
 clear hK8 K8 hK5 K5
 refine z0z rfl ?_ rfl
 exact congrArg (fun b : Bool => [AV.pv (.bool b)]) (h2.trans (b3x _ _ hlt)).symm
end
end Go.Proofs.YtpadkogpeobboaaGreat.Am
