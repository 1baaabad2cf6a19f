/- Part 6 of the texts that the proof of LawFnExactNodeRise leans on, merged by program. -/
import Derived.Test.YtpadkogpeobboaaGreatKg5
set_option linter.unusedVariables false
set_option linter.unusedSimpArgs false
namespace Go.Proofs.YtpadkogpeobboaaGreat.Am
open Go Go.RowKit
theorem F_spec_l21Copy_all (c : Bool) (l : La) (h : lb l) : Pure Tryz.prog 122 [.agg (encLa c l), .pv (.int .i64 ((0 : Nat) : Int)), .pv (.int .i64 (l.done.length : Int))] (.agg (encLa true l)) := by
  have := F_spec_l21Copy c l 0 l.done.length h.1 (by omega) h.1 h.2
  rw [laneSub_all] at this
  exact this
set_option maxHeartbeats 1000000 in
theorem F_spec_l22Copy_o (c : Bool) (n : Nd) (h : nb n) : Meth Tryz.prog 110 3 [] [.agg (encNd c n)] [(0, (0, .dead)), (1, (0, .dead)), (2, (0, .dead))] (.agg [pI n.id, .pv (.bool n.up), pI n.inc, pI n.g, .ref 0 0, rEvs true n.kept, rOus true n.outs, pI n.led, pI n.version, .ref 1 0, .ref 2 0, pI n.round, pI n.low]) [(0, (0, .row 65 5 ((n.lanes).map (encLa true)))), (1, (0, .row 141 3 ((n.views).map (encVi true)))), (2, (0, .row 3 1 (n.known.map encI)))] := by
  refine meth_of_ex ttOK (fn := Tryz.f110) (by kernel_rfl) (by kernel_rfl) rfl (O0 := [.agg [pI n.id, .pv (.bool n.up), pI n.inc, pI n.g, .ref 0 0, rEvs true n.kept, rOus true n.outs, pI n.led, pI n.version, .ref 1 0, .ref 2 0, pI n.round, pI n.low]]) 3 10 (Nat.le_of_ble_eq_true rfl) (by rfl) (by repeat (first | exact BndH.nil | refine BndH.dead ?_)) (by repeat (first | exact BndH.nil | refine BndH.row (flatR_map fun _ => rfl) ?_)) (by rfl) fun γ => ?_
  show Ex Tryz.prog _ _ [(0, .agg (encNd c n))] [(0, ((γ 0), .dead)), (1, ((γ 1), .dead)), (2, ((γ 2), .dead)), (12, (0, .dead)), (11, (0, .dead)), (10, (0, .dead)), (9, (0, .dead)), (8, (0, .dead)), (7, (0, .dead)), (6, (0, .dead)), (5, (0, .dead)), (4, (0, .dead)), (3, (0, .dead))] _
  obtain ⟨b1, b2, b3, b4, b5, b6, b7⟩ := h
  refine ex_rs ttOK (by rfl) ?_
  refine rl_boxA (id := 3) rfl rfl rfl ?_
  refine rl_alloc (id := 4) tt_28 za_28 rfl ?_
  refine ex_rs ttOK (by rfl) ?_
  refine rl_loadA_ptr rfl tt_28 rfl rfl rfl ?_
  refine rl_meth [0, 11, 12] [_, _, _] (F_spec_l22Blank_o c n b1 b2 b3 b4) rfl rfl rfl (by decide) rfl rfl (by repeat (first | exact InH.nil | refine InH.cons rfl ?_)) (by (simp only [pI, List.map_cons, List.map_nil, insH, inE, inT, inA, inC, inD, inB, gl, nx, memN, Nat.beq, Nat.add_eq, List.getD_cons_zero, List.getD_cons_succ, List.getD_nil, Bool.or_false, Bool.false_or, Bool.true_or, Bool.or_true, Nat.add_zero, Nat.zero_add]; rfl)) (by (simp only [pI, List.map_cons, List.map_nil, insH, inE, inT, inA, inC, inD, inB, gl, nx, memN, Nat.beq, Nat.add_eq, List.getD_cons_zero, List.getD_cons_succ, List.getD_nil, Bool.or_false, Bool.false_or, Bool.true_or, Bool.or_true, Nat.add_zero, Nat.zero_add]; rfl)) ?_
  refine rl_alloc (id := 5) tt_28 za_28 rfl ?_
  refine rl_storeA rfl rfl tt_28 rfl rfl rfl rfl ?_
  refine ex_seq_k fun K1 hK1 => ?_
  refine ex_rs ttOK (by rfl) ?_
  refine rl_assign rfl ?_
  refine ex_block ?_
  refine ex_loopK (ι := Nat) (fun i γ1 => [(4, .pv (.int .i64 (i : Int)))]) (fun i γ1 => [(0, ((γ 0 + 1), .row 65 5 ((n.lanes.take i ++ (n.lanes.drop i).map laneBlank).map (encLa true))))]) (fun i => i ≤ n.lanes.length) (fun i => n.lanes.length - i) (Cov.cons (t := 1) rfl (Cov.cons (t := 2) rfl (Cov.cons (t := 3) rfl Cov.nil))) (HE.same (id := 1) rfl (HE.same (id := 2) rfl (HE.same (id := 3) rfl (HE.same (id := 4) rfl (HE.same (id := 5) rfl (HE.same (id := 6) rfl (HE.same (id := 7) rfl (HE.same (id := 8) rfl (HE.same (id := 9) rfl (HE.same (id := 10) rfl (HE.same (id := 11) rfl (HE.same (id := 12) rfl HE.nil)))))))))))) 0 (by omega) [] (Cov.cons (t := 4) rfl Cov.nil) (HE.row rfl (by rw [List.take_zero, List.drop_zero]; rfl) HE.nil) rfl fun i γ1 hi => ?_
  try dsimp only [List.cons_append, List.nil_append]
  refine ex_seq_k fun K2 hK2 => ?_
  refine ex_rs ttOK (by rfl) ?_
  refine rl_move rfl ?_
  refine rl_fieldAddr rfl tt_28 rfl rfl tt_23 rfl rfl ?_
  refine rl_load_ptr rfl tt_23 rfl rfl ?_
  refine rl_lenm rfl tt_23 rfl ?_
  refine rl_bin rfl rfl rfl ?_
  refine ex_cond rfl (fun hc3 => ?_) (fun hc3 => ?_)
  · try simp at hc3
    obtain ⟨p, hp⟩ : ∃ p, n.lanes[i]? = some p := ⟨_, List.getElem?_eq_getElem (by omega)⟩
    have hpl := b4 p (List.mem_of_getElem? hp)
    have hAl : ((n.lanes.take i).map (encLa true)).length = i := by rw [List.length_map, List.length_take]; omega
    rw [drop_cons hp, List.map_cons, List.map_append, List.map_cons]
    refine ex_skip ?_
    refine hK2 _ _ ?_
    clear hK2 K2
    refine ex_seq_k fun K4 hK4 => ?_
    refine ex_block ?_
    refine ex_region_any ttOK mixed (by rfl) ?_
    refine rl_fieldAddr rfl tt_28 rfl rfl tt_23 rfl rfl ?_
    refine rl_load_ptr rfl tt_23 rfl rfl ?_
    refine rl_move rfl ?_
    refine rl_fieldAddr rfl tt_28 rfl rfl tt_23 rfl rfl ?_
    refine rl_load_ptr rfl tt_23 rfl rfl ?_
    refine rl_move rfl ?_
    refine rl_idxm rfl rfl tt_23 rfl tt_65 rfl hp ?_
    refine rl_loadA_iel rfl tt_65 rfl rfl ?_
    refine rl_fieldAddr rfl tt_28 rfl rfl tt_23 rfl rfl ?_
    refine rl_load_ptr rfl tt_23 rfl rfl ?_
    refine rl_move rfl ?_
    refine rl_idxm rfl rfl tt_23 rfl tt_65 rfl hp ?_
    refine rl_fieldAddr rfl tt_65 rfl rfl tt_63 rfl rfl ?_
    refine rl_load_iel rfl tt_63 rfl ?_
    refine rl_lenm rfl tt_63 rfl ?_
    refine rl_call rfl rfl rfl (F_spec_l21Copy_all c p hpl) ?_
    refine rl_idxM rfl rfl tt_23 rfl tt_65 rfl rfl hAl ?_
    refine rl_storeMA hAl rfl rfl tt_65 rfl rfl rfl rfl (abs_plain rfl) rfl ?_
    refine ⟨by kernel_rfl, ?_⟩
    refine hK4 _ _ ?_
    clear hK4 K4
    refine ex_region ttOK (by rfl) ?_
    refine rl_move rfl ?_
    refine rl_bin rfl rfl rfl ?_
    refine rl_assign rfl ?_
    exact ⟨i + 1, ⟨by omega, by omega⟩, [], (Cov.cons' (t := 4) rfl (by rw [wrap_small (by omega) (by omega)]; rfl) Cov.nil), (Cov.cons (t := 1) rfl (Cov.cons (t := 2) rfl (Cov.cons (t := 3) rfl Cov.nil))), (HE.row rfl (by simp only [take_snoc hp, List.map_append, List.append_assoc]; rfl) HE.nil), (HE.same (id := 1) rfl (HE.same (id := 2) rfl (HE.same (id := 3) rfl (HE.same (id := 4) rfl (HE.same (id := 5) rfl (HE.same (id := 6) rfl (HE.same (id := 7) rfl (HE.same (id := 8) rfl (HE.same (id := 9) rfl (HE.same (id := 10) rfl (HE.same (id := 11) rfl (HE.same (id := 12) rfl HE.nil)))))))))))), rfl⟩
  try simp at hc3
  obtain rfl : i = n.lanes.length := by omega
  rw [List.take_length, List.drop_length, List.map_nil, List.append_nil]
  refine ex_exit ?_
  refine hK1 _ _ ?_
  clear hK2 K2 hK1 K1
  refine ex_rs ttOK (by rfl) ?_
  refine rl_fieldAddr rfl tt_28 rfl rfl tt_3 rfl rfl ?_
  refine rl_load_ptr rfl tt_3 rfl rfl ?_
  refine rl_fieldAddr rfl tt_28 rfl rfl tt_3 rfl rfl ?_
  refine rl_store1 rfl rfl tt_3 rfl rfl rfl rfl rfl (by simp only [List.set_cons_zero, List.set_cons_succ]; rfl) ?_
  refine ex_rs ttOK (by rfl) ?_
  refine rl_fieldAddr rfl tt_28 rfl rfl tt_3 rfl rfl ?_
  refine rl_load_ptr rfl tt_3 rfl rfl ?_
  refine rl_fieldAddr rfl tt_28 rfl rfl tt_3 rfl rfl ?_
  refine rl_store1 rfl rfl tt_3 rfl rfl rfl rfl rfl (by simp only [List.set_cons_zero, List.set_cons_succ]; rfl) ?_
  refine ex_rs ttOK (by rfl) ?_
  refine rl_fieldAddr rfl tt_28 rfl rfl tt_3 rfl rfl ?_
  refine rl_load_ptr rfl tt_3 rfl rfl ?_
  refine rl_fieldAddr rfl tt_28 rfl rfl tt_3 rfl rfl ?_
  refine rl_store1 rfl rfl tt_3 rfl rfl rfl rfl rfl (by simp only [List.set_cons_zero, List.set_cons_succ]; rfl) ?_
  refine ex_rs ttOK (by rfl) ?_
  refine rl_slice0 (id := 1) tt_26 rfl tt_141 rfl ?_
  refine rl_fieldAddr rfl tt_28 rfl rfl tt_26 rfl rfl ?_
  refine rl_store1 rfl rfl tt_26 rfl rfl rfl rfl rfl (by simp only [List.set_cons_zero, List.set_cons_succ]; rfl) ?_
  refine ex_seq_k fun K5 hK5 => ?_
  refine ex_rs ttOK (by rfl) ?_
  refine rl_assign rfl ?_
  refine ex_block ?_
  refine ex_loopK (ι := Nat) (fun j γ2 => [(5, .pv (.int .i64 (j : Int)))]) (fun j γ2 => [(1, ((γ2 1), .row 141 3 ((n.views.take j).map (encVi true)))), (5, ((0 + 1), .box 28 [pI n.id, .pv (.bool n.up), pI n.inc, pI n.g, .ref 0 (γ 0 + 1), rEvs true n.kept, rOus true n.outs, pI n.led, pI n.version, .ref 1 (γ2 1), .ref 12 (0 + 1), pI n.round, pI n.low])), (6, ((γ2 6), .dead)), (7, ((γ2 7), .dead)), (8, ((γ2 8), .dead)), (9, ((γ2 9), .dead))]) (fun j => j ≤ n.views.length) (fun j => n.views.length - j) (Cov.cons (t := 1) rfl (Cov.cons (t := 2) rfl (Cov.cons (t := 3) rfl Cov.nil))) (HE.same (id := 0) rfl (HE.same (id := 2) rfl (HE.same (id := 3) rfl (HE.same (id := 4) rfl (HE.same (id := 10) rfl (HE.same (id := 11) rfl (HE.same (id := 12) rfl HE.nil))))))) 0 (by omega) [0, _, 0, 0, 0, 0, _, _, _, _] (Cov.cons (t := 5) rfl Cov.nil) (HE.row rfl (by rw [List.take_zero]; rfl) (HE.box rfl rfl (HE.kill rfl (HE.kill rfl (HE.kill rfl (HE.kill rfl HE.nil)))))) rfl fun j γ2 hi => ?_
  try dsimp only [List.cons_append, List.nil_append]
  refine ex_seq_k fun K6 hK6 => ?_
  refine ex_rs ttOK (by rfl) ?_
  refine rl_move rfl ?_
  refine rl_fieldAddr rfl tt_28 rfl rfl tt_26 rfl rfl ?_
  refine rl_load_ptr rfl tt_26 rfl rfl ?_
  refine rl_lenm rfl tt_26 rfl ?_
  refine rl_bin rfl rfl rfl ?_
  refine ex_cond rfl (fun hc7 => ?_) (fun hc7 => ?_)
  rotate_left
  · try simp at hc7
    obtain rfl : j = n.views.length := by omega
    rw [List.take_length]
    refine ex_exit ?_
    refine hK5 _ _ ?_
    clear hK6 K6 hK5 K5
    refine ex_rs ttOK (by rfl) ?_
    refine rl_slice0 (id := 2) tt_22 rfl tt_3 rfl ?_
    refine rl_fieldAddr rfl tt_28 rfl rfl tt_22 rfl rfl ?_
    refine rl_load_ptr rfl tt_22 rfl rfl ?_
    refine rl_app_rd (zs := n.known.map encI) rfl rfl tt_22 rfl tt_3 rfl rfl rfl (by exact noow_map (fun _ => rfl) _) rfl (by (simp only [List.length_map, List.length_append, List.length_cons, List.length_nil, List.length_take, List.length_range, List.length_drop, T3]; omega)) ?_
    refine rl_fieldAddr rfl tt_28 rfl rfl tt_22 rfl rfl ?_
    refine rl_store1 rfl rfl tt_22 rfl rfl rfl rfl rfl (by simp only [List.set_cons_zero, List.set_cons_succ]; rfl) ?_
    refine ex_rs ttOK (by rfl) ?_
    refine rl_loadA_ptr rfl tt_28 rfl rfl rfl ?_
    refine rl_storeA rfl rfl tt_28 rfl rfl rfl rfl ?_
    refine ex_ret ?_
    exact ⟨.inr rfl, [_, _, _], rfl, rfl, HE.row rfl rfl (HE.row rfl rfl (HE.row rfl rfl HE.nil))⟩
  try simp at hc7
  obtain ⟨v, hv⟩ : ∃ v, n.views[j]? = some v := ⟨_, List.getElem?_eq_getElem (by omega)⟩
  have hve := b6 v (List.mem_of_getElem? hv)
  refine ex_skip ?_
  refine hK6 _ _ ?_
  clear hK6 K6
  refine ex_seq_k fun K8 hK8 => ?_
  refine ex_block ?_
  refine ex_region_any ttOK mixed (by rfl) ?_
  refine rl_fieldAddr rfl tt_28 rfl rfl tt_26 rfl rfl ?_
  refine rl_load_ptr rfl tt_26 rfl rfl ?_
  refine rl_fieldAddr rfl tt_28 rfl rfl tt_26 rfl rfl ?_
  refine rl_load_ptr rfl tt_26 rfl rfl ?_
  refine rl_move rfl ?_
  refine rl_idxm rfl rfl tt_26 rfl tt_141 rfl hv ?_
  refine rl_fieldAddr rfl tt_141 rfl rfl tt_3 rfl rfl ?_
  refine rl_load_iel rfl tt_3 rfl ?_
  refine rl_fieldAddr rfl tt_28 rfl rfl tt_26 rfl rfl ?_
  refine rl_load_ptr rfl tt_26 rfl rfl ?_
  refine rl_move rfl ?_
  refine rl_idxm rfl rfl tt_26 rfl tt_141 rfl hv ?_
  refine rl_fieldAddr rfl tt_141 rfl rfl tt_3 rfl rfl ?_
  refine rl_load_iel rfl tt_3 rfl ?_
  refine rl_slice0 (id := 6) tt_24 rfl tt_76 rfl ?_
  refine rl_fieldAddr rfl tt_28 rfl rfl tt_26 rfl rfl ?_
  refine rl_load_ptr rfl tt_26 rfl rfl ?_
  refine rl_move rfl ?_
  refine rl_idxm rfl rfl tt_26 rfl tt_141 rfl hv ?_
  refine rl_fieldAddr rfl tt_141 rfl rfl tt_24 rfl rfl ?_
  refine rl_load_iel rfl tt_24 rfl ?_
  refine rl_appF ttOK (zs := (v.events).map encEv) rfl rfl tt_24 rfl tt_76 rfl rfl rfl (by exact noow_map (fun _ => rfl) _) rfl (by (simp only [List.length_map, List.length_append, List.length_cons, List.length_nil, List.length_take, List.length_range, List.length_drop, T76]; omega)) (Le.ow_map _ (fun _ => rfl) (fun _ => rfl)) ?_
  refine rl_build tt_141 rfl za_141 rfl (by simp only [pI, tt_3, T3, tt_24, T24, fillA, cellsA, AV.okc, AV.one, Value.oneCell', List.map_cons, List.map_nil, List.getElem?_cons_zero, List.getElem?_cons_succ, List.take_succ_cons, List.take_zero, List.drop_succ_cons, List.drop_zero, List.cons_append, List.nil_append, List.length_cons, List.length_nil, if_true, and_self, Nat.reduceAdd, Nat.reduceLeDiff]; rfl) ?_
  refine rl_slice1A (id := 8) tt_26 rfl tt_141 rfl rfl rfl rfl rfl rfl ?_
  refine rl_app_rr (zs := (n.views.take j ++ [v]).map (encVi true)) rfl rfl tt_26 rfl tt_141 rfl rfl rfl rfl (by rfl) (map_snoc _ _ _) (by (simp only [List.length_map, List.length_append, List.length_cons, List.length_nil, List.length_take, List.length_range, List.length_drop, T141]; omega)) ?_
  refine rl_fieldAddr rfl tt_28 rfl rfl tt_26 rfl rfl ?_
  refine rl_store1 rfl rfl tt_26 rfl rfl rfl rfl rfl (by simp only [List.set_cons_zero, List.set_cons_succ]; rfl) ?_
  refine ⟨by kernel_rfl, ?_⟩
  refine hK8 _ _ ?_
  clear hK8 K8
  refine ex_region ttOK (by rfl) ?_
  refine rl_move rfl ?_
  refine rl_bin rfl rfl rfl ?_
  refine rl_assign rfl ?_
  exact ⟨j + 1, ⟨by omega, by omega⟩, [0, _, 0, 0, 0, 0, _, _, _, _], (Cov.cons' (t := 5) rfl (by rw [wrap_small (by omega) (by omega)]; rfl) Cov.nil), (Cov.cons (t := 1) rfl (Cov.cons (t := 2) rfl (Cov.cons (t := 3) rfl Cov.nil))), (HE.row rfl (by rw [take_snoc hv]) (HE.box rfl rfl (HE.kill rfl (HE.kill rfl (HE.kill rfl (HE.kill rfl HE.nil)))))), (HE.same (id := 0) rfl (HE.same (id := 2) rfl (HE.same (id := 3) rfl (HE.same (id := 4) rfl (HE.same (id := 10) rfl (HE.same (id := 11) rfl (HE.same (id := 12) rfl HE.nil))))))), rfl⟩
end Go.Proofs.YtpadkogpeobboaaGreat.Am
namespace Go.Proofs.YtpadkogpeobboaaGreat.Am
open Go Go.RowKit
theorem F_spec_NodeRise (c : Bool) (n : Nd) : Pure Tryz.prog 32 [.agg (encNd c n)] (.agg (encNd true (nodeRise n))) := by
  refine pure_of_ex ttOK (fn := Tryz.f32) (by kernel_rfl) (by kernel_rfl) rfl (outs := [.agg (encNd true (nodeRise n))]) (by rfl) (Nat.le_of_ble_eq_true rfl) 6 ?_
  refine ex_rs ttOK (by rfl) ?_
  refine rl_boxA (id := 0) rfl rfl rfl ?_
  refine rl_alloc (id := 1) tt_28 za_28 rfl ?_
  refine ex_seq_k fun K1 hK1 => ?_
  refine ex_rs ttOK (by rfl) ?_
  refine rl_loadA_ptr rfl tt_28 rfl rfl rfl ?_
  refine rl_call rfl rfl rfl (F_spec_NodeOk ..) ?_
  refine rl_not rfl ?_
  refine ex_cond rfl (fun hc2 => ?_) (fun hc2 => ?_)
  · try simp at hc2
    have fX : ¬ nodeOk n := kb_not (by simpa using hc2)
    refine ex_rs ttOK (by rfl) ?_
    refine rl_build tt_28 rfl za_28 rfl (by simp only [pI, tt_3, T3, tt_4, T4, tt_22, T22, tt_23, T23, tt_24, T24, tt_25, T25, tt_26, T26, fillA, cellsA, AV.okc, AV.one, Value.oneCell', List.map_cons, List.map_nil, List.getElem?_cons_zero, List.getElem?_cons_succ, List.take_succ_cons, List.take_zero, List.drop_succ_cons, List.drop_zero, List.cons_append, List.nil_append, List.length_cons, List.length_nil, if_true, and_self, Nat.reduceAdd, Nat.reduceLeDiff]; rfl) ?_
    refine rl_storeA rfl rfl tt_28 rfl rfl rfl rfl ?_
    refine ex_ret ⟨.inr rfl, ?_⟩
    clear hK1 K1
    (rw [nodeRise_f fX]; exact ⟨_, _, rfl, finNd0⟩)
  try simp at hc2
  have fK : nodeOk n := kb_iff.1 (by simpa using hc2)
  have fS := fK.1
  have fB := shape_bound fS
  have fb := nb_ok fS
  refine ex_skip ?_
  refine hK1 _ _ ?_
  clear hK1 K1
  refine ex_seq_k fun K3 hK3 => ?_
  refine ex_rsD ttOK mixed (by rfl) ?_
  refine rl_fieldAddr rfl tt_28 rfl rfl tt_4 rfl rfl ?_
  refine rl_load_ptr rfl tt_4 rfl rfl ?_
  refine rl_move rfl ?_
  refine rl_g rfl rfl (fun hg4 => ?_) (fun hg4 => ?_)
  rotate_left
  · try simp at hg4
    refine rl_gF rfl rfl ?_
    refine rl_gF rfl rfl ?_
    refine rl_gF rfl rfl ?_
    refine rl_pickT rfl rfl ?_
    refine ⟨by kernel_rfl, ?_⟩
    refine ex_cond rfl (fun hc6 => ?_) (fun hc6 => ?_)
    rotate_left
    · simp at hc6
    try simp at hc6
    have fU : n.up = true ∨ 9999 ≤ n.inc := by (simp_all; done)
    refine ex_rs ttOK (by rfl) ?_
    refine rl_loadA_ptr rfl tt_28 rfl rfl rfl ?_
    refine rl_meth [3, 4, 5] [_, _, _] (F_spec_l22Copy_o c n fb) rfl rfl rfl (by decide) rfl rfl (by repeat (first | exact InH.nil | refine InH.cons rfl ?_)) (by (simp only [pI, List.map_cons, List.map_nil, insH, inE, inT, inA, inC, inD, inB, gl, nx, memN, Nat.beq, Nat.add_eq, List.getD_cons_zero, List.getD_cons_succ, List.getD_nil, Bool.or_false, Bool.false_or, Bool.true_or, Bool.or_true, Nat.add_zero, Nat.zero_add]; rfl)) (by (simp only [pI, List.map_cons, List.map_nil, insH, inE, inT, inA, inC, inD, inB, gl, nx, memN, Nat.beq, Nat.add_eq, List.getD_cons_zero, List.getD_cons_succ, List.getD_nil, Bool.or_false, Bool.false_or, Bool.true_or, Bool.or_true, Nat.add_zero, Nat.zero_add]; rfl)) ?_
    refine rl_storeA rfl rfl tt_28 rfl rfl rfl rfl ?_
    refine ex_ret ⟨.inr rfl, ?_⟩
    clear hK3 K3
    (rw [nodeRise_s fK fU]; exact ⟨_, _, rfl, finNd rfl rfl rfl⟩)
  try simp at hg4
  refine rl_fieldAddr rfl tt_28 rfl rfl tt_3 rfl rfl ?_
  refine rl_gT rfl rfl ?_
  refine rl_load_ptr rfl tt_3 rfl rfl ?_
  refine rl_gT rfl rfl ?_
  refine rl_call rfl rfl rfl (F_spec_l22Max ..) ?_
  refine rl_gT rfl rfl ?_
  refine rl_bin rfl rfl rfl ?_
  refine rl_pickF rfl rfl ?_
  refine ⟨by kernel_rfl, ?_⟩
  refine ex_cond rfl (fun hc5 => ?_) (fun hc5 => ?_)
  · try simp at hc5
    have fU : n.up = true ∨ 9999 ≤ n.inc := by exact .inr hc5
    refine ex_rs ttOK (by rfl) ?_
    refine rl_loadA_ptr rfl tt_28 rfl rfl rfl ?_
    refine rl_meth [3, 4, 5] [_, _, _] (F_spec_l22Copy_o c n fb) rfl rfl rfl (by decide) rfl rfl (by repeat (first | exact InH.nil | refine InH.cons rfl ?_)) (by (simp only [pI, List.map_cons, List.map_nil, insH, inE, inT, inA, inC, inD, inB, gl, nx, memN, Nat.beq, Nat.add_eq, List.getD_cons_zero, List.getD_cons_succ, List.getD_nil, Bool.or_false, Bool.false_or, Bool.true_or, Bool.or_true, Nat.add_zero, Nat.zero_add]; rfl)) (by (simp only [pI, List.map_cons, List.map_nil, insH, inE, inT, inA, inC, inD, inB, gl, nx, memN, Nat.beq, Nat.add_eq, List.getD_cons_zero, List.getD_cons_succ, List.getD_nil, Bool.or_false, Bool.false_or, Bool.true_or, Bool.or_true, Nat.add_zero, Nat.zero_add]; rfl)) ?_
    refine rl_storeA rfl rfl tt_28 rfl rfl rfl rfl ?_
    refine ex_ret ⟨.inr rfl, ?_⟩
    clear hK3 K3
    (rw [nodeRise_s fK fU]; exact ⟨_, _, rfl, finNd rfl rfl rfl⟩)
  try simp at hc5
  have fU : ¬ (n.up = true ∨ 9999 ≤ n.inc) := by rintro (h | h) <;> first | omega | (simp_all; done)
  refine ex_skip ?_
  refine hK3 _ _ ?_
  clear hK3 K3
  refine ex_rs ttOK (by rfl) ?_
  refine rl_loadA_ptr rfl tt_28 rfl rfl rfl ?_
  refine rl_meth [3, 4, 5] [_, _, _] (F_spec_l22Blank_o c n fb.1 fb.2.1 fb.2.2.1 fb.2.2.2.1) rfl rfl rfl (by decide) rfl rfl (by repeat (first | exact InH.nil | refine InH.cons rfl ?_)) (by (simp only [pI, List.map_cons, List.map_nil, insH, inE, inT, inA, inC, inD, inB, gl, nx, memN, Nat.beq, Nat.add_eq, List.getD_cons_zero, List.getD_cons_succ, List.getD_nil, Bool.or_false, Bool.false_or, Bool.true_or, Bool.or_true, Nat.add_zero, Nat.zero_add]; rfl)) (by (simp only [pI, List.map_cons, List.map_nil, insH, inE, inT, inA, inC, inD, inB, gl, nx, memN, Nat.beq, Nat.add_eq, List.getD_cons_zero, List.getD_cons_succ, List.getD_nil, Bool.or_false, Bool.false_or, Bool.true_or, Bool.or_true, Nat.add_zero, Nat.zero_add]; rfl)) ?_
  refine rl_alloc (id := 2) tt_28 za_28 rfl ?_
  refine rl_storeA rfl rfl tt_28 rfl rfl rfl rfl ?_
  refine ex_rs ttOK (by rfl) ?_
  refine rl_fieldAddr rfl tt_28 rfl rfl tt_4 rfl rfl ?_
  refine rl_store1 rfl rfl tt_4 rfl rfl rfl rfl rfl (by simp only [List.set_cons_zero, List.set_cons_succ]; rfl) ?_
  refine ex_rs ttOK (by rfl) ?_
  refine rl_fieldAddr rfl tt_28 rfl rfl tt_3 rfl rfl ?_
  refine rl_load_ptr rfl tt_3 rfl rfl ?_
  refine rl_binE (.int .i64 (n.inc + 1)) rfl rfl rfl (wrapE rfl rfl (by have := fS.1.2.1; omega) (by have := fS.1.2.1; omega)) ?_
  refine rl_fieldAddr rfl tt_28 rfl rfl tt_3 rfl rfl ?_
  refine rl_store1 rfl rfl tt_3 rfl rfl rfl rfl rfl (by simp only [List.set_cons_zero, List.set_cons_succ]; rfl) ?_
  refine ex_rs ttOK (by rfl) ?_
  refine rl_fieldAddr rfl tt_28 rfl rfl tt_3 rfl rfl ?_
  refine rl_store1 rfl rfl tt_3 rfl rfl rfl rfl rfl (by simp only [List.set_cons_zero, List.set_cons_succ]; rfl) ?_
  refine ex_rs ttOK (by rfl) ?_
  refine rl_loadA_ptr rfl tt_28 rfl rfl rfl ?_
  refine rl_storeA rfl rfl tt_28 rfl rfl rfl rfl ?_
  refine ex_ret ⟨.inr rfl, ?_⟩
  (rw [nodeRise_t fK fU]; exact ⟨_, _, rfl, finNd (n := ({ nodeBlank n with up := true, inc := n.inc + 1, version := 1 } : Nd)) rfl rfl rfl⟩)
end Go.Proofs.YtpadkogpeobboaaGreat.Am
namespace Go.Proofs.YtpadkogpeobboaaGreat.Am
open Go Go.RowKit
set_option maxHeartbeats 2000000 in
theorem F_laws_FnExactNodeRise (n : Nd) : Pure Tryz.prog 6 [.agg (encNd true n)] (.pv (.bool (true))) := by
  refine pure_of_ex ttOK (fn := Tryz.f6) (by kernel_rfl) (by kernel_rfl) rfl (outs := [.pv (.bool (true))]) (by rfl) (Nat.le_of_ble_eq_true rfl) 35 ?_
  refine ex_seq_k fun K1 hK1 => ?_
  refine ex_region ttOK (by rfl) ?_
  refine rl_boxA (id := 0) rfl rfl rfl ?_
  refine rl_assign rfl ?_
  refine hK1 _ _ ?_
  clear hK1 K1
  refine ex_seq_k fun K2 hK2 => ?_
  refine ex_region ttOK (by rfl) ?_
  refine rl_assign rfl ?_
  refine hK2 _ _ ?_
  clear hK2 K2
  refine ex_seq_k fun K3 hK3 => ?_
  refine ex_region ttOK (by rfl) ?_
  refine rl_loadA_ptr rfl tt_42 rfl rfl rfl ?_
  refine rl_move rfl ?_
  refine rl_call rfl rfl rfl (F_laws_szNode true n 1048576 (by omega)) ?_
  refine rl_assign rfl ?_
  refine hK3 _ _ ?_
  clear hK3 K3
  refine ex_seq_k fun K4 hK4 => ?_
  refine ex_seq_k fun K5 hK5 => ?_
  refine ex_region ttOK (by rfl) ?_
  refine rl_move rfl ?_
  refine rl_bin rfl rfl rfl ?_
  refine hK5 _ _ ?_
  clear hK5 K5
  refine ex_cond rfl (fun hc6 => ?_) (fun hc6 => ?_)
  · try simp at hc6
    refine ex_seq_k fun K7 hK7 => ?_
    refine ex_region ttOK (by rfl) ?_
    refine rl_assign rfl ?_
    refine hK7 _ _ ?_
    clear hK7 K7
    refine ex_ret ⟨.inr rfl, ?_⟩
    clear hK4 K4
    exact ret_pv rfl rfl rfl
  · try simp at hc6
    have hl : cNd n ≤ 1048576 := lf_ge (by omega)
    have hz : 1 + zNd n ≤ 1000000000 := by have := zNd_le n; omega
    have hz2 : 1 + zNd (nodeRise n) ≤ 1000000000 := by have := zNd_le (nodeRise n); have := rise_bound n; omega
    refine ex_skip ?_
    refine hK4 _ _ ?_
    clear hK4 K4
    refine ex_seq_k fun K8 hK8 => ?_
    refine ex_region ttOK (by rfl) ?_
    refine rl_loadA_ptr rfl tt_42 rfl rfl rfl ?_
    refine rl_meth [20, 21, 22, 23, 24] [_, _, _, _, _] (F_laws_toNode true n hl) rfl rfl rfl (by decide) rfl rfl (by repeat (first | exact InH.nil | refine InH.cons rfl ?_)) (by (simp only [pI, List.map_cons, List.map_nil, insH, inE, inT, inA, inC, inD, inB, gl, nx, memN, Nat.beq, Nat.add_eq, List.getD_cons_zero, List.getD_cons_succ, List.getD_nil, Bool.or_false, Bool.false_or, Bool.true_or, Bool.or_true, Nat.add_zero, Nat.zero_add]; rfl)) (by (simp only [pI, List.map_cons, List.map_nil, insH, inE, inT, inA, inC, inD, inB, gl, nx, memN, Nat.beq, Nat.add_eq, List.getD_cons_zero, List.getD_cons_succ, List.getD_nil, Bool.or_false, Bool.false_or, Bool.true_or, Bool.or_true, Nat.add_zero, Nat.zero_add]; rfl)) ?_
    refine rl_lend rfl rfl rfl (by (refine lendNd (T := []) rfl rfl rfl rfl rfl ?_; exact .nil)) (F_spec_NodeRise false n) (by exact strictNd _) ?_
    refine rl_alloc (id := 1) tt_28 za_28 rfl ?_
    refine rl_storeA rfl rfl tt_28 rfl rfl rfl rfl ?_
    refine hK8 _ _ ?_
    clear hK8 K8
    refine ex_seq_k fun K9 hK9 => ?_
    refine ex_region ttOK (by rfl) ?_
    refine rl_loadA_ptr rfl tt_42 rfl rfl rfl ?_
    refine rl_meth [5, 6, 7, 8, 9] [_, _, _, _, _] (F_laws_toNode true n hl) rfl rfl rfl (by decide) rfl rfl (by repeat (first | exact InH.nil | refine InH.cons rfl ?_)) (by (simp only [pI, List.map_cons, List.map_nil, insH, inE, inT, inA, inC, inD, inB, gl, nx, memN, Nat.beq, Nat.add_eq, List.getD_cons_zero, List.getD_cons_succ, List.getD_nil, Bool.or_false, Bool.false_or, Bool.true_or, Bool.or_true, Nat.add_zero, Nat.zero_add]; rfl)) (by (simp only [pI, List.map_cons, List.map_nil, insH, inE, inT, inA, inC, inD, inB, gl, nx, memN, Nat.beq, Nat.add_eq, List.getD_cons_zero, List.getD_cons_succ, List.getD_nil, Bool.or_false, Bool.false_or, Bool.true_or, Bool.or_true, Nat.add_zero, Nat.zero_add]; rfl)) ?_
    refine rl_alloc (id := 2) tt_28 za_28 rfl ?_
    refine rl_storeA rfl rfl tt_28 rfl rfl rfl rfl ?_
    refine hK9 _ _ ?_
    clear hK9 K9
    refine ex_seq_k fun K10 hK10 => ?_
    refine ex_region ttOK (by rfl) ?_
    refine rl_loadA_ptr rfl tt_28 rfl rfl rfl ?_
    refine rl_methL [10, 11, 12, 13, 14] [_, _, _, _, _] (F_impl_NodeRise false n) rfl rfl rfl (LendM.base (lendNd rfl rfl rfl rfl rfl .nil)) rfl (by decide) rfl rfl (by repeat (first | exact InH.nil | refine InH.cons rfl ?_)) (by (simp only [pI, List.map_cons, List.map_nil, insH, inE, inT, inA, inC, inD, inB, gl, nx, memN, Nat.beq, Nat.add_eq, List.getD_cons_zero, List.getD_cons_succ, List.getD_nil, Bool.or_false, Bool.false_or, Bool.true_or, Bool.or_true, Nat.add_zero, Nat.zero_add]; rfl)) (by (simp only [pI, List.map_cons, List.map_nil, insH, inE, inT, inA, inC, inD, inB, gl, nx, memN, Nat.beq, Nat.add_eq, List.getD_cons_zero, List.getD_cons_succ, List.getD_nil, Bool.or_false, Bool.false_or, Bool.true_or, Bool.or_true, Nat.add_zero, Nat.zero_add]; rfl)) rfl rfl (str_of rfl) (by repeat (first | exact StrH.nil | refine StrH.dead ?_)) (by exact strNd .nil) ?_
    refine rl_alloc (id := 3) tt_28 za_28 rfl ?_
    refine rl_storeA rfl rfl tt_28 rfl rfl rfl rfl ?_
    refine hK10 _ _ ?_
    clear hK10 K10
    refine ex_seq_k fun K11 hK11 => ?_
    refine ex_seq_k fun K12 hK12 => ?_
    refine ex_region ttOK (by rfl) ?_
    refine rl_loadA_ptr rfl tt_28 rfl rfl rfl ?_
    refine rl_loadA_ptr rfl tt_28 rfl rfl rfl ?_
    refine rl_lend rfl rfl rfl (by (refine lendNd (T := []) rfl rfl rfl rfl rfl ?_; refine lendC ?_ ?_ .nil <;> rfl)) (F_laws_eqNode false true (nodeRise n) (nodeRise n)) (by exact .pv _) ?_
    refine rl_not rfl ?_
    refine hK12 _ _ ?_
    clear hK12 K12
    refine ex_cond rfl (fun hc13 => ?_) (fun hc13 => ?_)
    · (simp at hc13; done)
    · try simp at hc13
      refine ex_skip ?_
      refine hK11 _ _ ?_
      clear hK11 K11
      refine ex_seq_k fun K14 hK14 => ?_
      refine ex_seq_k fun K15 hK15 => ?_
      refine ex_region_any ttOK mixed (by rfl) ?_
      refine rl_loadA_ptr rfl tt_28 rfl rfl rfl ?_
      refine rl_loadA_ptr rfl tt_42 rfl rfl rfl ?_
      refine rl_meth [25, 26, 27, 28, 29] [_, _, _, _, _] (F_laws_toNode true n hl) rfl rfl rfl (by decide) rfl rfl (by repeat (first | exact InH.nil | refine InH.cons rfl ?_)) (by (simp only [pI, List.map_cons, List.map_nil, insH, inE, inT, inA, inC, inD, inB, gl, nx, memN, Nat.beq, Nat.add_eq, List.getD_cons_zero, List.getD_cons_succ, List.getD_nil, Bool.or_false, Bool.false_or, Bool.true_or, Bool.or_true, Nat.add_zero, Nat.zero_add]; rfl)) (by (simp only [pI, List.map_cons, List.map_nil, insH, inE, inT, inA, inC, inD, inB, gl, nx, memN, Nat.beq, Nat.add_eq, List.getD_cons_zero, List.getD_cons_succ, List.getD_nil, Bool.or_false, Bool.false_or, Bool.true_or, Bool.or_true, Nat.add_zero, Nat.zero_add]; rfl)) ?_
      refine rl_lend rfl rfl rfl (by exact lendNd rfl rfl rfl rfl rfl (lendNd rfl rfl rfl rfl rfl .nil)) (F_laws_eqNode false false n n) (by exact .pv _) ?_
      refine rl_not rfl ?_
      refine ⟨by kernel_rfl, ?_⟩
      refine hK15 _ _ ?_
      clear hK15 K15
      refine ex_cond rfl (fun hc16 => ?_) (fun hc16 => ?_)
      · (simp at hc16; done)
      · try simp at hc16
        refine ex_skip ?_
        refine hK14 _ _ ?_
        clear hK14 K14
        refine ex_seq_k fun K17 hK17 => ?_
        refine ex_region ttOK (by rfl) ?_
        refine rl_assign rfl ?_
        refine hK17 _ _ ?_
        clear hK17 K17
        refine ex_seq_k fun K18 hK18 => ?_
        refine ex_region ttOK (by rfl) ?_
        refine rl_loadA_ptr rfl tt_28 rfl rfl rfl ?_
        refine rl_move rfl ?_
        refine rl_meth [5, 6, 7, 8, 9] [_, _, _, _, _] (F_laws_markNode n 1 hz) rfl rfl rfl (by decide) rfl rfl (by repeat (first | exact InH.nil | refine InH.cons rfl ?_)) (by (simp only [pI, List.map_cons, List.map_nil, insH, inE, inT, inA, inC, inD, inB, gl, nx, memN, Nat.beq, Nat.add_eq, List.getD_cons_zero, List.getD_cons_succ, List.getD_nil, Bool.or_false, Bool.false_or, Bool.true_or, Bool.or_true, Nat.add_zero, Nat.zero_add]; rfl)) (by (simp only [pI, List.map_cons, List.map_nil, insH, inE, inT, inA, inC, inD, inB, gl, nx, memN, Nat.beq, Nat.add_eq, List.getD_cons_zero, List.getD_cons_succ, List.getD_nil, Bool.or_false, Bool.false_or, Bool.true_or, Bool.or_true, Nat.add_zero, Nat.zero_add]; rfl)) ?_
        refine rl_assign rfl ?_
        refine hK18 _ _ ?_
        clear hK18 K18
        refine ex_seq_k fun K19 hK19 => ?_
        refine ex_seq_k fun K20 hK20 => ?_
        refine ex_region ttOK (by rfl) ?_
        refine rl_move rfl ?_
        refine rl_bin rfl rfl rfl ?_
        refine rl_move rfl ?_
        refine rl_g rfl rfl (fun hg21 => ?_) (fun hg21 => ?_)
        · try simp at hg21
          refine rl_loadA_ptr rfl tt_28 rfl rfl rfl ?_
          refine rl_gT rfl rfl ?_
          refine rl_loadA_ptr rfl tt_28 rfl rfl rfl ?_
          refine rl_gT rfl rfl ?_
          refine rl_lend rfl rfl rfl (by (refine lendNd (T := []) rfl rfl rfl rfl rfl ?_; refine lendC ?_ ?_ .nil <;> rfl)) (F_laws_eqNode false true (nodeRise n) (nodeRise n)) (by exact .pv _) ?_
          refine rl_gT rfl rfl ?_
          refine rl_not rfl ?_
          refine rl_pickF rfl rfl ?_
          refine hK20 _ _ ?_
          clear hK20 K20
          refine ex_cond rfl (fun hc22 => ?_) (fun hc22 => ?_)
          · (simp at hc22; done)
          · try simp at hc22
            refine ex_skip ?_
            refine hK19 _ _ ?_
            clear hK19 K19
            refine ex_seq_k fun K23 hK23 => ?_
            refine ex_region ttOK (by rfl) ?_
            refine rl_assign rfl ?_
            refine hK23 _ _ ?_
            clear hK23 K23
            refine ex_seq_k fun K24 hK24 => ?_
            refine ex_region ttOK (by rfl) ?_
            refine rl_loadA_ptr rfl tt_28 rfl rfl rfl ?_
            refine rl_move rfl ?_
            refine rl_meth [10, 11, 12, 13, 14] [_, _, _, _, _] (F_laws_markNode (nodeRise n) 1 hz2) rfl rfl rfl (by decide) rfl rfl (by repeat (first | exact InH.nil | refine InH.cons rfl ?_)) (by (simp only [pI, List.map_cons, List.map_nil, insH, inE, inT, inA, inC, inD, inB, gl, nx, memN, Nat.beq, Nat.add_eq, List.getD_cons_zero, List.getD_cons_succ, List.getD_nil, Bool.or_false, Bool.false_or, Bool.true_or, Bool.or_true, Nat.add_zero, Nat.zero_add]; rfl)) (by (simp only [pI, List.map_cons, List.map_nil, insH, inE, inT, inA, inC, inD, inB, gl, nx, memN, Nat.beq, Nat.add_eq, List.getD_cons_zero, List.getD_cons_succ, List.getD_nil, Bool.or_false, Bool.false_or, Bool.true_or, Bool.or_true, Nat.add_zero, Nat.zero_add]; rfl)) ?_
            refine rl_assign rfl ?_
            refine hK24 _ _ ?_
            clear hK24 K24
            refine ex_seq_k fun K25 hK25 => ?_
            refine ex_region ttOK (by rfl) ?_
            refine rl_assign rfl ?_
            refine hK25 _ _ ?_
            clear hK25 K25
            refine ex_seq_k fun K26 hK26 => ?_
            refine ex_region ttOK (by rfl) ?_
            refine rl_loadA_ptr rfl tt_28 rfl rfl rfl ?_
            refine rl_move rfl ?_
            refine rl_lend rfl rfl rfl (by exact lendNd (n := kNd 1 (nodeRise n)) rfl rfl rfl rfl rfl (.cl rfl .nil)) (F_laws_heldNode false (nodeRise n) 1 hz2) (by exact .pv _) ?_
            refine rl_assign rfl ?_
            refine hK26 _ _ ?_
            clear hK26 K26
            refine ex_seq_k fun K27 hK27 => ?_
            refine ex_seq_k fun K28 hK28 => ?_
            refine ex_region ttOK (by rfl) ?_
            refine rl_move rfl ?_
            refine rl_bin rfl rfl rfl ?_
            refine hK28 _ _ ?_
            clear hK28 K28
            refine ex_cond rfl (fun hc29 => ?_) (fun hc29 => ?_)
            · (simp at hc29; omega)
            · try simp at hc29
              refine ex_skip ?_
              refine hK27 _ _ ?_
              clear hK27 K27
              refine ex_seq_k fun K30 hK30 => ?_
              refine ex_seq_k fun K31 hK31 => ?_
              refine ex_region ttOK (by rfl) ?_
              refine rl_move rfl ?_
              refine rl_move rfl ?_
              refine rl_bin rfl rfl rfl ?_
              refine hK31 _ _ ?_
              clear hK31 K31
              refine ex_cond rfl (fun hc32 => ?_) (fun hc32 => ?_)
              · (simp at hc32; done)
              · try simp at hc32
                refine ex_skip ?_
                refine hK30 _ _ ?_
                clear hK30 K30
                refine ex_seq_k fun K33 hK33 => ?_
                refine ex_region ttOK (by rfl) ?_
                refine rl_loadA_ptr rfl tt_42 rfl rfl rfl ?_
                refine rl_meth [30, 31, 32, 33, 34] [_, _, _, _, _] (F_laws_toNode true n hl) rfl rfl rfl (by decide) rfl rfl (by repeat (first | exact InH.nil | refine InH.cons rfl ?_)) (by (simp only [pI, List.map_cons, List.map_nil, insH, inE, inT, inA, inC, inD, inB, gl, nx, memN, Nat.beq, Nat.add_eq, List.getD_cons_zero, List.getD_cons_succ, List.getD_nil, Bool.or_false, Bool.false_or, Bool.true_or, Bool.or_true, Nat.add_zero, Nat.zero_add]; rfl)) (by (simp only [pI, List.map_cons, List.map_nil, insH, inE, inT, inA, inC, inD, inB, gl, nx, memN, Nat.beq, Nat.add_eq, List.getD_cons_zero, List.getD_cons_succ, List.getD_nil, Bool.or_false, Bool.false_or, Bool.true_or, Bool.or_true, Nat.add_zero, Nat.zero_add]; rfl)) ?_
                refine rl_methL [15, 16, 17, 18, 19] [_, _, _, _, _] (F_impl_NodeRise false n) rfl rfl rfl (LendM.base (lendNd rfl rfl rfl rfl rfl .nil)) rfl (by decide) rfl rfl (by repeat (first | exact InH.nil | refine InH.cons rfl ?_)) (by (simp only [pI, List.map_cons, List.map_nil, insH, inE, inT, inA, inC, inD, inB, gl, nx, memN, Nat.beq, Nat.add_eq, List.getD_cons_zero, List.getD_cons_succ, List.getD_nil, Bool.or_false, Bool.false_or, Bool.true_or, Bool.or_true, Nat.add_zero, Nat.zero_add]; rfl)) (by (simp only [pI, List.map_cons, List.map_nil, insH, inE, inT, inA, inC, inD, inB, gl, nx, memN, Nat.beq, Nat.add_eq, List.getD_cons_zero, List.getD_cons_succ, List.getD_nil, Bool.or_false, Bool.false_or, Bool.true_or, Bool.or_true, Nat.add_zero, Nat.zero_add]; rfl)) rfl rfl (str_of rfl) (by repeat (first | exact StrH.nil | refine StrH.dead ?_)) (by exact strNd .nil) ?_
                refine rl_alloc (id := 4) tt_28 za_28 rfl ?_
                refine rl_storeA rfl rfl tt_28 rfl rfl rfl rfl ?_
                refine hK33 _ _ ?_
                clear hK33 K33
                refine ex_seq_k fun K34 hK34 => ?_
                refine ex_seq_k fun K35 hK35 => ?_
                refine ex_region ttOK (by rfl) ?_
                refine rl_loadA_ptr rfl tt_28 rfl rfl rfl ?_
                refine rl_loadA_ptr rfl tt_28 rfl rfl rfl ?_
                refine rl_lend rfl rfl rfl (by (refine lendNd (T := []) rfl rfl rfl rfl rfl ?_; refine lendC ?_ ?_ .nil <;> rfl)) (F_laws_eqNode false true (nodeRise n) (nodeRise n)) (by exact .pv _) ?_
                refine rl_not rfl ?_
                refine hK35 _ _ ?_
                clear hK35 K35
                refine ex_cond rfl (fun hc36 => ?_) (fun hc36 => ?_)
                · (simp at hc36; done)
                · try simp at hc36
                  refine ex_skip ?_
                  refine hK34 _ _ ?_
                  clear hK34 K34
                  refine ex_seq_k fun K37 hK37 => ?_
                  refine ex_region ttOK (by rfl) ?_
                  refine rl_assign rfl ?_
                  refine hK37 _ _ ?_
                  clear hK37 K37
                  refine ex_seq_k fun K38 hK38 => ?_
                  refine ex_region ttOK (by rfl) ?_
                  refine rl_loadA_ptr rfl tt_28 rfl rfl rfl ?_
                  refine rl_move rfl ?_
                  refine rl_lend rfl rfl rfl (by exact lendNd (n := kNd 1 (nodeRise n)) rfl rfl rfl rfl rfl (.cl rfl .nil)) (F_laws_heldNode false (nodeRise n) 1 hz2) (by exact .pv _) ?_
                  refine rl_assign rfl ?_
                  refine hK38 _ _ ?_
                  clear hK38 K38
                  refine ex_seq_k fun K39 hK39 => ?_
                  refine ex_seq_k fun K40 hK40 => ?_
                  refine ex_region ttOK (by rfl) ?_
                  refine rl_move rfl ?_
                  refine rl_bin rfl rfl rfl ?_
                  refine hK40 _ _ ?_
                  clear hK40 K40
                  refine ex_cond rfl (fun hc41 => ?_) (fun hc41 => ?_)
                  · (simp at hc41; omega)
                  · try simp at hc41
                    refine ex_skip ?_
                    refine hK39 _ _ ?_
                    clear hK39 K39
                    refine ex_seq_k fun K42 hK42 => ?_
                    refine ex_seq_k fun K43 hK43 => ?_
                    refine ex_region ttOK (by rfl) ?_
                    refine rl_move rfl ?_
                    refine rl_move rfl ?_
                    refine rl_bin rfl rfl rfl ?_
                    refine hK43 _ _ ?_
                    clear hK43 K43
                    refine ex_cond rfl (fun hc44 => ?_) (fun hc44 => ?_)
                    · (simp at hc44; done)
                    · try simp at hc44
                      refine ex_skip ?_
                      refine hK42 _ _ ?_
                      clear hK42 K42
                      refine ex_seq_k fun K45 hK45 => ?_
                      refine ex_region ttOK (by rfl) ?_
                      refine rl_assign rfl ?_
                      refine hK45 _ _ ?_
                      clear hK45 K45
                      refine ex_ret ⟨.inr rfl, ?_⟩
                      exact ret_pv rfl rfl rfl
        · try simp at hg21
          refine rl_gF rfl rfl ?_
          refine rl_gF rfl rfl ?_
          refine rl_gF rfl rfl ?_
          refine rl_pickT rfl rfl ?_
          refine hK20 _ _ ?_
          clear hK20 K20
          refine ex_cond rfl (fun hc46 => ?_) (fun hc46 => ?_)
          · (simp at hc46; omega)
          · (simp at hc46; done)
end Go.Proofs.YtpadkogpeobboaaGreat.Am
namespace Go.Proofs.YtpadkogpeobboaaGreat.Am
open Go Go.RowKit
def X0 (w : World) : Cx := ⟨fun b => b < w.heap.size, fun b => b < w.heap.size, fun _ _ => none, fun _ _ => none⟩
theorem start_sr (w : World) : SRh (X0 w) ⟨w, fun _ => False, fun b => b < w.heap.size, fun b => b < w.heap.size⟩ (fun _ => none) w := by
  refine ⟨fun _ => [], ?_, ?_, ?_, ?_, ?_, ?_, ?_, ?_, ?_, rfl, rfl, rfl, Nat.le_refl _, fun _ _ _ => rfl⟩
  · intro id g e h; cases h
  · intro id ge b h; cases h
  · intro id id' ge ge' b h; cases h
  · intro b hb; exact ⟨hb, fun id ge h => by cases h⟩
  · intro b hb; exact hb
  · intro b hb; exact .inl hb
  · intro b hb; exact .inl hb
  · intro id ge b h; cases h
  · intro id g h; exact ⟨rfl, rfl⟩
theorem start_calls {P : Program} {f : FuncId} {avs : List AV} {u : Value} (hC : Pure P f avs (.pv u)) (w : World) (vs : List Value) (hl : vs.length = avs.length) (hr : ∀ (i : Nat) (a : AV) (v : Value), avs[i]? = some a → vs[i]? = some v → VR (X0 w) w a v) :
    Calls P f vs.toArray w fun e w' => e = .returned u ∧ Below w.heap.size w w' :=
  (hC.2 (X0 w) _ (fun _ => none) w vs (start_sr w) hl hr (fun id ge h => by cases h)).mono fun e w' ⟨v, he, X', hX, hS, hk, hv⟩ => by
    rw [hv.pv_inv] at he
    obtain ⟨F, hS⟩ := hS
    exact ⟨he, hS.os, hS.tape, hS.output, hS.size, fun k hk => hS.keep k hk (fun h => h)⟩
def IsRow (k : IntKind) (w : World) (a : Option Addr) (len cap : Nat) (zs : List Int) : Prop :=
  (a = none ∧ len = 0 ∧ cap = 0 ∧ zs = []) ∨
  ∃ x, a = some x ∧ len ≤ cap ∧ cap ≤ maxLen ∧ zs.length = cap ∧ (∀ i, i < zs.length → w.cell? (x.add i) = some (.int k (zs.getD i 0))) ∧ ∀ n ∈ zs, (Lit.int k n).wf = true
end Go.Proofs.YtpadkogpeobboaaGreat.Am
namespace Go.Proofs.YtpadkogpeobboaaGreat.Am
open Go Go.RowKit
variable {H : Type} (enc : TypeId × Value → H) (w : World)
theorem rd_State : Rd enc Tryz.prog w 210 3 (fun x : St => encSt x) := by
  refine ⟨by rw [(ttOK _ _ tt_210).cells]; rfl, fun fuel cs x hx => ?_⟩
  obtain ⟨hl, hf⟩ := rd_fields (ttOK _ _ tt_210) rfl hx
  obtain ⟨a0, l0, h0⟩ := hf (j := 0) rfl (rd_int (ttOK _ _ tt_3) rfl)
  obtain ⟨a1, l1, h1⟩ := hf (j := 1) rfl (rd_int (ttOK _ _ tt_3) rfl)
  obtain ⟨a2, l2, h2⟩ := hf (j := 2) rfl (rd_int (ttOK _ _ tt_3) rfl)
  exact ⟨⟨a0, a1, a2⟩, rfl, (crs_seg (o := 0) h0 l0 (crs_seg (o := 1) h1 l1 (crs_seg (o := 2) h2 l2 (crs_end hl))))⟩
theorem rd_Event : Rd enc Tryz.prog w 163 7 (fun x : Ev => encEv x) := by
  refine ⟨by rw [(ttOK _ _ tt_163).cells]; rfl, fun fuel cs x hx => ?_⟩
  obtain ⟨hl, hf⟩ := rd_fields (ttOK _ _ tt_163) rfl hx
  obtain ⟨a0, l0, h0⟩ := hf (j := 0) rfl (rd_int (ttOK _ _ tt_3) rfl)
  obtain ⟨a1, l1, h1⟩ := hf (j := 1) rfl (rd_int (ttOK _ _ tt_3) rfl)
  obtain ⟨a2, l2, h2⟩ := hf (j := 2) rfl (rd_int (ttOK _ _ tt_3) rfl)
  obtain ⟨a3, l3, h3⟩ := hf (j := 3) rfl (rd_int (ttOK _ _ tt_3) rfl)
  obtain ⟨a4, l4, h4⟩ := hf (j := 4) rfl (rd_int (ttOK _ _ tt_3) rfl)
  obtain ⟨a5, l5, h5⟩ := hf (j := 5) rfl (rd_int (ttOK _ _ tt_3) rfl)
  obtain ⟨a6, l6, h6⟩ := hf (j := 6) rfl (rd_int (ttOK _ _ tt_3) rfl)
  exact ⟨⟨a0, a1, a2, a3, a4, a5, a6⟩, rfl, (crs_seg (o := 0) h0 l0 (crs_seg (o := 1) h1 l1 (crs_seg (o := 2) h2 l2 (crs_seg (o := 3) h3 l3 (crs_seg (o := 4) h4 l4 (crs_seg (o := 5) h5 l5 (crs_seg (o := 6) h6 l6 (crs_end hl))))))))⟩
theorem rd_Out : Rd enc Tryz.prog w 220 5 (fun x : Ou => encOu x) := by
  refine ⟨by rw [(ttOK _ _ tt_220).cells]; rfl, fun fuel cs x hx => ?_⟩
  obtain ⟨hl, hf⟩ := rd_fields (ttOK _ _ tt_220) rfl hx
  obtain ⟨a0, l0, h0⟩ := hf (j := 0) rfl (rd_int (ttOK _ _ tt_3) rfl)
  obtain ⟨a1, l1, h1⟩ := hf (j := 1) rfl (rd_int (ttOK _ _ tt_3) rfl)
  obtain ⟨a2, l2, h2⟩ := hf (j := 2) rfl (rd_int (ttOK _ _ tt_3) rfl)
  obtain ⟨a3, l3, h3⟩ := hf (j := 3) rfl (rd_int (ttOK _ _ tt_3) rfl)
  obtain ⟨a4, l4, h4⟩ := hf (j := 4) rfl (rd_int (ttOK _ _ tt_3) rfl)
  exact ⟨⟨a0, a1, a2, a3, a4⟩, rfl, (crs_seg (o := 0) h0 l0 (crs_seg (o := 1) h1 l1 (crs_seg (o := 2) h2 l2 (crs_seg (o := 3) h3 l3 (crs_seg (o := 4) h4 l4 (crs_end hl))))))⟩
theorem rd_Past : Rd enc Tryz.prog w 282 12 (fun x : Pa => encPa true x) := by
  refine ⟨by rw [(ttOK _ _ tt_282).cells]; rfl, fun fuel cs x hx => ?_⟩
  obtain ⟨hl, hf⟩ := rd_fields (ttOK _ _ tt_282) rfl hx
  obtain ⟨a0, l0, h0⟩ := hf (j := 0) rfl (rd_Event enc w)
  obtain ⟨a1, l1, h1⟩ := hf (j := 1) rfl (rd_State enc w)
  obtain ⟨a2, l2, h2⟩ := hf (j := 2) rfl (rd_slice 76 (by decide) (ttOK _ _ tt_38) rfl (rd_Event enc w))
  obtain ⟨a3, l3, h3⟩ := hf (j := 3) rfl (rd_slice 104 (by decide) (ttOK _ _ tt_39) rfl (rd_Out enc w))
  exact ⟨⟨a0, a1, a2, a3⟩, rfl, (crs_seg (o := 0) h0 l0 (crs_seg (o := 7) h1 l1 (crs_seg (o := 10) h2 l2 (crs_seg (o := 11) h3 l3 (crs_end hl)))))⟩
theorem rd_Lane : Rd enc Tryz.prog w 213 5 (fun x : La => encLa true x) := by
  refine ⟨by rw [(ttOK _ _ tt_213).cells]; rfl, fun fuel cs x hx => ?_⟩
  obtain ⟨hl, hf⟩ := rd_fields (ttOK _ _ tt_213) rfl hx
  obtain ⟨a0, l0, h0⟩ := hf (j := 0) rfl (rd_int (ttOK _ _ tt_3) rfl)
  obtain ⟨a1, l1, h1⟩ := hf (j := 1) rfl (rd_State enc w)
  obtain ⟨a2, l2, h2⟩ := hf (j := 2) rfl (rd_slice 78 (by decide) (ttOK _ _ tt_211) rfl (rd_Past enc w))
  exact ⟨⟨a0, a1, a2⟩, rfl, (crs_seg (o := 0) h0 l0 (crs_seg (o := 1) h1 l1 (crs_seg (o := 4) h2 l2 (crs_end hl))))⟩
theorem rd_View : Rd enc Tryz.prog w 216 3 (fun x : Vi => encVi true x) := by
  refine ⟨by rw [(ttOK _ _ tt_216).cells]; rfl, fun fuel cs x hx => ?_⟩
  obtain ⟨hl, hf⟩ := rd_fields (ttOK _ _ tt_216) rfl hx
  obtain ⟨a0, l0, h0⟩ := hf (j := 0) rfl (rd_int (ttOK _ _ tt_3) rfl)
  obtain ⟨a1, l1, h1⟩ := hf (j := 1) rfl (rd_int (ttOK _ _ tt_3) rfl)
  obtain ⟨a2, l2, h2⟩ := hf (j := 2) rfl (rd_slice 76 (by decide) (ttOK _ _ tt_38) rfl (rd_Event enc w))
  exact ⟨⟨a0, a1, a2⟩, rfl, (crs_seg (o := 0) h0 l0 (crs_seg (o := 1) h1 l1 (crs_seg (o := 2) h2 l2 (crs_end hl))))⟩
theorem rd_Node : Rd enc Tryz.prog w 42 13 (fun x : Nd => encNd true x) := by
  refine ⟨by rw [(ttOK _ _ tt_42).cells]; rfl, fun fuel cs x hx => ?_⟩
  obtain ⟨hl, hf⟩ := rd_fields (ttOK _ _ tt_42) rfl hx
  obtain ⟨a0, l0, h0⟩ := hf (j := 0) rfl (rd_int (ttOK _ _ tt_3) rfl)
  obtain ⟨a1, l1, h1⟩ := hf (j := 1) rfl (rd_bool Tryz.underlying4 (by kernel_rfl))
  obtain ⟨a2, l2, h2⟩ := hf (j := 2) rfl (rd_int (ttOK _ _ tt_3) rfl)
  obtain ⟨a3, l3, h3⟩ := hf (j := 3) rfl (rd_int (ttOK _ _ tt_3) rfl)
  obtain ⟨a4, l4, h4⟩ := hf (j := 4) rfl (rd_slice 65 (by decide) (ttOK _ _ tt_37) rfl (rd_Lane enc w))
  obtain ⟨a5, l5, h5⟩ := hf (j := 5) rfl (rd_slice 76 (by decide) (ttOK _ _ tt_38) rfl (rd_Event enc w))
  obtain ⟨a6, l6, h6⟩ := hf (j := 6) rfl (rd_slice 104 (by decide) (ttOK _ _ tt_39) rfl (rd_Out enc w))
  obtain ⟨a7, l7, h7⟩ := hf (j := 7) rfl (rd_int (ttOK _ _ tt_3) rfl)
  obtain ⟨a8, l8, h8⟩ := hf (j := 8) rfl (rd_int (ttOK _ _ tt_3) rfl)
  obtain ⟨a9, l9, h9⟩ := hf (j := 9) rfl (rd_slice 141 (by decide) (ttOK _ _ tt_40) rfl (rd_View enc w))
  obtain ⟨a10, l10, h10⟩ := hf (j := 10) rfl (rd_slice 3 (by decide) (ttOK _ _ tt_22) rfl (rd_int (ttOK _ _ tt_3) rfl))
  obtain ⟨a11, l11, h11⟩ := hf (j := 11) rfl (rd_int (ttOK _ _ tt_3) rfl)
  obtain ⟨a12, l12, h12⟩ := hf (j := 12) rfl (rd_int (ttOK _ _ tt_3) rfl)
  exact ⟨⟨a0, a1, a2, a3, a4, a5, a6, a7, a8, a9, a10, a11, a12⟩, rfl, (crs_seg (o := 0) h0 l0 (crs_seg (o := 1) h1 l1 (crs_seg (o := 2) h2 l2 (crs_seg (o := 3) h3 l3 (crs_seg (o := 4) h4 l4 (crs_seg (o := 5) h5 l5 (crs_seg (o := 6) h6 l6 (crs_seg (o := 7) h7 l7 (crs_seg (o := 8) h8 l8 (crs_seg (o := 9) h9 l9 (crs_seg (o := 10) h10 l10 (crs_seg (o := 11) h11 l11 (crs_seg (o := 12) h12 l12 (crs_end hl))))))))))))))⟩
variable {enc} {w}
theorem rd_agg {α : Type} {e : α → List AV} {t sz : Nat} {P : Program} (hr : Rd enc P w t sz e) {cs : Array Value} {d : DataW H} {p : List MemPlace} (h : DataW.Trod enc P w 0 (fun _ => true) true t (.agg cs) d p) : ∃ a, VR (X0 w) w (.agg (e a)) (.agg cs) := by
  obtain ⟨fuel, hf⟩ := h
  obtain ⟨a, _, h2⟩ := hr.2 _ _ _ hf
  refine ⟨a, .cl ?_⟩
  have := CR.agg (ok1 := ltw w) (ok2 := ltw w) (w := w) (cs := e a) cs.toList h2.len h2.one h2.rel
  have e : cs.toList.toArray = cs := by simp
  rw [e] at this
  exact this
end Go.Proofs.YtpadkogpeobboaaGreat.Am
