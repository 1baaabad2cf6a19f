/- Walks. PRINTED BY wip/gen/gen2.py out of b4.py. -/
import Derived.Test.YtcleiaibcfocdaaAmF5
set_option linter.unusedVariables false
set_option linter.unusedSimpArgs false
namespace Go.Proofs.Ytcleiaibcfocdaa.Am
open Go Go.RowKit

theorem F_impl_NodeStart (id : Int) : Meth Try.prog 10 5 [] [.pv (.int .i64 id)] [(0, (0, .dead)), (1, (0, .dead)), (2, (0, .dead)), (3, (0, .dead)), (4, (0, .dead))] (.agg [pI (nodeStart id).id, .pv (.bool (nodeStart id).up), pI (nodeStart id).inc, pI (nodeStart id).g, .ref 0 0, .ref 1 0, .ref 2 0, pI (nodeStart id).led, pI (nodeStart id).version, .ref 3 0, .ref 4 0, pI (nodeStart id).round, pI (nodeStart id).low]) [(0, (0, .row 37 5 ((nodeStart id).lanes.map encLaO))), (1, (0, .row 60 7 ((nodeStart id).kept.map encEv))), (2, (0, .row 131 5 ((nodeStart id).outs.map encOu))), (3, (0, .row 123 3 ((nodeStart id).views.map encViO))), (4, (0, .row 3 1 ((nodeStart id).known.map encI)))] := by
  refine meth_of_ex ttOK (fn := Try.f10) (by kernel_rfl) (by kernel_rfl) rfl (O0 := [.agg [pI (nodeStart id).id, .pv (.bool (nodeStart id).up), pI (nodeStart id).inc, pI (nodeStart id).g, .ref 0 0, .ref 1 0, .ref 2 0, pI (nodeStart id).led, pI (nodeStart id).version, .ref 3 0, .ref 4 0, pI (nodeStart id).round, pI (nodeStart id).low]]) 5 11 (Nat.le_of_ble_eq_true rfl) (by rfl) (by repeat (first | exact BndH.nil | refine BndH.dead ?_ | refine BndH.box rfl ?_ | refine BndH.box (by assumption) ?_ | refine BndH.row (flatR_map fun _ => rfl) ?_ | refine BndH.row flatR_nil ?_ | refine BndH.map (by intro p hp; cases hp; done) ?_ | refine BndH.map (by intro p hp; simp only [List.mem_map, List.not_mem_nil] at hp; first | (obtain ⟨a, _, rfl⟩ := hp; rfl) | exact hp.elim) ?_ | refine BndH.chn ?_)) (by repeat (first | exact BndH.nil | refine BndH.dead ?_ | refine BndH.box rfl ?_ | refine BndH.box (by assumption) ?_ | refine BndH.row (flatR_map fun _ => rfl) ?_ | refine BndH.row flatR_nil ?_ | refine BndH.map (by intro p hp; cases hp; done) ?_ | refine BndH.map (by intro p hp; simp only [List.mem_map, List.not_mem_nil] at hp; first | (obtain ⟨a, _, rfl⟩ := hp; rfl) | exact hp.elim) ?_ | refine BndH.chn ?_)) (by rfl) fun γ => ?_
  show Ex Try.prog _ _ [(0, .pv (.int .i64 id))] [(0, ((γ 0), .dead)), (1, ((γ 1), .dead)), (2, ((γ 2), .dead)), (3, ((γ 3), .dead)), (4, ((γ 4), .dead)), (15, (0, .dead)), (14, (0, .dead)), (13, (0, .dead)), (12, (0, .dead)), (11, (0, .dead)), (10, (0, .dead)), (9, (0, .dead)), (8, (0, .dead)), (7, (0, .dead)), (6, (0, .dead)), (5, (0, .dead))] _
  have hpl := procs_len id 4
  refine ex_seq_k fun K1 hK1 => ?_
  refine ex_region ttOK (by rfl) ?_
  refine rl_alloc (id := 5) tt_31 za_31 rfl ?_
  refine hK1 _ _ ?_
  clear hK1 K1
  refine ex_seq_k fun K2 hK2 => ?_
  refine ex_seq_k fun K3 hK3 => ?_
  refine ex_region ttOK (by rfl) ?_
  refine rl_move rfl ?_
  refine rl_call rfl rfl rfl (F_impl_isNode ..) ?_
  refine rl_not rfl ?_
  refine hK3 _ _ ?_
  clear hK3 K3
  refine ex_cond rfl (fun hc4 => ?_) (fun hc4 => ?_)
  · try simp at hc4
    have hns : nodeStart id = nd0 := if_neg (by omega)
    refine ex_seq_k fun K5 hK5 => ?_
    refine ex_region ttOK (by rfl) ?_
    refine rl_build tt_31 rfl za_31 rfl (by simp only [pI, tt_3, T3, tt_4, T4, tt_25, T25, tt_26, T26, tt_27, T27, tt_28, T28, tt_29, T29, fillA, cellsA, AV.okc, AV.one, Value.oneCell', List.map_cons, List.map_nil, List.getElem?_cons_zero, List.getElem?_cons_succ, List.take_succ_cons, List.take_zero, List.drop_succ_cons, List.drop_zero, List.cons_append, List.nil_append, List.length_cons, List.length_nil, if_true, and_self, Nat.reduceAdd, Nat.reduceLeDiff]; rfl) ?_
    refine rl_storeA rfl rfl tt_31 rfl rfl rfl rfl ?_
    refine hK5 _ _ ?_
    clear hK5 K5
    rw [hns]
    refine ex_nilB 5 4 0 37 5 rfl rfl rfl rfl rfl ?_
    refine ex_nilB 5 5 1 60 7 rfl rfl rfl rfl rfl ?_
    refine ex_nilB 5 6 2 131 5 rfl rfl rfl rfl rfl ?_
    refine ex_nilB 5 9 3 123 3 rfl rfl rfl rfl rfl ?_
    refine ex_nilB 5 10 4 3 1 rfl rfl rfl rfl rfl ?_
    refine ex_ret ?_
    exact ⟨.inr rfl, [_, _, _, _, _], rfl, rfl, HE.row rfl (by first | rfl | rw [List.map_map]; rfl) (HE.row rfl rfl (HE.row rfl rfl (HE.row rfl rfl (HE.row rfl rfl HE.nil))))⟩
  · try simp at hc4
    have hns : nodeStart id = ⟨id, true, 1, 0, (procs id 4).map lane0, evSort ((procs id 4).map appFirst), [], 0, 1, [vi0, vi0, vi0], [0, 0, 0], 0, 41⟩ := if_pos (by first | exact hc4 | omega)
    refine ex_skip ?_
    refine hK2 _ _ ?_
    clear hK2 K2
    refine ex_seq_k fun K6 hK6 => ?_
    refine ex_region ttOK (by rfl) ?_
    refine rl_move rfl ?_
    refine rl_build tt_57 rfl za_57 rfl (by simp only [pI, tt_3, T3, tt_26, T26, tt_27, T27, tt_55, T55, fillA, cellsA, AV.okc, AV.one, Value.oneCell', List.map_cons, List.map_nil, List.getElem?_cons_zero, List.getElem?_cons_succ, List.take_succ_cons, List.take_zero, List.drop_succ_cons, List.drop_zero, List.cons_append, List.nil_append, List.length_cons, List.length_nil, if_true, and_self, Nat.reduceAdd, Nat.reduceLeDiff]; rfl) ?_
    refine rl_alloc (id := 6) tt_57 za_57 rfl ?_
    refine rl_storeA rfl rfl tt_57 rfl rfl rfl rfl ?_
    refine hK6 _ _ ?_
    clear hK6 K6
    refine ex_seq_k fun K7 hK7 => ?_
    refine ex_seq_k fun K8 hK8 => ?_
    refine ex_region ttOK (by rfl) ?_
    refine rl_move rfl ?_
    refine rl_call rfl rfl rfl (F_impl_procsOf ..) ?_
    first | refine rl_lenm rfl tt_29 rfl ?_ | refine rl_lenr rfl tt_29 rfl rfl (by first | exact List.length_map _ | rfl) ?_ | refine rl_len rfl tt_29 rfl rfl (by intro s hs; cases hs) rfl ?_
    refine rl_move rfl ?_
    refine hK8 _ _ ?_
    clear hK8 K8
    refine ex_block ?_
    refine ex_nilB 6 4 11 34 3 rfl rfl rfl rfl rfl ?_
    refine ex_nilB 6 5 12 60 7 rfl rfl rfl rfl rfl ?_
    refine ex_loopK (ι := Nat) (fun i γ1 => [(16, .pv (.int .i64 (i : Int)))]) (fun i γ1 => [(11, ((γ1 11), .row 34 3 (((procs id 4).take i).map fun _ => encSt ⟨0, 0, 0⟩))), (12, ((γ1 12), .row 60 7 ((((procs id 4).take i).map appFirst).map encEv))), (6, ((0 + 1), .box 57 [pI id, pI 1, pI 0, pI 0, .ref 11 (γ1 11), .ref 12 (γ1 12), .pv (.slice none 0 0)])), (7, ((γ1 7), .dead)), (8, ((γ1 8), .dead)), (9, ((γ1 9), .dead)), (10, ((γ1 10), .dead))]) (fun i => i ≤ (procs id 4).length) (fun i => (procs id 4).length - i) (Cov.cons (t := 2) rfl (Cov.cons (t := 3) rfl (Cov.cons (t := 14) rfl (Cov.cons (t := 15) rfl Cov.nil)))) (HE.same (id := 0) rfl (HE.same (id := 1) rfl (HE.same (id := 2) rfl (HE.same (id := 3) rfl (HE.same (id := 4) rfl (HE.same (id := 5) rfl (HE.same (id := 13) rfl (HE.same (id := 14) rfl (HE.same (id := 15) rfl HE.nil))))))))) 0 (by omega) [0, 0, 0, 0, 0, 0, 0, _, _, _, _, _, _] (Cov.cons (t := 16) rfl Cov.nil) (HE.row rfl rfl (HE.row rfl rfl (HE.box rfl rfl (HE.kill rfl (HE.kill rfl (HE.kill rfl (HE.kill rfl HE.nil))))))) rfl fun i γ1 hi => ?_
    try dsimp only [List.cons_append, List.nil_append]
    refine ex_seq_k fun K9 hK9 => ?_
    refine ex_region ttOK (by rfl) ?_
    refine rl_bin rfl rfl rfl ?_
    refine hK9 _ _ ?_
    clear hK9 K9
    refine ex_seq_k fun K10 hK10 => ?_
    refine ex_cond rfl (fun hc11 => ?_) (fun hc11 => ?_)
    · try simp at hc11
      obtain ⟨p, hp⟩ : ∃ p, (procs id 4)[i]? = some p := ⟨_, List.getElem?_eq_getElem (by omega)⟩
      refine ex_skip ?_
      refine hK10 _ _ ?_
      clear hK10 K10
      refine ex_seq_k fun K12 hK12 => ?_
      refine ex_block ?_
      refine ex_seq_k fun K13 hK13 => ?_
      refine ex_region ttOK (by rfl) ?_
      first | refine rl_idxm rfl rfl tt_29 rfl tt_3 rfl (by assumption) ?_ | refine rl_idxr rfl rfl tt_29 rfl tt_3 rfl rfl (by first | omega | (simp; done) | (simp; omega)) ?_
      first | refine rl_load_ptr rfl tt_3 rfl rfl ?_ | refine rl_load_iel rfl tt_3 rfl ?_
      refine rl_assign rfl ?_
      refine hK13 _ _ ?_
      clear hK13 K13
      refine ex_seq_k fun K14 hK14 => ?_
      refine ex_region ttOK (by rfl) ?_
      refine rl_fieldAddr rfl tt_57 rfl rfl tt_55 rfl rfl ?_
      first | refine rl_load_ptr rfl tt_55 rfl rfl ?_ | refine rl_load_iel rfl tt_55 rfl ?_
      refine rl_build tt_34 rfl za_34 rfl (by simp only [pI, fillA, cellsA, AV.okc, AV.one, T3, T4, List.getElem?_cons_zero, List.getElem?_cons_succ, List.take_succ_cons, List.take_zero, List.drop_succ_cons, List.drop_zero, List.cons_append, List.nil_append, List.length_cons, List.length_nil, if_true, and_self, Nat.reduceAdd, Nat.reduceLeDiff]; rfl) ?_
      first | refine rl_slice1A (id := 7) tt_55 rfl tt_34 rfl rfl rfl rfl rfl rfl ?_ | refine rl_slice1 (id := 7) tt_55 rfl tt_34 rfl rfl rfl rfl rfl ?_ | refine rl_buildSlice (id := 7) tt_55 rfl tt_34 rfl rfl rfl rfl (by repeat (first | exact Abs.nil | refine Abs.ref rfl (by first | exact flatR_map (fun _ => rfl) | exact flatR_nil) ?_ rfl rfl | refine Abs.val rfl rfl ?_)) rfl (Nat.le_of_ble_eq_true rfl) (Nat.le_of_ble_eq_true rfl) (Nat.le_of_ble_eq_true rfl) rfl rfl ?_
      refine rl_app_rr (zs := ((procs id 4).take i ++ [p]).map fun _ => encSt ⟨0, 0, 0⟩) rfl rfl tt_55 rfl tt_34 rfl rfl rfl rfl (by first | rfl | exact noow_map (fun _ => rfl) _) (map_snoc _ _ _) (by first | omega | (first | (simp only [List.length_map, List.length_append, List.length_cons, List.length_nil, List.length_take, T60]; have := procs_len id 4; omega) | (simp only [List.length_map, List.length_append, List.length_cons, List.length_nil, List.length_take, T37]; have := procs_len id 4; omega) | (simp only [List.length_map, List.length_append, List.length_cons, List.length_nil, List.length_take, T123]; have := procs_len id 4; omega) | (simp only [List.length_map, List.length_append, List.length_cons, List.length_nil, List.length_take, T34]; have := procs_len id 4; omega) | (simp only [List.length_map, List.length_append, List.length_cons, List.length_nil, List.length_take, T3]; have := procs_len id 4; omega) | (simp only [List.length_map, List.length_append, List.length_cons, List.length_nil, List.length_take, T35]; have := procs_len id 4; omega) | (simp only [List.length_map, List.length_append, List.length_cons, List.length_nil, List.length_take, T131]; have := procs_len id 4; omega) | (simp only [List.length_map, List.length_append, List.length_cons, List.length_nil, List.length_take, T154]; have := procs_len id 4; omega)) | (simp; done)) ?_
      refine rl_fieldAddr rfl tt_57 rfl rfl tt_55 rfl rfl ?_
      refine rl_store1 rfl rfl tt_55 rfl rfl rfl rfl rfl (by simp only [List.set_cons_zero, List.set_cons_succ]; rfl) ?_
      refine hK14 _ _ ?_
      clear hK14 K14
      refine ex_region_any ttOK mixed (by rfl) ?_
      refine rl_fieldAddr rfl tt_57 rfl rfl tt_26 rfl rfl ?_
      first | refine rl_load_ptr rfl tt_26 rfl rfl ?_ | refine rl_load_iel rfl tt_26 rfl ?_
      refine rl_move rfl ?_
      refine rl_call rfl rfl rfl (F_impl_AppFirst ..) ?_
      first | refine rl_slice1A (id := 9) tt_26 rfl tt_60 rfl rfl rfl rfl rfl rfl ?_ | refine rl_slice1 (id := 9) tt_26 rfl tt_60 rfl rfl rfl rfl rfl ?_ | refine rl_buildSlice (id := 9) tt_26 rfl tt_60 rfl rfl rfl rfl (by repeat (first | exact Abs.nil | refine Abs.ref rfl (by first | exact flatR_map (fun _ => rfl) | exact flatR_nil) ?_ rfl rfl | refine Abs.val rfl rfl ?_)) rfl (Nat.le_of_ble_eq_true rfl) (Nat.le_of_ble_eq_true rfl) (Nat.le_of_ble_eq_true rfl) rfl rfl ?_
      refine rl_app_rr (zs := (((procs id 4).take i).map appFirst ++ [appFirst p]).map encEv) rfl rfl tt_26 rfl tt_60 rfl rfl rfl rfl (by first | rfl | exact noow_map (fun _ => rfl) _) (map_snoc _ _ _) (by first | omega | (first | (simp only [List.length_map, List.length_append, List.length_cons, List.length_nil, List.length_take, T60]; have := procs_len id 4; omega) | (simp only [List.length_map, List.length_append, List.length_cons, List.length_nil, List.length_take, T37]; have := procs_len id 4; omega) | (simp only [List.length_map, List.length_append, List.length_cons, List.length_nil, List.length_take, T123]; have := procs_len id 4; omega) | (simp only [List.length_map, List.length_append, List.length_cons, List.length_nil, List.length_take, T34]; have := procs_len id 4; omega) | (simp only [List.length_map, List.length_append, List.length_cons, List.length_nil, List.length_take, T3]; have := procs_len id 4; omega) | (simp only [List.length_map, List.length_append, List.length_cons, List.length_nil, List.length_take, T35]; have := procs_len id 4; omega) | (simp only [List.length_map, List.length_append, List.length_cons, List.length_nil, List.length_take, T131]; have := procs_len id 4; omega) | (simp only [List.length_map, List.length_append, List.length_cons, List.length_nil, List.length_take, T154]; have := procs_len id 4; omega)) | (simp; done)) ?_
      refine rl_fieldAddr rfl tt_57 rfl rfl tt_26 rfl rfl ?_
      refine rl_store1 rfl rfl tt_26 rfl rfl rfl rfl rfl (by simp only [List.set_cons_zero, List.set_cons_succ]; rfl) ?_
      refine ⟨by kernel_rfl, ?_⟩
      refine hK12 _ _ ?_
      clear hK12 K12
      refine ex_region ttOK (by rfl) ?_
      refine rl_bin rfl rfl rfl ?_
      refine rl_move rfl ?_
      exact ⟨i + 1, ⟨by omega, by omega⟩, [0, 0, 0, 0, 0, 0, 0, _, _, _, _, _, _], (Cov.cons' (t := 16) rfl (by rw [wrap_small (by omega) (by omega)]; rfl) Cov.nil), (Cov.cons (t := 2) rfl (Cov.cons (t := 3) rfl (Cov.cons (t := 14) rfl (Cov.cons (t := 15) rfl Cov.nil)))), (HE.row rfl (by rw [take_snoc hp]) (HE.row rfl (by simp only [take_snoc hp, List.map_append, List.map_cons, List.map_nil]) (HE.box rfl rfl (HE.kill rfl (HE.kill rfl (HE.kill rfl (HE.kill rfl HE.nil))))))), (HE.same (id := 0) rfl (HE.same (id := 1) rfl (HE.same (id := 2) rfl (HE.same (id := 3) rfl (HE.same (id := 4) rfl (HE.same (id := 5) rfl (HE.same (id := 13) rfl (HE.same (id := 14) rfl (HE.same (id := 15) rfl HE.nil))))))))), rfl⟩
    · try simp at hc11
      obtain rfl : i = (procs id 4).length := by omega
      refine ex_exit ?_
      refine hK7 _ _ ?_
      clear hK10 K10 hK7 K7
      refine ex_seq_k fun K15 hK15 => ?_
      refine ex_frzB (b := rEvs true (((procs id 4).take (procs id 4).length).map appFirst)) 6 5 rfl rfl rfl (.ref rfl (Le.ow_map _ (fun _ => rfl) (fun _ => rfl)) .nil) rfl rfl rfl rfl ?_
      rw [List.take_length]
      refine ex_region ttOK (by rfl) ?_
      refine rl_fieldAddr rfl tt_57 rfl rfl tt_26 rfl rfl ?_
      first | refine rl_load_ptr rfl tt_26 rfl rfl ?_ | refine rl_load_iel rfl tt_26 rfl ?_
      refine rl_meth [1] [_] (F_impl_EventSort true _ (by rw [List.length_map]; omega)) rfl rfl rfl (by decide) rfl rfl (by repeat (first | exact InH.nil | refine InH.cons rfl ?_)) (by first | (simp only [List.map_cons, List.map_nil, insH, inE, inT, inA, inC, inD, inB, gl, nx, memN, Nat.beq, Nat.add_eq, List.getD_cons_zero, List.getD_cons_succ, List.getD_nil, Bool.or_false, Bool.false_or, Bool.true_or, Bool.or_true, Nat.add_zero, Nat.zero_add]; rfl) | rfl) (by first | (simp only [List.map_cons, List.map_nil, insH, inE, inT, inA, inC, inD, inB, gl, nx, memN, Nat.beq, Nat.add_eq, List.getD_cons_zero, List.getD_cons_succ, List.getD_nil, Bool.or_false, Bool.false_or, Bool.true_or, Bool.or_true, Nat.add_zero, Nat.zero_add]; rfl) | rfl) ?_
      refine rl_fieldAddr rfl tt_57 rfl rfl tt_26 rfl rfl ?_
      refine rl_store1 rfl rfl tt_26 rfl rfl rfl rfl rfl (by simp only [List.set_cons_zero, List.set_cons_succ]; rfl) ?_
      refine hK15 _ _ ?_
      clear hK15 K15
      refine ex_seq_k fun K16 hK16 => ?_
      refine ex_region ttOK (by rfl) ?_
      first | refine rl_loadA_ptr rfl tt_57 rfl rfl rfl ?_ | refine rl_loadA_iel rfl tt_57 rfl rfl ?_ | refine rl_load_ptr rfl tt_57 rfl rfl ?_ | refine rl_load_iel rfl tt_57 rfl ?_ | refine rl_loadEA rfl tt_57 rfl (by assumption) rfl rfl ?_
      refine rl_meth [11, 1, 13, 14, 15, 4] [_, _, _, _, _, _] (F_impl_blank_start id 1 0 0 _) rfl rfl rfl (by decide) rfl rfl (by repeat (first | exact InH.nil | refine InH.cons rfl ?_)) (by first | (simp only [List.map_cons, List.map_nil, insH, inE, inT, inA, inC, inD, inB, gl, nx, memN, Nat.beq, Nat.add_eq, List.getD_cons_zero, List.getD_cons_succ, List.getD_nil, Bool.or_false, Bool.false_or, Bool.true_or, Bool.or_true, Nat.add_zero, Nat.zero_add]; rfl) | rfl) (by first | (simp only [List.map_cons, List.map_nil, insH, inE, inT, inA, inC, inD, inB, gl, nx, memN, Nat.beq, Nat.add_eq, List.getD_cons_zero, List.getD_cons_succ, List.getD_nil, Bool.or_false, Bool.false_or, Bool.true_or, Bool.or_true, Nat.add_zero, Nat.zero_add]; rfl) | rfl) ?_
      refine rl_assign rfl ?_
      refine hK16 _ _ ?_
      clear hK16 K16
      refine ex_seq_k fun K17 hK17 => ?_
      refine ex_region ttOK (by rfl) ?_
      refine rl_move rfl ?_
      refine rl_move rfl ?_
      refine rl_nil rfl rfl ?_
      refine rl_fieldAddr rfl tt_68 rfl rfl tt_4 rfl rfl ?_
      refine rl_store1 rfl rfl tt_4 rfl rfl rfl rfl rfl (by simp only [List.set_cons_zero, List.set_cons_succ]; rfl) ?_
      refine rl_nil rfl rfl ?_
      refine rl_fieldAddr rfl tt_68 rfl rfl tt_3 rfl rfl ?_
      refine rl_store1 rfl rfl tt_3 rfl rfl rfl rfl rfl (by simp only [List.set_cons_zero, List.set_cons_succ]; rfl) ?_
      refine hK17 _ _ ?_
      clear hK17 K17
      refine ex_seq_k fun K18 hK18 => ?_
      refine ex_region ttOK (by rfl) ?_
      refine rl_move rfl ?_
      refine rl_meth [11, 1, 14, 15, 4, 13, 0, 3] [_, _, _, _, _, _, _, _] (F_impl_body_node_start id 1 0 0 1 true _) rfl rfl rfl (by decide) rfl rfl (by repeat (first | exact InH.nil | refine InH.cons rfl ?_)) (by first | (simp only [List.map_cons, List.map_nil, insH, inE, inT, inA, inC, inD, inB, gl, nx, memN, Nat.beq, Nat.add_eq, List.getD_cons_zero, List.getD_cons_succ, List.getD_nil, Bool.or_false, Bool.false_or, Bool.true_or, Bool.or_true, Nat.add_zero, Nat.zero_add]; rfl) | rfl) (by first | (simp only [List.map_cons, List.map_nil, insH, inE, inT, inA, inC, inD, inB, gl, nx, memN, Nat.beq, Nat.add_eq, List.getD_cons_zero, List.getD_cons_succ, List.getD_nil, Bool.or_false, Bool.false_or, Bool.true_or, Bool.or_true, Nat.add_zero, Nat.zero_add]; rfl) | rfl) ?_
      refine rl_storeA rfl rfl tt_31 rfl rfl rfl rfl ?_
      refine hK18 _ _ ?_
      clear hK18 K18
      rw [hns]
      refine ex_nilB 5 6 2 131 5 rfl rfl rfl rfl rfl ?_
      refine ex_ownM (f' := fun p => encLaO (lane0 p)) 0 rfl (fun _ => .same (.same (.same (.same (.own .nil))))) ?_
      refine ex_ownM (f' := fun _ => encViO vi0) 3 rfl (fun _ => .same (.same (.own .nil))) ?_
      refine ex_ret ?_
      exact ⟨.inr rfl, [_, _, _, _, _], rfl, rfl, HE.row rfl (by first | rfl | rw [List.map_map]; rfl) (HE.row rfl rfl (HE.row rfl rfl (HE.row rfl rfl (HE.row rfl rfl HE.nil))))⟩

end Go.Proofs.Ytcleiaibcfocdaa.Am
