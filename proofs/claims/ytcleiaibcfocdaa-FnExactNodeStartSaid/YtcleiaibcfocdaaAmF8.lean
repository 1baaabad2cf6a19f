/- Walks. PRINTED BY wip/gen/gen2.py out of b6.py. -/
import Derived.Test.YtcleiaibcfocdaaAmF1
set_option linter.unusedVariables false
set_option linter.unusedSimpArgs false
namespace Go.Proofs.Ytcleiaibcfocdaa.Am
open Go Go.RowKit

theorem F_spec_l22Lanes (id : Int) : Pure Try.prog 43 [.pv (.int .i64 id)] (.row (.rd true) 37 5 ((procs id 4).map fun p => encLa true (lane0 p))) := by
  refine pure_of_ex ttOK (fn := Try.f43) (by kernel_rfl) (by kernel_rfl) rfl (outs := [.row (.rd true) 37 5 ((procs id 4).map fun p => encLa true (lane0 p))]) (by rfl) (Nat.le_of_ble_eq_true rfl) 3 ?_
  have hpl := fun k => procs_len id k
  refine ex_seq_k fun K1 hK1 => ?_
  refine ex_region ttOK (by rfl) ?_
  refine rl_assign rfl ?_
  refine hK1 _ _ ?_
  clear hK1 K1
  refine ex_seq_k fun K2 hK2 => ?_
  refine ex_region ttOK (by rfl) ?_
  refine rl_slice0 (id := 0) tt_25 rfl tt_37 rfl ?_
  refine rl_assign rfl ?_
  refine hK2 _ _ ?_
  clear hK2 K2
  refine ex_seq_k fun K3 hK3 => ?_
  refine ex_seq_k fun K4 hK4 => ?_
  refine ex_region ttOK (by rfl) ?_
  refine rl_assign rfl ?_
  refine hK4 _ _ ?_
  clear hK4 K4
  refine ex_block ?_
  refine ex_loopK (ι := Nat) (fun i γ1 => [(3, .ref 0 (γ1 0)), (4, .pv (.int .i64 (i : Int)))]) (fun i γ1 => [(0, ((γ1 0), .row 37 5 ((procs id i).map encLaN))), (1, ((γ1 1), .dead)), (2, ((γ1 2), .dead))]) (fun i => i ≤ 4) (fun i => 4 - i) (Cov.cons (t := 0) rfl Cov.nil) HE.nil 0 (by omega) [_, _, _] (Cov.cons (t := 3) rfl (Cov.cons (t := 4) rfl Cov.nil)) (HE.row rfl rfl (HE.kill rfl (HE.kill rfl HE.nil))) rfl fun i γ1 hi => ?_
  try dsimp only [List.cons_append, List.nil_append]
  refine ex_seq_k fun K5 hK5 => ?_
  refine ex_seq_k fun K6 hK6 => ?_
  refine ex_region ttOK (by rfl) ?_
  refine rl_move rfl ?_
  refine rl_bin rfl rfl rfl ?_
  refine hK6 _ _ ?_
  clear hK6 K6
  refine ex_cond rfl (fun hc7 => ?_) (fun hc7 => ?_)
  · try simp at hc7
    refine ex_skip ?_
    refine hK5 _ _ ?_
    clear hK5 K5
    refine ex_seq_k fun K8 hK8 => ?_
    refine ex_block ?_
    refine ex_seq_k fun K9 hK9 => ?_
    refine ex_region ttOK (by rfl) ?_
    refine rl_move rfl ?_
    refine rl_call rfl rfl rfl (F_spec_NodeOf ..) ?_
    refine rl_move rfl ?_
    refine rl_bin rfl rfl rfl ?_
    refine hK9 _ _ ?_
    clear hK9 K9
    refine ex_cond rfl (fun hc10 => ?_) (fun hc10 => ?_)
    · try simp at hc10
      refine ex_region ttOK (by rfl) ?_
      refine rl_move rfl ?_
      refine rl_move rfl ?_
      refine rl_build tt_37 rfl za_37 rfl (by simp only [pI, tt_3, T3, tt_34, T34, tt_35, T35, fillA, cellsA, AV.okc, AV.one, Value.oneCell', List.map_cons, List.map_nil, List.getElem?_cons_zero, List.getElem?_cons_succ, List.take_succ_cons, List.take_zero, List.drop_succ_cons, List.drop_zero, List.cons_append, List.nil_append, List.length_cons, List.length_nil, if_true, and_self, Nat.reduceAdd, Nat.reduceLeDiff]; rfl) ?_
      first | refine rl_slice1A (id := 1) tt_25 rfl tt_37 rfl rfl rfl rfl rfl rfl ?_ | refine rl_slice1 (id := 1) tt_25 rfl tt_37 rfl rfl rfl rfl rfl ?_ | refine rl_buildSlice (id := 1) tt_25 rfl tt_37 rfl rfl rfl rfl (by repeat (first | exact Abs.nil | refine Abs.ref rfl (by first | exact flatR_map (fun _ => rfl) | exact flatR_nil) ?_ rfl rfl | refine Abs.val rfl rfl ?_)) rfl (Nat.le_of_ble_eq_true rfl) (Nat.le_of_ble_eq_true rfl) (Nat.le_of_ble_eq_true rfl) rfl rfl ?_
      have := hpl i
      refine rl_app_rr (zs := (procs id i ++ [(i : Int)]).map encLaN) rfl rfl tt_25 rfl tt_37 rfl rfl rfl rfl (by first | rfl | exact noow_map (fun _ => rfl) _) (map_snoc _ _ _) (by first | omega | (first | (simp only [List.length_map, List.length_append, List.length_cons, List.length_nil, List.length_take, List.length_range, T60]; omega) | (simp only [List.length_map, List.length_append, List.length_cons, List.length_nil, List.length_take, List.length_range, T37]; omega) | (simp only [List.length_map, List.length_append, List.length_cons, List.length_nil, List.length_take, List.length_range, T123]; omega) | (simp only [List.length_map, List.length_append, List.length_cons, List.length_nil, List.length_take, List.length_range, T34]; omega) | (simp only [List.length_map, List.length_append, List.length_cons, List.length_nil, List.length_take, List.length_range, T3]; omega) | (simp only [List.length_map, List.length_append, List.length_cons, List.length_nil, List.length_take, List.length_range, T35]; omega) | (simp only [List.length_map, List.length_append, List.length_cons, List.length_nil, List.length_take, List.length_range, T131]; omega) | (simp only [List.length_map, List.length_append, List.length_cons, List.length_nil, List.length_take, List.length_range, T154]; omega)) | (simp; done)) ?_
      refine rl_assign rfl ?_
      refine hK8 _ _ ?_
      clear hK8 K8
      refine ex_region ttOK (by rfl) ?_
      refine rl_move rfl ?_
      refine rl_bin rfl rfl rfl ?_
      refine rl_assign rfl ?_
      exact ⟨i + 1, ⟨by omega, by omega⟩, [_, _, _], (Cov.cons (t := 3) rfl (Cov.cons' (t := 4) rfl (by rw [wrap_small (by omega) (by omega)]; rfl) Cov.nil)), (Cov.cons (t := 0) rfl Cov.nil), (HE.row rfl (by simp only [procs_succ]; first | rw [if_pos (by assumption)] | rw [if_neg (by assumption)]) (HE.kill rfl (HE.kill rfl HE.nil))), HE.nil, rfl⟩
    · try simp at hc10
      refine ex_skip ?_
      refine hK8 _ _ ?_
      clear hK8 K8
      refine ex_region ttOK (by rfl) ?_
      refine rl_move rfl ?_
      refine rl_bin rfl rfl rfl ?_
      refine rl_assign rfl ?_
      exact ⟨i + 1, ⟨by omega, by omega⟩, [_, _, _], (Cov.cons (t := 3) rfl (Cov.cons' (t := 4) rfl (by rw [wrap_small (by omega) (by omega)]; rfl) Cov.nil)), (Cov.cons (t := 0) rfl Cov.nil), (HE.row rfl (by simp only [procs_succ]; first | rw [if_pos (by assumption)] | rw [if_neg (by assumption)]) (HE.kill rfl (HE.kill rfl HE.nil))), HE.nil, rfl⟩
  · try simp at hc7
    refine ex_exit ?_
    refine hK3 _ _ ?_
    clear hK5 K5 hK3 K3
    refine ex_seq_k fun K11 hK11 => ?_
    refine ex_region ttOK (by rfl) ?_
    refine rl_move rfl ?_
    refine rl_assign rfl ?_
    refine hK11 _ _ ?_
    clear hK11 K11
    refine ex_ret ⟨.inr rfl, ?_⟩
    refine ret_row2 rfl rfl encLaN_le ?_
    have : i = 4 := by omega
    rw [this]

theorem F_spec_l21Copy_zero (c : Bool) (l : La) : Pure Try.prog 87 [.agg (encLa c l), .pv (.int .i64 0), .pv (.int .i64 0)] (.agg (encLa true (laneBlank l))) := by
  refine pure_of_ex ttOK (fn := Try.f87) (by kernel_rfl) (by kernel_rfl) rfl (outs := [.agg (encLa true (laneBlank l))]) (by rfl) (Nat.le_of_ble_eq_true rfl) 10 ?_
  refine ex_seq_k fun K1 hK1 => ?_
  refine ex_region ttOK (by rfl) ?_
  refine rl_boxA (id := 0) rfl rfl rfl ?_
  refine rl_alloc (id := 1) tt_37 za_37 rfl ?_
  refine hK1 _ _ ?_
  clear hK1 K1
  refine ex_seq_k fun K2 hK2 => ?_
  refine ex_region ttOK (by rfl) ?_
  refine rl_fieldAddr rfl tt_37 rfl rfl tt_3 rfl rfl ?_
  first | refine rl_load_ptr rfl tt_3 rfl rfl ?_ | refine rl_load_iel rfl tt_3 rfl ?_
  refine rl_fieldAddr rfl tt_37 rfl rfl tt_34 rfl rfl ?_
  first | refine rl_loadA_ptr rfl tt_34 rfl rfl rfl ?_ | refine rl_loadA_iel rfl tt_34 rfl rfl ?_ | refine rl_load_ptr rfl tt_34 rfl rfl ?_ | refine rl_load_iel rfl tt_34 rfl ?_ | refine rl_loadEA rfl tt_34 rfl (by assumption) rfl rfl ?_
  refine rl_build tt_37 rfl za_37 rfl (by simp only [pI, tt_3, T3, tt_34, T34, tt_35, T35, fillA, cellsA, AV.okc, AV.one, Value.oneCell', List.map_cons, List.map_nil, List.getElem?_cons_zero, List.getElem?_cons_succ, List.take_succ_cons, List.take_zero, List.drop_succ_cons, List.drop_zero, List.cons_append, List.nil_append, List.length_cons, List.length_nil, if_true, and_self, Nat.reduceAdd, Nat.reduceLeDiff]; rfl) ?_
  refine rl_alloc (id := 2) tt_37 za_37 rfl ?_
  refine rl_storeA rfl rfl tt_37 rfl rfl rfl rfl ?_
  refine hK2 _ _ ?_
  clear hK2 K2
  refine ex_seq_k fun K3 hK3 => ?_
  refine ex_seq_k fun K4 hK4 => ?_
  refine ex_region ttOK (by rfl) ?_
  refine rl_move rfl ?_
  refine rl_assign rfl ?_
  refine hK4 _ _ ?_
  clear hK4 K4
  refine ex_block ?_
  refine ex_loopK (ι := Nat) (fun i γ1 => [(8, .pv (.int .i64 0))]) (fun i γ1 => [(3, ((γ1 3), .dead)), (4, ((γ1 4), .dead)), (5, ((γ1 5), .dead)), (6, ((γ1 6), .dead)), (7, ((γ1 7), .dead)), (8, ((γ1 8), .dead)), (9, ((γ1 9), .dead))]) (fun i => True) (fun i => 0) (Cov.cons (t := 2) rfl (Cov.cons (t := 3) rfl (Cov.cons (t := 6) rfl (Cov.cons (t := 7) rfl Cov.nil)))) (HE.same (id := 0) rfl (HE.same (id := 1) rfl (HE.same (id := 2) rfl HE.nil))) 0 trivial [0, 0, 0, _, _, _, _, _, _, _] (Cov.cons (t := 8) rfl Cov.nil) (HE.kill rfl (HE.kill rfl (HE.kill rfl (HE.kill rfl (HE.kill rfl (HE.kill rfl (HE.kill rfl HE.nil))))))) rfl fun i γ1 hi => ?_
  try dsimp only [List.cons_append, List.nil_append]
  refine ex_seq_k fun K5 hK5 => ?_
  refine ex_seq_k fun K6 hK6 => ?_
  refine ex_region ttOK (by rfl) ?_
  refine rl_move rfl ?_
  refine rl_move rfl ?_
  refine rl_bin rfl rfl rfl ?_
  refine rl_move rfl ?_
  refine rl_g rfl rfl (fun hg7 => ?_) (fun hg7 => ?_)
  · simp at hg7
  · try simp at hg7
    refine rl_gF rfl rfl ?_
    refine rl_gF rfl rfl ?_
    refine rl_gF rfl rfl ?_
    refine rl_gF rfl rfl ?_
    refine rl_pickF rfl rfl ?_
    refine hK6 _ _ ?_
    clear hK6 K6
    refine ex_cond rfl (fun hc10 => ?_) (fun hc10 => ?_)
    · simp at hc10
    · try simp at hc10
      refine ex_exit ?_
      refine hK3 _ _ ?_
      clear hK5 K5 hK3 K3
      refine ex_seq_k fun K11 hK11 => ?_
      refine ex_region ttOK (by rfl) ?_
      first | refine rl_loadA_ptr rfl tt_37 rfl rfl rfl ?_ | refine rl_loadA_iel rfl tt_37 rfl rfl ?_ | refine rl_load_ptr rfl tt_37 rfl rfl ?_ | refine rl_load_iel rfl tt_37 rfl ?_ | refine rl_loadEA rfl tt_37 rfl (by assumption) rfl rfl ?_
      refine rl_storeA rfl rfl tt_37 rfl rfl rfl rfl ?_
      refine hK11 _ _ ?_
      clear hK11 K11
      refine ex_ret ⟨.inr rfl, ?_⟩
      exact ⟨_, _, rfl, .agg rfl (.cl rfl (.cl rfl (.cl rfl (.cl rfl (.le rfl .nil .nil))))) .nil⟩

theorem F_spec_l22Blank (c : Bool) (n : Nd) (hl : n.lanes.length ≤ 1000000000) (hk : n.kept.length ≤ 1000000000) (ho : n.outs.length ≤ 1000000000) : Pure Try.prog 45 [.agg (encNd c n)] (.agg (encNd true (nodeBlank n))) := by
  refine pure_of_ex ttOK (fn := Try.f45) (by kernel_rfl) (by kernel_rfl) rfl (outs := [.agg (encNd true (nodeBlank n))]) (by rfl) (Nat.le_of_ble_eq_true rfl) 16 ?_
  refine ex_seq_k fun K1 hK1 => ?_
  refine ex_region ttOK (by rfl) ?_
  refine rl_boxA (id := 0) rfl rfl rfl ?_
  refine rl_alloc (id := 1) tt_31 za_31 rfl ?_
  refine hK1 _ _ ?_
  clear hK1 K1
  refine ex_seq_k fun K2 hK2 => ?_
  refine ex_region_any ttOK mixed (by rfl) ?_
  refine rl_fieldAddr rfl tt_31 rfl rfl tt_3 rfl rfl ?_
  first | refine rl_load_ptr rfl tt_3 rfl rfl ?_ | refine rl_load_iel rfl tt_3 rfl ?_
  refine rl_fieldAddr rfl tt_31 rfl rfl tt_4 rfl rfl ?_
  first | refine rl_load_ptr rfl tt_4 rfl rfl ?_ | refine rl_load_iel rfl tt_4 rfl ?_
  refine rl_fieldAddr rfl tt_31 rfl rfl tt_3 rfl rfl ?_
  first | refine rl_load_ptr rfl tt_3 rfl rfl ?_ | refine rl_load_iel rfl tt_3 rfl ?_
  refine rl_fieldAddr rfl tt_31 rfl rfl tt_3 rfl rfl ?_
  first | refine rl_load_ptr rfl tt_3 rfl rfl ?_ | refine rl_load_iel rfl tt_3 rfl ?_
  refine rl_slice0 (id := 2) tt_26 rfl tt_60 rfl ?_
  refine rl_fieldAddr rfl tt_31 rfl rfl tt_26 rfl rfl ?_
  first | refine rl_load_ptr rfl tt_26 rfl rfl ?_ | refine rl_load_iel rfl tt_26 rfl ?_
  refine rl_app_rd (zs := n.kept.map encEv) rfl rfl tt_26 rfl tt_60 rfl rfl rfl (by first | rfl | exact noow_map (fun _ => rfl) _) rfl (by first | omega | (first | (simp only [List.length_map, List.length_append, List.length_cons, List.length_nil, List.length_take, List.length_range, T60]; omega) | (simp only [List.length_map, List.length_append, List.length_cons, List.length_nil, List.length_take, List.length_range, T37]; omega) | (simp only [List.length_map, List.length_append, List.length_cons, List.length_nil, List.length_take, List.length_range, T123]; omega) | (simp only [List.length_map, List.length_append, List.length_cons, List.length_nil, List.length_take, List.length_range, T34]; omega) | (simp only [List.length_map, List.length_append, List.length_cons, List.length_nil, List.length_take, List.length_range, T3]; omega) | (simp only [List.length_map, List.length_append, List.length_cons, List.length_nil, List.length_take, List.length_range, T35]; omega) | (simp only [List.length_map, List.length_append, List.length_cons, List.length_nil, List.length_take, List.length_range, T131]; omega) | (simp only [List.length_map, List.length_append, List.length_cons, List.length_nil, List.length_take, List.length_range, T154]; omega)) | (simp; done)) ?_
  refine rl_slice0 (id := 4) tt_27 rfl tt_131 rfl ?_
  refine rl_fieldAddr rfl tt_31 rfl rfl tt_27 rfl rfl ?_
  first | refine rl_load_ptr rfl tt_27 rfl rfl ?_ | refine rl_load_iel rfl tt_27 rfl ?_
  refine rl_app_rd (zs := n.outs.map encOu) rfl rfl tt_27 rfl tt_131 rfl rfl rfl (by first | rfl | exact noow_map (fun _ => rfl) _) rfl (by first | omega | (first | (simp only [List.length_map, List.length_append, List.length_cons, List.length_nil, List.length_take, List.length_range, T60]; omega) | (simp only [List.length_map, List.length_append, List.length_cons, List.length_nil, List.length_take, List.length_range, T37]; omega) | (simp only [List.length_map, List.length_append, List.length_cons, List.length_nil, List.length_take, List.length_range, T123]; omega) | (simp only [List.length_map, List.length_append, List.length_cons, List.length_nil, List.length_take, List.length_range, T34]; omega) | (simp only [List.length_map, List.length_append, List.length_cons, List.length_nil, List.length_take, List.length_range, T3]; omega) | (simp only [List.length_map, List.length_append, List.length_cons, List.length_nil, List.length_take, List.length_range, T35]; omega) | (simp only [List.length_map, List.length_append, List.length_cons, List.length_nil, List.length_take, List.length_range, T131]; omega) | (simp only [List.length_map, List.length_append, List.length_cons, List.length_nil, List.length_take, List.length_range, T154]; omega)) | (simp; done)) ?_
  refine rl_fieldAddr rfl tt_31 rfl rfl tt_3 rfl rfl ?_
  first | refine rl_load_ptr rfl tt_3 rfl rfl ?_ | refine rl_load_iel rfl tt_3 rfl ?_
  refine rl_build tt_31 rfl za_31 rfl (by simp only [pI, tt_3, T3, tt_4, T4, tt_25, T25, tt_26, T26, tt_27, T27, tt_28, T28, tt_29, T29, fillA, cellsA, AV.okc, AV.one, Value.oneCell', List.map_cons, List.map_nil, List.getElem?_cons_zero, List.getElem?_cons_succ, List.take_succ_cons, List.take_zero, List.drop_succ_cons, List.drop_zero, List.cons_append, List.nil_append, List.length_cons, List.length_nil, if_true, and_self, Nat.reduceAdd, Nat.reduceLeDiff]; rfl) ?_
  refine rl_alloc (id := 6) tt_31 za_31 rfl ?_
  refine rl_storeA rfl rfl tt_31 rfl rfl rfl rfl ?_
  refine ⟨by kernel_rfl, ?_⟩
  refine hK2 _ _ ?_
  clear hK2 K2
  refine ex_seq_k fun K3 hK3 => ?_
  refine ex_seq_k fun K4 hK4 => ?_
  refine ex_region ttOK (by rfl) ?_
  refine rl_assign rfl ?_
  refine hK4 _ _ ?_
  clear hK4 K4
  refine ex_block ?_
  refine ex_nilB 6 4 13 37 5 rfl rfl rfl rfl rfl ?_
  refine ex_loopK (ι := Nat) (fun i γ1 => [(4, .pv (.int .i64 (i : Int)))]) (fun i γ1 => [(13, ((γ1 13), .row 37 5 (((n.lanes.take i).map laneBlank).map (encLa true)))), (6, ((0 + 1), .box 31 [pI n.id, .pv (.bool n.up), pI n.inc, pI n.g, .ref 13 (γ1 13), .ref 2 2, .ref 4 2, pI n.led, pI 0, .pv (.slice none 0 0), .pv (.slice none 0 0), pI 0, pI 41])), (7, ((γ1 7), .dead)), (8, ((γ1 8), .dead))]) (fun i => i ≤ n.lanes.length) (fun i => n.lanes.length - i) (Cov.cons (t := 1) rfl (Cov.cons (t := 2) rfl (Cov.cons (t := 3) rfl Cov.nil))) (HE.same (id := 0) rfl (HE.same (id := 1) rfl (HE.same (id := 2) rfl (HE.same (id := 3) rfl (HE.same (id := 4) rfl (HE.same (id := 5) rfl (HE.same (id := 9) rfl (HE.same (id := 10) rfl (HE.same (id := 11) rfl (HE.same (id := 12) rfl (HE.same (id := 14) rfl (HE.same (id := 15) rfl HE.nil)))))))))))) 0 (by omega) [0, 0, 0, 0, 0, 0, 0, _, _, 0, 0, 0, 0, _] (Cov.cons (t := 4) rfl Cov.nil) (HE.row rfl (by rw [List.take_zero]; rfl) (HE.box rfl rfl (HE.kill rfl (HE.kill rfl HE.nil)))) rfl fun i γ1 hi => ?_
  try dsimp only [List.cons_append, List.nil_append]
  refine ex_seq_k fun K5 hK5 => ?_
  refine ex_seq_k fun K6 hK6 => ?_
  refine ex_region ttOK (by rfl) ?_
  refine rl_move rfl ?_
  refine rl_fieldAddr rfl tt_31 rfl rfl tt_25 rfl rfl ?_
  first | refine rl_load_ptr rfl tt_25 rfl rfl ?_ | refine rl_load_iel rfl tt_25 rfl ?_
  first | refine rl_lenm rfl tt_25 rfl ?_ | refine rl_lenr rfl tt_25 rfl rfl (by first | exact List.length_map _ | rfl) ?_ | refine rl_len rfl tt_25 rfl rfl (by intro s hs; cases hs) rfl ?_
  refine rl_bin rfl rfl rfl ?_
  refine hK6 _ _ ?_
  clear hK6 K6
  refine ex_cond rfl (fun hc7 => ?_) (fun hc7 => ?_)
  · try simp at hc7
    refine ex_skip ?_
    refine hK5 _ _ ?_
    clear hK5 K5
    refine ex_seq_k fun K8 hK8 => ?_
    refine ex_block ?_
    refine ex_region_any ttOK mixed (by rfl) ?_
    refine rl_fieldAddr rfl tt_31 rfl rfl tt_25 rfl rfl ?_
    first | refine rl_load_ptr rfl tt_25 rfl rfl ?_ | refine rl_load_iel rfl tt_25 rfl ?_
    refine rl_fieldAddr rfl tt_31 rfl rfl tt_25 rfl rfl ?_
    first | refine rl_load_ptr rfl tt_25 rfl rfl ?_ | refine rl_load_iel rfl tt_25 rfl ?_
    refine rl_move rfl ?_
    obtain ⟨a, ha⟩ : ∃ a, n.lanes[i]? = some a := ⟨_, List.getElem?_eq_getElem (by omega)⟩
    refine rl_idxm rfl rfl tt_25 rfl tt_37 rfl ha ?_
    first | refine rl_loadA_ptr rfl tt_37 rfl rfl rfl ?_ | refine rl_loadA_iel rfl tt_37 rfl rfl ?_ | refine rl_load_ptr rfl tt_37 rfl rfl ?_ | refine rl_load_iel rfl tt_37 rfl ?_ | refine rl_loadEA rfl tt_37 rfl (by assumption) rfl rfl ?_
    refine rl_call rfl rfl rfl (F_spec_l21Copy_zero c a) ?_
    first | refine rl_slice1A (id := 7) tt_25 rfl tt_37 rfl rfl rfl rfl rfl rfl ?_ | refine rl_slice1 (id := 7) tt_25 rfl tt_37 rfl rfl rfl rfl rfl ?_ | refine rl_buildSlice (id := 7) tt_25 rfl tt_37 rfl rfl rfl rfl (by repeat (first | exact Abs.nil | refine Abs.ref rfl (by first | exact flatR_map (fun _ => rfl) | exact flatR_nil) ?_ rfl rfl | refine Abs.val rfl rfl ?_)) rfl (Nat.le_of_ble_eq_true rfl) (Nat.le_of_ble_eq_true rfl) (Nat.le_of_ble_eq_true rfl) rfl rfl ?_
    refine rl_app_rr (zs := ((n.lanes.take i).map laneBlank ++ [laneBlank a]).map (encLa true)) rfl rfl tt_25 rfl tt_37 rfl rfl rfl rfl (by first | rfl | exact noow_map (fun _ => rfl) _) (map_snoc _ _ _) (by first | omega | (first | (simp only [List.length_map, List.length_append, List.length_cons, List.length_nil, List.length_take, List.length_range, T60]; omega) | (simp only [List.length_map, List.length_append, List.length_cons, List.length_nil, List.length_take, List.length_range, T37]; omega) | (simp only [List.length_map, List.length_append, List.length_cons, List.length_nil, List.length_take, List.length_range, T123]; omega) | (simp only [List.length_map, List.length_append, List.length_cons, List.length_nil, List.length_take, List.length_range, T34]; omega) | (simp only [List.length_map, List.length_append, List.length_cons, List.length_nil, List.length_take, List.length_range, T3]; omega) | (simp only [List.length_map, List.length_append, List.length_cons, List.length_nil, List.length_take, List.length_range, T35]; omega) | (simp only [List.length_map, List.length_append, List.length_cons, List.length_nil, List.length_take, List.length_range, T131]; omega) | (simp only [List.length_map, List.length_append, List.length_cons, List.length_nil, List.length_take, List.length_range, T154]; omega)) | (simp; done)) ?_
    refine rl_fieldAddr rfl tt_31 rfl rfl tt_25 rfl rfl ?_
    refine rl_store1 rfl rfl tt_25 rfl rfl rfl rfl rfl (by simp only [List.set_cons_zero, List.set_cons_succ]; rfl) ?_
    refine ⟨by kernel_rfl, ?_⟩
    refine hK8 _ _ ?_
    clear hK8 K8
    refine ex_region ttOK (by rfl) ?_
    refine rl_move rfl ?_
    refine rl_bin rfl rfl rfl ?_
    refine rl_assign rfl ?_
    exact ⟨i + 1, ⟨by omega, by omega⟩, [0, 0, 0, 0, 0, 0, 0, _, _, 0, 0, 0, 0, _], (Cov.cons' (t := 4) rfl (by rw [wrap_small (by omega) (by omega)]; rfl) Cov.nil), (Cov.cons (t := 1) rfl (Cov.cons (t := 2) rfl (Cov.cons (t := 3) rfl Cov.nil))), (HE.row rfl (by simp only [take_snoc ha, List.map_append, List.map_cons, List.map_nil]) (HE.box rfl rfl (HE.kill rfl (HE.kill rfl HE.nil)))), (HE.same (id := 0) rfl (HE.same (id := 1) rfl (HE.same (id := 2) rfl (HE.same (id := 3) rfl (HE.same (id := 4) rfl (HE.same (id := 5) rfl (HE.same (id := 9) rfl (HE.same (id := 10) rfl (HE.same (id := 11) rfl (HE.same (id := 12) rfl (HE.same (id := 14) rfl (HE.same (id := 15) rfl HE.nil)))))))))))), rfl⟩
  · try simp at hc7
    obtain rfl : i = n.lanes.length := by omega
    refine ex_exit ?_
    refine hK3 _ _ ?_
    clear hK5 K5 hK3 K3
    refine ex_seq_k fun K9 hK9 => ?_
    refine ex_seq_k fun K10 hK10 => ?_
    refine ex_region ttOK (by rfl) ?_
    refine rl_assign rfl ?_
    refine hK10 _ _ ?_
    clear hK10 K10
    refine ex_block ?_
    refine ex_nilB 6 9 14 123 3 rfl rfl rfl rfl rfl ?_
    refine ex_nilB 6 10 15 3 1 rfl rfl rfl rfl rfl ?_
    refine ex_loopK (ι := Nat) (fun i γ2 => [(5, .pv (.int .i64 (i : Int)))]) (fun i γ2 => [(14, ((γ2 14), .row 123 3 ((List.range i).map fun _ => encVi0))), (15, ((γ2 15), .row 3 1 ((List.range i).map fun _ => encI 0))), (6, ((0 + 1), .box 31 [pI n.id, .pv (.bool n.up), pI n.inc, pI n.g, .ref 13 (γ1 13), .ref 2 2, .ref 4 2, pI n.led, pI 0, .ref 14 (γ2 14), .ref 15 (γ2 15), pI 0, pI 41])), (9, ((γ2 9), .dead)), (10, ((γ2 10), .dead)), (11, ((γ2 11), .dead)), (12, ((γ2 12), .dead))]) (fun i => i ≤ 3) (fun i => 3 - i) (Cov.cons (t := 2) rfl (Cov.cons (t := 3) rfl Cov.nil)) (HE.same (id := 0) rfl (HE.same (id := 1) rfl (HE.same (id := 2) rfl (HE.same (id := 3) rfl (HE.same (id := 4) rfl (HE.same (id := 5) rfl (HE.same (id := 7) rfl (HE.same (id := 8) rfl (HE.same (id := 13) rfl HE.nil))))))))) 0 (by omega) [0, 0, 0, 0, 0, 0, 0, 0, 0, _, _, _, _, 0, _, _] (Cov.cons (t := 5) rfl Cov.nil) (HE.row rfl rfl (HE.row rfl rfl (HE.box rfl rfl (HE.kill rfl (HE.kill rfl (HE.kill rfl (HE.kill rfl HE.nil))))))) rfl fun i γ2 hi => ?_
    try dsimp only [List.cons_append, List.nil_append]
    refine ex_seq_k fun K11 hK11 => ?_
    refine ex_seq_k fun K12 hK12 => ?_
    refine ex_region ttOK (by rfl) ?_
    refine rl_move rfl ?_
    refine rl_bin rfl rfl rfl ?_
    refine hK12 _ _ ?_
    clear hK12 K12
    refine ex_cond rfl (fun hc13 => ?_) (fun hc13 => ?_)
    · try simp at hc13
      refine ex_skip ?_
      refine hK11 _ _ ?_
      clear hK11 K11
      refine ex_seq_k fun K14 hK14 => ?_
      refine ex_block ?_
      refine ex_seq_k fun K15 hK15 => ?_
      refine ex_region ttOK (by rfl) ?_
      refine rl_fieldAddr rfl tt_31 rfl rfl tt_28 rfl rfl ?_
      first | refine rl_load_ptr rfl tt_28 rfl rfl ?_ | refine rl_load_iel rfl tt_28 rfl ?_
      refine rl_build tt_123 rfl za_123 rfl (by simp only [pI, tt_3, T3, tt_26, T26, fillA, cellsA, AV.okc, AV.one, Value.oneCell', List.map_cons, List.map_nil, List.getElem?_cons_zero, List.getElem?_cons_succ, List.take_succ_cons, List.take_zero, List.drop_succ_cons, List.drop_zero, List.cons_append, List.nil_append, List.length_cons, List.length_nil, if_true, and_self, Nat.reduceAdd, Nat.reduceLeDiff]; rfl) ?_
      first | refine rl_slice1A (id := 9) tt_28 rfl tt_123 rfl rfl rfl rfl rfl rfl ?_ | refine rl_slice1 (id := 9) tt_28 rfl tt_123 rfl rfl rfl rfl rfl ?_ | refine rl_buildSlice (id := 9) tt_28 rfl tt_123 rfl rfl rfl rfl (by repeat (first | exact Abs.nil | refine Abs.ref rfl (by first | exact flatR_map (fun _ => rfl) | exact flatR_nil) ?_ rfl rfl | refine Abs.val rfl rfl ?_)) rfl (Nat.le_of_ble_eq_true rfl) (Nat.le_of_ble_eq_true rfl) (Nat.le_of_ble_eq_true rfl) rfl rfl ?_
      refine rl_app_rr (zs := (List.range i).map (fun _ => encVi0) ++ [encVi0]) rfl rfl tt_28 rfl tt_123 rfl rfl rfl rfl (by first | rfl | exact noow_map (fun _ => rfl) _) rfl (by first | omega | (first | (simp only [List.length_map, List.length_append, List.length_cons, List.length_nil, List.length_take, List.length_range, T60]; omega) | (simp only [List.length_map, List.length_append, List.length_cons, List.length_nil, List.length_take, List.length_range, T37]; omega) | (simp only [List.length_map, List.length_append, List.length_cons, List.length_nil, List.length_take, List.length_range, T123]; omega) | (simp only [List.length_map, List.length_append, List.length_cons, List.length_nil, List.length_take, List.length_range, T34]; omega) | (simp only [List.length_map, List.length_append, List.length_cons, List.length_nil, List.length_take, List.length_range, T3]; omega) | (simp only [List.length_map, List.length_append, List.length_cons, List.length_nil, List.length_take, List.length_range, T35]; omega) | (simp only [List.length_map, List.length_append, List.length_cons, List.length_nil, List.length_take, List.length_range, T131]; omega) | (simp only [List.length_map, List.length_append, List.length_cons, List.length_nil, List.length_take, List.length_range, T154]; omega)) | (simp; done)) ?_
      refine rl_fieldAddr rfl tt_31 rfl rfl tt_28 rfl rfl ?_
      refine rl_store1 rfl rfl tt_28 rfl rfl rfl rfl rfl (by simp only [List.set_cons_zero, List.set_cons_succ]; rfl) ?_
      refine hK15 _ _ ?_
      clear hK15 K15
      refine ex_region ttOK (by rfl) ?_
      refine rl_fieldAddr rfl tt_31 rfl rfl tt_29 rfl rfl ?_
      first | refine rl_load_ptr rfl tt_29 rfl rfl ?_ | refine rl_load_iel rfl tt_29 rfl ?_
      first | refine rl_slice1A (id := 11) tt_29 rfl tt_3 rfl rfl rfl rfl rfl rfl ?_ | refine rl_slice1 (id := 11) tt_29 rfl tt_3 rfl rfl rfl rfl rfl ?_ | refine rl_buildSlice (id := 11) tt_29 rfl tt_3 rfl rfl rfl rfl (by repeat (first | exact Abs.nil | refine Abs.ref rfl (by first | exact flatR_map (fun _ => rfl) | exact flatR_nil) ?_ rfl rfl | refine Abs.val rfl rfl ?_)) rfl (Nat.le_of_ble_eq_true rfl) (Nat.le_of_ble_eq_true rfl) (Nat.le_of_ble_eq_true rfl) rfl rfl ?_
      refine rl_app_rr (zs := (List.range i).map (fun _ => encI 0) ++ [encI 0]) rfl rfl tt_29 rfl tt_3 rfl rfl rfl rfl (by first | rfl | exact noow_map (fun _ => rfl) _) rfl (by first | omega | (first | (simp only [List.length_map, List.length_append, List.length_cons, List.length_nil, List.length_take, List.length_range, T60]; omega) | (simp only [List.length_map, List.length_append, List.length_cons, List.length_nil, List.length_take, List.length_range, T37]; omega) | (simp only [List.length_map, List.length_append, List.length_cons, List.length_nil, List.length_take, List.length_range, T123]; omega) | (simp only [List.length_map, List.length_append, List.length_cons, List.length_nil, List.length_take, List.length_range, T34]; omega) | (simp only [List.length_map, List.length_append, List.length_cons, List.length_nil, List.length_take, List.length_range, T3]; omega) | (simp only [List.length_map, List.length_append, List.length_cons, List.length_nil, List.length_take, List.length_range, T35]; omega) | (simp only [List.length_map, List.length_append, List.length_cons, List.length_nil, List.length_take, List.length_range, T131]; omega) | (simp only [List.length_map, List.length_append, List.length_cons, List.length_nil, List.length_take, List.length_range, T154]; omega)) | (simp; done)) ?_
      refine rl_fieldAddr rfl tt_31 rfl rfl tt_29 rfl rfl ?_
      refine rl_store1 rfl rfl tt_29 rfl rfl rfl rfl rfl (by simp only [List.set_cons_zero, List.set_cons_succ]; rfl) ?_
      refine hK14 _ _ ?_
      clear hK14 K14
      refine ex_region ttOK (by rfl) ?_
      refine rl_move rfl ?_
      refine rl_bin rfl rfl rfl ?_
      refine rl_assign rfl ?_
      exact ⟨i + 1, ⟨by omega, by omega⟩, [0, 0, 0, 0, 0, 0, 0, 0, 0, _, _, _, _, 0, _, _], (Cov.cons' (t := 5) rfl (by rw [wrap_small (by omega) (by omega)]; rfl) Cov.nil), (Cov.cons (t := 2) rfl (Cov.cons (t := 3) rfl Cov.nil)), (HE.row rfl (by rw [List.range_succ, List.map_append]; rfl) (HE.row rfl (by rw [List.range_succ, List.map_append]; rfl) (HE.box rfl rfl (HE.kill rfl (HE.kill rfl (HE.kill rfl (HE.kill rfl HE.nil))))))), (HE.same (id := 0) rfl (HE.same (id := 1) rfl (HE.same (id := 2) rfl (HE.same (id := 3) rfl (HE.same (id := 4) rfl (HE.same (id := 5) rfl (HE.same (id := 7) rfl (HE.same (id := 8) rfl (HE.same (id := 13) rfl HE.nil))))))))), rfl⟩
    · try simp at hc13
      obtain rfl : i = 3 := by omega
      rw [List.take_length]
      refine ex_exit ?_
      refine hK9 _ _ ?_
      clear hK11 K11 hK9 K9
      refine ex_seq_k fun K16 hK16 => ?_
      refine ex_region ttOK (by rfl) ?_
      first | refine rl_loadA_ptr rfl tt_31 rfl rfl rfl ?_ | refine rl_loadA_iel rfl tt_31 rfl rfl ?_ | refine rl_load_ptr rfl tt_31 rfl rfl ?_ | refine rl_load_iel rfl tt_31 rfl ?_ | refine rl_loadEA rfl tt_31 rfl (by assumption) rfl rfl ?_
      refine rl_storeA rfl rfl tt_31 rfl rfl rfl rfl ?_
      refine hK16 _ _ ?_
      clear hK16 K16
      refine ex_ret ⟨.inr rfl, ?_⟩
      exact ⟨_, _, rfl, .agg rfl (.cl rfl (.cl rfl (.cl rfl (.cl rfl (.ref rfl (Le.ow_map _ (fun _ => rfl) (fun _ => rfl)) (.ref rfl (Le.ow_map _ (fun _ => rfl) (fun _ => rfl)) (.ref rfl (Le.ow_map _ (fun _ => rfl) (fun _ => rfl)) (.cl rfl (.cl rfl (.ref rfl (Le.ow_map2 (f := fun _ => encVi0) (f' := fun _ => encVi true vi0) (List.range 3) (fun _ => rfl) (fun _ => .cons (.cl rfl) (.cons (.cl rfl) (.cons .nil .nil)))) (.ref rfl (Le.ow_map (f := fun _ => encI 0) (List.range 3) (fun _ => rfl) (fun _ => rfl)) (.cl rfl (.cl rfl .nil))))))))))))) .nil⟩

theorem F_spec_NodeStart (id : Int) : Pure Try.prog 12 [.pv (.int .i64 id)] (.agg (encNd true (nodeStart id))) := by
  refine pure_of_ex ttOK (fn := Try.f12) (by kernel_rfl) (by kernel_rfl) rfl (outs := [.agg (encNd true (nodeStart id))]) (by rfl) (Nat.le_of_ble_eq_true rfl) 5 ?_
  have hpl := procs_len id 4
  refine ex_seq_k fun K1 hK1 => ?_
  refine ex_region ttOK (by rfl) ?_
  refine rl_alloc (id := 0) tt_31 za_31 rfl ?_
  refine hK1 _ _ ?_
  clear hK1 K1
  refine ex_seq_k fun K2 hK2 => ?_
  refine ex_seq_k fun K3 hK3 => ?_
  refine ex_region ttOK (by rfl) ?_
  refine rl_move rfl ?_
  refine rl_call rfl rfl rfl (F_spec_l6In ..) ?_
  refine rl_not rfl ?_
  refine hK3 _ _ ?_
  clear hK3 K3
  refine ex_cond rfl (fun hc4 => ?_) (fun hc4 => ?_)
  · try simp at hc4
    have hns : nodeStart id = nd0 := if_neg (by omega)
    refine ex_seq_k fun K5 hK5 => ?_
    refine ex_region ttOK (by rfl) ?_
    refine rl_build tt_31 rfl za_31 rfl (by simp only [pI, tt_3, T3, tt_4, T4, tt_25, T25, tt_26, T26, tt_27, T27, tt_28, T28, tt_29, T29, fillA, cellsA, AV.okc, AV.one, Value.oneCell', List.map_cons, List.map_nil, List.getElem?_cons_zero, List.getElem?_cons_succ, List.take_succ_cons, List.take_zero, List.drop_succ_cons, List.drop_zero, List.cons_append, List.nil_append, List.length_cons, List.length_nil, if_true, and_self, Nat.reduceAdd, Nat.reduceLeDiff]; rfl) ?_
    refine rl_storeA rfl rfl tt_31 rfl rfl rfl rfl ?_
    refine hK5 _ _ ?_
    clear hK5 K5
    refine ex_ret ⟨.inr rfl, ?_⟩
    clear hK2 K2
    first
    | exact ⟨_, _, rfl, .agg rfl (by rw [hns]; exact .cl rfl (.cl rfl (.cl rfl (.cl rfl (.le rfl .nil (.le rfl .nil (.le rfl .nil (.cl rfl (.cl rfl (.le rfl .nil (.le rfl .nil (.cl rfl (.cl rfl .nil))))))))))))) .nil⟩
    | exact ret_agg (cs := encNd true { nodeBlank ⟨id, true, 1, 0, (procs id 4).map lane0, (procs id 4).map appFirst, [], 0, 0, [], [], 0, 0⟩ with version := 1 }) rfl (by rw [hnb]) rfl rfl
  · try simp at hc4
    have hin : 0 ≤ id ∧ id ≤ 2 := by first | exact hc4 | omega
    have hns : nodeStart id = ⟨id, true, 1, 0, (procs id 4).map lane0, evSort ((procs id 4).map appFirst), [], 0, 1, [vi0, vi0, vi0], [0, 0, 0], 0, 41⟩ := if_pos hin
    have hnb : ({ nodeBlank ⟨id, true, 1, 0, (procs id 4).map lane0, (procs id 4).map appFirst, [], 0, 0, [], [], 0, 0⟩ with version := 1 } : Nd) = nodeStart id := by rw [hns, kept_sorted hin]; simp only [nodeBlank, List.map_map]; rfl
    refine ex_skip ?_
    refine hK2 _ _ ?_
    clear hK2 K2
    refine ex_seq_k fun K6 hK6 => ?_
    refine ex_region ttOK (by rfl) ?_
    refine rl_move rfl ?_
    refine rl_move rfl ?_
    refine rl_call rfl rfl rfl (F_spec_l22Lanes ..) ?_
    refine rl_build tt_31 rfl za_31 rfl (by simp only [pI, tt_3, T3, tt_4, T4, tt_25, T25, tt_26, T26, tt_27, T27, tt_28, T28, tt_29, T29, fillA, cellsA, AV.okc, AV.one, Value.oneCell', List.map_cons, List.map_nil, List.getElem?_cons_zero, List.getElem?_cons_succ, List.take_succ_cons, List.take_zero, List.drop_succ_cons, List.drop_zero, List.cons_append, List.nil_append, List.length_cons, List.length_nil, if_true, and_self, Nat.reduceAdd, Nat.reduceLeDiff]; rfl) ?_
    refine rl_alloc (id := 1) tt_31 za_31 rfl ?_
    refine rl_storeA rfl rfl tt_31 rfl rfl rfl rfl ?_
    refine hK6 _ _ ?_
    clear hK6 K6
    refine ex_seq_k fun K7 hK7 => ?_
    refine ex_seq_k fun K8 hK8 => ?_
    refine ex_region ttOK (by rfl) ?_
    refine rl_assign rfl ?_
    refine hK8 _ _ ?_
    clear hK8 K8
    refine ex_block ?_
    refine ex_nilB 1 5 4 60 7 rfl rfl rfl rfl rfl ?_
    refine ex_loopK (ι := Nat) (fun i γ1 => [(4, .pv (.int .i64 (i : Int)))]) (fun i γ1 => [(4, ((γ1 4), .row 60 7 ((((procs id 4).take i).map appFirst).map encEv))), (1, ((0 + 1), .box 31 [pI id, .pv (.bool true), pI 1, pI 0, .row (.rd true) 37 5 ((procs id 4).map fun p => encLa true (lane0 p)), .ref 4 (γ1 4), .pv (.slice none 0 0), pI 0, pI 0, .pv (.slice none 0 0), .pv (.slice none 0 0), pI 0, pI 0])), (2, ((γ1 2), .dead)), (3, ((γ1 3), .dead))]) (fun i => i ≤ (procs id 4).length) (fun i => (procs id 4).length - i) (Cov.cons (t := 2) rfl (Cov.cons (t := 3) rfl Cov.nil)) (HE.same (id := 0) rfl HE.nil) 0 (by omega) [0, 0, _, _, _] (Cov.cons (t := 4) rfl Cov.nil) (HE.row rfl (by rw [List.take_zero]; rfl) (HE.box rfl rfl (HE.kill rfl (HE.kill rfl HE.nil)))) rfl fun i γ1 hi => ?_
    try dsimp only [List.cons_append, List.nil_append]
    refine ex_seq_k fun K9 hK9 => ?_
    refine ex_seq_k fun K10 hK10 => ?_
    refine ex_region ttOK (by rfl) ?_
    refine rl_move rfl ?_
    refine rl_fieldAddr rfl tt_31 rfl rfl tt_25 rfl rfl ?_
    first | refine rl_load_ptr rfl tt_25 rfl rfl ?_ | refine rl_load_iel rfl tt_25 rfl ?_
    first | refine rl_lenm rfl tt_25 rfl ?_ | refine rl_lenr rfl tt_25 rfl rfl (by first | exact List.length_map _ | rfl) ?_ | refine rl_len rfl tt_25 rfl rfl (by intro s hs; cases hs) rfl ?_
    refine rl_bin rfl rfl rfl ?_
    refine hK10 _ _ ?_
    clear hK10 K10
    refine ex_cond rfl (fun hc11 => ?_) (fun hc11 => ?_)
    · try simp at hc11
      obtain ⟨p, hp⟩ : ∃ p, (procs id 4)[i]? = some p := ⟨_, List.getElem?_eq_getElem (by omega)⟩
      refine ex_skip ?_
      refine hK9 _ _ ?_
      clear hK9 K9
      refine ex_seq_k fun K12 hK12 => ?_
      refine ex_block ?_
      refine ex_region_any ttOK mixed (by rfl) ?_
      refine rl_fieldAddr rfl tt_31 rfl rfl tt_26 rfl rfl ?_
      first | refine rl_load_ptr rfl tt_26 rfl rfl ?_ | refine rl_load_iel rfl tt_26 rfl ?_
      refine rl_fieldAddr rfl tt_31 rfl rfl tt_25 rfl rfl ?_
      first | refine rl_load_ptr rfl tt_25 rfl rfl ?_ | refine rl_load_iel rfl tt_25 rfl ?_
      refine rl_move rfl ?_
      refine rl_idxm rfl rfl tt_25 rfl tt_37 rfl hp ?_
      refine rl_fieldAddr rfl tt_37 rfl rfl tt_3 rfl rfl ?_
      first | refine rl_load_ptr rfl tt_3 rfl rfl ?_ | refine rl_load_iel rfl tt_3 rfl ?_
      refine rl_call rfl rfl rfl (F_spec_AppFirst ..) ?_
      first | refine rl_slice1A (id := 2) tt_26 rfl tt_60 rfl rfl rfl rfl rfl rfl ?_ | refine rl_slice1 (id := 2) tt_26 rfl tt_60 rfl rfl rfl rfl rfl ?_ | refine rl_buildSlice (id := 2) tt_26 rfl tt_60 rfl rfl rfl rfl (by repeat (first | exact Abs.nil | refine Abs.ref rfl (by first | exact flatR_map (fun _ => rfl) | exact flatR_nil) ?_ rfl rfl | refine Abs.val rfl rfl ?_)) rfl (Nat.le_of_ble_eq_true rfl) (Nat.le_of_ble_eq_true rfl) (Nat.le_of_ble_eq_true rfl) rfl rfl ?_
      refine rl_app_rr (zs := (((procs id 4).take i).map appFirst ++ [appFirst p]).map encEv) rfl rfl tt_26 rfl tt_60 rfl rfl rfl rfl (by first | rfl | exact noow_map (fun _ => rfl) _) (map_snoc _ _ _) (by first | omega | (first | (simp only [List.length_map, List.length_append, List.length_cons, List.length_nil, List.length_take, List.length_range, T60]; omega) | (simp only [List.length_map, List.length_append, List.length_cons, List.length_nil, List.length_take, List.length_range, T37]; omega) | (simp only [List.length_map, List.length_append, List.length_cons, List.length_nil, List.length_take, List.length_range, T123]; omega) | (simp only [List.length_map, List.length_append, List.length_cons, List.length_nil, List.length_take, List.length_range, T34]; omega) | (simp only [List.length_map, List.length_append, List.length_cons, List.length_nil, List.length_take, List.length_range, T3]; omega) | (simp only [List.length_map, List.length_append, List.length_cons, List.length_nil, List.length_take, List.length_range, T35]; omega) | (simp only [List.length_map, List.length_append, List.length_cons, List.length_nil, List.length_take, List.length_range, T131]; omega) | (simp only [List.length_map, List.length_append, List.length_cons, List.length_nil, List.length_take, List.length_range, T154]; omega)) | (simp; done)) ?_
      refine rl_fieldAddr rfl tt_31 rfl rfl tt_26 rfl rfl ?_
      refine rl_store1 rfl rfl tt_26 rfl rfl rfl rfl rfl (by simp only [List.set_cons_zero, List.set_cons_succ]; rfl) ?_
      refine ⟨by kernel_rfl, ?_⟩
      refine hK12 _ _ ?_
      clear hK12 K12
      refine ex_region ttOK (by rfl) ?_
      refine rl_move rfl ?_
      refine rl_bin rfl rfl rfl ?_
      refine rl_assign rfl ?_
      exact ⟨i + 1, ⟨by omega, by omega⟩, [0, 0, _, _, _], (Cov.cons' (t := 4) rfl (by rw [wrap_small (by omega) (by omega)]; rfl) Cov.nil), (Cov.cons (t := 2) rfl (Cov.cons (t := 3) rfl Cov.nil)), (HE.row rfl (by simp only [take_snoc hp, List.map_append, List.map_cons, List.map_nil]) (HE.box rfl rfl (HE.kill rfl (HE.kill rfl HE.nil)))), (HE.same (id := 0) rfl HE.nil), rfl⟩
    · try simp at hc11
      obtain rfl : i = (procs id 4).length := by omega
      rw [List.take_length]
      refine ex_exit ?_
      refine hK7 _ _ ?_
      clear hK9 K9 hK7 K7
      refine ex_seq_k fun K13 hK13 => ?_
      refine ex_frzB (b := rEvs true ((procs id 4).map appFirst)) 1 5 rfl rfl rfl (.ref rfl (Le.ow_map _ (fun _ => rfl) (fun _ => rfl)) .nil) rfl rfl rfl rfl ?_
      refine ex_frzB (b := rOus true []) 1 6 rfl rfl rfl (.le rfl .nil .nil) rfl rfl rfl rfl ?_
      refine ex_frzB (b := rVis true []) 1 9 rfl rfl rfl (.le rfl .nil .nil) rfl rfl rfl rfl ?_
      refine ex_frzB (b := rInts true []) 1 10 rfl rfl rfl (.le rfl .nil .nil) rfl rfl rfl rfl ?_
      rw [show (AV.row (.rd true) 37 5 ((procs id 4).map fun p => encLa true (lane0 p))) = rLas true ((procs id 4).map lane0) from by rw [rLas, List.map_map]; rfl]
      refine ex_region ttOK (by rfl) ?_
      first | refine rl_loadA_ptr rfl tt_31 rfl rfl rfl ?_ | refine rl_loadA_iel rfl tt_31 rfl rfl ?_ | refine rl_load_ptr rfl tt_31 rfl rfl ?_ | refine rl_load_iel rfl tt_31 rfl ?_ | refine rl_loadEA rfl tt_31 rfl (by assumption) rfl rfl ?_
      refine rl_call rfl rfl rfl (F_spec_l22Blank true ⟨id, true, 1, 0, (procs id 4).map lane0, (procs id 4).map appFirst, [], 0, 0, [], [], 0, 0⟩ (by rw [List.length_map]; omega) (by rw [List.length_map]; omega) (by simp)) ?_
      refine rl_storeA rfl rfl tt_31 rfl rfl rfl rfl ?_
      refine hK13 _ _ ?_
      clear hK13 K13
      refine ex_seq_k fun K14 hK14 => ?_
      refine ex_region ttOK (by rfl) ?_
      refine rl_fieldAddr rfl tt_31 rfl rfl tt_3 rfl rfl ?_
      refine rl_store1 rfl rfl tt_3 rfl rfl rfl rfl rfl (by simp only [List.set_cons_zero, List.set_cons_succ]; rfl) ?_
      refine hK14 _ _ ?_
      clear hK14 K14
      refine ex_seq_k fun K15 hK15 => ?_
      refine ex_region ttOK (by rfl) ?_
      first | refine rl_loadA_ptr rfl tt_31 rfl rfl rfl ?_ | refine rl_loadA_iel rfl tt_31 rfl rfl ?_ | refine rl_load_ptr rfl tt_31 rfl rfl ?_ | refine rl_load_iel rfl tt_31 rfl ?_ | refine rl_loadEA rfl tt_31 rfl (by assumption) rfl rfl ?_
      refine rl_storeA rfl rfl tt_31 rfl rfl rfl rfl ?_
      refine hK15 _ _ ?_
      clear hK15 K15
      refine ex_ret ⟨.inr rfl, ?_⟩
      first
      | exact ⟨_, _, rfl, .agg rfl (by rw [hns]; exact .cl rfl (.cl rfl (.cl rfl (.cl rfl (.le rfl .nil (.le rfl .nil (.le rfl .nil (.cl rfl (.cl rfl (.le rfl .nil (.le rfl .nil (.cl rfl (.cl rfl .nil))))))))))))) .nil⟩
      | exact ret_agg (cs := encNd true { nodeBlank ⟨id, true, 1, 0, (procs id 4).map lane0, (procs id 4).map appFirst, [], 0, 0, [], [], 0, 0⟩ with version := 1 }) rfl (by rw [hnb]) rfl rfl

end Go.Proofs.Ytcleiaibcfocdaa.Am
