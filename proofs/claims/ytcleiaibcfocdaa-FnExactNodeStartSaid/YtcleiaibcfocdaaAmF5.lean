/- Walks. PRINTED BY wip/gen/gen2.py out of b4.py. -/
import Derived.Test.YtcleiaibcfocdaaAmF4
set_option linter.unusedVariables false
set_option linter.unusedSimpArgs false
namespace Go.Proofs.Ytcleiaibcfocdaa.Am
open Go Go.RowKit

theorem F_impl_blank_start (id inc g led : Int) (ev : List Ev) : Meth Try.prog 36 6 [0, 1] [.agg [pI id, pI inc, pI g, pI led, .ref 0 0, .ref 1 0, .pv (.slice none 0 0)]] [(0, (0, .row 34 3 ((procs id 4).map fun _ => encSt ⟨0, 0, 0⟩))), (1, (0, .row 60 7 (ev.map encEv))), (2, (0, .dead)), (3, (0, .dead)), (4, (0, .dead)), (5, (0, .dead))] (.ptr 2 0 0) [(2, (0, .box 68 [pI id, pI inc, pI g, pI led, .ref 0 0, .ref 1 0, .pv (.slice none 0 0), .pv (.bool false), .ref 3 0, pI 0, .mp 4 0, .ref 5 0, pI 0, pI 41])), (3, (0, .row 35 1 ((procs id 4).map fun _ => [.pv (.slice none 0 0)]))), (4, (0, .map [])), (5, (0, .row 3 1 ([0, 0, 0].map encI)))] := by
  refine meth_of_ex ttOK (fn := Try.f36) (by kernel_rfl) (by kernel_rfl) rfl (O0 := [.ptr 2 0 0]) 6 1 (Nat.le_of_ble_eq_true rfl) (by rfl) (by repeat (first | exact BndH.nil | refine BndH.dead ?_ | refine BndH.box rfl ?_ | refine BndH.box (by assumption) ?_ | refine BndH.row (flatR_map fun _ => rfl) ?_ | refine BndH.row flatR_nil ?_ | refine BndH.map (by intro p hp; cases hp; done) ?_ | refine BndH.map (by intro p hp; simp only [List.mem_map, List.not_mem_nil] at hp; first | (obtain ⟨a, _, rfl⟩ := hp; rfl) | exact hp.elim) ?_ | refine BndH.chn ?_)) (by repeat (first | exact BndH.nil | refine BndH.dead ?_ | refine BndH.box rfl ?_ | refine BndH.box (by assumption) ?_ | refine BndH.row (flatR_map fun _ => rfl) ?_ | refine BndH.row flatR_nil ?_ | refine BndH.map (by intro p hp; cases hp; done) ?_ | refine BndH.map (by intro p hp; simp only [List.mem_map, List.not_mem_nil] at hp; first | (obtain ⟨a, _, rfl⟩ := hp; rfl) | exact hp.elim) ?_ | refine BndH.chn ?_)) (by rfl) fun γ => ?_
  show Ex Try.prog _ _ [(0, .agg [pI id, pI inc, pI g, pI led, .ref 0 (γ 0), .ref 1 (γ 1), .pv (.slice none 0 0)])] [(0, ((γ 0), .row 34 3 ((procs id 4).map fun _ => encSt ⟨0, 0, 0⟩))), (1, ((γ 1), .row 60 7 (ev.map encEv))), (2, ((γ 2), .dead)), (3, ((γ 3), .dead)), (4, ((γ 4), .dead)), (5, ((γ 5), .dead)), (6, (0, .dead))] _
  refine ex_seq_k fun K1 hK1 => ?_
  refine ex_region ttOK (by rfl) ?_
  refine rl_boxA (id := 6) rfl rfl rfl ?_
  refine rl_assign rfl ?_
  refine hK1 _ _ ?_
  clear hK1 K1
  refine ex_seq_k fun K2 hK2 => ?_
  refine ex_region_any ttOK mixed (by rfl) ?_
  first | refine rl_loadA_ptr rfl tt_57 rfl rfl rfl ?_ | refine rl_loadA_iel rfl tt_57 rfl rfl ?_ | refine rl_load_ptr rfl tt_57 rfl rfl ?_ | refine rl_load_iel rfl tt_57 rfl ?_ | refine rl_loadEA rfl tt_57 rfl (by assumption) rfl rfl ?_
  refine rl_fieldAddr rfl tt_57 rfl rfl tt_55 rfl rfl ?_
  first | refine rl_load_ptr rfl tt_55 rfl rfl ?_ | refine rl_load_iel rfl tt_55 rfl ?_
  first | refine rl_lenm rfl tt_55 rfl ?_ | refine rl_lenr rfl tt_55 rfl rfl (by first | exact List.length_map _ | rfl) ?_ | refine rl_len rfl tt_55 rfl rfl (by intro s hs; cases hs) rfl ?_
  refine rl_make (id := 3) tt_65 rfl tt_35 za_35 rfl rfl rfl rfl (by first | omega | (first | (simp only [List.length_map, List.length_append, List.length_cons, List.length_nil, List.length_take, T60]; have := procs_len id 4; omega) | (simp only [List.length_map, List.length_append, List.length_cons, List.length_nil, List.length_take, T37]; have := procs_len id 4; omega) | (simp only [List.length_map, List.length_append, List.length_cons, List.length_nil, List.length_take, T123]; have := procs_len id 4; omega) | (simp only [List.length_map, List.length_append, List.length_cons, List.length_nil, List.length_take, T34]; have := procs_len id 4; omega) | (simp only [List.length_map, List.length_append, List.length_cons, List.length_nil, List.length_take, T3]; have := procs_len id 4; omega) | (simp only [List.length_map, List.length_append, List.length_cons, List.length_nil, List.length_take, T35]; have := procs_len id 4; omega) | (simp only [List.length_map, List.length_append, List.length_cons, List.length_nil, List.length_take, T131]; have := procs_len id 4; omega) | (simp only [List.length_map, List.length_append, List.length_cons, List.length_nil, List.length_take, T154]; have := procs_len id 4; omega)) | (simp; done)) rfl ?_
  refine rl_makeMap (id := 4) rfl ?_
  refine rl_make (n := 3) (id := 5) tt_29 rfl tt_3 za_3 rfl rfl rfl rfl (by first | omega | (first | (simp only [List.length_map, List.length_append, List.length_cons, List.length_nil, List.length_take, T60]; have := procs_len id 4; omega) | (simp only [List.length_map, List.length_append, List.length_cons, List.length_nil, List.length_take, T37]; have := procs_len id 4; omega) | (simp only [List.length_map, List.length_append, List.length_cons, List.length_nil, List.length_take, T123]; have := procs_len id 4; omega) | (simp only [List.length_map, List.length_append, List.length_cons, List.length_nil, List.length_take, T34]; have := procs_len id 4; omega) | (simp only [List.length_map, List.length_append, List.length_cons, List.length_nil, List.length_take, T3]; have := procs_len id 4; omega) | (simp only [List.length_map, List.length_append, List.length_cons, List.length_nil, List.length_take, T35]; have := procs_len id 4; omega) | (simp only [List.length_map, List.length_append, List.length_cons, List.length_nil, List.length_take, T131]; have := procs_len id 4; omega) | (simp only [List.length_map, List.length_append, List.length_cons, List.length_nil, List.length_take, T154]; have := procs_len id 4; omega)) | (simp; done)) rfl ?_
  refine rl_build tt_68 rfl za_68 rfl (by simp only [pI, tt_3, T3, tt_4, T4, tt_29, T29, tt_57, T57, tt_65, T65, tt_66, T66, fillA, cellsA, AV.okc, AV.one, Value.oneCell', List.map_cons, List.map_nil, List.getElem?_cons_zero, List.getElem?_cons_succ, List.take_succ_cons, List.take_zero, List.drop_succ_cons, List.drop_zero, List.cons_append, List.nil_append, List.length_cons, List.length_nil, if_true, and_self, Nat.reduceAdd, Nat.reduceLeDiff]; rfl) ?_
  refine rl_boxA (id := 2) rfl rfl rfl ?_
  refine rl_assign rfl ?_
  refine ⟨by kernel_rfl, ?_⟩
  refine hK2 _ _ ?_
  clear hK2 K2
  refine ex_ret ?_
  exact ⟨.inr rfl, [γ 0, γ 1, _, _, _, _], rfl, rfl, HE.box rfl rfl (HE.row rfl (by rw [List.map_const']) (HE.map rfl rfl (HE.row rfl rfl (HE.same rfl (HE.same rfl HE.nil)))))⟩

theorem F_impl_body_lane_start (id inc g led ver : Int) (up : Bool) (ev : List Ev) (p : Int) (i : Nat) (hp : (procs id 4)[i]? = some p) : Meth Try.prog 85 6 [0, 1, 2, 3, 4, 5] [.ptr 5 0 0, .pv (.int .i64 (i : Int))] [(0, (0, .row 34 3 ((procs id 4).map fun _ => encSt ⟨0, 0, 0⟩))), (1, (0, .row 60 7 (ev.map encEv))), (2, (0, .row 35 1 ((procs id 4).map fun _ => [.pv (.slice none 0 0)]))), (3, (0, .map [])), (4, (0, .row 3 1 ([0, 0, 0].map encI))), (5, (0, .box 68 [pI id, pI inc, pI g, pI led, .ref 0 0, .ref 1 0, .pv (.slice none 0 0), .pv (.bool up), .ref 2 0, pI ver, .mp 3 0, .ref 4 0, pI 0, pI 41]))] (.agg (encLaN p)) [] := by
  refine meth_of_ex ttOK (fn := Try.f85) (by kernel_rfl) (by kernel_rfl) rfl (O0 := [.agg (encLaN p)]) 6 1 (Nat.le_of_ble_eq_true rfl) (by rfl) (by repeat (first | exact BndH.nil | refine BndH.dead ?_ | refine BndH.box rfl ?_ | refine BndH.box (by assumption) ?_ | refine BndH.row (flatR_map fun _ => rfl) ?_ | refine BndH.row flatR_nil ?_ | refine BndH.map (by intro p hp; cases hp; done) ?_ | refine BndH.map (by intro p hp; simp only [List.mem_map, List.not_mem_nil] at hp; first | (obtain ⟨a, _, rfl⟩ := hp; rfl) | exact hp.elim) ?_ | refine BndH.chn ?_)) (by repeat (first | exact BndH.nil | refine BndH.dead ?_ | refine BndH.box rfl ?_ | refine BndH.box (by assumption) ?_ | refine BndH.row (flatR_map fun _ => rfl) ?_ | refine BndH.row flatR_nil ?_ | refine BndH.map (by intro p hp; cases hp; done) ?_ | refine BndH.map (by intro p hp; simp only [List.mem_map, List.not_mem_nil] at hp; first | (obtain ⟨a, _, rfl⟩ := hp; rfl) | exact hp.elim) ?_ | refine BndH.chn ?_)) (by rfl) fun γ => ?_
  show Ex Try.prog _ _ [(0, .ptr 5 (γ 5) 0), (1, .pv (.int .i64 (i : Int)))] [(0, ((γ 0), .row 34 3 ((procs id 4).map fun _ => encSt ⟨0, 0, 0⟩))), (1, ((γ 1), .row 60 7 (ev.map encEv))), (2, ((γ 2), .row 35 1 ((procs id 4).map fun _ => [.pv (.slice none 0 0)]))), (3, ((γ 3), .map [])), (4, ((γ 4), .row 3 1 ([0, 0, 0].map encI))), (5, ((γ 5), .box 68 [pI id, pI inc, pI g, pI led, .ref 0 (γ 0), .ref 1 (γ 1), .pv (.slice none 0 0), .pv (.bool up), .ref 2 (γ 2), pI ver, .mp 3 (γ 3), .ref 4 (γ 4), pI 0, pI 41])), (6, (0, .dead))] _
  refine ex_seq_k fun K1 hK1 => ?_
  refine ex_region ttOK (by rfl) ?_
  refine rl_alloc (id := 6) tt_37 za_37 rfl ?_
  refine hK1 _ _ ?_
  clear hK1 K1
  refine ex_seq_k fun K2 hK2 => ?_
  refine ex_region_any ttOK mixed (by rfl) ?_
  refine rl_move rfl ?_
  refine rl_nil rfl rfl ?_
  refine rl_fieldAddr rfl tt_68 rfl rfl tt_57 rfl rfl ?_
  refine rl_fieldAddr rfl tt_57 rfl rfl tt_3 rfl rfl ?_
  first | refine rl_load_ptr rfl tt_3 rfl rfl ?_ | refine rl_load_iel rfl tt_3 rfl ?_
  refine rl_call rfl rfl rfl (F_impl_procsOf ..) ?_
  refine rl_move rfl ?_
  first | refine rl_idxm rfl rfl tt_29 rfl tt_3 rfl (by assumption) ?_ | refine rl_idxr rfl rfl tt_29 rfl tt_3 rfl rfl (by first | omega | (simp; done) | (simp; omega)) ?_
  first | refine rl_load_ptr rfl tt_3 rfl rfl ?_ | refine rl_load_iel rfl tt_3 rfl ?_
  refine rl_move rfl ?_
  refine rl_nil rfl rfl ?_
  refine rl_fieldAddr rfl tt_68 rfl rfl tt_57 rfl rfl ?_
  refine rl_fieldAddr rfl tt_57 rfl rfl tt_55 rfl rfl ?_
  first | refine rl_load_ptr rfl tt_55 rfl rfl ?_ | refine rl_load_iel rfl tt_55 rfl ?_
  refine rl_move rfl ?_
  refine rl_idxR (j := i) rfl rfl tt_55 rfl tt_34 rfl rfl (lt_of_get hp) ?_
  refine rl_loadEA rfl tt_34 rfl hp rfl rfl ?_
  refine rl_move rfl ?_
  refine rl_nil rfl rfl ?_
  refine rl_fieldAddr rfl tt_68 rfl rfl tt_65 rfl rfl ?_
  first | refine rl_load_ptr rfl tt_65 rfl rfl ?_ | refine rl_load_iel rfl tt_65 rfl ?_
  refine rl_move rfl ?_
  refine rl_idxR (j := i) rfl rfl tt_65 rfl tt_35 rfl rfl (lt_of_get hp) ?_
  refine rl_loadE rfl tt_35 rfl hp rfl ?_
  refine rl_build tt_37 rfl za_37 rfl (by simp only [pI, tt_3, T3, tt_34, T34, tt_35, T35, fillA, cellsA, AV.okc, AV.one, Value.oneCell', List.map_cons, List.map_nil, List.getElem?_cons_zero, List.getElem?_cons_succ, List.take_succ_cons, List.take_zero, List.drop_succ_cons, List.drop_zero, List.cons_append, List.nil_append, List.length_cons, List.length_nil, if_true, and_self, Nat.reduceAdd, Nat.reduceLeDiff]; rfl) ?_
  refine rl_storeA rfl rfl tt_37 rfl rfl rfl rfl ?_
  refine ⟨by kernel_rfl, ?_⟩
  refine hK2 _ _ ?_
  clear hK2 K2
  refine ex_ret ?_
  exact ⟨.inr rfl, [γ 0, γ 1, γ 2, γ 3, γ 4, γ 5], rfl, rfl, (HE.same (id := 0) rfl (HE.same (id := 1) rfl (HE.same (id := 2) rfl (HE.same (id := 3) rfl (HE.same (id := 4) rfl (HE.same (id := 5) rfl HE.nil))))))⟩

theorem F_impl_body_node_start (id inc g led ver : Int) (up : Bool) (ev : List Ev) : Meth Try.prog 37 8 [0, 1, 2, 3, 4, 5] [.ptr 5 0 0] [(0, (0, .row 34 3 ((procs id 4).map fun _ => encSt ⟨0, 0, 0⟩))), (1, (0, .row 60 7 (ev.map encEv))), (2, (0, .row 35 1 ((procs id 4).map fun _ => [.pv (.slice none 0 0)]))), (3, (0, .map [])), (4, (0, .row 3 1 ([0, 0, 0].map encI))), (5, (0, .box 68 [pI id, pI inc, pI g, pI led, .ref 0 0, .ref 1 0, .pv (.slice none 0 0), .pv (.bool up), .ref 2 0, pI ver, .mp 3 0, .ref 4 0, pI 0, pI 41])), (6, (0, .dead)), (7, (0, .dead))] (.agg [pI id, .pv (.bool up), pI inc, pI g, .ref 6 0, .ref 1 0, .pv (.slice none 0 0), pI led, pI ver, .ref 7 0, .ref 4 0, pI 0, pI 41]) [(6, (0, .row 37 5 ((procs id 4).map encLaN))), (7, (0, .row 123 3 ((List.range 3).map fun _ => encVi0)))] := by
  refine meth_of_ex ttOK (fn := Try.f37) (by kernel_rfl) (by kernel_rfl) rfl (O0 := [.agg [pI id, .pv (.bool up), pI inc, pI g, .ref 6 0, .ref 1 0, .pv (.slice none 0 0), pI led, pI ver, .ref 7 0, .ref 4 0, pI 0, pI 41]]) 8 6 (Nat.le_of_ble_eq_true rfl) (by rfl) (by repeat (first | exact BndH.nil | refine BndH.dead ?_ | refine BndH.box rfl ?_ | refine BndH.box (by assumption) ?_ | refine BndH.row (flatR_map fun _ => rfl) ?_ | refine BndH.row flatR_nil ?_ | refine BndH.map (by intro p hp; cases hp; done) ?_ | refine BndH.map (by intro p hp; simp only [List.mem_map, List.not_mem_nil] at hp; first | (obtain ⟨a, _, rfl⟩ := hp; rfl) | exact hp.elim) ?_ | refine BndH.chn ?_)) (by repeat (first | exact BndH.nil | refine BndH.dead ?_ | refine BndH.box rfl ?_ | refine BndH.box (by assumption) ?_ | refine BndH.row (flatR_map fun _ => rfl) ?_ | refine BndH.row flatR_nil ?_ | refine BndH.map (by intro p hp; cases hp; done) ?_ | refine BndH.map (by intro p hp; simp only [List.mem_map, List.not_mem_nil] at hp; first | (obtain ⟨a, _, rfl⟩ := hp; rfl) | exact hp.elim) ?_ | refine BndH.chn ?_)) (by rfl) fun γ => ?_
  show Ex Try.prog _ _ [(0, .ptr 5 (γ 5) 0)] [(0, ((γ 0), .row 34 3 ((procs id 4).map fun _ => encSt ⟨0, 0, 0⟩))), (1, ((γ 1), .row 60 7 (ev.map encEv))), (2, ((γ 2), .row 35 1 ((procs id 4).map fun _ => [.pv (.slice none 0 0)]))), (3, ((γ 3), .map [])), (4, ((γ 4), .row 3 1 ([0, 0, 0].map encI))), (5, ((γ 5), .box 68 [pI id, pI inc, pI g, pI led, .ref 0 (γ 0), .ref 1 (γ 1), .pv (.slice none 0 0), .pv (.bool up), .ref 2 (γ 2), pI ver, .mp 3 (γ 3), .ref 4 (γ 4), pI 0, pI 41])), (6, ((γ 6), .dead)), (7, ((γ 7), .dead)), (13, (0, .dead)), (12, (0, .dead)), (11, (0, .dead)), (10, (0, .dead)), (9, (0, .dead)), (8, (0, .dead))] _
  have hpl := procs_len id 4
  refine ex_seq_k fun K1 hK1 => ?_
  refine ex_region ttOK (by rfl) ?_
  refine rl_alloc (id := 8) tt_31 za_31 rfl ?_
  refine hK1 _ _ ?_
  clear hK1 K1
  refine ex_seq_k fun K2 hK2 => ?_
  refine ex_region_any ttOK mixed (by rfl) ?_
  refine rl_move rfl ?_
  refine rl_nil rfl rfl ?_
  refine rl_fieldAddr rfl tt_68 rfl rfl tt_57 rfl rfl ?_
  refine rl_fieldAddr rfl tt_57 rfl rfl tt_3 rfl rfl ?_
  first | refine rl_load_ptr rfl tt_3 rfl rfl ?_ | refine rl_load_iel rfl tt_3 rfl ?_
  refine rl_move rfl ?_
  refine rl_nil rfl rfl ?_
  refine rl_fieldAddr rfl tt_68 rfl rfl tt_4 rfl rfl ?_
  first | refine rl_load_ptr rfl tt_4 rfl rfl ?_ | refine rl_load_iel rfl tt_4 rfl ?_
  refine rl_move rfl ?_
  refine rl_nil rfl rfl ?_
  refine rl_fieldAddr rfl tt_68 rfl rfl tt_57 rfl rfl ?_
  refine rl_fieldAddr rfl tt_57 rfl rfl tt_3 rfl rfl ?_
  first | refine rl_load_ptr rfl tt_3 rfl rfl ?_ | refine rl_load_iel rfl tt_3 rfl ?_
  refine rl_move rfl ?_
  refine rl_nil rfl rfl ?_
  refine rl_fieldAddr rfl tt_68 rfl rfl tt_57 rfl rfl ?_
  refine rl_fieldAddr rfl tt_57 rfl rfl tt_3 rfl rfl ?_
  first | refine rl_load_ptr rfl tt_3 rfl rfl ?_ | refine rl_load_iel rfl tt_3 rfl ?_
  refine rl_move rfl ?_
  refine rl_nil rfl rfl ?_
  refine rl_fieldAddr rfl tt_68 rfl rfl tt_57 rfl rfl ?_
  refine rl_fieldAddr rfl tt_57 rfl rfl tt_26 rfl rfl ?_
  first | refine rl_load_ptr rfl tt_26 rfl rfl ?_ | refine rl_load_iel rfl tt_26 rfl ?_
  refine rl_move rfl ?_
  refine rl_nil rfl rfl ?_
  refine rl_fieldAddr rfl tt_68 rfl rfl tt_57 rfl rfl ?_
  refine rl_fieldAddr rfl tt_57 rfl rfl tt_27 rfl rfl ?_
  first | refine rl_load_ptr rfl tt_27 rfl rfl ?_ | refine rl_load_iel rfl tt_27 rfl ?_
  refine rl_move rfl ?_
  refine rl_nil rfl rfl ?_
  refine rl_fieldAddr rfl tt_68 rfl rfl tt_57 rfl rfl ?_
  refine rl_fieldAddr rfl tt_57 rfl rfl tt_3 rfl rfl ?_
  first | refine rl_load_ptr rfl tt_3 rfl rfl ?_ | refine rl_load_iel rfl tt_3 rfl ?_
  refine rl_move rfl ?_
  refine rl_nil rfl rfl ?_
  refine rl_fieldAddr rfl tt_68 rfl rfl tt_3 rfl rfl ?_
  first | refine rl_load_ptr rfl tt_3 rfl rfl ?_ | refine rl_load_iel rfl tt_3 rfl ?_
  refine rl_move rfl ?_
  refine rl_nil rfl rfl ?_
  refine rl_fieldAddr rfl tt_68 rfl rfl tt_29 rfl rfl ?_
  first | refine rl_load_ptr rfl tt_29 rfl rfl ?_ | refine rl_load_iel rfl tt_29 rfl ?_
  refine rl_move rfl ?_
  refine rl_nil rfl rfl ?_
  refine rl_fieldAddr rfl tt_68 rfl rfl tt_3 rfl rfl ?_
  first | refine rl_load_ptr rfl tt_3 rfl rfl ?_ | refine rl_load_iel rfl tt_3 rfl ?_
  refine rl_move rfl ?_
  refine rl_nil rfl rfl ?_
  refine rl_fieldAddr rfl tt_68 rfl rfl tt_3 rfl rfl ?_
  first | refine rl_load_ptr rfl tt_3 rfl rfl ?_ | refine rl_load_iel rfl tt_3 rfl ?_
  refine rl_build tt_31 rfl za_31 rfl (by simp only [pI, tt_3, T3, tt_4, T4, tt_25, T25, tt_26, T26, tt_27, T27, tt_28, T28, tt_29, T29, fillA, cellsA, AV.okc, AV.one, Value.oneCell', List.map_cons, List.map_nil, List.getElem?_cons_zero, List.getElem?_cons_succ, List.take_succ_cons, List.take_zero, List.drop_succ_cons, List.drop_zero, List.cons_append, List.nil_append, List.length_cons, List.length_nil, if_true, and_self, Nat.reduceAdd, Nat.reduceLeDiff]; rfl) ?_
  refine rl_alloc (id := 9) tt_31 za_31 rfl ?_
  refine rl_storeA rfl rfl tt_31 rfl rfl rfl rfl ?_
  refine ⟨by kernel_rfl, ?_⟩
  refine hK2 _ _ ?_
  clear hK2 K2
  refine ex_seq_k fun K3 hK3 => ?_
  refine ex_seq_k fun K4 hK4 => ?_
  refine ex_region ttOK (by rfl) ?_
  refine rl_move rfl ?_
  refine rl_nil rfl rfl ?_
  refine rl_fieldAddr rfl tt_68 rfl rfl tt_57 rfl rfl ?_
  refine rl_fieldAddr rfl tt_57 rfl rfl tt_55 rfl rfl ?_
  first | refine rl_load_ptr rfl tt_55 rfl rfl ?_ | refine rl_load_iel rfl tt_55 rfl ?_
  first | refine rl_lenm rfl tt_55 rfl ?_ | refine rl_lenr rfl tt_55 rfl rfl (by first | exact List.length_map _ | rfl) ?_ | refine rl_len rfl tt_55 rfl rfl (by intro s hs; cases hs) rfl ?_
  refine rl_move rfl ?_
  refine hK4 _ _ ?_
  clear hK4 K4
  refine ex_block ?_
  refine ex_nilB 9 4 6 37 5 rfl rfl rfl rfl rfl ?_
  refine ex_loopK (ι := Nat) (fun i γ1 => [(63, .pv (.int .i64 (i : Int)))]) (fun i γ1 => [(6, ((γ1 6), .row 37 5 (((procs id 4).take i).map encLaN))), (9, ((0 + 1), .box 31 [pI id, .pv (.bool up), pI inc, pI g, .ref 6 (γ1 6), .ref 1 (γ 1), .pv (.slice none 0 0), pI led, pI ver, .pv (.slice none 0 0), .ref 4 (γ 4), pI 0, pI 41])), (10, ((γ1 10), .dead)), (11, ((γ1 11), .dead))]) (fun i => i ≤ (procs id 4).length) (fun i => (procs id 4).length - i) (Cov.cons (t := 0) rfl (Cov.cons (t := 2) rfl (Cov.cons (t := 3) rfl (Cov.cons (t := 62) rfl Cov.nil)))) (HE.same (id := 0) rfl (HE.same (id := 1) rfl (HE.same (id := 2) rfl (HE.same (id := 3) rfl (HE.same (id := 4) rfl (HE.same (id := 5) rfl (HE.same (id := 7) rfl (HE.same (id := 8) rfl (HE.same (id := 12) rfl (HE.same (id := 13) rfl HE.nil)))))))))) 0 (by omega) [0, 0, 0, 0, 0, 0, _, 0, 0, 0, _, _] (Cov.cons' (t := 63) rfl (by rfl) Cov.nil) (HE.row rfl rfl (HE.box rfl rfl (HE.kill rfl (HE.kill rfl HE.nil)))) rfl fun i γ1 hi => ?_
  try dsimp only [List.cons_append, List.nil_append]
  refine ex_seq_k fun K5 hK5 => ?_
  refine ex_region ttOK (by rfl) ?_
  refine rl_bin rfl rfl rfl ?_
  refine hK5 _ _ ?_
  clear hK5 K5
  refine ex_seq_k fun K6 hK6 => ?_
  refine ex_cond rfl (fun hc7 => ?_) (fun hc7 => ?_)
  · try simp at hc7
    obtain ⟨p, hp⟩ : ∃ p, (procs id 4)[i]? = some p := ⟨_, List.getElem?_eq_getElem (by omega)⟩
    refine ex_skip ?_
    refine hK6 _ _ ?_
    clear hK6 K6
    refine ex_seq_k fun K8 hK8 => ?_
    refine ex_block ?_
    refine ex_seq_k fun K9 hK9 => ?_
    refine ex_region ttOK (by rfl) ?_
    refine rl_move rfl ?_
    refine rl_assign rfl ?_
    refine hK9 _ _ ?_
    clear hK9 K9
    refine ex_region_any ttOK mixed (by rfl) ?_
    refine rl_fieldAddr rfl tt_31 rfl rfl tt_25 rfl rfl ?_
    first | refine rl_load_ptr rfl tt_25 rfl rfl ?_ | refine rl_load_iel rfl tt_25 rfl ?_
    refine rl_move rfl ?_
    refine rl_move rfl ?_
    refine rl_meth [0, 1, 2, 3, 4, 5] [_, _, _, _, _, _] (F_impl_body_lane_start id inc g led ver up ev p i hp) rfl rfl rfl (by decide) rfl rfl (by repeat (first | exact InH.nil | refine InH.cons rfl ?_)) (by first | (simp only [List.map_cons, List.map_nil, insH, inE, inT, inA, inC, inD, inB, gl, nx, memN, Nat.beq, Nat.add_eq, List.getD_cons_zero, List.getD_cons_succ, List.getD_nil, Bool.or_false, Bool.false_or, Bool.true_or, Bool.or_true, Nat.add_zero, Nat.zero_add]; rfl) | rfl) (by first | (simp only [List.map_cons, List.map_nil, insH, inE, inT, inA, inC, inD, inB, gl, nx, memN, Nat.beq, Nat.add_eq, List.getD_cons_zero, List.getD_cons_succ, List.getD_nil, Bool.or_false, Bool.false_or, Bool.true_or, Bool.or_true, Nat.add_zero, Nat.zero_add]; rfl) | rfl) ?_
    first | refine rl_slice1A (id := 10) tt_25 rfl tt_37 rfl rfl rfl rfl rfl rfl ?_ | refine rl_slice1 (id := 10) tt_25 rfl tt_37 rfl rfl rfl rfl rfl ?_ | refine rl_buildSlice (id := 10) tt_25 rfl tt_37 rfl rfl rfl rfl (by repeat (first | exact Abs.nil | refine Abs.ref rfl (by first | exact flatR_map (fun _ => rfl) | exact flatR_nil) ?_ rfl rfl | refine Abs.val rfl rfl ?_)) rfl (Nat.le_of_ble_eq_true rfl) (Nat.le_of_ble_eq_true rfl) (Nat.le_of_ble_eq_true rfl) rfl rfl ?_
    refine rl_app_rr (zs := ((procs id 4).take i ++ [p]).map encLaN) rfl rfl tt_25 rfl tt_37 rfl rfl rfl rfl (by first | rfl | exact noow_map (fun _ => rfl) _) (map_snoc _ _ _) (by first | omega | (first | (simp only [List.length_map, List.length_append, List.length_cons, List.length_nil, List.length_take, T60]; have := procs_len id 4; omega) | (simp only [List.length_map, List.length_append, List.length_cons, List.length_nil, List.length_take, T37]; have := procs_len id 4; omega) | (simp only [List.length_map, List.length_append, List.length_cons, List.length_nil, List.length_take, T123]; have := procs_len id 4; omega) | (simp only [List.length_map, List.length_append, List.length_cons, List.length_nil, List.length_take, T34]; have := procs_len id 4; omega) | (simp only [List.length_map, List.length_append, List.length_cons, List.length_nil, List.length_take, T3]; have := procs_len id 4; omega) | (simp only [List.length_map, List.length_append, List.length_cons, List.length_nil, List.length_take, T35]; have := procs_len id 4; omega) | (simp only [List.length_map, List.length_append, List.length_cons, List.length_nil, List.length_take, T131]; have := procs_len id 4; omega) | (simp only [List.length_map, List.length_append, List.length_cons, List.length_nil, List.length_take, T154]; have := procs_len id 4; omega)) | (simp; done)) ?_
    refine rl_fieldAddr rfl tt_31 rfl rfl tt_25 rfl rfl ?_
    refine rl_store1 rfl rfl tt_25 rfl rfl rfl rfl rfl (by simp only [List.set_cons_zero, List.set_cons_succ]; rfl) ?_
    refine ⟨by kernel_rfl, ?_⟩
    refine hK8 _ _ ?_
    clear hK8 K8
    refine ex_region ttOK (by rfl) ?_
    refine rl_bin rfl rfl rfl ?_
    refine rl_move rfl ?_
    exact ⟨i + 1, ⟨by omega, by omega⟩, [0, 0, 0, 0, 0, 0, _, 0, 0, 0, _, _], (Cov.cons' (t := 63) rfl (by rw [wrap_small (by omega) (by omega)]; rfl) Cov.nil), (Cov.cons (t := 0) rfl (Cov.cons (t := 2) rfl (Cov.cons (t := 3) rfl (Cov.cons (t := 62) rfl Cov.nil)))), (HE.row rfl (by rw [take_snoc hp]) (HE.box rfl rfl (HE.kill rfl (HE.kill rfl HE.nil)))), (HE.same (id := 0) rfl (HE.same (id := 1) rfl (HE.same (id := 2) rfl (HE.same (id := 3) rfl (HE.same (id := 4) rfl (HE.same (id := 5) rfl (HE.same (id := 7) rfl (HE.same (id := 8) rfl (HE.same (id := 12) rfl (HE.same (id := 13) rfl HE.nil)))))))))), rfl⟩
  · try simp at hc7
    refine ex_exit ?_
    refine hK3 _ _ ?_
    clear hK6 K6 hK3 K3
    refine ex_seq_k fun K10 hK10 => ?_
    refine ex_seq_k fun K11 hK11 => ?_
    refine ex_region ttOK (by rfl) ?_
    refine rl_move rfl ?_
    refine hK11 _ _ ?_
    clear hK11 K11
    refine ex_block ?_
    refine ex_nilB 9 9 7 123 3 rfl rfl rfl rfl rfl ?_
    refine ex_loopK (ι := Nat) (fun i γ2 => [(75, .pv (.int .i64 (i : Int)))]) (fun i γ2 => [(7, ((γ2 7), .row 123 3 ((List.range i).map fun _ => encVi0))), (9, ((0 + 1), .box 31 [pI id, .pv (.bool up), pI inc, pI g, .ref 6 (γ1 6), .ref 1 (γ 1), .pv (.slice none 0 0), pI led, pI ver, .ref 7 (γ2 7), .ref 4 (γ 4), pI 0, pI 41])), (12, ((γ2 12), .dead)), (13, ((γ2 13), .dead))]) (fun i => i ≤ 3) (fun i => 3 - i) (Cov.cons (t := 0) rfl (Cov.cons (t := 2) rfl (Cov.cons (t := 3) rfl Cov.nil))) (HE.same (id := 0) rfl (HE.same (id := 1) rfl (HE.same (id := 2) rfl (HE.same (id := 3) rfl (HE.same (id := 4) rfl (HE.same (id := 5) rfl (HE.same (id := 6) rfl (HE.same (id := 8) rfl (HE.same (id := 10) rfl (HE.same (id := 11) rfl HE.nil)))))))))) 0 (by omega) [0, 0, 0, 0, 0, 0, 0, _, 0, 0, 0, 0, _, _] (Cov.cons (t := 75) rfl Cov.nil) (HE.row rfl rfl (HE.box rfl rfl (HE.kill rfl (HE.kill rfl HE.nil)))) rfl fun i γ2 hi => ?_
    try dsimp only [List.cons_append, List.nil_append]
    refine ex_seq_k fun K12 hK12 => ?_
    refine ex_region ttOK (by rfl) ?_
    refine rl_bin rfl rfl rfl ?_
    refine hK12 _ _ ?_
    clear hK12 K12
    refine ex_seq_k fun K13 hK13 => ?_
    refine ex_cond rfl (fun hc14 => ?_) (fun hc14 => ?_)
    · try simp at hc14
      refine ex_skip ?_
      refine hK13 _ _ ?_
      clear hK13 K13
      refine ex_seq_k fun K15 hK15 => ?_
      refine ex_block ?_
      refine ex_seq_k fun K16 hK16 => ?_
      refine ex_region ttOK (by rfl) ?_
      refine rl_move rfl ?_
      refine rl_assign rfl ?_
      refine hK16 _ _ ?_
      clear hK16 K16
      refine ex_region_any ttOK mixed (by rfl) ?_
      refine rl_fieldAddr rfl tt_31 rfl rfl tt_28 rfl rfl ?_
      first | refine rl_load_ptr rfl tt_28 rfl rfl ?_ | refine rl_load_iel rfl tt_28 rfl ?_
      refine rl_move rfl ?_
      refine rl_nil rfl rfl ?_
      refine rl_fieldAddr rfl tt_68 rfl rfl tt_66 rfl rfl ?_
      first | refine rl_load_ptr rfl tt_66 rfl rfl ?_ | refine rl_load_iel rfl tt_66 rfl ?_
      refine rl_move rfl ?_
      refine rl_lookup (κ := Int) (enc := fun n => .int .i64 n) (out := .agg encVi0) ttOK (ks := []) Try.underlying66 (findK_int Try.underlying3) rfl rfl (fun _ _ _ h => ka_pv h) rfl rfl (.inr ⟨rfl, _, tt_123, rfl⟩) ?_
      first | refine rl_slice1A (id := 12) tt_28 rfl tt_123 rfl rfl rfl rfl rfl rfl ?_ | refine rl_slice1 (id := 12) tt_28 rfl tt_123 rfl rfl rfl rfl rfl ?_ | refine rl_buildSlice (id := 12) tt_28 rfl tt_123 rfl rfl rfl rfl (by repeat (first | exact Abs.nil | refine Abs.ref rfl (by first | exact flatR_map (fun _ => rfl) | exact flatR_nil) ?_ rfl rfl | refine Abs.val rfl rfl ?_)) rfl (Nat.le_of_ble_eq_true rfl) (Nat.le_of_ble_eq_true rfl) (Nat.le_of_ble_eq_true rfl) rfl rfl ?_
      refine rl_app_rr (zs := (List.range i).map (fun _ => encVi0) ++ [encVi0]) rfl rfl tt_28 rfl tt_123 rfl rfl rfl rfl (by first | rfl | exact noow_map (fun _ => rfl) _) rfl (by simp only [List.length_append, List.length_map, List.length_range, List.length_cons, List.length_nil, T123]; omega) ?_
      refine rl_fieldAddr rfl tt_31 rfl rfl tt_28 rfl rfl ?_
      refine rl_store1 rfl rfl tt_28 rfl rfl rfl rfl rfl (by simp only [List.set_cons_zero, List.set_cons_succ]; rfl) ?_
      refine ⟨by kernel_rfl, ?_⟩
      refine hK15 _ _ ?_
      clear hK15 K15
      refine ex_region ttOK (by rfl) ?_
      refine rl_bin rfl rfl rfl ?_
      refine rl_move rfl ?_
      exact ⟨i + 1, ⟨by omega, by omega⟩, [0, 0, 0, 0, 0, 0, 0, _, 0, 0, 0, 0, _, _], (Cov.cons' (t := 75) rfl (by rw [wrap_small (by omega) (by omega)]; rfl) Cov.nil), (Cov.cons (t := 0) rfl (Cov.cons (t := 2) rfl (Cov.cons (t := 3) rfl Cov.nil))), (HE.row rfl (by rw [List.range_succ, List.map_append]; rfl) (HE.box rfl rfl (HE.kill rfl (HE.kill rfl HE.nil)))), (HE.same (id := 0) rfl (HE.same (id := 1) rfl (HE.same (id := 2) rfl (HE.same (id := 3) rfl (HE.same (id := 4) rfl (HE.same (id := 5) rfl (HE.same (id := 6) rfl (HE.same (id := 8) rfl (HE.same (id := 10) rfl (HE.same (id := 11) rfl HE.nil)))))))))), rfl⟩
    · try simp at hc14
      refine ex_exit ?_
      refine hK10 _ _ ?_
      clear hK13 K13 hK10 K10
      refine ex_seq_k fun K17 hK17 => ?_
      refine ex_region ttOK (by rfl) ?_
      first | refine rl_loadA_ptr rfl tt_31 rfl rfl rfl ?_ | refine rl_loadA_iel rfl tt_31 rfl rfl ?_ | refine rl_load_ptr rfl tt_31 rfl rfl ?_ | refine rl_load_iel rfl tt_31 rfl ?_ | refine rl_loadEA rfl tt_31 rfl (by assumption) rfl rfl ?_
      refine rl_storeA rfl rfl tt_31 rfl rfl rfl rfl ?_
      refine hK17 _ _ ?_
      clear hK17 K17
      refine ex_ret ?_
      exact ⟨.inr rfl, [γ 0, γ 1, γ 2, γ 3, γ 4, γ 5, _, _], rfl, rfl, HE.row rfl (by rw [List.take_of_length_le (by omega)]) (HE.row rfl (by rw [show 3 = i from by omega]) (HE.same rfl (HE.same rfl (HE.same rfl (HE.same rfl (HE.same rfl (HE.same rfl HE.nil)))))))⟩

end Go.Proofs.Ytcleiaibcfocdaa.Am
