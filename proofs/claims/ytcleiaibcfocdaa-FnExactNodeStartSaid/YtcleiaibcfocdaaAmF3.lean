/- Walks. PRINTED BY wip/gen/gen2.py out of b3.py. -/
import Derived.Test.YtcleiaibcfocdaaAmE
set_option linter.unusedVariables false
set_option linter.unusedSimpArgs false
namespace Go.Proofs.Ytcleiaibcfocdaa.Am
open Go Go.RowKit

theorem F_impl_heap_impl_eventKey_push (l : List Ev) (x : Ev) (hl : l.length ≤ 1000000000) : Meth Try.prog 82 2 [0] [.ptr 0 0 0, .agg (encEv x)] [(0, (0, .box 113 [.ref 1 0, .fn (.func 80) [] []])), (1, (0, .row 116 7 ((l).map encEv)))] (.tup []) [(0, (0, .box 113 [.ref 1 0, .fn (.func 80) [] []])), (1, (0, .row 116 7 ((hpush evLt l x).map encEv)))] := by
  refine meth_of_ex ttOK (fn := Try.f82) (by kernel_rfl) (by kernel_rfl) rfl (O0 := []) 2 3 (Nat.le_of_ble_eq_true rfl) (by rfl) (by repeat (first | exact BndH.nil | refine BndH.dead ?_ | refine BndH.box rfl ?_ | refine BndH.box (by assumption) ?_ | refine BndH.row (flatR_map fun _ => rfl) ?_ | refine BndH.row flatR_nil ?_ | refine BndH.map (by intro p hp; simp only [List.mem_map, List.not_mem_nil] at hp; first | (obtain ⟨a, _, rfl⟩ := hp; rfl) | exact hp.elim) ?_ | refine BndH.chn ?_)) (by repeat (first | exact BndH.nil | refine BndH.dead ?_ | refine BndH.box rfl ?_ | refine BndH.box (by assumption) ?_ | refine BndH.row (flatR_map fun _ => rfl) ?_ | refine BndH.row flatR_nil ?_ | refine BndH.map (by intro p hp; simp only [List.mem_map, List.not_mem_nil] at hp; first | (obtain ⟨a, _, rfl⟩ := hp; rfl) | exact hp.elim) ?_ | refine BndH.chn ?_)) (by rfl) fun γ => ?_
  show Ex Try.prog _ _ [(0, .ptr 0 (γ 0) 0), (1, .agg (encEv x))] [(0, ((γ 0), .box 113 [.ref 1 (γ 1), .fn (.func 80) [] []])), (1, ((γ 1), .row 116 7 ((l).map encEv))), (4, (0, .dead)), (3, (0, .dead)), (2, (0, .dead))] _
  refine ex_seq_k fun K1 hK1 => ?_
  refine ex_region ttOK (by rfl) ?_
  refine rl_boxA (id := 2) rfl rfl rfl ?_
  refine hK1 _ _ ?_
  clear hK1 K1
  refine ex_seq_k fun K2 hK2 => ?_
  refine ex_region_any ttOK mixed (by rfl) ?_
  refine rl_move rfl ?_
  refine rl_move rfl ?_
  refine rl_nil rfl rfl ?_
  refine rl_fieldAddr rfl tt_113 rfl rfl tt_111 rfl rfl ?_
  first | refine rl_load_ptr rfl tt_111 rfl rfl ?_ | refine rl_load_iel rfl tt_111 rfl ?_
  first | refine rl_loadA_ptr rfl tt_116 rfl rfl rfl ?_ | refine rl_loadA_iel rfl tt_116 rfl rfl ?_ | refine rl_load_ptr rfl tt_116 rfl rfl ?_ | refine rl_load_iel rfl tt_116 rfl ?_ | refine rl_loadEA rfl tt_116 rfl (by assumption) rfl rfl ?_
  first | refine rl_slice1A (id := 3) tt_111 rfl tt_116 rfl rfl rfl rfl rfl rfl ?_ | refine rl_slice1 (id := 3) tt_111 rfl tt_116 rfl rfl rfl rfl rfl ?_ | refine rl_buildSlice (id := 3) tt_111 rfl tt_116 rfl rfl rfl rfl (by repeat (first | exact Abs.nil | refine Abs.ref rfl (by first | exact flatR_map (fun _ => rfl) | exact flatR_nil) ?_ rfl rfl | refine Abs.val rfl rfl ?_)) rfl (Nat.le_of_ble_eq_true rfl) (Nat.le_of_ble_eq_true rfl) (Nat.le_of_ble_eq_true rfl) rfl rfl ?_
  first | refine rl_app_rr rfl rfl tt_111 rfl tt_116 rfl rfl rfl rfl (by first | rfl | exact noow_map (fun _ => rfl) _) (by first | exact map_snoc _ _ _ | exact map_app _ _ _ | rfl) (by first | omega | (simp only [List.length_map, List.length_append, List.length_cons, List.length_nil, T116]; omega) | (simp only [List.length_map, List.length_append, List.length_cons, List.length_nil, T60]; omega) | (unfold maxLen; omega)) ?_ | refine rl_app_rd rfl rfl tt_111 rfl tt_116 rfl rfl rfl (by first | rfl | exact noow_map (fun _ => rfl) _) (by first | exact map_snoc _ _ _ | exact map_app _ _ _ | rfl) (by first | omega | (simp only [List.length_map, List.length_append, List.length_cons, List.length_nil, T116]; omega) | (simp only [List.length_map, List.length_append, List.length_cons, List.length_nil, T60]; omega) | (unfold maxLen; omega)) ?_ | refine rl_app_nr (id := 4) rfl rfl tt_111 rfl tt_116 rfl rfl rfl rfl (by first | rfl | exact noow_map (fun _ => rfl) _) (by first | omega | (simp only [List.length_map, List.length_append, List.length_cons, List.length_nil, T116]; omega) | (simp only [List.length_map, List.length_append, List.length_cons, List.length_nil, T60]; omega) | (unfold maxLen; omega)) ?_ | refine rl_app_nd (id := 4) rfl rfl tt_111 rfl tt_116 rfl rfl rfl (by first | rfl | exact noow_map (fun _ => rfl) _) (by first | omega | (simp only [List.length_map, List.length_append, List.length_cons, List.length_nil, T116]; omega) | (simp only [List.length_map, List.length_append, List.length_cons, List.length_nil, T60]; omega) | (unfold maxLen; omega)) ?_
  refine rl_nil rfl rfl ?_
  refine rl_fieldAddr rfl tt_113 rfl rfl tt_111 rfl rfl ?_
  refine rl_store1 rfl rfl tt_111 rfl rfl rfl rfl rfl (by simp only [List.set_cons_zero, List.set_cons_succ]; rfl) ?_
  refine ⟨by kernel_rfl, ?_⟩
  refine hK2 _ _ ?_
  clear hK2 K2
  refine ex_seq_k fun K3 hK3 => ?_
  refine ex_region ttOK (by rfl) ?_
  refine rl_move rfl ?_
  refine rl_nil rfl rfl ?_
  refine rl_fieldAddr rfl tt_113 rfl rfl tt_111 rfl rfl ?_
  first | refine rl_load_ptr rfl tt_111 rfl rfl ?_ | refine rl_load_iel rfl tt_111 rfl ?_
  first | refine rl_lenm rfl tt_111 rfl ?_ | refine rl_lenr rfl tt_111 rfl rfl (by first | exact List.length_map _ | rfl) ?_ | refine rl_len rfl tt_111 rfl rfl (by intro s hs; cases hs) rfl ?_
  refine rl_subN (b := 1) rfl rfl (by first | omega | (simp; done) | (simp; omega)) (by first | omega | (simp; done) | (simp; omega)) ?_
  refine rl_assign rfl ?_
  refine hK3 _ _ ?_
  clear hK3 K3
  refine ex_block ?_
  refine ex_loopK (ι := Nat × List Ev) (fun i γ1 => [(4, .pv (.int .i64 (i.1 : Int)))]) (fun i γ1 => [(1, ((γ1 1), .row 116 7 ((i.2).map encEv))), (0, ((γ 0), .box 113 [.ref 1 (γ1 1), .fn (.func 80) [] []]))]) (fun i => siftUp evLt i.2 i.1 = hpush evLt l x ∧ i.1 < i.2.length ∧ i.2.length = l.length + 1) (fun i => i.1) (Cov.cons (t := 0) rfl Cov.nil) (HE.same (id := 2) rfl (HE.same (id := 3) rfl (HE.same (id := 4) rfl HE.nil))) (l.length, l ++ [x]) ⟨rfl, by simp, by simp⟩ [0, _] (Cov.cons' (t := 4) rfl (by simp) Cov.nil) (HE.row rfl rfl (HE.box rfl rfl HE.nil)) rfl fun i γ1 hi => ?_
  try dsimp only [List.cons_append, List.nil_append]
  obtain ⟨k, m⟩ := i
  obtain ⟨h1, h2, h3⟩ := hi
  dsimp only at h1 h2 h3 ⊢
  refine ex_seq_k fun K4 hK4 => ?_
  refine ex_seq_k fun K5 hK5 => ?_
  refine ex_region ttOK (by rfl) ?_
  refine rl_move rfl ?_
  refine rl_bin rfl rfl rfl ?_
  refine hK5 _ _ ?_
  clear hK5 K5
  refine ex_cond rfl (fun hc6 => ?_) (fun hc6 => ?_)
  · try simp at hc6
    obtain ⟨a, ha⟩ : ∃ a, m[k]? = some a := ⟨_, List.getElem?_eq_getElem (by omega)⟩
    obtain ⟨b, hb⟩ : ∃ b, m[(k - 1) / 2]? = some b := ⟨_, List.getElem?_eq_getElem (by omega)⟩
    have hp : (k - 1) / 2 < k := by omega
    refine ex_skip ?_
    refine hK4 _ _ ?_
    clear hK4 K4
    refine ex_block ?_
    refine ex_seq_k fun K7 hK7 => ?_
    refine ex_region ttOK (by rfl) ?_
    refine rl_move rfl ?_
    refine rl_subN (b := 1) rfl rfl (by first | omega | (simp; done) | (simp; omega)) (by first | omega | (simp; done) | (simp; omega)) ?_
    refine rl_quoN (b := 2) rfl rfl (by first | omega | (simp; done) | (simp; omega)) (by first | omega | (simp; done) | (simp; omega)) ?_
    refine rl_assign rfl ?_
    refine hK7 _ _ ?_
    clear hK7 K7
    refine ex_seq_k fun K8 hK8 => ?_
    refine ex_seq_k fun K9 hK9 => ?_
    refine ex_region_any ttOK mixed (by rfl) ?_
    refine rl_move rfl ?_
    refine rl_nil rfl rfl ?_
    refine rl_fieldAddr rfl tt_113 rfl rfl tt_110 rfl rfl ?_
    first | refine rl_load_ptr rfl tt_110 rfl rfl ?_ | refine rl_load_iel rfl tt_110 rfl ?_
    refine rl_move rfl ?_
    refine rl_nil rfl rfl ?_
    refine rl_fieldAddr rfl tt_113 rfl rfl tt_111 rfl rfl ?_
    first | refine rl_load_ptr rfl tt_111 rfl rfl ?_ | refine rl_load_iel rfl tt_111 rfl ?_
    refine rl_move rfl ?_
    refine rl_idxR (j := k) rfl rfl tt_111 rfl tt_116 rfl rfl (by omega) ?_
    refine rl_loadEA rfl tt_116 rfl ha rfl rfl ?_
    refine rl_move rfl ?_
    refine rl_nil rfl rfl ?_
    refine rl_fieldAddr rfl tt_113 rfl rfl tt_111 rfl rfl ?_
    first | refine rl_load_ptr rfl tt_111 rfl rfl ?_ | refine rl_load_iel rfl tt_111 rfl ?_
    refine rl_move rfl ?_
    refine rl_idxR (j := (k - 1) / 2) rfl rfl tt_111 rfl tt_116 rfl rfl (by omega) ?_
    refine rl_loadEA rfl tt_116 rfl hb rfl rfl ?_
    refine rl_call rfl rfl rfl (F_impl_keyLess _ _) ?_
    refine rl_not rfl ?_
    refine ⟨by kernel_rfl, ?_⟩
    refine hK9 _ _ ?_
    clear hK9 K9
    refine ex_cond rfl (fun hc10 => ?_) (fun hc10 => ?_)
    · try simp at hc10
      have hfin := (siftUp_stop ha hb hc10).symm.trans h1
      refine ex_exit ?_
      exact ⟨.inl rfl, [γ 0, _], rfl, rfl, HE.box rfl rfl (HE.row rfl (by rw [← hfin]) HE.nil)⟩
    · try simp at hc10
      have hg := hc10
      refine ex_skip ?_
      refine hK8 _ _ ?_
      clear hK8 K8
      refine ex_seq_k fun K11 hK11 => ?_
      refine ex_region_any ttOK mixed (by rfl) ?_
      refine rl_move rfl ?_
      refine rl_nil rfl rfl ?_
      refine rl_fieldAddr rfl tt_113 rfl rfl tt_111 rfl rfl ?_
      first | refine rl_load_ptr rfl tt_111 rfl rfl ?_ | refine rl_load_iel rfl tt_111 rfl ?_
      refine rl_move rfl ?_
      refine rl_move rfl ?_
      refine rl_nil rfl rfl ?_
      refine rl_fieldAddr rfl tt_113 rfl rfl tt_111 rfl rfl ?_
      first | refine rl_load_ptr rfl tt_111 rfl rfl ?_ | refine rl_load_iel rfl tt_111 rfl ?_
      refine rl_move rfl ?_
      refine rl_move rfl ?_
      refine rl_nil rfl rfl ?_
      refine rl_fieldAddr rfl tt_113 rfl rfl tt_111 rfl rfl ?_
      first | refine rl_load_ptr rfl tt_111 rfl rfl ?_ | refine rl_load_iel rfl tt_111 rfl ?_
      refine rl_move rfl ?_
      refine rl_idxR (j := (k - 1) / 2) rfl rfl tt_111 rfl tt_116 rfl rfl (by omega) ?_
      refine rl_loadEA rfl tt_116 rfl hb rfl rfl ?_
      refine rl_move rfl ?_
      refine rl_nil rfl rfl ?_
      refine rl_fieldAddr rfl tt_113 rfl rfl tt_111 rfl rfl ?_
      first | refine rl_load_ptr rfl tt_111 rfl rfl ?_ | refine rl_load_iel rfl tt_111 rfl ?_
      refine rl_move rfl ?_
      refine rl_idxR (j := k) rfl rfl tt_111 rfl tt_116 rfl rfl (by omega) ?_
      refine rl_loadEA rfl tt_116 rfl ha rfl rfl ?_
      refine rl_idxR (j := k) rfl rfl tt_111 rfl tt_116 rfl rfl (by omega) ?_
      refine rl_storeEA (el' := b) rfl rfl tt_116 rfl rfl rfl ha rfl (abs_ints _) rfl rfl ?_
      refine rl_idxR (j := (k - 1) / 2) rfl rfl tt_111 rfl tt_116 rfl rfl (by rw [List.length_set]; omega) ?_
      refine rl_storeEA (el' := a) rfl rfl tt_116 rfl rfl rfl (by rw [List.getElem?_set_ne (by omega)]; exact hb) rfl (abs_ints _) rfl rfl ?_
      refine ⟨by kernel_rfl, ?_⟩
      refine hK11 _ _ ?_
      clear hK11 K11
      refine ex_region ttOK (by rfl) ?_
      refine rl_move rfl ?_
      refine rl_assign rfl ?_
      exact ⟨((k - 1) / 2, sw m k ((k - 1) / 2)), ⟨⟨by rw [← h1, siftUp_step (by omega) ha hb hg], by rw [sw_len]; dsimp only; omega, by rw [sw_len]; exact h3⟩, (by dsimp only; omega)⟩, [0, _], (Cov.cons (t := 4) rfl Cov.nil), (Cov.cons (t := 0) rfl Cov.nil), (HE.row rfl (by rw [sw_eq ha hb]) (HE.box rfl rfl HE.nil)), (HE.same (id := 2) rfl (HE.same (id := 3) rfl (HE.same (id := 4) rfl HE.nil))), rfl⟩
  · try simp at hc6
    have hk : k = 0 := by omega
    subst hk
    have hfin := siftUp_zero.symm.trans h1
    refine ex_exit ?_
    exact ⟨.inl rfl, [γ 0, _], rfl, rfl, HE.box rfl rfl (HE.row rfl (by rw [← hfin]) HE.nil)⟩

theorem F_impl_heap_impl_eventKey_pop (m : Ev) (r : List Ev) (hl : r.length ≤ 1000000000) : Meth Try.prog 115 2 [0] [.ptr 0 0 0] [(0, (0, .box 113 [.ref 1 0, .fn (.func 80) [] []])), (1, (0, .row 116 7 ((m :: r).map encEv)))] (.agg (encEv m)) [(0, (0, .box 113 [.ref 1 0, .fn (.func 80) [] []])), (1, (0, .row 116 7 ((hrest evLt (m :: r)).map encEv)))] := by
  refine meth_of_ex ttOK (fn := Try.f115) (by kernel_rfl) (by kernel_rfl) rfl (O0 := [.agg (encEv m)]) 2 2 (Nat.le_of_ble_eq_true rfl) (by rfl) (by repeat (first | exact BndH.nil | refine BndH.dead ?_ | refine BndH.box rfl ?_ | refine BndH.box (by assumption) ?_ | refine BndH.row (flatR_map fun _ => rfl) ?_ | refine BndH.row flatR_nil ?_ | refine BndH.map (by intro p hp; simp only [List.mem_map, List.not_mem_nil] at hp; first | (obtain ⟨a, _, rfl⟩ := hp; rfl) | exact hp.elim) ?_ | refine BndH.chn ?_)) (by repeat (first | exact BndH.nil | refine BndH.dead ?_ | refine BndH.box rfl ?_ | refine BndH.box (by assumption) ?_ | refine BndH.row (flatR_map fun _ => rfl) ?_ | refine BndH.row flatR_nil ?_ | refine BndH.map (by intro p hp; simp only [List.mem_map, List.not_mem_nil] at hp; first | (obtain ⟨a, _, rfl⟩ := hp; rfl) | exact hp.elim) ?_ | refine BndH.chn ?_)) (by rfl) fun γ => ?_
  show Ex Try.prog _ _ [(0, .ptr 0 (γ 0) 0)] [(0, ((γ 0), .box 113 [.ref 1 (γ 1), .fn (.func 80) [] []])), (1, ((γ 1), .row 116 7 ((m :: r).map encEv))), (3, (0, .dead)), (2, (0, .dead))] _
  obtain ⟨T0, hT⟩ : ∃ T0, T0 = ((m :: r).set 0 ((m :: r).getLast (by simp))).take r.length := ⟨_, rfl⟩
  have hres : hrest evLt (m :: r) = siftDown evLt T0 0 := by rw [hT]; rfl
  have hTl : T0.length = r.length := by rw [hT]; simp
  have hlast : (m :: r)[(m :: r).length - 1]? = some ((m :: r).getLast (by simp)) := by rw [← List.getLast?_eq_getElem?, List.getLast?_eq_some_getLast]
  refine ex_seq_k fun K1 hK1 => ?_
  refine ex_region ttOK (by rfl) ?_
  refine rl_alloc (id := 2) tt_116 za_116 rfl ?_
  refine hK1 _ _ ?_
  clear hK1 K1
  refine ex_seq_k fun K2 hK2 => ?_
  refine ex_region ttOK (by rfl) ?_
  refine rl_move rfl ?_
  refine rl_nil rfl rfl ?_
  refine rl_fieldAddr rfl tt_113 rfl rfl tt_111 rfl rfl ?_
  first | refine rl_load_ptr rfl tt_111 rfl rfl ?_ | refine rl_load_iel rfl tt_111 rfl ?_
  refine rl_idxR (j := 0) rfl rfl tt_111 rfl tt_116 rfl rfl (by simp) ?_
  refine rl_loadEA rfl tt_116 rfl (show (m :: r)[0]? = some m from rfl) rfl rfl ?_
  refine rl_alloc (id := 3) tt_116 za_116 rfl ?_
  refine rl_storeA rfl rfl tt_116 rfl rfl rfl rfl ?_
  refine hK2 _ _ ?_
  clear hK2 K2
  refine ex_seq_k fun K3 hK3 => ?_
  refine ex_region ttOK (by rfl) ?_
  refine rl_move rfl ?_
  refine rl_nil rfl rfl ?_
  refine rl_fieldAddr rfl tt_113 rfl rfl tt_111 rfl rfl ?_
  first | refine rl_load_ptr rfl tt_111 rfl rfl ?_ | refine rl_load_iel rfl tt_111 rfl ?_
  first | refine rl_lenm rfl tt_111 rfl ?_ | refine rl_lenr rfl tt_111 rfl rfl (by first | exact List.length_map _ | rfl) ?_ | refine rl_len rfl tt_111 rfl rfl (by intro s hs; cases hs) rfl ?_
  refine rl_subN (b := 1) rfl rfl (by first | omega | (simp; done) | (simp; omega)) (by first | omega | (simp; done) | (simp; omega)) ?_
  refine rl_assign rfl ?_
  refine hK3 _ _ ?_
  clear hK3 K3
  refine ex_seq_k fun K4 hK4 => ?_
  refine ex_region_any ttOK mixed (by rfl) ?_
  refine rl_move rfl ?_
  refine rl_nil rfl rfl ?_
  refine rl_fieldAddr rfl tt_113 rfl rfl tt_111 rfl rfl ?_
  first | refine rl_load_ptr rfl tt_111 rfl rfl ?_ | refine rl_load_iel rfl tt_111 rfl ?_
  refine rl_move rfl ?_
  refine rl_nil rfl rfl ?_
  refine rl_fieldAddr rfl tt_113 rfl rfl tt_111 rfl rfl ?_
  first | refine rl_load_ptr rfl tt_111 rfl rfl ?_ | refine rl_load_iel rfl tt_111 rfl ?_
  refine rl_move rfl ?_
  refine rl_idxR (j := (m :: r).length - 1) rfl rfl tt_111 rfl tt_116 rfl rfl (by simp) ?_
  refine rl_loadEA rfl tt_116 rfl hlast rfl rfl ?_
  refine rl_idxR (j := 0) rfl rfl tt_111 rfl tt_116 rfl rfl (by simp) ?_
  refine rl_storeEA (el' := ((m :: r).getLast (by simp))) rfl rfl tt_116 rfl rfl rfl (show (m :: r)[0]? = some m from rfl) rfl (abs_ints _) rfl rfl ?_
  refine ⟨by kernel_rfl, ?_⟩
  refine hK4 _ _ ?_
  clear hK4 K4
  refine ex_seq_k fun K5 hK5 => ?_
  refine ex_region ttOK (by rfl) ?_
  refine rl_move rfl ?_
  refine rl_move rfl ?_
  refine rl_nil rfl rfl ?_
  refine rl_fieldAddr rfl tt_113 rfl rfl tt_111 rfl rfl ?_
  first | refine rl_load_ptr rfl tt_111 rfl rfl ?_ | refine rl_load_iel rfl tt_111 rfl ?_
  refine rl_move rfl ?_
  refine rl_trunc ttOK (u := (m :: r).length - 1) (ys := T0.map encEv) rfl tt_111 rfl tt_116 rfl rfl rfl (by first | omega | (simp; done) | (simp; omega)) (by rw [hT, List.map_take]; rfl) ?_
  refine rl_nil rfl rfl ?_
  refine rl_fieldAddr rfl tt_113 rfl rfl tt_111 rfl rfl ?_
  refine rl_store1 rfl rfl tt_111 rfl rfl rfl rfl rfl (by simp only [List.set_cons_zero, List.set_cons_succ]; rfl) ?_
  refine hK5 _ _ ?_
  clear hK5 K5
  refine ex_seq_k fun K6 hK6 => ?_
  refine ex_region ttOK (by rfl) ?_
  refine rl_assign rfl ?_
  refine hK6 _ _ ?_
  clear hK6 K6
  refine ex_block ?_
  refine ex_loopK (ι := Nat × List Ev) (fun i γ1 => [(5, .pv (.int .i64 (i.1 : Int)))]) (fun i γ1 => [(1, ((γ1 1), .row 116 7 ((i.2).map encEv))), (0, ((γ 0), .box 113 [.ref 1 (γ1 1), .fn (.func 80) [] []]))]) (fun i => siftDown evLt i.2 i.1 = hrest evLt (m :: r) ∧ i.2.length = r.length ∧ i.1 ≤ r.length) (fun i => i.2.length - i.1) (Cov.cons (t := 0) rfl (Cov.cons (t := 2) rfl (Cov.cons (t := 3) rfl (Cov.cons (t := 4) rfl Cov.nil)))) (HE.same (id := 2) rfl (HE.same (id := 3) rfl HE.nil)) (0, T0) ⟨hres.symm, hTl, by omega⟩ [0, _] (Cov.cons (t := 5) rfl Cov.nil) (HE.row rfl rfl (HE.box rfl rfl HE.nil)) rfl fun i γ1 hi => ?_
  try dsimp only [List.cons_append, List.nil_append]
  obtain ⟨k, t⟩ := i
  obtain ⟨h1, h2, h3⟩ := hi
  dsimp only at h1 h2 h3 ⊢
  refine ex_block ?_
  refine ex_seq_k fun K7 hK7 => ?_
  refine ex_region ttOK (by rfl) ?_
  refine rl_move rfl ?_
  refine rl_mulN (a := 2) rfl rfl (by first | omega | (simp; done) | (simp; omega)) ?_
  refine rl_addN (b := 1) rfl rfl (by first | omega | (simp; done) | (simp; omega)) ?_
  refine rl_assign rfl ?_
  refine hK7 _ _ ?_
  clear hK7 K7
  refine ex_seq_k fun K8 hK8 => ?_
  refine ex_seq_k fun K9 hK9 => ?_
  refine ex_region ttOK (by rfl) ?_
  refine rl_move rfl ?_
  refine rl_move rfl ?_
  refine rl_bin rfl rfl rfl ?_
  refine hK9 _ _ ?_
  clear hK9 K9
  refine ex_cond rfl (fun hc10 => ?_) (fun hc10 => ?_)
  · try simp at hc10
    have hfin := (siftDown_leaf (lt := evLt) (l := t) (k := k) (by omega)).symm.trans h1
    refine ex_seq_k fun K11 hK11 => ?_
    refine ex_region ttOK (by rfl) ?_
    first | refine rl_loadA_ptr rfl tt_116 rfl rfl rfl ?_ | refine rl_loadA_iel rfl tt_116 rfl rfl ?_ | refine rl_load_ptr rfl tt_116 rfl rfl ?_ | refine rl_load_iel rfl tt_116 rfl ?_ | refine rl_loadEA rfl tt_116 rfl (by assumption) rfl rfl ?_
    refine rl_storeA rfl rfl tt_116 rfl rfl rfl rfl ?_
    refine hK11 _ _ ?_
    clear hK11 K11
    refine ex_ret ?_
    exact ⟨.inr rfl, [γ 0, _], rfl, rfl, HE.box rfl rfl (HE.row rfl (by rw [← hfin]) HE.nil)⟩
  · try simp at hc10
    have hlt : 2 * k + 1 < t.length := by omega
    refine ex_skip ?_
    refine hK8 _ _ ?_
    clear hK8 K8
    refine ex_cutK (ι := Unit) (fun _i γ2 => [(6, .pv (.int .i64 (child evLt t k : Int)))]) (fun _i γ2 => []) (fun _i => True) (Cov.cons (t := 0) rfl (Cov.cons (t := 2) rfl (Cov.cons (t := 3) rfl (Cov.cons (t := 4) rfl (Cov.cons (t := 5) rfl Cov.nil))))) (HE.same (id := 0) rfl (HE.same (id := 1) rfl (HE.same (id := 2) rfl (HE.same (id := 3) rfl HE.nil)))) ?_ fun _i γ2 hi => ?_
    · refine ex_seq_k fun K12 hK12 => ?_
      refine ex_region_any ttOK mixed (by rfl) ?_
      refine rl_move rfl ?_
      refine rl_addN (b := 1) rfl rfl (by first | omega | (simp; done) | (simp; omega)) ?_
      refine rl_move rfl ?_
      refine rl_bin rfl rfl rfl ?_
      refine rl_move rfl ?_
      refine rl_g rfl rfl (fun hg13 => ?_) (fun hg13 => ?_)
      · try simp at hg13
        have hlt2 : 2 * k + 1 + 1 < t.length := by omega
        obtain ⟨c1, hc1⟩ : ∃ c1, t[2 * k + 1 + 1]? = some c1 := ⟨_, List.getElem?_eq_getElem (by omega)⟩
        obtain ⟨d1, hd1⟩ : ∃ d1, t[2 * k + 1]? = some d1 := ⟨_, List.getElem?_eq_getElem (by omega)⟩
        refine rl_move rfl ?_
        refine rl_gT rfl rfl ?_
        refine rl_nil rfl rfl ?_
        refine rl_gT rfl rfl ?_
        refine rl_fieldAddr rfl tt_113 rfl rfl tt_110 rfl rfl ?_
        refine rl_gT rfl rfl ?_
        first | refine rl_load_ptr rfl tt_110 rfl rfl ?_ | refine rl_load_iel rfl tt_110 rfl ?_
        refine rl_gT rfl rfl ?_
        refine rl_move rfl ?_
        refine rl_gT rfl rfl ?_
        refine rl_nil rfl rfl ?_
        refine rl_gT rfl rfl ?_
        refine rl_fieldAddr rfl tt_113 rfl rfl tt_111 rfl rfl ?_
        refine rl_gT rfl rfl ?_
        first | refine rl_load_ptr rfl tt_111 rfl rfl ?_ | refine rl_load_iel rfl tt_111 rfl ?_
        refine rl_gT rfl rfl ?_
        refine rl_move rfl ?_
        refine rl_gT rfl rfl ?_
        refine rl_addN (b := 1) rfl rfl (by first | omega | (simp; done) | (simp; omega)) ?_
        refine rl_gT rfl rfl ?_
        refine rl_idxR (j := 2 * k + 1 + 1) rfl rfl tt_111 rfl tt_116 rfl rfl (by omega) ?_
        refine rl_gT rfl rfl ?_
        refine rl_loadEA rfl tt_116 rfl hc1 rfl rfl ?_
        refine rl_gT rfl rfl ?_
        refine rl_move rfl ?_
        refine rl_gT rfl rfl ?_
        refine rl_nil rfl rfl ?_
        refine rl_gT rfl rfl ?_
        refine rl_fieldAddr rfl tt_113 rfl rfl tt_111 rfl rfl ?_
        refine rl_gT rfl rfl ?_
        first | refine rl_load_ptr rfl tt_111 rfl rfl ?_ | refine rl_load_iel rfl tt_111 rfl ?_
        refine rl_gT rfl rfl ?_
        refine rl_move rfl ?_
        refine rl_gT rfl rfl ?_
        refine rl_idxR (j := 2 * k + 1) rfl rfl tt_111 rfl tt_116 rfl rfl (by omega) ?_
        refine rl_gT rfl rfl ?_
        refine rl_loadEA rfl tt_116 rfl hd1 rfl rfl ?_
        refine rl_gT rfl rfl ?_
        refine rl_call rfl rfl rfl (F_impl_keyLess _ _) ?_
        refine rl_pickT rfl rfl ?_
        refine ⟨by kernel_rfl, ?_⟩
        refine hK12 _ _ ?_
        clear hK12 K12
        refine ex_cond rfl (fun hc14 => ?_) (fun hc14 => ?_)
        · try simp at hc14
          have hl1 := hc14
          refine ex_region ttOK (by rfl) ?_
          refine rl_move rfl ?_
          refine rl_addN (b := 1) rfl rfl (by first | omega | (simp; done) | (simp; omega)) ?_
          refine rl_assign rfl ?_
          first
          | exact ⟨(), trivial, [], (Cov.cons' (t := 6) rfl (by rw [child_T hc1 hd1 hl1]) Cov.nil), (Cov.cons (t := 0) rfl (Cov.cons (t := 2) rfl (Cov.cons (t := 3) rfl (Cov.cons (t := 4) rfl (Cov.cons (t := 5) rfl Cov.nil))))), HE.nil, (HE.same (id := 0) rfl (HE.same (id := 1) rfl (HE.same (id := 2) rfl (HE.same (id := 3) rfl HE.nil)))), rfl⟩
          | exact ⟨(), trivial, [], (Cov.cons' (t := 6) rfl (by rw [child_F hc1 hd1 hl1]) Cov.nil), (Cov.cons (t := 0) rfl (Cov.cons (t := 2) rfl (Cov.cons (t := 3) rfl (Cov.cons (t := 4) rfl (Cov.cons (t := 5) rfl Cov.nil))))), HE.nil, (HE.same (id := 0) rfl (HE.same (id := 1) rfl (HE.same (id := 2) rfl (HE.same (id := 3) rfl HE.nil)))), rfl⟩
          | exact ⟨(), trivial, [], (Cov.cons' (t := 6) rfl (by rw [child_N (by omega)]) Cov.nil), (Cov.cons (t := 0) rfl (Cov.cons (t := 2) rfl (Cov.cons (t := 3) rfl (Cov.cons (t := 4) rfl (Cov.cons (t := 5) rfl Cov.nil))))), HE.nil, (HE.same (id := 0) rfl (HE.same (id := 1) rfl (HE.same (id := 2) rfl (HE.same (id := 3) rfl HE.nil)))), rfl⟩
        · try simp at hc14
          try have hl1 := hc14
          refine ex_skip ?_
          first
          | exact ⟨(), trivial, [], (Cov.cons' (t := 6) rfl (by rw [child_T hc1 hd1 hl1]) Cov.nil), (Cov.cons (t := 0) rfl (Cov.cons (t := 2) rfl (Cov.cons (t := 3) rfl (Cov.cons (t := 4) rfl (Cov.cons (t := 5) rfl Cov.nil))))), HE.nil, (HE.same (id := 0) rfl (HE.same (id := 1) rfl (HE.same (id := 2) rfl (HE.same (id := 3) rfl HE.nil)))), rfl⟩
          | exact ⟨(), trivial, [], (Cov.cons' (t := 6) rfl (by rw [child_F hc1 hd1 hl1]) Cov.nil), (Cov.cons (t := 0) rfl (Cov.cons (t := 2) rfl (Cov.cons (t := 3) rfl (Cov.cons (t := 4) rfl (Cov.cons (t := 5) rfl Cov.nil))))), HE.nil, (HE.same (id := 0) rfl (HE.same (id := 1) rfl (HE.same (id := 2) rfl (HE.same (id := 3) rfl HE.nil)))), rfl⟩
          | exact ⟨(), trivial, [], (Cov.cons' (t := 6) rfl (by rw [child_N (by omega)]) Cov.nil), (Cov.cons (t := 0) rfl (Cov.cons (t := 2) rfl (Cov.cons (t := 3) rfl (Cov.cons (t := 4) rfl (Cov.cons (t := 5) rfl Cov.nil))))), HE.nil, (HE.same (id := 0) rfl (HE.same (id := 1) rfl (HE.same (id := 2) rfl (HE.same (id := 3) rfl HE.nil)))), rfl⟩
      · try simp at hg13
        have hlt2 : ¬ 2 * k + 2 < t.length := by omega
        refine rl_gF rfl rfl ?_
        refine rl_gF rfl rfl ?_
        refine rl_gF rfl rfl ?_
        refine rl_gF rfl rfl ?_
        refine rl_gF rfl rfl ?_
        refine rl_gF rfl rfl ?_
        refine rl_gF rfl rfl ?_
        refine rl_gF rfl rfl ?_
        refine rl_gF rfl rfl ?_
        refine rl_gF rfl rfl ?_
        refine rl_gF rfl rfl ?_
        refine rl_gF rfl rfl ?_
        refine rl_gF rfl rfl ?_
        refine rl_gF rfl rfl ?_
        refine rl_gF rfl rfl ?_
        refine rl_gF rfl rfl ?_
        refine rl_gF rfl rfl ?_
        refine rl_gF rfl rfl ?_
        refine rl_gF rfl rfl ?_
        refine rl_pickF rfl rfl ?_
        refine ⟨by kernel_rfl, ?_⟩
        refine hK12 _ _ ?_
        clear hK12 K12
        refine ex_cond rfl (fun hc15 => ?_) (fun hc15 => ?_)
        · simp at hc15
        · try simp at hc15
          try have hl1 := hc15
          refine ex_skip ?_
          first
          | exact ⟨(), trivial, [], (Cov.cons' (t := 6) rfl (by rw [child_T hc1 hd1 hl1]) Cov.nil), (Cov.cons (t := 0) rfl (Cov.cons (t := 2) rfl (Cov.cons (t := 3) rfl (Cov.cons (t := 4) rfl (Cov.cons (t := 5) rfl Cov.nil))))), HE.nil, (HE.same (id := 0) rfl (HE.same (id := 1) rfl (HE.same (id := 2) rfl (HE.same (id := 3) rfl HE.nil)))), rfl⟩
          | exact ⟨(), trivial, [], (Cov.cons' (t := 6) rfl (by rw [child_F hc1 hd1 hl1]) Cov.nil), (Cov.cons (t := 0) rfl (Cov.cons (t := 2) rfl (Cov.cons (t := 3) rfl (Cov.cons (t := 4) rfl (Cov.cons (t := 5) rfl Cov.nil))))), HE.nil, (HE.same (id := 0) rfl (HE.same (id := 1) rfl (HE.same (id := 2) rfl (HE.same (id := 3) rfl HE.nil)))), rfl⟩
          | exact ⟨(), trivial, [], (Cov.cons' (t := 6) rfl (by rw [child_N (by omega)]) Cov.nil), (Cov.cons (t := 0) rfl (Cov.cons (t := 2) rfl (Cov.cons (t := 3) rfl (Cov.cons (t := 4) rfl (Cov.cons (t := 5) rfl Cov.nil))))), HE.nil, (HE.same (id := 0) rfl (HE.same (id := 1) rfl (HE.same (id := 2) rfl (HE.same (id := 3) rfl HE.nil)))), rfl⟩
    · try dsimp only [List.cons_append, List.nil_append]
      have hch := child_or (lt := evLt) t k
      obtain ⟨a, ha⟩ : ∃ a, t[child evLt t k]? = some a := ⟨_, List.getElem?_eq_getElem (by omega)⟩
      obtain ⟨b, hb⟩ : ∃ b, t[k]? = some b := ⟨_, List.getElem?_eq_getElem (by omega)⟩
      refine ex_seq_k fun K16 hK16 => ?_
      refine ex_seq_k fun K17 hK17 => ?_
      refine ex_region_any ttOK mixed (by rfl) ?_
      refine rl_move rfl ?_
      refine rl_nil rfl rfl ?_
      refine rl_fieldAddr rfl tt_113 rfl rfl tt_110 rfl rfl ?_
      first | refine rl_load_ptr rfl tt_110 rfl rfl ?_ | refine rl_load_iel rfl tt_110 rfl ?_
      refine rl_move rfl ?_
      refine rl_nil rfl rfl ?_
      refine rl_fieldAddr rfl tt_113 rfl rfl tt_111 rfl rfl ?_
      first | refine rl_load_ptr rfl tt_111 rfl rfl ?_ | refine rl_load_iel rfl tt_111 rfl ?_
      refine rl_move rfl ?_
      refine rl_idxR (j := child evLt t k) rfl rfl tt_111 rfl tt_116 rfl rfl (by omega) ?_
      refine rl_loadEA rfl tt_116 rfl ha rfl rfl ?_
      refine rl_move rfl ?_
      refine rl_nil rfl rfl ?_
      refine rl_fieldAddr rfl tt_113 rfl rfl tt_111 rfl rfl ?_
      first | refine rl_load_ptr rfl tt_111 rfl rfl ?_ | refine rl_load_iel rfl tt_111 rfl ?_
      refine rl_move rfl ?_
      refine rl_idxR (j := k) rfl rfl tt_111 rfl tt_116 rfl rfl (by omega) ?_
      refine rl_loadEA rfl tt_116 rfl hb rfl rfl ?_
      refine rl_call rfl rfl rfl (F_impl_keyLess _ _) ?_
      refine rl_not rfl ?_
      refine ⟨by kernel_rfl, ?_⟩
      refine hK17 _ _ ?_
      clear hK17 K17
      refine ex_cond rfl (fun hc18 => ?_) (fun hc18 => ?_)
      · try simp at hc18
        have hfin := (siftDown_stop ha hb hc18).symm.trans h1
        refine ex_seq_k fun K19 hK19 => ?_
        refine ex_region ttOK (by rfl) ?_
        first | refine rl_loadA_ptr rfl tt_116 rfl rfl rfl ?_ | refine rl_loadA_iel rfl tt_116 rfl rfl ?_ | refine rl_load_ptr rfl tt_116 rfl rfl ?_ | refine rl_load_iel rfl tt_116 rfl ?_ | refine rl_loadEA rfl tt_116 rfl (by assumption) rfl rfl ?_
        refine rl_storeA rfl rfl tt_116 rfl rfl rfl rfl ?_
        refine hK19 _ _ ?_
        clear hK19 K19
        refine ex_ret ?_
        exact ⟨.inr rfl, [γ 0, _], rfl, rfl, HE.box rfl rfl (HE.row rfl (by rw [← hfin]) HE.nil)⟩
      · try simp at hc18
        have hg := hc18
        refine ex_skip ?_
        refine hK16 _ _ ?_
        clear hK16 K16
        refine ex_seq_k fun K20 hK20 => ?_
        refine ex_region_any ttOK mixed (by rfl) ?_
        refine rl_move rfl ?_
        refine rl_nil rfl rfl ?_
        refine rl_fieldAddr rfl tt_113 rfl rfl tt_111 rfl rfl ?_
        first | refine rl_load_ptr rfl tt_111 rfl rfl ?_ | refine rl_load_iel rfl tt_111 rfl ?_
        refine rl_move rfl ?_
        refine rl_move rfl ?_
        refine rl_nil rfl rfl ?_
        refine rl_fieldAddr rfl tt_113 rfl rfl tt_111 rfl rfl ?_
        first | refine rl_load_ptr rfl tt_111 rfl rfl ?_ | refine rl_load_iel rfl tt_111 rfl ?_
        refine rl_move rfl ?_
        refine rl_move rfl ?_
        refine rl_nil rfl rfl ?_
        refine rl_fieldAddr rfl tt_113 rfl rfl tt_111 rfl rfl ?_
        first | refine rl_load_ptr rfl tt_111 rfl rfl ?_ | refine rl_load_iel rfl tt_111 rfl ?_
        refine rl_move rfl ?_
        refine rl_idxR (j := child evLt t k) rfl rfl tt_111 rfl tt_116 rfl rfl (by omega) ?_
        refine rl_loadEA rfl tt_116 rfl ha rfl rfl ?_
        refine rl_move rfl ?_
        refine rl_nil rfl rfl ?_
        refine rl_fieldAddr rfl tt_113 rfl rfl tt_111 rfl rfl ?_
        first | refine rl_load_ptr rfl tt_111 rfl rfl ?_ | refine rl_load_iel rfl tt_111 rfl ?_
        refine rl_move rfl ?_
        refine rl_idxR (j := k) rfl rfl tt_111 rfl tt_116 rfl rfl (by omega) ?_
        refine rl_loadEA rfl tt_116 rfl hb rfl rfl ?_
        refine rl_idxR (j := k) rfl rfl tt_111 rfl tt_116 rfl rfl (by omega) ?_
        refine rl_storeEA (el' := a) rfl rfl tt_116 rfl rfl rfl hb rfl (abs_ints _) rfl rfl ?_
        refine rl_idxR (j := child evLt t k) rfl rfl tt_111 rfl tt_116 rfl rfl (by rw [List.length_set]; omega) ?_
        refine rl_storeEA (el' := b) rfl rfl tt_116 rfl rfl rfl (by rw [List.getElem?_set_ne (by omega)]; exact ha) rfl (abs_ints _) rfl rfl ?_
        refine ⟨by kernel_rfl, ?_⟩
        refine hK20 _ _ ?_
        clear hK20 K20
        refine ex_region ttOK (by rfl) ?_
        refine rl_move rfl ?_
        refine rl_assign rfl ?_
        exact ⟨(child evLt t k, sw t (child evLt t k) k), ⟨⟨by rw [← h1, siftDown_step (by omega) ha hb hg], by rw [sw_len]; exact h2, by dsimp only; omega⟩, (by dsimp only; rw [sw_len]; omega)⟩, [0, _], (Cov.cons (t := 5) rfl Cov.nil), (Cov.cons (t := 0) rfl (Cov.cons (t := 2) rfl (Cov.cons (t := 3) rfl (Cov.cons (t := 4) rfl Cov.nil)))), (HE.row rfl (by rw [sw_eq ha hb, List.set_comm _ _ (by omega)]) (HE.box rfl rfl HE.nil)), (HE.same (id := 2) rfl (HE.same (id := 3) rfl HE.nil)), rfl⟩

theorem F_impl_heap_impl_eventKey_drain (l : List Ev) (hl : l.length ≤ 1000000000) : Meth Try.prog 83 2 [0] [.ptr 0 0 0] [(0, (0, .box 113 [.ref 1 0, .fn (.func 80) [] []])), (1, (0, .row 116 7 ((l).map encEv)))] (.row (.rd true) 116 7 ((hdrain evLt l.length l).map encEv)) [(0, (0, .box 113 [.ref 1 0, .fn (.func 80) [] []])), (1, (0, .row 116 7 ((([] : List Ev)).map encEv)))] := by
  refine meth_of_ex ttOK (fn := Try.f83) (by kernel_rfl) (by kernel_rfl) rfl (O0 := [.row (.rd true) 116 7 ((hdrain evLt l.length l).map encEv)]) 2 3 (Nat.le_of_ble_eq_true rfl) (by rfl) (by repeat (first | exact BndH.nil | refine BndH.dead ?_ | refine BndH.box rfl ?_ | refine BndH.box (by assumption) ?_ | refine BndH.row (flatR_map fun _ => rfl) ?_ | refine BndH.row flatR_nil ?_ | refine BndH.map (by intro p hp; simp only [List.mem_map, List.not_mem_nil] at hp; first | (obtain ⟨a, _, rfl⟩ := hp; rfl) | exact hp.elim) ?_ | refine BndH.chn ?_)) (by repeat (first | exact BndH.nil | refine BndH.dead ?_ | refine BndH.box rfl ?_ | refine BndH.box (by assumption) ?_ | refine BndH.row (flatR_map fun _ => rfl) ?_ | refine BndH.row flatR_nil ?_ | refine BndH.map (by intro p hp; simp only [List.mem_map, List.not_mem_nil] at hp; first | (obtain ⟨a, _, rfl⟩ := hp; rfl) | exact hp.elim) ?_ | refine BndH.chn ?_)) (by rfl) fun γ => ?_
  show Ex Try.prog _ _ [(0, .ptr 0 (γ 0) 0)] [(0, ((γ 0), .box 113 [.ref 1 (γ 1), .fn (.func 80) [] []])), (1, ((γ 1), .row 116 7 ((l).map encEv))), (4, (0, .dead)), (3, (0, .dead)), (2, (0, .dead))] _
  refine ex_seq_k fun K1 hK1 => ?_
  refine ex_region ttOK (by rfl) ?_
  refine rl_assign rfl ?_
  refine hK1 _ _ ?_
  clear hK1 K1
  refine ex_seq_k fun K2 hK2 => ?_
  refine ex_region ttOK (by rfl) ?_
  refine rl_move rfl ?_
  refine rl_nil rfl rfl ?_
  refine rl_fieldAddr rfl tt_113 rfl rfl tt_111 rfl rfl ?_
  first | refine rl_load_ptr rfl tt_111 rfl rfl ?_ | refine rl_load_iel rfl tt_111 rfl ?_
  first | refine rl_lenm rfl tt_111 rfl ?_ | refine rl_lenr rfl tt_111 rfl rfl (by first | exact List.length_map _ | rfl) ?_ | refine rl_len rfl tt_111 rfl rfl (by intro s hs; cases hs) rfl ?_
  refine rl_make0 ttOK (id := 2) tt_111 rfl tt_116 rfl rfl (by first | omega | (simp only [List.length_map, List.length_append, List.length_cons, List.length_nil, T116]; omega) | (simp only [List.length_map, List.length_append, List.length_cons, List.length_nil, T60]; omega) | (unfold maxLen; omega)) (by first | omega | (simp only [List.length_map, List.length_append, List.length_cons, List.length_nil, T116]; omega) | (simp only [List.length_map, List.length_append, List.length_cons, List.length_nil, T60]; omega) | (unfold maxLen; omega)) rfl ?_
  refine rl_assign rfl ?_
  refine hK2 _ _ ?_
  clear hK2 K2
  refine ex_seq_k fun K3 hK3 => ?_
  refine ex_block ?_
  refine ex_loopK (ι := List Ev × List Ev) (fun i γ1 => [(3, .ref 2 (γ1 2))]) (fun i γ1 => [(1, ((γ1 1), .row 116 7 ((i.1).map encEv))), (2, ((γ1 2), .row 116 7 ((i.2).map encEv))), (0, ((γ 0), .box 113 [.ref 1 (γ1 1), .fn (.func 80) [] []])), (3, ((γ1 3), .dead)), (4, ((γ1 4), .dead))]) (fun i => i.2 ++ hdrain evLt i.1.length i.1 = hdrain evLt l.length l ∧ i.1.length + i.2.length = l.length) (fun i => i.1.length) (Cov.cons (t := 0) rfl Cov.nil) HE.nil (l, []) ⟨rfl, rfl⟩ [0, _, _, _, _] (Cov.cons (t := 3) rfl Cov.nil) (HE.row rfl rfl (HE.row rfl rfl (HE.box rfl rfl (HE.kill rfl (HE.kill rfl HE.nil))))) rfl fun i γ1 hi => ?_
  try dsimp only [List.cons_append, List.nil_append]
  obtain ⟨ls, o⟩ := i
  obtain ⟨h1, h2⟩ := hi
  dsimp only at h1 h2 ⊢
  refine ex_seq_k fun K4 hK4 => ?_
  refine ex_seq_k fun K5 hK5 => ?_
  refine ex_region ttOK (by rfl) ?_
  refine rl_move rfl ?_
  refine rl_nil rfl rfl ?_
  refine rl_fieldAddr rfl tt_113 rfl rfl tt_111 rfl rfl ?_
  first | refine rl_load_ptr rfl tt_111 rfl rfl ?_ | refine rl_load_iel rfl tt_111 rfl ?_
  first | refine rl_lenm rfl tt_111 rfl ?_ | refine rl_lenr rfl tt_111 rfl rfl (by first | exact List.length_map _ | rfl) ?_ | refine rl_len rfl tt_111 rfl rfl (by intro s hs; cases hs) rfl ?_
  refine rl_bin rfl rfl rfl ?_
  refine hK5 _ _ ?_
  clear hK5 K5
  refine ex_cond rfl (fun hc6 => ?_) (fun hc6 => ?_)
  · try simp at hc6
    obtain ⟨m, r, rfl⟩ : ∃ m r, ls = m :: r := by cases ls with | nil => simp at hc6 | cons m r => exact ⟨m, r, rfl⟩
    simp only [List.length_cons] at h2
    refine ex_skip ?_
    refine hK4 _ _ ?_
    clear hK4 K4
    refine ex_block ?_
    refine ex_region ttOK (by rfl) ?_
    refine rl_move rfl ?_
    refine rl_move rfl ?_
    refine rl_meth [0, 1] [_, _] (F_impl_heap_impl_eventKey_pop m r (by omega)) rfl rfl rfl (by decide) rfl rfl (by repeat (first | exact InH.nil | refine InH.cons rfl ?_)) (by first | (simp only [List.map_cons, List.map_nil, insH, inE, inT, inA, inC, inD, inB, gl, nx, memN, Nat.beq, Nat.add_eq, List.getD_cons_zero, List.getD_cons_succ, List.getD_nil, Bool.or_false, Bool.false_or, Bool.true_or, Bool.or_true, Nat.add_zero, Nat.zero_add]; rfl) | rfl) (by first | (simp only [List.map_cons, List.map_nil, insH, inE, inT, inA, inC, inD, inB, gl, nx, memN, Nat.beq, Nat.add_eq, List.getD_cons_zero, List.getD_cons_succ, List.getD_nil, Bool.or_false, Bool.false_or, Bool.true_or, Bool.or_true, Nat.add_zero, Nat.zero_add]; rfl) | rfl) ?_
    first | refine rl_slice1A (id := 3) tt_111 rfl tt_116 rfl rfl rfl rfl rfl rfl ?_ | refine rl_slice1 (id := 3) tt_111 rfl tt_116 rfl rfl rfl rfl rfl ?_ | refine rl_buildSlice (id := 3) tt_111 rfl tt_116 rfl rfl rfl rfl (by repeat (first | exact Abs.nil | refine Abs.ref rfl (by first | exact flatR_map (fun _ => rfl) | exact flatR_nil) ?_ rfl rfl | refine Abs.val rfl rfl ?_)) rfl (Nat.le_of_ble_eq_true rfl) (Nat.le_of_ble_eq_true rfl) (Nat.le_of_ble_eq_true rfl) rfl rfl ?_
    first | refine rl_app_rr rfl rfl tt_111 rfl tt_116 rfl rfl rfl rfl (by first | rfl | exact noow_map (fun _ => rfl) _) (by first | exact map_snoc _ _ _ | exact map_app _ _ _ | rfl) (by first | omega | (simp only [List.length_map, List.length_append, List.length_cons, List.length_nil, T116]; omega) | (simp only [List.length_map, List.length_append, List.length_cons, List.length_nil, T60]; omega) | (unfold maxLen; omega)) ?_ | refine rl_app_rd rfl rfl tt_111 rfl tt_116 rfl rfl rfl (by first | rfl | exact noow_map (fun _ => rfl) _) (by first | exact map_snoc _ _ _ | exact map_app _ _ _ | rfl) (by first | omega | (simp only [List.length_map, List.length_append, List.length_cons, List.length_nil, T116]; omega) | (simp only [List.length_map, List.length_append, List.length_cons, List.length_nil, T60]; omega) | (unfold maxLen; omega)) ?_ | refine rl_app_nr (id := 4) rfl rfl tt_111 rfl tt_116 rfl rfl rfl rfl (by first | rfl | exact noow_map (fun _ => rfl) _) (by first | omega | (simp only [List.length_map, List.length_append, List.length_cons, List.length_nil, T116]; omega) | (simp only [List.length_map, List.length_append, List.length_cons, List.length_nil, T60]; omega) | (unfold maxLen; omega)) ?_ | refine rl_app_nd (id := 4) rfl rfl tt_111 rfl tt_116 rfl rfl rfl (by first | rfl | exact noow_map (fun _ => rfl) _) (by first | omega | (simp only [List.length_map, List.length_append, List.length_cons, List.length_nil, T116]; omega) | (simp only [List.length_map, List.length_append, List.length_cons, List.length_nil, T60]; omega) | (unfold maxLen; omega)) ?_
    refine rl_assign rfl ?_
    exact ⟨(hrest evLt (m :: r), o ++ [m]), ⟨⟨by rw [← h1, hrest_len, List.append_assoc]; rfl, by rw [hrest_len, List.length_append]; simp only [List.length_cons, List.length_nil] at h2 ⊢; omega⟩, (by dsimp only; rw [hrest_len]; simp)⟩, [0, _, _, _, _], (Cov.cons (t := 3) rfl Cov.nil), (Cov.cons (t := 0) rfl Cov.nil), (HE.row rfl rfl (HE.row rfl (by simp) (HE.box rfl rfl (HE.kill rfl (HE.kill rfl HE.nil))))), HE.nil, rfl⟩
  · try simp at hc6
    obtain rfl : ls = [] := by first | exact hc6 | exact List.length_eq_zero_iff.1 (by omega)
    have ho : o = hdrain evLt l.length l := by rw [← h1]; simp [hdrain]
    subst ho
    refine ex_exit ?_
    refine hK3 _ _ ?_
    clear hK4 K4 hK3 K3
    refine ex_seq_k fun K7 hK7 => ?_
    refine ex_frzM 3 rfl rfl (fun _ => rfl) ?_
    refine ex_region ttOK (by rfl) ?_
    refine rl_move rfl ?_
    refine rl_assign rfl ?_
    refine hK7 _ _ ?_
    clear hK7 K7
    refine ex_ret ?_
    exact ⟨.inr rfl, [γ 0, _], rfl, rfl, HE.box rfl rfl (HE.row rfl rfl HE.nil)⟩

end Go.Proofs.Ytcleiaibcfocdaa.Am
