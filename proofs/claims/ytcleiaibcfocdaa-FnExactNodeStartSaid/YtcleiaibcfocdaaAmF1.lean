/- Walks. PRINTED BY wip/gen/gen2.py out of b1.py. -/
import Derived.Test.YtcleiaibcfocdaaAmD
set_option linter.unusedVariables false
set_option linter.unusedSimpArgs false
namespace Go.Proofs.Ytcleiaibcfocdaa.Am
open Go Go.RowKit

theorem F_impl_within (v lo hi : Int) : Pure Try.prog 57 [.pv (.int .i64 v), .pv (.int .i64 lo), .pv (.int .i64 hi)] (.pv (.bool (decide (lo ≤ v ∧ v ≤ hi)))) := by
  refine pure_of_ex ttOK (fn := Try.f57) (by kernel_rfl) (by kernel_rfl) rfl (outs := [.pv (.bool (decide (lo ≤ v ∧ v ≤ hi)))]) (by rfl) (Nat.le_of_ble_eq_true rfl) 0 ?_
  refine ex_seq_k fun K1 hK1 => ?_
  refine ex_region ttOK (by rfl) ?_
  refine rl_assign rfl ?_
  refine hK1 _ _ ?_
  clear hK1 K1
  refine ex_seq_k fun K2 hK2 => ?_
  refine ex_region ttOK (by rfl) ?_
  refine rl_move rfl ?_
  refine rl_move rfl ?_
  refine rl_bin rfl rfl rfl ?_
  refine rl_move rfl ?_
  refine rl_g rfl rfl (fun hg3 => ?_) (fun hg3 => ?_)
  · try simp at hg3
    refine rl_move rfl ?_
    refine rl_gT rfl rfl ?_
    refine rl_move rfl ?_
    refine rl_gT rfl rfl ?_
    refine rl_bin rfl rfl rfl ?_
    refine rl_pickT rfl rfl ?_
    refine rl_assign rfl ?_
    refine hK2 _ _ ?_
    clear hK2 K2
    refine ex_ret ⟨.inr rfl, ?_⟩
    refine ret_pv rfl ?_ rfl
    simp; omega
  · try simp at hg3
    refine rl_gF rfl rfl ?_
    refine rl_gF rfl rfl ?_
    refine rl_pickF rfl rfl ?_
    refine rl_assign rfl ?_
    refine hK2 _ _ ?_
    clear hK2 K2
    refine ex_ret ⟨.inr rfl, ?_⟩
    refine ret_pv rfl ?_ rfl
    simp; omega

theorem F_spec_l6In (v lo hi : Int) : Pure Try.prog 42 [.pv (.int .i64 v), .pv (.int .i64 lo), .pv (.int .i64 hi)] (.pv (.bool (decide (lo ≤ v ∧ v ≤ hi)))) := by
  refine pure_of_ex ttOK (fn := Try.f42) (by kernel_rfl) (by kernel_rfl) rfl (outs := [.pv (.bool (decide (lo ≤ v ∧ v ≤ hi)))]) (by rfl) (Nat.le_of_ble_eq_true rfl) 0 ?_
  refine ex_seq_k fun K1 hK1 => ?_
  refine ex_region ttOK (by rfl) ?_
  refine rl_assign rfl ?_
  refine hK1 _ _ ?_
  clear hK1 K1
  refine ex_seq_k fun K2 hK2 => ?_
  refine ex_region ttOK (by rfl) ?_
  refine rl_move rfl ?_
  refine rl_move rfl ?_
  refine rl_bin rfl rfl rfl ?_
  refine rl_move rfl ?_
  refine rl_g rfl rfl (fun hg3 => ?_) (fun hg3 => ?_)
  · try simp at hg3
    refine rl_move rfl ?_
    refine rl_gT rfl rfl ?_
    refine rl_move rfl ?_
    refine rl_gT rfl rfl ?_
    refine rl_bin rfl rfl rfl ?_
    refine rl_pickT rfl rfl ?_
    refine rl_assign rfl ?_
    refine hK2 _ _ ?_
    clear hK2 K2
    refine ex_ret ⟨.inr rfl, ?_⟩
    refine ret_pv rfl ?_ rfl
    simp; omega
  · try simp at hg3
    refine rl_gF rfl rfl ?_
    refine rl_gF rfl rfl ?_
    refine rl_pickF rfl rfl ?_
    refine rl_assign rfl ?_
    refine hK2 _ _ ?_
    clear hK2 K2
    refine ex_ret ⟨.inr rfl, ?_⟩
    refine ret_pv rfl ?_ rfl
    simp; omega

theorem F_impl_isProc (p : Int) : Pure Try.prog 30 [.pv (.int .i64 p)] (.pv (.bool (decide (0 ≤ p ∧ p ≤ 3)))) := by
  refine pure_of_ex ttOK (fn := Try.f30) (by kernel_rfl) (by kernel_rfl) rfl (outs := [.pv (.bool (decide (0 ≤ p ∧ p ≤ 3)))]) (by rfl) (Nat.le_of_ble_eq_true rfl) 0 ?_
  refine ex_seq_k fun K1 hK1 => ?_
  refine ex_region ttOK (by rfl) ?_
  refine rl_assign rfl ?_
  refine hK1 _ _ ?_
  clear hK1 K1
  refine ex_seq_k fun K2 hK2 => ?_
  refine ex_region ttOK (by rfl) ?_
  refine rl_move rfl ?_
  refine rl_call rfl rfl rfl (F_impl_within ..) ?_
  refine rl_assign rfl ?_
  refine hK2 _ _ ?_
  clear hK2 K2
  refine ex_ret ⟨.inr rfl, ?_⟩
  exact ret_pv rfl rfl rfl

theorem F_spec_l1Proc (p : Int) : Pure Try.prog 31 [.pv (.int .i64 p)] (.pv (.bool (decide (0 ≤ p ∧ p ≤ 3)))) := by
  refine pure_of_ex ttOK (fn := Try.f31) (by kernel_rfl) (by kernel_rfl) rfl (outs := [.pv (.bool (decide (0 ≤ p ∧ p ≤ 3)))]) (by rfl) (Nat.le_of_ble_eq_true rfl) 0 ?_
  refine ex_seq_k fun K1 hK1 => ?_
  refine ex_region ttOK (by rfl) ?_
  refine rl_assign rfl ?_
  refine hK1 _ _ ?_
  clear hK1 K1
  refine ex_seq_k fun K2 hK2 => ?_
  refine ex_region ttOK (by rfl) ?_
  refine rl_move rfl ?_
  refine rl_call rfl rfl rfl (F_spec_l6In ..) ?_
  refine rl_assign rfl ?_
  refine hK2 _ _ ?_
  clear hK2 K2
  refine ex_ret ⟨.inr rfl, ?_⟩
  exact ret_pv rfl rfl rfl

theorem F_impl_isNode (p : Int) : Pure Try.prog 32 [.pv (.int .i64 p)] (.pv (.bool (decide (0 ≤ p ∧ p ≤ 2)))) := by
  refine pure_of_ex ttOK (fn := Try.f32) (by kernel_rfl) (by kernel_rfl) rfl (outs := [.pv (.bool (decide (0 ≤ p ∧ p ≤ 2)))]) (by rfl) (Nat.le_of_ble_eq_true rfl) 0 ?_
  refine ex_seq_k fun K1 hK1 => ?_
  refine ex_region ttOK (by rfl) ?_
  refine rl_assign rfl ?_
  refine hK1 _ _ ?_
  clear hK1 K1
  refine ex_seq_k fun K2 hK2 => ?_
  refine ex_region ttOK (by rfl) ?_
  refine rl_move rfl ?_
  refine rl_call rfl rfl rfl (F_impl_within ..) ?_
  refine rl_assign rfl ?_
  refine hK2 _ _ ?_
  clear hK2 K2
  refine ex_ret ⟨.inr rfl, ?_⟩
  exact ret_pv rfl rfl rfl

theorem F_impl_NodeOf (p : Int) : Pure Try.prog 8 [.pv (.int .i64 p)] (.pv (.int .i64 (nodeOf p))) := by
  refine pure_of_ex ttOK (fn := Try.f8) (by kernel_rfl) (by kernel_rfl) rfl (outs := [.pv (.int .i64 (nodeOf p))]) (by rfl) (Nat.le_of_ble_eq_true rfl) 0 ?_
  refine ex_seq_k fun K1 hK1 => ?_
  refine ex_region ttOK (by rfl) ?_
  refine rl_assign rfl ?_
  refine hK1 _ _ ?_
  clear hK1 K1
  refine ex_seq_k fun K2 hK2 => ?_
  refine ex_seq_k fun K3 hK3 => ?_
  refine ex_region ttOK (by rfl) ?_
  refine rl_move rfl ?_
  refine rl_call rfl rfl rfl (F_impl_isProc ..) ?_
  refine rl_not rfl ?_
  refine hK3 _ _ ?_
  clear hK3 K3
  refine ex_cond rfl (fun hc4 => ?_) (fun hc4 => ?_)
  · try simp at hc4
    refine ex_seq_k fun K5 hK5 => ?_
    refine ex_region ttOK (by rfl) ?_
    refine rl_assign rfl ?_
    refine hK5 _ _ ?_
    clear hK5 K5
    refine ex_ret ⟨.inr rfl, ?_⟩
    clear hK2 K2
    refine ret_pv rfl ?_ rfl
    simp [nodeOf]; omega
  · try simp at hc4
    refine ex_skip ?_
    refine hK2 _ _ ?_
    clear hK2 K2
    refine ex_seq_k fun K6 hK6 => ?_
    refine ex_region ttOK (by rfl) ?_
    refine rl_move rfl ?_
    refine rl_bin rfl rfl rfl ?_
    refine rl_assign rfl ?_
    refine hK6 _ _ ?_
    clear hK6 K6
    refine ex_ret ⟨.inr rfl, ?_⟩
    refine ret_pv rfl ?_ rfl
    simp [nodeOf]; omega

theorem F_spec_NodeOf (p : Int) : Pure Try.prog 9 [.pv (.int .i64 p)] (.pv (.int .i64 (nodeOf p))) := by
  refine pure_of_ex ttOK (fn := Try.f9) (by kernel_rfl) (by kernel_rfl) rfl (outs := [.pv (.int .i64 (nodeOf p))]) (by rfl) (Nat.le_of_ble_eq_true rfl) 0 ?_
  refine ex_seq_k fun K1 hK1 => ?_
  refine ex_region ttOK (by rfl) ?_
  refine rl_assign rfl ?_
  refine hK1 _ _ ?_
  clear hK1 K1
  refine ex_seq_k fun K2 hK2 => ?_
  refine ex_seq_k fun K3 hK3 => ?_
  refine ex_region ttOK (by rfl) ?_
  refine rl_move rfl ?_
  refine rl_call rfl rfl rfl (F_spec_l1Proc ..) ?_
  refine rl_not rfl ?_
  refine hK3 _ _ ?_
  clear hK3 K3
  refine ex_cond rfl (fun hc4 => ?_) (fun hc4 => ?_)
  · try simp at hc4
    refine ex_seq_k fun K5 hK5 => ?_
    refine ex_region ttOK (by rfl) ?_
    refine rl_assign rfl ?_
    refine hK5 _ _ ?_
    clear hK5 K5
    refine ex_ret ⟨.inr rfl, ?_⟩
    clear hK2 K2
    refine ret_pv rfl ?_ rfl
    simp [nodeOf]; omega
  · try simp at hc4
    refine ex_skip ?_
    refine hK2 _ _ ?_
    clear hK2 K2
    refine ex_seq_k fun K6 hK6 => ?_
    refine ex_region ttOK (by rfl) ?_
    refine rl_move rfl ?_
    refine rl_bin rfl rfl rfl ?_
    refine rl_assign rfl ?_
    refine hK6 _ _ ?_
    clear hK6 K6
    refine ex_ret ⟨.inr rfl, ?_⟩
    refine ret_pv rfl ?_ rfl
    simp [nodeOf]; omega

theorem F_impl_AppFirst (p : Int) : Pure Try.prog 34 [.pv (.int .i64 p)] (.agg (encEv (appFirst p))) := by
  refine pure_of_ex ttOK (fn := Try.f34) (by kernel_rfl) (by kernel_rfl) rfl (outs := [.agg (encEv (appFirst p))]) (by rfl) (Nat.le_of_ble_eq_true rfl) 1 ?_
  refine ex_seq_k fun K1 hK1 => ?_
  refine ex_region ttOK (by rfl) ?_
  refine rl_alloc (id := 0) tt_60 za_60 rfl ?_
  refine hK1 _ _ ?_
  clear hK1 K1
  refine ex_seq_k fun K2 hK2 => ?_
  refine ex_seq_k fun K3 hK3 => ?_
  refine ex_region ttOK (by rfl) ?_
  refine rl_move rfl ?_
  refine rl_call rfl rfl rfl (F_impl_isProc ..) ?_
  refine rl_not rfl ?_
  refine hK3 _ _ ?_
  clear hK3 K3
  refine ex_cond rfl (fun hc4 => ?_) (fun hc4 => ?_)
  · try simp at hc4
    refine ex_seq_k fun K5 hK5 => ?_
    refine ex_region ttOK (by rfl) ?_
    refine rl_build tt_60 rfl za_60 rfl (by simp only [fillA, cellsA, AV.okc, AV.one, T3, T4, List.getElem?_cons_zero, List.getElem?_cons_succ, List.take_succ_cons, List.take_zero, List.drop_succ_cons, List.drop_zero, List.cons_append, List.nil_append, List.length_cons, List.length_nil, if_true, and_self, Nat.reduceAdd, Nat.reduceLeDiff]; rfl) ?_
    refine rl_storeA rfl rfl tt_60 rfl rfl rfl rfl ?_
    refine hK5 _ _ ?_
    clear hK5 K5
    refine ex_ret ⟨.inr rfl, ?_⟩
    clear hK2 K2
    refine ret_agg rfl ?_ rfl rfl
    first | (rw [appFirst, if_pos (by omega)]; rfl) | (rw [appFirst, if_neg (by omega)]; rfl)
  · try simp at hc4
    refine ex_skip ?_
    refine hK2 _ _ ?_
    clear hK2 K2
    refine ex_seq_k fun K6 hK6 => ?_
    refine ex_region ttOK (by rfl) ?_
    refine rl_move rfl ?_
    refine rl_move rfl ?_
    refine rl_move rfl ?_
    refine rl_build tt_60 rfl za_60 rfl (by simp only [fillA, cellsA, AV.okc, AV.one, T3, T4, List.getElem?_cons_zero, List.getElem?_cons_succ, List.take_succ_cons, List.take_zero, List.drop_succ_cons, List.drop_zero, List.cons_append, List.nil_append, List.length_cons, List.length_nil, if_true, and_self, Nat.reduceAdd, Nat.reduceLeDiff]; rfl) ?_
    refine rl_storeA rfl rfl tt_60 rfl rfl rfl rfl ?_
    refine hK6 _ _ ?_
    clear hK6 K6
    refine ex_ret ⟨.inr rfl, ?_⟩
    refine ret_agg rfl ?_ rfl rfl
    first | (rw [appFirst, if_pos (by omega)]; rfl) | (rw [appFirst, if_neg (by omega)]; rfl)

theorem F_spec_AppFirst (p : Int) : Pure Try.prog 44 [.pv (.int .i64 p)] (.agg (encEv (appFirst p))) := by
  refine pure_of_ex ttOK (fn := Try.f44) (by kernel_rfl) (by kernel_rfl) rfl (outs := [.agg (encEv (appFirst p))]) (by rfl) (Nat.le_of_ble_eq_true rfl) 1 ?_
  refine ex_seq_k fun K1 hK1 => ?_
  refine ex_region ttOK (by rfl) ?_
  refine rl_alloc (id := 0) tt_60 za_60 rfl ?_
  refine hK1 _ _ ?_
  clear hK1 K1
  refine ex_seq_k fun K2 hK2 => ?_
  refine ex_seq_k fun K3 hK3 => ?_
  refine ex_region ttOK (by rfl) ?_
  refine rl_move rfl ?_
  refine rl_call rfl rfl rfl (F_spec_l1Proc ..) ?_
  refine rl_not rfl ?_
  refine hK3 _ _ ?_
  clear hK3 K3
  refine ex_cond rfl (fun hc4 => ?_) (fun hc4 => ?_)
  · try simp at hc4
    refine ex_seq_k fun K5 hK5 => ?_
    refine ex_region ttOK (by rfl) ?_
    refine rl_build tt_60 rfl za_60 rfl (by simp only [fillA, cellsA, AV.okc, AV.one, T3, T4, List.getElem?_cons_zero, List.getElem?_cons_succ, List.take_succ_cons, List.take_zero, List.drop_succ_cons, List.drop_zero, List.cons_append, List.nil_append, List.length_cons, List.length_nil, if_true, and_self, Nat.reduceAdd, Nat.reduceLeDiff]; rfl) ?_
    refine rl_storeA rfl rfl tt_60 rfl rfl rfl rfl ?_
    refine hK5 _ _ ?_
    clear hK5 K5
    refine ex_ret ⟨.inr rfl, ?_⟩
    clear hK2 K2
    refine ret_agg rfl ?_ rfl rfl
    first | (rw [appFirst, if_pos (by omega)]; rfl) | (rw [appFirst, if_neg (by omega)]; rfl)
  · try simp at hc4
    refine ex_skip ?_
    refine hK2 _ _ ?_
    clear hK2 K2
    refine ex_seq_k fun K6 hK6 => ?_
    refine ex_region ttOK (by rfl) ?_
    refine rl_move rfl ?_
    refine rl_move rfl ?_
    refine rl_move rfl ?_
    refine rl_build tt_60 rfl za_60 rfl (by simp only [fillA, cellsA, AV.okc, AV.one, T3, T4, List.getElem?_cons_zero, List.getElem?_cons_succ, List.take_succ_cons, List.take_zero, List.drop_succ_cons, List.drop_zero, List.cons_append, List.nil_append, List.length_cons, List.length_nil, if_true, and_self, Nat.reduceAdd, Nat.reduceLeDiff]; rfl) ?_
    refine rl_storeA rfl rfl tt_60 rfl rfl rfl rfl ?_
    refine hK6 _ _ ?_
    clear hK6 K6
    refine ex_ret ⟨.inr rfl, ?_⟩
    refine ret_agg rfl ?_ rfl rfl
    first | (rw [appFirst, if_pos (by omega)]; rfl) | (rw [appFirst, if_neg (by omega)]; rfl)

theorem F_impl_procsOf (id : Int) : Pure Try.prog 33 [.pv (.int .i64 id)] (rInts true (procs id 4)) := by
  refine pure_of_ex ttOK (fn := Try.f33) (by kernel_rfl) (by kernel_rfl) rfl (outs := [rInts true (procs id 4)]) (by rfl) (Nat.le_of_ble_eq_true rfl) 2 ?_
  refine ex_seq_k fun K1 hK1 => ?_
  refine ex_region ttOK (by rfl) ?_
  refine rl_assign rfl ?_
  refine hK1 _ _ ?_
  clear hK1 K1
  refine ex_seq_k fun K2 hK2 => ?_
  refine ex_region ttOK (by rfl) ?_
  refine rl_assign rfl ?_
  refine hK2 _ _ ?_
  clear hK2 K2
  refine ex_seq_k fun K3 hK3 => ?_
  refine ex_seq_k fun K4 hK4 => ?_
  refine ex_region ttOK (by rfl) ?_
  refine rl_move rfl ?_
  refine hK4 _ _ ?_
  clear hK4 K4
  refine ex_block ?_
  refine ex_nilref 3 1 3 1 rfl rfl ?_
  refine ex_loopK (ι := Nat) (fun i γ1 => [(3, .ref 1 (γ1 1)), (5, .pv (.int .i64 (i : Int)))]) (fun i γ1 => [(1, ((γ1 1), .row 3 1 ((procs id i).map encI))), (0, ((γ1 0), .dead))]) (fun i => i ≤ 4) (fun i => 4 - i) (Cov.cons (t := 0) rfl Cov.nil) HE.nil 0 (by omega) [_, _] (Cov.cons (t := 3) rfl (Cov.cons (t := 5) rfl Cov.nil)) (HE.row rfl rfl (HE.kill rfl HE.nil)) rfl fun i γ1 hi => ?_
  try dsimp only [List.cons_append, List.nil_append]
  refine ex_seq_k fun K5 hK5 => ?_
  refine ex_region ttOK (by rfl) ?_
  refine rl_bin rfl rfl rfl ?_
  refine hK5 _ _ ?_
  clear hK5 K5
  refine ex_seq_k fun K6 hK6 => ?_
  refine ex_cond rfl (fun hc7 => ?_) (fun hc7 => ?_)
  · try simp at hc7
    refine ex_skip ?_
    refine hK6 _ _ ?_
    clear hK6 K6
    refine ex_seq_k fun K8 hK8 => ?_
    refine ex_block ?_
    refine ex_seq_k fun K9 hK9 => ?_
    refine ex_region ttOK (by rfl) ?_
    refine rl_move rfl ?_
    refine rl_assign rfl ?_
    refine hK9 _ _ ?_
    clear hK9 K9
    refine ex_seq_k fun K10 hK10 => ?_
    refine ex_region ttOK (by rfl) ?_
    refine rl_move rfl ?_
    refine rl_call rfl rfl rfl (F_impl_NodeOf ..) ?_
    refine rl_move rfl ?_
    refine rl_bin rfl rfl rfl ?_
    refine hK10 _ _ ?_
    clear hK10 K10
    refine ex_cond rfl (fun hc11 => ?_) (fun hc11 => ?_)
    · try simp at hc11
      refine ex_region ttOK (by rfl) ?_
      refine rl_move rfl ?_
      refine rl_move rfl ?_
      first | refine rl_slice1A (id := 0) tt_29 rfl tt_3 rfl rfl rfl rfl rfl rfl ?_ | refine rl_slice1 (id := 0) tt_29 rfl tt_3 rfl rfl rfl rfl rfl ?_ | refine rl_buildSlice (id := 0) tt_29 rfl tt_3 rfl rfl rfl rfl (by repeat (first | exact Abs.nil | refine Abs.ref rfl (by first | exact flatR_map (fun _ => rfl) | exact flatR_nil) ?_ rfl rfl | refine Abs.val rfl rfl ?_)) rfl (Nat.le_of_ble_eq_true rfl) (Nat.le_of_ble_eq_true rfl) (Nat.le_of_ble_eq_true rfl) rfl rfl ?_
      first | refine rl_app_rr rfl rfl tt_29 rfl tt_3 rfl rfl rfl rfl (by first | rfl | exact noow_map (fun _ => rfl) _) (by first | exact map_snoc _ _ _ | exact map_app _ _ _ | rfl) (by simp only [List.length_map, List.length_append, List.length_cons, List.length_nil, T3]; have := procs_len id i; omega) ?_ | refine rl_app_rd rfl rfl tt_29 rfl tt_3 rfl rfl rfl (by first | rfl | exact noow_map (fun _ => rfl) _) (by first | exact map_snoc _ _ _ | exact map_app _ _ _ | rfl) (by simp only [List.length_map, List.length_append, List.length_cons, List.length_nil, T3]; have := procs_len id i; omega) ?_ | refine rl_app_nr (id := 1) rfl rfl tt_29 rfl tt_3 rfl rfl rfl rfl (by first | rfl | exact noow_map (fun _ => rfl) _) (by simp only [List.length_map, List.length_append, List.length_cons, List.length_nil, T3]; have := procs_len id i; omega) ?_ | refine rl_app_nd (id := 1) rfl rfl tt_29 rfl tt_3 rfl rfl rfl (by first | rfl | exact noow_map (fun _ => rfl) _) (by simp only [List.length_map, List.length_append, List.length_cons, List.length_nil, T3]; have := procs_len id i; omega) ?_
      refine rl_assign rfl ?_
      refine hK8 _ _ ?_
      clear hK8 K8
      refine ex_region ttOK (by rfl) ?_
      refine rl_bin rfl rfl rfl ?_
      refine rl_move rfl ?_
      exact ⟨i + 1, ⟨by omega, by omega⟩, [_, _], (Cov.cons (t := 3) rfl (Cov.cons' (t := 5) rfl (by rw [wrap_small (by omega) (by omega)]; rfl) Cov.nil)), (Cov.cons (t := 0) rfl Cov.nil), (HE.row rfl (by simp only [procs_succ]; first | rw [if_pos (by assumption)] | rw [if_neg (by assumption)]) (HE.kill rfl HE.nil)), HE.nil, rfl⟩
    · try simp at hc11
      refine ex_skip ?_
      refine hK8 _ _ ?_
      clear hK8 K8
      refine ex_region ttOK (by rfl) ?_
      refine rl_bin rfl rfl rfl ?_
      refine rl_move rfl ?_
      exact ⟨i + 1, ⟨by omega, by omega⟩, [_, _], (Cov.cons (t := 3) rfl (Cov.cons' (t := 5) rfl (by rw [wrap_small (by omega) (by omega)]; rfl) Cov.nil)), (Cov.cons (t := 0) rfl Cov.nil), (HE.row rfl (by simp only [procs_succ]; first | rw [if_pos (by assumption)] | rw [if_neg (by assumption)]) (HE.kill rfl HE.nil)), HE.nil, rfl⟩
  · try simp at hc7
    refine ex_exit ?_
    refine hK3 _ _ ?_
    clear hK6 K6 hK3 K3
    refine ex_seq_k fun K12 hK12 => ?_
    refine ex_region ttOK (by rfl) ?_
    refine rl_move rfl ?_
    refine rl_assign rfl ?_
    refine hK12 _ _ ?_
    clear hK12 K12
    refine ex_ret ⟨.inr rfl, ?_⟩
    refine ret_row rfl rfl (fun _ => rfl) ?_
    have : i = 4 := by omega
    rw [this]

end Go.Proofs.Ytcleiaibcfocdaa.Am
