/- Part 5 of the texts that the proof of LawFnExactNodeTend leans on, merged by program. -/
import Derived.Test.YtpadkogpeobboaaGreatKh4
set_option linter.unusedVariables false
set_option linter.unusedSimpArgs false
namespace Go.Proofs.YtpadkogpeobboaaGreat.Am
open Go Go.RowKit
theorem F_impl_heap_impl_eventKey_push (l : List Ev) (x : Ev) (hl : l.length ≤ 1000000000) : Meth Tryz.prog 229 2 [0] [.ptr 0 0 0, .agg (encEv x)] [(0, (0, .box 255 [.ref 1 0, .fn (.func 146) [] []])), (1, (0, .row 179 7 ((l).map encEv)))] (.tup []) [(0, (0, .box 255 [.ref 1 0, .fn (.func 146) [] []])), (1, (0, .row 179 7 ((hpush evLt l x).map encEv)))] := by
  refine meth_of_ex ttOK (fn := Tryz.f229) (by kernel_rfl) (by kernel_rfl) rfl (O0 := []) 2 3 (Nat.le_of_ble_eq_true rfl) (by rfl) (by repeat (first | exact BndH.nil | refine BndH.box rfl ?_ | refine BndH.row (flatR_map fun _ => rfl) ?_)) (by repeat (first | exact BndH.nil | refine BndH.box rfl ?_ | refine BndH.row (flatR_map fun _ => rfl) ?_)) (by rfl) fun γ => ?_
  show Ex Tryz.prog _ _ [(0, .ptr 0 (γ 0) 0), (1, .agg (encEv x))] [(0, ((γ 0), .box 255 [.ref 1 (γ 1), .fn (.func 146) [] []])), (1, ((γ 1), .row 179 7 ((l).map encEv))), (4, (0, .dead)), (3, (0, .dead)), (2, (0, .dead))] _
  refine ex_rs ttOK (by rfl) ?_
  refine rl_boxA (id := 2) rfl rfl rfl ?_
  refine ex_rsD ttOK mixed (by rfl) ?_
  refine rl_move rfl ?_
  refine rl_move rfl ?_
  refine rl_nil rfl rfl ?_
  refine rl_fieldAddr rfl tt_255 rfl rfl tt_253 rfl rfl ?_
  refine rl_load_ptr rfl tt_253 rfl rfl ?_
  refine rl_loadA_ptr rfl tt_179 rfl rfl rfl ?_
  refine rl_slice1A (id := 3) tt_253 rfl tt_179 rfl rfl rfl rfl rfl rfl ?_
  refine rl_app_rr rfl rfl tt_253 rfl tt_179 rfl rfl rfl rfl (by rfl) (by exact map_snoc _ _ _) (by (simp only [List.length_map, List.length_append, List.length_cons, List.length_nil, T179]; omega)) ?_
  refine rl_nil rfl rfl ?_
  refine rl_fieldAddr rfl tt_255 rfl rfl tt_253 rfl rfl ?_
  refine rl_store1 rfl rfl tt_253 rfl rfl rfl rfl rfl (by simp only [List.set_cons_zero, List.set_cons_succ]; rfl) ?_
  refine ⟨by kernel_rfl, ?_⟩
  refine ex_rs ttOK (by rfl) ?_
  refine rl_move rfl ?_
  refine rl_nil rfl rfl ?_
  refine rl_fieldAddr rfl tt_255 rfl rfl tt_253 rfl rfl ?_
  refine rl_load_ptr rfl tt_253 rfl rfl ?_
  refine rl_lenr rfl tt_253 rfl rfl (by exact List.length_map _) ?_
  refine rl_subN (b := 1) rfl rfl (by (simp; done)) (by (simp; omega)) ?_
  refine rl_assign rfl ?_
  refine ex_block ?_
  refine ex_loopK (ι := Nat × List Ev) (fun i γ1 => [(4, .pv (.int .i64 (i.1 : Int)))]) (fun i γ1 => [(1, ((γ1 1), .row 179 7 ((i.2).map encEv))), (0, ((γ 0), .box 255 [.ref 1 (γ1 1), .fn (.func 146) [] []]))]) (fun i => siftUp evLt i.2 i.1 = hpush evLt l x ∧ i.1 < i.2.length ∧ i.2.length = l.length + 1) (fun i => i.1) (Cov.cons (t := 0) rfl Cov.nil) (HE.same (id := 2) rfl (HE.same (id := 3) rfl (HE.same (id := 4) rfl HE.nil))) (l.length, l ++ [x]) ⟨rfl, by simp, by simp⟩ [0, _] (Cov.cons' (t := 4) rfl (by simp) Cov.nil) (HE.row rfl rfl (HE.box rfl rfl HE.nil)) rfl fun i γ1 hi => ?_
  try dsimp only [List.cons_append, List.nil_append]
  obtain ⟨k, m⟩ := i
  obtain ⟨h1, h2, h3⟩ := hi
  dsimp only at h1 h2 h3 ⊢
  refine ex_seq_k fun K1 hK1 => ?_
  refine ex_rs ttOK (by rfl) ?_
  refine rl_move rfl ?_
  refine rl_bin rfl rfl rfl ?_
  refine ex_cond rfl (fun hc2 => ?_) (fun hc2 => ?_)
  rotate_left
  · try simp at hc2
    have hk : k = 0 := by omega
    subst hk
    have hfin := siftUp_zero.symm.trans h1
    refine ex_exit ?_
    exact ⟨.inl rfl, [γ 0, _], rfl, rfl, HE.box rfl rfl (HE.row rfl (by rw [← hfin]) HE.nil)⟩
  try simp at hc2
  obtain ⟨a, ha⟩ : ∃ a, m[k]? = some a := ⟨_, List.getElem?_eq_getElem (by omega)⟩
  obtain ⟨b, hb⟩ : ∃ b, m[(k - 1) / 2]? = some b := ⟨_, List.getElem?_eq_getElem (by omega)⟩
  have hp : (k - 1) / 2 < k := by omega
  refine ex_skip ?_
  refine hK1 _ _ ?_
  clear hK1 K1
  refine ex_block ?_
  refine ex_rs ttOK (by rfl) ?_
  refine rl_move rfl ?_
  refine rl_subN (b := 1) rfl rfl (by omega) (by omega) ?_
  refine rl_quoN (b := 2) rfl rfl (by omega) (by omega) ?_
  refine rl_assign rfl ?_
  refine ex_seq_k fun K3 hK3 => ?_
  refine ex_rsD ttOK mixed (by rfl) ?_
  refine rl_move rfl ?_
  refine rl_nil rfl rfl ?_
  refine rl_fieldAddr rfl tt_255 rfl rfl tt_177 rfl rfl ?_
  refine rl_load_ptr rfl tt_177 rfl rfl ?_
  refine rl_move rfl ?_
  refine rl_nil rfl rfl ?_
  refine rl_fieldAddr rfl tt_255 rfl rfl tt_253 rfl rfl ?_
  refine rl_load_ptr rfl tt_253 rfl rfl ?_
  refine rl_move rfl ?_
  refine rl_idxR (j := k) rfl rfl tt_253 rfl tt_179 rfl rfl (by omega) ?_
  refine rl_loadEA rfl tt_179 rfl ha rfl rfl ?_
  refine rl_move rfl ?_
  refine rl_nil rfl rfl ?_
  refine rl_fieldAddr rfl tt_255 rfl rfl tt_253 rfl rfl ?_
  refine rl_load_ptr rfl tt_253 rfl rfl ?_
  refine rl_move rfl ?_
  refine rl_idxR (j := (k - 1) / 2) rfl rfl tt_253 rfl tt_179 rfl rfl (by omega) ?_
  refine rl_loadEA rfl tt_179 rfl hb rfl rfl ?_
  refine rl_call rfl rfl rfl (F_impl_keyLess _ _) ?_
  refine rl_not rfl ?_
  refine ⟨by kernel_rfl, ?_⟩
  refine ex_cond rfl (fun hc4 => ?_) (fun hc4 => ?_)
  · try simp at hc4
    have hfin := (siftUp_stop ha hb hc4).symm.trans h1
    refine ex_exit ?_
    exact ⟨.inl rfl, [γ 0, _], rfl, rfl, HE.box rfl rfl (HE.row rfl (by rw [← hfin]) HE.nil)⟩
  try simp at hc4
  have hg := hc4
  refine ex_skip ?_
  refine hK3 _ _ ?_
  clear hK3 K3
  refine ex_rsD ttOK mixed (by rfl) ?_
  refine rl_move rfl ?_
  refine rl_nil rfl rfl ?_
  refine rl_fieldAddr rfl tt_255 rfl rfl tt_253 rfl rfl ?_
  refine rl_load_ptr rfl tt_253 rfl rfl ?_
  refine rl_move rfl ?_
  refine rl_move rfl ?_
  refine rl_nil rfl rfl ?_
  refine rl_fieldAddr rfl tt_255 rfl rfl tt_253 rfl rfl ?_
  refine rl_load_ptr rfl tt_253 rfl rfl ?_
  refine rl_move rfl ?_
  refine rl_move rfl ?_
  refine rl_nil rfl rfl ?_
  refine rl_fieldAddr rfl tt_255 rfl rfl tt_253 rfl rfl ?_
  refine rl_load_ptr rfl tt_253 rfl rfl ?_
  refine rl_move rfl ?_
  refine rl_idxR (j := (k - 1) / 2) rfl rfl tt_253 rfl tt_179 rfl rfl (by omega) ?_
  refine rl_loadEA rfl tt_179 rfl hb rfl rfl ?_
  refine rl_move rfl ?_
  refine rl_nil rfl rfl ?_
  refine rl_fieldAddr rfl tt_255 rfl rfl tt_253 rfl rfl ?_
  refine rl_load_ptr rfl tt_253 rfl rfl ?_
  refine rl_move rfl ?_
  refine rl_idxR (j := k) rfl rfl tt_253 rfl tt_179 rfl rfl (by omega) ?_
  refine rl_loadEA rfl tt_179 rfl ha rfl rfl ?_
  refine rl_idxR (j := k) rfl rfl tt_253 rfl tt_179 rfl rfl (by omega) ?_
  refine rl_storeEA (el' := b) rfl rfl tt_179 rfl rfl rfl ha rfl (abs_ints _) rfl rfl ?_
  refine rl_idxR (j := (k - 1) / 2) rfl rfl tt_253 rfl tt_179 rfl rfl (by rw [List.length_set]; omega) ?_
  refine rl_storeEA (el' := a) rfl rfl tt_179 rfl rfl rfl (by rw [List.getElem?_set_ne (by omega)]; exact hb) rfl (abs_ints _) rfl rfl ?_
  refine ⟨by kernel_rfl, ?_⟩
  refine ex_region ttOK (by rfl) ?_
  refine rl_move rfl ?_
  refine rl_assign rfl ?_
  exact ⟨((k - 1) / 2, sw m k ((k - 1) / 2)), ⟨⟨by rw [← h1, siftUp_step (by omega) ha hb hg], by rw [sw_len]; dsimp only; omega, by rw [sw_len]; exact h3⟩, (by dsimp only; omega)⟩, [0, _], (Cov.cons (t := 4) rfl Cov.nil), (Cov.cons (t := 0) rfl Cov.nil), (HE.row rfl (by rw [sw_eq ha hb]) (HE.box rfl rfl HE.nil)), (HE.same (id := 2) rfl (HE.same (id := 3) rfl (HE.same (id := 4) rfl HE.nil))), rfl⟩
theorem F_impl_heap_impl_eventKey_pop (m : Ev) (r : List Ev) (hl : r.length ≤ 1000000000) : Meth Tryz.prog 254 2 [0] [.ptr 0 0 0] [(0, (0, .box 255 [.ref 1 0, .fn (.func 146) [] []])), (1, (0, .row 179 7 ((m :: r).map encEv)))] (.agg (encEv m)) [(0, (0, .box 255 [.ref 1 0, .fn (.func 146) [] []])), (1, (0, .row 179 7 ((hrest evLt (m :: r)).map encEv)))] := by
  refine meth_of_ex ttOK (fn := Tryz.f254) (by kernel_rfl) (by kernel_rfl) rfl (O0 := [.agg (encEv m)]) 2 2 (Nat.le_of_ble_eq_true rfl) (by rfl) (by repeat (first | exact BndH.nil | refine BndH.box rfl ?_ | refine BndH.row (flatR_map fun _ => rfl) ?_)) (by repeat (first | exact BndH.nil | refine BndH.box rfl ?_ | refine BndH.row (flatR_map fun _ => rfl) ?_)) (by rfl) fun γ => ?_
  show Ex Tryz.prog _ _ [(0, .ptr 0 (γ 0) 0)] [(0, ((γ 0), .box 255 [.ref 1 (γ 1), .fn (.func 146) [] []])), (1, ((γ 1), .row 179 7 ((m :: r).map encEv))), (3, (0, .dead)), (2, (0, .dead))] _
  obtain ⟨T0, hT⟩ : ∃ T0, T0 = ((m :: r).set 0 ((m :: r).getLast (by simp))).take r.length := ⟨_, rfl⟩
  have hres : hrest evLt (m :: r) = siftDown evLt T0 0 := by rw [hT]; rfl
  have hTl : T0.length = r.length := by rw [hT]; simp
  have hlast : (m :: r)[(m :: r).length - 1]? = some ((m :: r).getLast (by simp)) := by rw [← List.getLast?_eq_getElem?, List.getLast?_eq_some_getLast]
  refine ex_rs ttOK (by rfl) ?_
  refine rl_alloc (id := 2) tt_179 za_179 rfl ?_
  refine ex_rs ttOK (by rfl) ?_
  refine rl_move rfl ?_
  refine rl_nil rfl rfl ?_
  refine rl_fieldAddr rfl tt_255 rfl rfl tt_253 rfl rfl ?_
  refine rl_load_ptr rfl tt_253 rfl rfl ?_
  refine rl_idxR (j := 0) rfl rfl tt_253 rfl tt_179 rfl rfl (by simp) ?_
  refine rl_loadEA rfl tt_179 rfl (show (m :: r)[0]? = some m from rfl) rfl rfl ?_
  refine rl_alloc (id := 3) tt_179 za_179 rfl ?_
  refine rl_storeA rfl rfl tt_179 rfl rfl rfl rfl ?_
  refine ex_rs ttOK (by rfl) ?_
  refine rl_move rfl ?_
  refine rl_nil rfl rfl ?_
  refine rl_fieldAddr rfl tt_255 rfl rfl tt_253 rfl rfl ?_
  refine rl_load_ptr rfl tt_253 rfl rfl ?_
  refine rl_lenr rfl tt_253 rfl rfl (by exact List.length_map _) ?_
  refine rl_subN (b := 1) rfl rfl (by (simp; done)) (by (simp; omega)) ?_
  refine rl_assign rfl ?_
  refine ex_rsD ttOK mixed (by rfl) ?_
  refine rl_move rfl ?_
  refine rl_nil rfl rfl ?_
  refine rl_fieldAddr rfl tt_255 rfl rfl tt_253 rfl rfl ?_
  refine rl_load_ptr rfl tt_253 rfl rfl ?_
  refine rl_move rfl ?_
  refine rl_nil rfl rfl ?_
  refine rl_fieldAddr rfl tt_255 rfl rfl tt_253 rfl rfl ?_
  refine rl_load_ptr rfl tt_253 rfl rfl ?_
  refine rl_move rfl ?_
  refine rl_idxR (j := (m :: r).length - 1) rfl rfl tt_253 rfl tt_179 rfl rfl (by simp) ?_
  refine rl_loadEA rfl tt_179 rfl hlast rfl rfl ?_
  refine rl_idxR (j := 0) rfl rfl tt_253 rfl tt_179 rfl rfl (by simp) ?_
  refine rl_storeEA (el' := ((m :: r).getLast (by simp))) rfl rfl tt_179 rfl rfl rfl (show (m :: r)[0]? = some m from rfl) rfl (abs_ints _) rfl rfl ?_
  refine ⟨by kernel_rfl, ?_⟩
  refine ex_rs ttOK (by rfl) ?_
  refine rl_move rfl ?_
  refine rl_move rfl ?_
  refine rl_nil rfl rfl ?_
  refine rl_fieldAddr rfl tt_255 rfl rfl tt_253 rfl rfl ?_
  refine rl_load_ptr rfl tt_253 rfl rfl ?_
  refine rl_move rfl ?_
  refine rl_trunc ttOK (u := (m :: r).length - 1) (ys := T0.map encEv) rfl tt_253 rfl tt_179 rfl rfl rfl (by (simp; done)) (by rw [hT, List.map_take]; rfl) ?_
  refine rl_nil rfl rfl ?_
  refine rl_fieldAddr rfl tt_255 rfl rfl tt_253 rfl rfl ?_
  refine rl_store1 rfl rfl tt_253 rfl rfl rfl rfl rfl (by simp only [List.set_cons_zero, List.set_cons_succ]; rfl) ?_
  refine ex_rs ttOK (by rfl) ?_
  refine rl_assign rfl ?_
  refine ex_block ?_
  refine ex_loopK (ι := Nat × List Ev) (fun i γ1 => [(5, .pv (.int .i64 (i.1 : Int)))]) (fun i γ1 => [(1, ((γ1 1), .row 179 7 ((i.2).map encEv))), (0, ((γ 0), .box 255 [.ref 1 (γ1 1), .fn (.func 146) [] []]))]) (fun i => siftDown evLt i.2 i.1 = hrest evLt (m :: r) ∧ i.2.length = r.length ∧ i.1 ≤ r.length) (fun i => i.2.length - i.1) (Cov.cons (t := 0) rfl (Cov.cons (t := 2) rfl (Cov.cons (t := 3) rfl (Cov.cons (t := 4) rfl Cov.nil)))) (HE.same (id := 2) rfl (HE.same (id := 3) rfl HE.nil)) (0, T0) ⟨hres.symm, hTl, by omega⟩ [0, _] (Cov.cons (t := 5) rfl Cov.nil) (HE.row rfl rfl (HE.box rfl rfl HE.nil)) rfl fun i γ1 hi => ?_
  try dsimp only [List.cons_append, List.nil_append]
  obtain ⟨k, t⟩ := i
  obtain ⟨h1, h2, h3⟩ := hi
  dsimp only at h1 h2 h3 ⊢
  refine ex_block ?_
  refine ex_rs ttOK (by rfl) ?_
  refine rl_move rfl ?_
  refine rl_mulN (a := 2) rfl rfl (by omega) ?_
  refine rl_addN (b := 1) rfl rfl (by omega) ?_
  refine rl_assign rfl ?_
  refine ex_seq_k fun K1 hK1 => ?_
  refine ex_rs ttOK (by rfl) ?_
  refine rl_move rfl ?_
  refine rl_move rfl ?_
  refine rl_bin rfl rfl rfl ?_
  refine ex_cond rfl (fun hc2 => ?_) (fun hc2 => ?_)
  · try simp at hc2
    have hfin := (siftDown_leaf (lt := evLt) (l := t) (k := k) (by omega)).symm.trans h1
    refine ex_rs ttOK (by rfl) ?_
    refine rl_loadA_ptr rfl tt_179 rfl rfl rfl ?_
    refine rl_storeA rfl rfl tt_179 rfl rfl rfl rfl ?_
    refine ex_ret ?_
    exact ⟨.inr rfl, [γ 0, _], rfl, rfl, HE.box rfl rfl (HE.row rfl (by rw [← hfin]) HE.nil)⟩
  try simp at hc2
  have hlt : 2 * k + 1 < t.length := by omega
  refine ex_skip ?_
  refine hK1 _ _ ?_
  clear hK1 K1
  refine ex_cutK (ι := Unit) (fun _i γ2 => [(6, .pv (.int .i64 (child evLt t k : Int)))]) (fun _i γ2 => []) (fun _i => True) (Cov.cons (t := 0) rfl (Cov.cons (t := 2) rfl (Cov.cons (t := 3) rfl (Cov.cons (t := 4) rfl (Cov.cons (t := 5) rfl Cov.nil))))) (HE.same (id := 0) rfl (HE.same (id := 1) rfl (HE.same (id := 2) rfl (HE.same (id := 3) rfl HE.nil)))) ?_ fun _i γ2 hi => ?_
  · refine ex_rsD ttOK mixed (by rfl) ?_
    refine rl_move rfl ?_
    refine rl_addN (b := 1) rfl rfl (by omega) ?_
    refine rl_move rfl ?_
    refine rl_bin rfl rfl rfl ?_
    refine rl_move rfl ?_
    refine rl_g rfl rfl (fun hg3 => ?_) (fun hg3 => ?_)
    rotate_left
    · try simp at hg3
      have hlt2 : ¬ 2 * k + 2 < t.length := by omega
      refine rl_gF rfl rfl ?_
      refine rl_gF rfl rfl ?_
      refine rl_gF rfl rfl ?_
      refine rl_gF rfl rfl ?_
      refine rl_gF rfl rfl ?_
      refine rl_gF rfl rfl ?_
      refine rl_gF rfl rfl ?_
      refine rl_gF rfl rfl ?_
      refine rl_gF rfl rfl ?_
      refine rl_gF rfl rfl ?_
      refine rl_gF rfl rfl ?_
      refine rl_gF rfl rfl ?_
      refine rl_gF rfl rfl ?_
      refine rl_gF rfl rfl ?_
      refine rl_gF rfl rfl ?_
      refine rl_gF rfl rfl ?_
      refine rl_gF rfl rfl ?_
      refine rl_gF rfl rfl ?_
      refine rl_gF rfl rfl ?_
      refine rl_pickF rfl rfl ?_
      refine ⟨by kernel_rfl, ?_⟩
      refine ex_cond rfl (fun hc5 => ?_) (fun hc5 => ?_)
      · simp at hc5
      try simp at hc5
      try have hl1 := hc5
      refine ex_skip ?_
      exact ⟨(), trivial, [], (Cov.cons' (t := 6) rfl (by rw [child_N (by omega)]) Cov.nil), (Cov.cons (t := 0) rfl (Cov.cons (t := 2) rfl (Cov.cons (t := 3) rfl (Cov.cons (t := 4) rfl (Cov.cons (t := 5) rfl Cov.nil))))), HE.nil, (HE.same (id := 0) rfl (HE.same (id := 1) rfl (HE.same (id := 2) rfl (HE.same (id := 3) rfl HE.nil)))), rfl⟩
    try simp at hg3
    have hlt2 : 2 * k + 1 + 1 < t.length := by omega
    obtain ⟨c1, hc1⟩ : ∃ c1, t[2 * k + 1 + 1]? = some c1 := ⟨_, List.getElem?_eq_getElem (by omega)⟩
    obtain ⟨d1, hd1⟩ : ∃ d1, t[2 * k + 1]? = some d1 := ⟨_, List.getElem?_eq_getElem (by omega)⟩
    refine rl_move rfl ?_
    refine rl_gT rfl rfl ?_
    refine rl_nil rfl rfl ?_
    refine rl_gT rfl rfl ?_
    refine rl_fieldAddr rfl tt_255 rfl rfl tt_177 rfl rfl ?_
    refine rl_gT rfl rfl ?_
    refine rl_load_ptr rfl tt_177 rfl rfl ?_
    refine rl_gT rfl rfl ?_
    refine rl_move rfl ?_
    refine rl_gT rfl rfl ?_
    refine rl_nil rfl rfl ?_
    refine rl_gT rfl rfl ?_
    refine rl_fieldAddr rfl tt_255 rfl rfl tt_253 rfl rfl ?_
    refine rl_gT rfl rfl ?_
    refine rl_load_ptr rfl tt_253 rfl rfl ?_
    refine rl_gT rfl rfl ?_
    refine rl_move rfl ?_
    refine rl_gT rfl rfl ?_
    refine rl_addN (b := 1) rfl rfl (by omega) ?_
    refine rl_gT rfl rfl ?_
    refine rl_idxR (j := 2 * k + 1 + 1) rfl rfl tt_253 rfl tt_179 rfl rfl (by omega) ?_
    refine rl_gT rfl rfl ?_
    refine rl_loadEA rfl tt_179 rfl hc1 rfl rfl ?_
    refine rl_gT rfl rfl ?_
    refine rl_move rfl ?_
    refine rl_gT rfl rfl ?_
    refine rl_nil rfl rfl ?_
    refine rl_gT rfl rfl ?_
    refine rl_fieldAddr rfl tt_255 rfl rfl tt_253 rfl rfl ?_
    refine rl_gT rfl rfl ?_
    refine rl_load_ptr rfl tt_253 rfl rfl ?_
    refine rl_gT rfl rfl ?_
    refine rl_move rfl ?_
    refine rl_gT rfl rfl ?_
    refine rl_idxR (j := 2 * k + 1) rfl rfl tt_253 rfl tt_179 rfl rfl (by omega) ?_
    refine rl_gT rfl rfl ?_
    refine rl_loadEA rfl tt_179 rfl hd1 rfl rfl ?_
    refine rl_gT rfl rfl ?_
    refine rl_call rfl rfl rfl (F_impl_keyLess _ _) ?_
    refine rl_pickT rfl rfl ?_
    refine ⟨by kernel_rfl, ?_⟩
    refine ex_cond rfl (fun hc4 => ?_) (fun hc4 => ?_)
    rotate_left
    · try simp at hc4
      try have hl1 := hc4
      refine ex_skip ?_
      exact ⟨(), trivial, [], (Cov.cons' (t := 6) rfl (by rw [child_F hc1 hd1 hl1]) Cov.nil), (Cov.cons (t := 0) rfl (Cov.cons (t := 2) rfl (Cov.cons (t := 3) rfl (Cov.cons (t := 4) rfl (Cov.cons (t := 5) rfl Cov.nil))))), HE.nil, (HE.same (id := 0) rfl (HE.same (id := 1) rfl (HE.same (id := 2) rfl (HE.same (id := 3) rfl HE.nil)))), rfl⟩
    try simp at hc4
    have hl1 := hc4
    refine ex_region ttOK (by rfl) ?_
    refine rl_move rfl ?_
    refine rl_addN (b := 1) rfl rfl (by omega) ?_
    refine rl_assign rfl ?_
    exact ⟨(), trivial, [], (Cov.cons' (t := 6) rfl (by rw [child_T hc1 hd1 hl1]) Cov.nil), (Cov.cons (t := 0) rfl (Cov.cons (t := 2) rfl (Cov.cons (t := 3) rfl (Cov.cons (t := 4) rfl (Cov.cons (t := 5) rfl Cov.nil))))), HE.nil, (HE.same (id := 0) rfl (HE.same (id := 1) rfl (HE.same (id := 2) rfl (HE.same (id := 3) rfl HE.nil)))), rfl⟩
  · try dsimp only [List.cons_append, List.nil_append]
    have hch := child_or (lt := evLt) t k
    obtain ⟨a, ha⟩ : ∃ a, t[child evLt t k]? = some a := ⟨_, List.getElem?_eq_getElem (by omega)⟩
    obtain ⟨b, hb⟩ : ∃ b, t[k]? = some b := ⟨_, List.getElem?_eq_getElem (by omega)⟩
    refine ex_seq_k fun K6 hK6 => ?_
    refine ex_rsD ttOK mixed (by rfl) ?_
    refine rl_move rfl ?_
    refine rl_nil rfl rfl ?_
    refine rl_fieldAddr rfl tt_255 rfl rfl tt_177 rfl rfl ?_
    refine rl_load_ptr rfl tt_177 rfl rfl ?_
    refine rl_move rfl ?_
    refine rl_nil rfl rfl ?_
    refine rl_fieldAddr rfl tt_255 rfl rfl tt_253 rfl rfl ?_
    refine rl_load_ptr rfl tt_253 rfl rfl ?_
    refine rl_move rfl ?_
    refine rl_idxR (j := child evLt t k) rfl rfl tt_253 rfl tt_179 rfl rfl (by omega) ?_
    refine rl_loadEA rfl tt_179 rfl ha rfl rfl ?_
    refine rl_move rfl ?_
    refine rl_nil rfl rfl ?_
    refine rl_fieldAddr rfl tt_255 rfl rfl tt_253 rfl rfl ?_
    refine rl_load_ptr rfl tt_253 rfl rfl ?_
    refine rl_move rfl ?_
    refine rl_idxR (j := k) rfl rfl tt_253 rfl tt_179 rfl rfl (by omega) ?_
    refine rl_loadEA rfl tt_179 rfl hb rfl rfl ?_
    refine rl_call rfl rfl rfl (F_impl_keyLess _ _) ?_
    refine rl_not rfl ?_
    refine ⟨by kernel_rfl, ?_⟩
    refine ex_cond rfl (fun hc7 => ?_) (fun hc7 => ?_)
    · try simp at hc7
      have hfin := (siftDown_stop ha hb hc7).symm.trans h1
      refine ex_rs ttOK (by rfl) ?_
      refine rl_loadA_ptr rfl tt_179 rfl rfl rfl ?_
      refine rl_storeA rfl rfl tt_179 rfl rfl rfl rfl ?_
      refine ex_ret ?_
      exact ⟨.inr rfl, [γ 0, _], rfl, rfl, HE.box rfl rfl (HE.row rfl (by rw [← hfin]) HE.nil)⟩
    try simp at hc7
    have hg := hc7
    refine ex_skip ?_
    refine hK6 _ _ ?_
    clear hK6 K6
    refine ex_rsD ttOK mixed (by rfl) ?_
    refine rl_move rfl ?_
    refine rl_nil rfl rfl ?_
    refine rl_fieldAddr rfl tt_255 rfl rfl tt_253 rfl rfl ?_
    refine rl_load_ptr rfl tt_253 rfl rfl ?_
    refine rl_move rfl ?_
    refine rl_move rfl ?_
    refine rl_nil rfl rfl ?_
    refine rl_fieldAddr rfl tt_255 rfl rfl tt_253 rfl rfl ?_
    refine rl_load_ptr rfl tt_253 rfl rfl ?_
    refine rl_move rfl ?_
    refine rl_move rfl ?_
    refine rl_nil rfl rfl ?_
    refine rl_fieldAddr rfl tt_255 rfl rfl tt_253 rfl rfl ?_
    refine rl_load_ptr rfl tt_253 rfl rfl ?_
    refine rl_move rfl ?_
    refine rl_idxR (j := child evLt t k) rfl rfl tt_253 rfl tt_179 rfl rfl (by omega) ?_
    refine rl_loadEA rfl tt_179 rfl ha rfl rfl ?_
    refine rl_move rfl ?_
    refine rl_nil rfl rfl ?_
    refine rl_fieldAddr rfl tt_255 rfl rfl tt_253 rfl rfl ?_
    refine rl_load_ptr rfl tt_253 rfl rfl ?_
    refine rl_move rfl ?_
    refine rl_idxR (j := k) rfl rfl tt_253 rfl tt_179 rfl rfl (by omega) ?_
    refine rl_loadEA rfl tt_179 rfl hb rfl rfl ?_
    refine rl_idxR (j := k) rfl rfl tt_253 rfl tt_179 rfl rfl (by omega) ?_
    refine rl_storeEA (el' := a) rfl rfl tt_179 rfl rfl rfl hb rfl (abs_ints _) rfl rfl ?_
    refine rl_idxR (j := child evLt t k) rfl rfl tt_253 rfl tt_179 rfl rfl (by rw [List.length_set]; omega) ?_
    refine rl_storeEA (el' := b) rfl rfl tt_179 rfl rfl rfl (by rw [List.getElem?_set_ne (by omega)]; exact ha) rfl (abs_ints _) rfl rfl ?_
    refine ⟨by kernel_rfl, ?_⟩
    refine ex_region ttOK (by rfl) ?_
    refine rl_move rfl ?_
    refine rl_assign rfl ?_
    exact ⟨(child evLt t k, sw t (child evLt t k) k), ⟨⟨by rw [← h1, siftDown_step (by omega) ha hb hg], by rw [sw_len]; exact h2, by dsimp only; omega⟩, (by dsimp only; rw [sw_len]; omega)⟩, [0, _], (Cov.cons (t := 5) rfl Cov.nil), (Cov.cons (t := 0) rfl (Cov.cons (t := 2) rfl (Cov.cons (t := 3) rfl (Cov.cons (t := 4) rfl Cov.nil)))), (HE.row rfl (by rw [sw_eq ha hb, List.set_comm _ _ (by omega)]) (HE.box rfl rfl HE.nil)), (HE.same (id := 2) rfl (HE.same (id := 3) rfl HE.nil)), rfl⟩
theorem F_impl_heap_impl_eventKey_drain (l : List Ev) (hl : l.length ≤ 1000000000) : Meth Tryz.prog 230 2 [0] [.ptr 0 0 0] [(0, (0, .box 255 [.ref 1 0, .fn (.func 146) [] []])), (1, (0, .row 179 7 ((l).map encEv)))] (.row (.rd true) 179 7 ((hdrain evLt l.length l).map encEv)) [(0, (0, .box 255 [.ref 1 0, .fn (.func 146) [] []])), (1, (0, .row 179 7 ((([] : List Ev)).map encEv)))] := by
  refine meth_of_ex ttOK (fn := Tryz.f230) (by kernel_rfl) (by kernel_rfl) rfl (O0 := [.row (.rd true) 179 7 ((hdrain evLt l.length l).map encEv)]) 2 3 (Nat.le_of_ble_eq_true rfl) (by rfl) (by repeat (first | exact BndH.nil | refine BndH.box rfl ?_ | refine BndH.row (flatR_map fun _ => rfl) ?_)) (by repeat (first | exact BndH.nil | refine BndH.box rfl ?_ | refine BndH.row (flatR_map fun _ => rfl) ?_)) (by rfl) fun γ => ?_
  show Ex Tryz.prog _ _ [(0, .ptr 0 (γ 0) 0)] [(0, ((γ 0), .box 255 [.ref 1 (γ 1), .fn (.func 146) [] []])), (1, ((γ 1), .row 179 7 ((l).map encEv))), (4, (0, .dead)), (3, (0, .dead)), (2, (0, .dead))] _
  refine ex_rs ttOK (by rfl) ?_
  refine rl_assign rfl ?_
  refine ex_rs ttOK (by rfl) ?_
  refine rl_move rfl ?_
  refine rl_nil rfl rfl ?_
  refine rl_fieldAddr rfl tt_255 rfl rfl tt_253 rfl rfl ?_
  refine rl_load_ptr rfl tt_253 rfl rfl ?_
  refine rl_lenr rfl tt_253 rfl rfl (by exact List.length_map _) ?_
  refine rl_make0 ttOK (id := 2) tt_253 rfl tt_179 rfl rfl (by (simp only [List.length_map, List.length_append, List.length_cons, List.length_nil, T179]; omega)) (by (unfold maxLen; omega)) rfl ?_
  refine rl_assign rfl ?_
  refine ex_seq_k fun K1 hK1 => ?_
  refine ex_block ?_
  refine ex_loopK (ι := List Ev × List Ev) (fun i γ1 => [(3, .ref 2 (γ1 2))]) (fun i γ1 => [(1, ((γ1 1), .row 179 7 ((i.1).map encEv))), (2, ((γ1 2), .row 179 7 ((i.2).map encEv))), (0, ((γ 0), .box 255 [.ref 1 (γ1 1), .fn (.func 146) [] []])), (3, ((γ1 3), .dead)), (4, ((γ1 4), .dead))]) (fun i => i.2 ++ hdrain evLt i.1.length i.1 = hdrain evLt l.length l ∧ i.1.length + i.2.length = l.length) (fun i => i.1.length) (Cov.cons (t := 0) rfl Cov.nil) HE.nil (l, []) ⟨rfl, rfl⟩ [0, _, _, _, _] (Cov.cons (t := 3) rfl Cov.nil) (HE.row rfl rfl (HE.row rfl rfl (HE.box rfl rfl (HE.kill rfl (HE.kill rfl HE.nil))))) rfl fun i γ1 hi => ?_
  try dsimp only [List.cons_append, List.nil_append]
  obtain ⟨ls, o⟩ := i
  obtain ⟨h1, h2⟩ := hi
  dsimp only at h1 h2 ⊢
  refine ex_seq_k fun K2 hK2 => ?_
  refine ex_rs ttOK (by rfl) ?_
  refine rl_move rfl ?_
  refine rl_nil rfl rfl ?_
  refine rl_fieldAddr rfl tt_255 rfl rfl tt_253 rfl rfl ?_
  refine rl_load_ptr rfl tt_253 rfl rfl ?_
  refine rl_lenr rfl tt_253 rfl rfl (by exact List.length_map _) ?_
  refine rl_bin rfl rfl rfl ?_
  refine ex_cond rfl (fun hc3 => ?_) (fun hc3 => ?_)
  rotate_left
  · try simp at hc3
    obtain rfl : ls = [] := by exact hc3
    have ho : o = hdrain evLt l.length l := by rw [← h1]; simp [hdrain]
    subst ho
    refine ex_exit ?_
    refine hK1 _ _ ?_
    clear hK2 K2 hK1 K1
    refine ex_frzM 3 rfl rfl (fun _ => rfl) ?_
    refine ex_rs ttOK (by rfl) ?_
    refine rl_move rfl ?_
    refine rl_assign rfl ?_
    refine ex_ret ?_
    exact ⟨.inr rfl, [γ 0, _], rfl, rfl, HE.box rfl rfl (HE.row rfl rfl HE.nil)⟩
  try simp at hc3
  obtain ⟨m, r, rfl⟩ : ∃ m r, ls = m :: r := by cases ls with | nil => simp at hc3 | cons m r => exact ⟨m, r, rfl⟩
  simp only [List.length_cons] at h2
  refine ex_skip ?_
  refine hK2 _ _ ?_
  clear hK2 K2
  refine ex_block ?_
  refine ex_region ttOK (by rfl) ?_
  refine rl_move rfl ?_
  refine rl_move rfl ?_
  refine rl_meth [0, 1] [_, _] (F_impl_heap_impl_eventKey_pop m r (by omega)) rfl rfl rfl (by decide) rfl rfl (by repeat (first | exact InH.nil | refine InH.cons rfl ?_)) (by (simp only [pI, List.map_cons, List.map_nil, insAll, insEnc, gl, nx, memN, Nat.beq, Nat.add_eq, List.getD_cons_zero, List.getD_cons_succ, List.getD_nil, Bool.or_false, Bool.false_or, Bool.true_or, Bool.or_true, Nat.add_zero, Nat.zero_add]; rfl)) (by (simp only [pI, List.map_cons, List.map_nil, insAll, insEnc, gl, nx, memN, Nat.beq, Nat.add_eq, List.getD_cons_zero, List.getD_cons_succ, List.getD_nil, Bool.or_false, Bool.false_or, Bool.true_or, Bool.or_true, Nat.add_zero, Nat.zero_add]; rfl)) ?_
  refine rl_slice1A (id := 3) tt_253 rfl tt_179 rfl rfl rfl rfl rfl rfl ?_
  refine rl_app_rr rfl rfl tt_253 rfl tt_179 rfl rfl rfl rfl (by rfl) (by exact map_snoc _ _ _) (by (simp only [List.length_map, List.length_append, List.length_cons, List.length_nil, T179]; omega)) ?_
  refine rl_assign rfl ?_
  exact ⟨(hrest evLt (m :: r), o ++ [m]), ⟨⟨by rw [← h1, hrest_len, List.append_assoc]; rfl, by rw [hrest_len, List.length_append]; simp only [List.length_cons, List.length_nil] at h2 ⊢; omega⟩, (by dsimp only; rw [hrest_len]; simp)⟩, [0, _, _, _, _], (Cov.cons (t := 3) rfl Cov.nil), (Cov.cons (t := 0) rfl Cov.nil), (HE.row rfl rfl (HE.row rfl (by simp) (HE.box rfl rfl (HE.kill rfl (HE.kill rfl HE.nil))))), HE.nil, rfl⟩
end Go.Proofs.YtpadkogpeobboaaGreat.Am
namespace Go.Proofs.YtpadkogpeobboaaGreat.Am
open Go Go.RowKit
theorem F_impl_EventSort (c : Bool) (l : List Ev) (hl : l.length ≤ 1000000000) : Meth Tryz.prog 187 1 [] [rEvs c l] [(0, (0, .dead))] (.ref 0 0) [(0, (0, .row 76 7 ((evSort l).map encEv)))] := by
  refine meth_of_ex ttOK (fn := Tryz.f187) (by kernel_rfl) (by kernel_rfl) rfl (O0 := [.ref 0 0]) 1 8 (Nat.le_of_ble_eq_true rfl) (by rfl) (by repeat (first | exact BndH.nil | refine BndH.dead ?_)) (by repeat (first | exact BndH.nil | refine BndH.row (flatR_map fun _ => rfl) ?_)) (by rfl) fun γ => ?_
  show Ex Tryz.prog _ _ [(0, rEvs c l)] [(0, ((γ 0), .dead)), (8, (0, .dead)), (7, (0, .dead)), (6, (0, .dead)), (5, (0, .dead)), (4, (0, .dead)), (3, (0, .dead)), (2, (0, .dead)), (1, (0, .dead))] _
  refine ex_rs ttOK (by rfl) ?_
  refine rl_assign rfl ?_
  refine ex_rs ttOK (by rfl) ?_
  refine rl_build tt_255 rfl za_255 rfl (by simp only [pI, tt_177, T177, tt_253, T253, fillA, cellsA, AV.okc, AV.one, Value.oneCell', List.map_cons, List.map_nil, List.getElem?_cons_zero, List.getElem?_cons_succ, List.take_succ_cons, List.take_zero, List.drop_succ_cons, List.drop_zero, List.cons_append, List.nil_append, List.length_cons, List.length_nil, if_true, and_self, Nat.reduceAdd, Nat.reduceLeDiff]; rfl) ?_
  refine rl_alloc (id := 1) tt_255 za_255 rfl ?_
  refine rl_storeA rfl rfl tt_255 rfl rfl rfl rfl ?_
  refine ex_rs ttOK (by rfl) ?_
  refine rl_makeMap (id := 2) rfl ?_
  refine rl_assign rfl ?_
  refine ex_seq_k fun K1 hK1 => ?_
  refine ex_rs ttOK (by rfl) ?_
  refine rl_move rfl ?_
  refine rl_lenm rfl tt_24 rfl ?_
  refine rl_move rfl ?_
  refine ex_block ?_
  refine ex_nilB 1 0 7 179 7 rfl rfl rfl rfl rfl ?_
  refine ex_loopK (ι := Nat) (fun i γ1 => [(15, .pv (.int .i64 (i : Int)))]) (fun i γ1 => [(7, ((γ1 7), .row 179 7 ((hfill evLt (evOnce (l.take i))).map encEv))), (1, ((0 + 1), .box 255 [.ref 7 (γ1 7), .fn (.func 146) [] []])), (2, ((0 + 1), .map (evMap (l.take i)))), (3, ((γ1 3), .dead)), (4, ((γ1 4), .dead))]) (fun i => i ≤ l.length) (fun i => l.length - i) (Cov.cons (t := 3) rfl (Cov.cons (t := 4) rfl (Cov.cons (t := 13) rfl (Cov.cons (t := 14) rfl Cov.nil)))) (HE.same (id := 0) rfl (HE.same (id := 5) rfl (HE.same (id := 6) rfl (HE.same (id := 8) rfl HE.nil)))) 0 (by omega) [0, 0, 0, _, _, 0, 0, _] (Cov.cons (t := 15) rfl Cov.nil) (HE.row rfl (by rw [List.take_zero]; try rfl) (HE.box rfl rfl (HE.map rfl (by rw [List.take_zero]; try rfl) (HE.kill rfl (HE.kill rfl HE.nil))))) rfl fun i γ1 hi => ?_
  try dsimp only [List.cons_append, List.nil_append]
  refine ex_rs ttOK (by rfl) ?_
  refine rl_bin rfl rfl rfl ?_
  refine ex_seq_k fun K2 hK2 => ?_
  refine ex_cond rfl (fun hc3 => ?_) (fun hc3 => ?_)
  rotate_left
  · try simp at hc3
    obtain rfl : i = l.length := by omega
    obtain ⟨H, hH⟩ : ∃ H, H = hfill evLt (evOnce (l.take l.length)) := ⟨_, rfl⟩
    rw [← hH]
    have hhl : H.length ≤ 1000000000 := by rw [hH, hfill_len]; exact Nat.le_trans (evOnce_len _) (by rw [List.length_take]; omega)
    refine ex_exit ?_
    refine hK1 _ _ ?_
    clear hK2 K2 hK1 K1
    refine ex_rs ttOK (by rfl) ?_
    refine rl_fieldAddr rfl tt_255 rfl rfl tt_253 rfl rfl ?_
    refine rl_load_ptr rfl tt_253 rfl rfl ?_
    refine rl_lenr rfl tt_253 rfl rfl (by exact List.length_map _) ?_
    refine rl_make0 ttOK (id := 0) tt_24 rfl tt_76 rfl rfl (by (simp only [List.length_map, List.length_append, List.length_cons, List.length_nil, T76]; omega)) (by (unfold maxLen; omega)) rfl ?_
    refine rl_assign rfl ?_
    refine ex_seq_k fun K6 hK6 => ?_
    refine ex_rs ttOK (by rfl) ?_
    refine rl_meth [1, 7] [_, _] (F_impl_heap_impl_eventKey_drain _ hhl) rfl rfl rfl (by decide) rfl rfl (by repeat (first | exact InH.nil | refine InH.cons rfl ?_)) (by (simp only [pI, List.map_cons, List.map_nil, insAll, insEnc, gl, nx, memN, Nat.beq, Nat.add_eq, List.getD_cons_zero, List.getD_cons_succ, List.getD_nil, Bool.or_false, Bool.false_or, Bool.true_or, Bool.or_true, Nat.add_zero, Nat.zero_add]; rfl)) (by (simp only [pI, List.map_cons, List.map_nil, insAll, insEnc, gl, nx, memN, Nat.beq, Nat.add_eq, List.getD_cons_zero, List.getD_cons_succ, List.getD_nil, Bool.or_false, Bool.false_or, Bool.true_or, Bool.or_true, Nat.add_zero, Nat.zero_add]; rfl)) ?_
    refine rl_lenm rfl tt_253 rfl ?_
    refine rl_move rfl ?_
    refine ex_block ?_
    obtain ⟨D, hD⟩ : ∃ D, D = hdrain evLt H.length H := ⟨_, rfl⟩
    rw [← hD]
    have hDl : D.length ≤ 1000000000 := Nat.le_trans (by rw [hD]; exact hdrain_le _ _) hhl
    refine ex_loopK (ι := Nat) (fun i γ3 => [(8, .ref 0 (γ3 0)), (40, .pv (.int .i64 (i : Int)))]) (fun i γ3 => [(0, ((γ3 0), .row 76 7 ((D.take i).map encEv))), (5, ((γ3 5), .dead)), (6, ((γ3 6), .dead)), (7, ((γ3 7), .dead))]) (fun i => i ≤ D.length) (fun i => D.length - i) (Cov.cons (t := 38) rfl (Cov.cons (t := 39) rfl Cov.nil)) (HE.same (id := 1) rfl (HE.same (id := 2) rfl (HE.same (id := 3) rfl (HE.same (id := 4) rfl (HE.same (id := 8) rfl HE.nil))))) 0 (by omega) [_, 0, 0, 0, 0, _, _, _] (Cov.cons (t := 8) rfl (Cov.cons (t := 40) rfl Cov.nil)) (HE.row rfl (by rw [List.take_zero]; try rfl) (HE.kill rfl (HE.kill rfl (HE.kill rfl HE.nil)))) rfl fun i γ3 hi => ?_
    try dsimp only [List.cons_append, List.nil_append]
    refine ex_rs ttOK (by rfl) ?_
    refine rl_bin rfl rfl rfl ?_
    refine ex_seq_k fun K7 hK7 => ?_
    refine ex_cond rfl (fun hc8 => ?_) (fun hc8 => ?_)
    rotate_left
    · try simp at hc8
      refine ex_exit ?_
      refine hK6 _ _ ?_
      clear hK7 K7 hK6 K6
      refine ex_rs ttOK (by rfl) ?_
      refine rl_move rfl ?_
      refine rl_assign rfl ?_
      refine ex_ret ?_
      exact ⟨.inr rfl, [_], rfl, rfl, HE.row rfl (by rw [List.take_of_length_le (by omega), hD, hH, List.take_length, hfill_len, evSort_heap]) HE.nil⟩
    try simp at hc8
    obtain ⟨k1, hk1⟩ : ∃ k1, D[i]? = some k1 := ⟨_, List.getElem?_eq_getElem (by omega)⟩
    have hDi : (D.take i).length ≤ 1000000000 := by rw [List.length_take]; omega
    refine ex_skip ?_
    refine hK7 _ _ ?_
    clear hK7 K7
    refine ex_seq_k fun K9 hK9 => ?_
    refine ex_block ?_
    refine ex_rs ttOK (by rfl) ?_
    refine rl_idxm rfl rfl tt_253 rfl tt_179 rfl (by assumption) ?_
    refine rl_loadA_iel rfl tt_179 rfl rfl ?_
    refine rl_alloc (id := 5) tt_179 za_179 rfl ?_
    refine rl_storeA rfl rfl tt_179 rfl rfl rfl rfl ?_
    refine ex_region ttOK (by rfl) ?_
    refine rl_move rfl ?_
    refine rl_loadA_ptr rfl tt_179 rfl rfl rfl ?_
    refine rl_call rfl rfl rfl (F_impl_eventKey_event ..) ?_
    refine rl_slice1A (id := 6) tt_24 rfl tt_76 rfl rfl rfl rfl rfl rfl ?_
    refine rl_app_rr rfl rfl tt_24 rfl tt_76 rfl rfl rfl rfl (by rfl) (by exact map_snoc _ _ _) (by (simp only [List.length_map, List.length_append, List.length_cons, List.length_nil, T76]; omega)) ?_
    refine rl_assign rfl ?_
    refine hK9 _ _ ?_
    clear hK9 K9
    refine ex_region ttOK (by rfl) ?_
    refine rl_addN (b := 1) rfl rfl (by omega) ?_
    refine rl_move rfl ?_
    exact ⟨i + 1, ⟨by omega, by omega⟩, [_, 0, 0, 0, 0, _, _, _], (Cov.cons (t := 8) rfl (Cov.cons (t := 40) rfl Cov.nil)), (Cov.cons (t := 38) rfl (Cov.cons (t := 39) rfl Cov.nil)), (HE.row rfl (by rw [take_snoc hk1]) (HE.kill rfl (HE.kill rfl (HE.kill rfl HE.nil)))), (HE.same (id := 1) rfl (HE.same (id := 2) rfl (HE.same (id := 3) rfl (HE.same (id := 4) rfl (HE.same (id := 8) rfl HE.nil))))), rfl⟩
  try simp at hc3
  obtain ⟨e, he⟩ : ∃ e, l[i]? = some e := ⟨_, List.getElem?_eq_getElem (by omega)⟩
  have hcnt : (l.take i).count e ≤ 1000000000 := Nat.le_trans List.count_le_length (by rw [List.length_take]; omega)
  refine ex_skip ?_
  refine hK2 _ _ ?_
  clear hK2 K2
  refine ex_seq_k fun K4 hK4 => ?_
  refine ex_block ?_
  refine ex_rs ttOK (by rfl) ?_
  refine rl_idxm rfl rfl tt_24 rfl tt_76 rfl (by assumption) ?_
  refine rl_loadA_iel rfl tt_76 rfl rfl ?_
  refine rl_alloc (id := 3) tt_76 za_76 rfl ?_
  refine rl_storeA rfl rfl tt_76 rfl rfl rfl rfl ?_
  refine ex_rs ttOK (by rfl) ?_
  refine rl_loadA_ptr rfl tt_76 rfl rfl rfl ?_
  refine rl_call rfl rfl rfl (F_impl_keyOf ..) ?_
  refine rl_alloc (id := 4) tt_179 za_179 rfl ?_
  refine rl_storeA rfl rfl tt_179 rfl rfl rfl rfl ?_
  refine ex_cutK (ι := Unit) (fun _i γ2 => []) (fun _i γ2 => [(2, ((0 + 1), .map (evMap (l.take i ++ [e]))))]) (fun _i => True) (Cov.cons (t := 3) rfl (Cov.cons (t := 4) rfl (Cov.cons (t := 7) rfl (Cov.cons (t := 13) rfl (Cov.cons (t := 14) rfl (Cov.cons (t := 15) rfl Cov.nil)))))) (HE.same (id := 0) rfl (HE.same (id := 1) rfl (HE.same (id := 3) rfl (HE.same (id := 4) rfl (HE.same (id := 5) rfl (HE.same (id := 6) rfl (HE.same (id := 7) rfl (HE.same (id := 8) rfl HE.nil)))))))) ?_ fun _i γ2 hi => ?_
  · refine ex_region_tree mixed rfl fun B X0 w0 => ?_
    refine anyS_step ttOK (l := [0, 1]) (by kernel_rfl) (by decide) ?_
    refine .cons rfl rfl rfl ?_ ?_
    · refine rl_move rfl ?_
      refine rl_done ?_
      refine anyS_step ttOK (l := [1]) (by kernel_rfl) (by decide) ?_
      refine .cons rfl rfl rfl ?_ ?_
      · refine rl_loadA_ptr rfl tt_179 rfl rfl rfl ?_
        refine rl_done ?_
        refine anyS_step ttOK (l := [2, 4]) (by kernel_rfl) (by decide) ?_
        refine .cons rfl rfl rfl ?_ ?_
        · refine rl_lookup ttOK (ks := evOnce (l.take i)) (k := e) Tryz.underlying256 evF rfl rfl (fun _ _ _ h => ka_ints h) rfl (evMap_keys (l.take i)) (evMap_look tt_3 rfl (l.take i) e) ?_
          refine rl_done ?_
          refine anyS_step ttOK (l := [3, 4]) (by kernel_rfl) (by decide) ?_
          refine .cons rfl rfl rfl ?_ ?_
          · refine rl_addN (b := 1) rfl rfl (by omega) ?_
            refine rl_done ?_
            refine anyS_step ttOK (l := [4]) (by kernel_rfl) (by decide) ?_
            refine .cons rfl rfl rfl ?_ ?_
            · refine rl_mapEntry ttOK (es' := evMid (l.take i) e) (j := evPos (l.take i) e) (out := pI ((l.take i).count e : Nat)) (ks := evOnce (l.take i)) (k := e) Tryz.underlying256 evF rfl rfl (fun _ _ _ h => ka_ints h) rfl (evMap_keys _) (evMid_entry tt_3 rfl _ _) ?_
              refine rl_done ?_
              refine anyS_step ttOK (l := [5]) (by kernel_rfl) (by decide) ?_
              refine .cons rfl rfl rfl ?_ ?_
              · refine rl_extract rfl rfl ?_
                refine rl_done ?_
                refine anyS_step ttOK (l := [6]) (by kernel_rfl) (by decide) ?_
                refine .cons rfl rfl rfl ?_ ?_
                · refine rl_entryStore (j := evPos (l.take i) e) rfl rfl rfl rfl (evMid_get _ _) (evMid_set _ _) ?_
                  refine rl_done ?_
                  refine anyS_done (by kernel_rfl) ?_
                  exact ⟨(), trivial, [], Cov.nil, (Cov.cons (t := 3) rfl (Cov.cons (t := 4) rfl (Cov.cons (t := 7) rfl (Cov.cons (t := 13) rfl (Cov.cons (t := 14) rfl (Cov.cons (t := 15) rfl Cov.nil)))))), (HE.map rfl rfl HE.nil), (HE.same (id := 0) rfl (HE.same (id := 1) rfl (HE.same (id := 3) rfl (HE.same (id := 4) rfl (HE.same (id := 5) rfl (HE.same (id := 6) rfl (HE.same (id := 7) rfl (HE.same (id := 8) rfl HE.nil)))))))), rfl⟩
                exact .nil
              exact .nil
            exact .nil
          refine .cons rfl rfl rfl ?_ ?_
          · refine rl_mapEntry ttOK (es' := evMid (l.take i) e) (j := evPos (l.take i) e) (out := pI ((l.take i).count e : Nat)) (ks := evOnce (l.take i)) (k := e) Tryz.underlying256 evF rfl rfl (fun _ _ _ h => ka_ints h) rfl (evMap_keys _) (evMid_entry tt_3 rfl _ _) ?_
            refine rl_done ?_
            refine anyS_step ttOK (l := [3, 5]) (by kernel_rfl) (by decide) ?_
            refine .cons rfl rfl rfl ?_ ?_
            · refine rl_addN (b := 1) rfl rfl (by omega) ?_
              refine rl_done ?_
              refine anyS_step ttOK (l := [5]) (by kernel_rfl) (by decide) ?_
              refine .cons rfl rfl rfl ?_ ?_
              · refine rl_extract rfl rfl ?_
                refine rl_done ?_
                refine anyS_step ttOK (l := [6]) (by kernel_rfl) (by decide) ?_
                refine .cons rfl rfl rfl ?_ ?_
                · refine rl_entryStore (j := evPos (l.take i) e) rfl rfl rfl rfl (evMid_get _ _) (evMid_set _ _) ?_
                  refine rl_done ?_
                  refine anyS_done (by kernel_rfl) ?_
                  exact ⟨(), trivial, [], Cov.nil, (Cov.cons (t := 3) rfl (Cov.cons (t := 4) rfl (Cov.cons (t := 7) rfl (Cov.cons (t := 13) rfl (Cov.cons (t := 14) rfl (Cov.cons (t := 15) rfl Cov.nil)))))), (HE.map rfl rfl HE.nil), (HE.same (id := 0) rfl (HE.same (id := 1) rfl (HE.same (id := 3) rfl (HE.same (id := 4) rfl (HE.same (id := 5) rfl (HE.same (id := 6) rfl (HE.same (id := 7) rfl (HE.same (id := 8) rfl HE.nil)))))))), rfl⟩
                exact .nil
              exact .nil
            refine .cons rfl rfl rfl ?_ ?_
            · refine rl_extract rfl rfl ?_
              refine rl_done ?_
              refine anyS_step ttOK (l := [3]) (by kernel_rfl) (by decide) ?_
              refine .cons rfl rfl rfl ?_ ?_
              · refine rl_addN (b := 1) rfl rfl (by omega) ?_
                refine rl_done ?_
                refine anyS_step ttOK (l := [6]) (by kernel_rfl) (by decide) ?_
                refine .cons rfl rfl rfl ?_ ?_
                · refine rl_entryStore (j := evPos (l.take i) e) rfl rfl rfl rfl (evMid_get _ _) (evMid_set _ _) ?_
                  refine rl_done ?_
                  refine anyS_done (by kernel_rfl) ?_
                  exact ⟨(), trivial, [], Cov.nil, (Cov.cons (t := 3) rfl (Cov.cons (t := 4) rfl (Cov.cons (t := 7) rfl (Cov.cons (t := 13) rfl (Cov.cons (t := 14) rfl (Cov.cons (t := 15) rfl Cov.nil)))))), (HE.map rfl rfl HE.nil), (HE.same (id := 0) rfl (HE.same (id := 1) rfl (HE.same (id := 3) rfl (HE.same (id := 4) rfl (HE.same (id := 5) rfl (HE.same (id := 6) rfl (HE.same (id := 7) rfl (HE.same (id := 8) rfl HE.nil)))))))), rfl⟩
                exact .nil
              exact .nil
            exact .nil
          exact .nil
        refine .cons rfl rfl rfl ?_ ?_
        · refine rl_mapEntry ttOK (es' := evMid (l.take i) e) (j := evPos (l.take i) e) (out := pI ((l.take i).count e : Nat)) (ks := evOnce (l.take i)) (k := e) Tryz.underlying256 evF rfl rfl (fun _ _ _ h => ka_ints h) rfl (evMap_keys _) (evMid_entry tt_3 rfl _ _) ?_
          refine rl_done ?_
          refine anyS_step ttOK (l := [2, 5]) (by kernel_rfl) (by decide) ?_
          refine .cons rfl rfl rfl ?_ ?_
          · refine rl_lookup ttOK (ks := evKs (l.take i) e) (k := e) Tryz.underlying256 evF rfl rfl (fun _ _ _ h => ka_ints h) rfl (evMid_keys (l.take i) e) (evMid_look (l.take i) e) ?_
            refine rl_done ?_
            refine anyS_step ttOK (l := [3, 5]) (by kernel_rfl) (by decide) ?_
            refine .cons rfl rfl rfl ?_ ?_
            · refine rl_addN (b := 1) rfl rfl (by omega) ?_
              refine rl_done ?_
              refine anyS_step ttOK (l := [5]) (by kernel_rfl) (by decide) ?_
              refine .cons rfl rfl rfl ?_ ?_
              · refine rl_extract rfl rfl ?_
                refine rl_done ?_
                refine anyS_step ttOK (l := [6]) (by kernel_rfl) (by decide) ?_
                refine .cons rfl rfl rfl ?_ ?_
                · refine rl_entryStore (j := evPos (l.take i) e) rfl rfl rfl rfl (evMid_get _ _) (evMid_set _ _) ?_
                  refine rl_done ?_
                  refine anyS_done (by kernel_rfl) ?_
                  exact ⟨(), trivial, [], Cov.nil, (Cov.cons (t := 3) rfl (Cov.cons (t := 4) rfl (Cov.cons (t := 7) rfl (Cov.cons (t := 13) rfl (Cov.cons (t := 14) rfl (Cov.cons (t := 15) rfl Cov.nil)))))), (HE.map rfl rfl HE.nil), (HE.same (id := 0) rfl (HE.same (id := 1) rfl (HE.same (id := 3) rfl (HE.same (id := 4) rfl (HE.same (id := 5) rfl (HE.same (id := 6) rfl (HE.same (id := 7) rfl (HE.same (id := 8) rfl HE.nil)))))))), rfl⟩
                exact .nil
              exact .nil
            refine .cons rfl rfl rfl ?_ ?_
            · refine rl_extract rfl rfl ?_
              refine rl_done ?_
              refine anyS_step ttOK (l := [3]) (by kernel_rfl) (by decide) ?_
              refine .cons rfl rfl rfl ?_ ?_
              · refine rl_addN (b := 1) rfl rfl (by omega) ?_
                refine rl_done ?_
                refine anyS_step ttOK (l := [6]) (by kernel_rfl) (by decide) ?_
                refine .cons rfl rfl rfl ?_ ?_
                · refine rl_entryStore (j := evPos (l.take i) e) rfl rfl rfl rfl (evMid_get _ _) (evMid_set _ _) ?_
                  refine rl_done ?_
                  refine anyS_done (by kernel_rfl) ?_
                  exact ⟨(), trivial, [], Cov.nil, (Cov.cons (t := 3) rfl (Cov.cons (t := 4) rfl (Cov.cons (t := 7) rfl (Cov.cons (t := 13) rfl (Cov.cons (t := 14) rfl (Cov.cons (t := 15) rfl Cov.nil)))))), (HE.map rfl rfl HE.nil), (HE.same (id := 0) rfl (HE.same (id := 1) rfl (HE.same (id := 3) rfl (HE.same (id := 4) rfl (HE.same (id := 5) rfl (HE.same (id := 6) rfl (HE.same (id := 7) rfl (HE.same (id := 8) rfl HE.nil)))))))), rfl⟩
                exact .nil
              exact .nil
            exact .nil
          refine .cons rfl rfl rfl ?_ ?_
          · refine rl_extract rfl rfl ?_
            refine rl_done ?_
            refine anyS_step ttOK (l := [2]) (by kernel_rfl) (by decide) ?_
            refine .cons rfl rfl rfl ?_ ?_
            · refine rl_lookup ttOK (ks := evKs (l.take i) e) (k := e) Tryz.underlying256 evF rfl rfl (fun _ _ _ h => ka_ints h) rfl (evMid_keys (l.take i) e) (evMid_look (l.take i) e) ?_
              refine rl_done ?_
              refine anyS_step ttOK (l := [3]) (by kernel_rfl) (by decide) ?_
              refine .cons rfl rfl rfl ?_ ?_
              · refine rl_addN (b := 1) rfl rfl (by omega) ?_
                refine rl_done ?_
                refine anyS_step ttOK (l := [6]) (by kernel_rfl) (by decide) ?_
                refine .cons rfl rfl rfl ?_ ?_
                · refine rl_entryStore (j := evPos (l.take i) e) rfl rfl rfl rfl (evMid_get _ _) (evMid_set _ _) ?_
                  refine rl_done ?_
                  refine anyS_done (by kernel_rfl) ?_
                  exact ⟨(), trivial, [], Cov.nil, (Cov.cons (t := 3) rfl (Cov.cons (t := 4) rfl (Cov.cons (t := 7) rfl (Cov.cons (t := 13) rfl (Cov.cons (t := 14) rfl (Cov.cons (t := 15) rfl Cov.nil)))))), (HE.map rfl rfl HE.nil), (HE.same (id := 0) rfl (HE.same (id := 1) rfl (HE.same (id := 3) rfl (HE.same (id := 4) rfl (HE.same (id := 5) rfl (HE.same (id := 6) rfl (HE.same (id := 7) rfl (HE.same (id := 8) rfl HE.nil)))))))), rfl⟩
                exact .nil
              exact .nil
            exact .nil
          exact .nil
        exact .nil
      exact .nil
    refine .cons rfl rfl rfl ?_ ?_
    · refine rl_loadA_ptr rfl tt_179 rfl rfl rfl ?_
      refine rl_done ?_
      refine anyS_step ttOK (l := [0]) (by kernel_rfl) (by decide) ?_
      refine .cons rfl rfl rfl ?_ ?_
      · refine rl_move rfl ?_
        refine rl_done ?_
        refine anyS_step ttOK (l := [2, 4]) (by kernel_rfl) (by decide) ?_
        refine .cons rfl rfl rfl ?_ ?_
        · refine rl_lookup ttOK (ks := evOnce (l.take i)) (k := e) Tryz.underlying256 evF rfl rfl (fun _ _ _ h => ka_ints h) rfl (evMap_keys (l.take i)) (evMap_look tt_3 rfl (l.take i) e) ?_
          refine rl_done ?_
          refine anyS_step ttOK (l := [3, 4]) (by kernel_rfl) (by decide) ?_
          refine .cons rfl rfl rfl ?_ ?_
          · refine rl_addN (b := 1) rfl rfl (by omega) ?_
            refine rl_done ?_
            refine anyS_step ttOK (l := [4]) (by kernel_rfl) (by decide) ?_
            refine .cons rfl rfl rfl ?_ ?_
            · refine rl_mapEntry ttOK (es' := evMid (l.take i) e) (j := evPos (l.take i) e) (out := pI ((l.take i).count e : Nat)) (ks := evOnce (l.take i)) (k := e) Tryz.underlying256 evF rfl rfl (fun _ _ _ h => ka_ints h) rfl (evMap_keys _) (evMid_entry tt_3 rfl _ _) ?_
              refine rl_done ?_
              refine anyS_step ttOK (l := [5]) (by kernel_rfl) (by decide) ?_
              refine .cons rfl rfl rfl ?_ ?_
              · refine rl_extract rfl rfl ?_
                refine rl_done ?_
                refine anyS_step ttOK (l := [6]) (by kernel_rfl) (by decide) ?_
                refine .cons rfl rfl rfl ?_ ?_
                · refine rl_entryStore (j := evPos (l.take i) e) rfl rfl rfl rfl (evMid_get _ _) (evMid_set _ _) ?_
                  refine rl_done ?_
                  refine anyS_done (by kernel_rfl) ?_
                  exact ⟨(), trivial, [], Cov.nil, (Cov.cons (t := 3) rfl (Cov.cons (t := 4) rfl (Cov.cons (t := 7) rfl (Cov.cons (t := 13) rfl (Cov.cons (t := 14) rfl (Cov.cons (t := 15) rfl Cov.nil)))))), (HE.map rfl rfl HE.nil), (HE.same (id := 0) rfl (HE.same (id := 1) rfl (HE.same (id := 3) rfl (HE.same (id := 4) rfl (HE.same (id := 5) rfl (HE.same (id := 6) rfl (HE.same (id := 7) rfl (HE.same (id := 8) rfl HE.nil)))))))), rfl⟩
                exact .nil
              exact .nil
            exact .nil
          refine .cons rfl rfl rfl ?_ ?_
          · refine rl_mapEntry ttOK (es' := evMid (l.take i) e) (j := evPos (l.take i) e) (out := pI ((l.take i).count e : Nat)) (ks := evOnce (l.take i)) (k := e) Tryz.underlying256 evF rfl rfl (fun _ _ _ h => ka_ints h) rfl (evMap_keys _) (evMid_entry tt_3 rfl _ _) ?_
            refine rl_done ?_
            refine anyS_step ttOK (l := [3, 5]) (by kernel_rfl) (by decide) ?_
            refine .cons rfl rfl rfl ?_ ?_
            · refine rl_addN (b := 1) rfl rfl (by omega) ?_
              refine rl_done ?_
              refine anyS_step ttOK (l := [5]) (by kernel_rfl) (by decide) ?_
              refine .cons rfl rfl rfl ?_ ?_
              · refine rl_extract rfl rfl ?_
                refine rl_done ?_
                refine anyS_step ttOK (l := [6]) (by kernel_rfl) (by decide) ?_
                refine .cons rfl rfl rfl ?_ ?_
                · refine rl_entryStore (j := evPos (l.take i) e) rfl rfl rfl rfl (evMid_get _ _) (evMid_set _ _) ?_
                  refine rl_done ?_
                  refine anyS_done (by kernel_rfl) ?_
                  exact ⟨(), trivial, [], Cov.nil, (Cov.cons (t := 3) rfl (Cov.cons (t := 4) rfl (Cov.cons (t := 7) rfl (Cov.cons (t := 13) rfl (Cov.cons (t := 14) rfl (Cov.cons (t := 15) rfl Cov.nil)))))), (HE.map rfl rfl HE.nil), (HE.same (id := 0) rfl (HE.same (id := 1) rfl (HE.same (id := 3) rfl (HE.same (id := 4) rfl (HE.same (id := 5) rfl (HE.same (id := 6) rfl (HE.same (id := 7) rfl (HE.same (id := 8) rfl HE.nil)))))))), rfl⟩
                exact .nil
              exact .nil
            refine .cons rfl rfl rfl ?_ ?_
            · refine rl_extract rfl rfl ?_
              refine rl_done ?_
              refine anyS_step ttOK (l := [3]) (by kernel_rfl) (by decide) ?_
              refine .cons rfl rfl rfl ?_ ?_
              · refine rl_addN (b := 1) rfl rfl (by omega) ?_
                refine rl_done ?_
                refine anyS_step ttOK (l := [6]) (by kernel_rfl) (by decide) ?_
                refine .cons rfl rfl rfl ?_ ?_
                · refine rl_entryStore (j := evPos (l.take i) e) rfl rfl rfl rfl (evMid_get _ _) (evMid_set _ _) ?_
                  refine rl_done ?_
                  refine anyS_done (by kernel_rfl) ?_
                  exact ⟨(), trivial, [], Cov.nil, (Cov.cons (t := 3) rfl (Cov.cons (t := 4) rfl (Cov.cons (t := 7) rfl (Cov.cons (t := 13) rfl (Cov.cons (t := 14) rfl (Cov.cons (t := 15) rfl Cov.nil)))))), (HE.map rfl rfl HE.nil), (HE.same (id := 0) rfl (HE.same (id := 1) rfl (HE.same (id := 3) rfl (HE.same (id := 4) rfl (HE.same (id := 5) rfl (HE.same (id := 6) rfl (HE.same (id := 7) rfl (HE.same (id := 8) rfl HE.nil)))))))), rfl⟩
                exact .nil
              exact .nil
            exact .nil
          exact .nil
        refine .cons rfl rfl rfl ?_ ?_
        · refine rl_mapEntry ttOK (es' := evMid (l.take i) e) (j := evPos (l.take i) e) (out := pI ((l.take i).count e : Nat)) (ks := evOnce (l.take i)) (k := e) Tryz.underlying256 evF rfl rfl (fun _ _ _ h => ka_ints h) rfl (evMap_keys _) (evMid_entry tt_3 rfl _ _) ?_
          refine rl_done ?_
          refine anyS_step ttOK (l := [2, 5]) (by kernel_rfl) (by decide) ?_
          refine .cons rfl rfl rfl ?_ ?_
          · refine rl_lookup ttOK (ks := evKs (l.take i) e) (k := e) Tryz.underlying256 evF rfl rfl (fun _ _ _ h => ka_ints h) rfl (evMid_keys (l.take i) e) (evMid_look (l.take i) e) ?_
            refine rl_done ?_
            refine anyS_step ttOK (l := [3, 5]) (by kernel_rfl) (by decide) ?_
            refine .cons rfl rfl rfl ?_ ?_
            · refine rl_addN (b := 1) rfl rfl (by omega) ?_
              refine rl_done ?_
              refine anyS_step ttOK (l := [5]) (by kernel_rfl) (by decide) ?_
              refine .cons rfl rfl rfl ?_ ?_
              · refine rl_extract rfl rfl ?_
                refine rl_done ?_
                refine anyS_step ttOK (l := [6]) (by kernel_rfl) (by decide) ?_
                refine .cons rfl rfl rfl ?_ ?_
                · refine rl_entryStore (j := evPos (l.take i) e) rfl rfl rfl rfl (evMid_get _ _) (evMid_set _ _) ?_
                  refine rl_done ?_
                  refine anyS_done (by kernel_rfl) ?_
                  exact ⟨(), trivial, [], Cov.nil, (Cov.cons (t := 3) rfl (Cov.cons (t := 4) rfl (Cov.cons (t := 7) rfl (Cov.cons (t := 13) rfl (Cov.cons (t := 14) rfl (Cov.cons (t := 15) rfl Cov.nil)))))), (HE.map rfl rfl HE.nil), (HE.same (id := 0) rfl (HE.same (id := 1) rfl (HE.same (id := 3) rfl (HE.same (id := 4) rfl (HE.same (id := 5) rfl (HE.same (id := 6) rfl (HE.same (id := 7) rfl (HE.same (id := 8) rfl HE.nil)))))))), rfl⟩
                exact .nil
              exact .nil
            refine .cons rfl rfl rfl ?_ ?_
            · refine rl_extract rfl rfl ?_
              refine rl_done ?_
              refine anyS_step ttOK (l := [3]) (by kernel_rfl) (by decide) ?_
              refine .cons rfl rfl rfl ?_ ?_
              · refine rl_addN (b := 1) rfl rfl (by omega) ?_
                refine rl_done ?_
                refine anyS_step ttOK (l := [6]) (by kernel_rfl) (by decide) ?_
                refine .cons rfl rfl rfl ?_ ?_
                · refine rl_entryStore (j := evPos (l.take i) e) rfl rfl rfl rfl (evMid_get _ _) (evMid_set _ _) ?_
                  refine rl_done ?_
                  refine anyS_done (by kernel_rfl) ?_
                  exact ⟨(), trivial, [], Cov.nil, (Cov.cons (t := 3) rfl (Cov.cons (t := 4) rfl (Cov.cons (t := 7) rfl (Cov.cons (t := 13) rfl (Cov.cons (t := 14) rfl (Cov.cons (t := 15) rfl Cov.nil)))))), (HE.map rfl rfl HE.nil), (HE.same (id := 0) rfl (HE.same (id := 1) rfl (HE.same (id := 3) rfl (HE.same (id := 4) rfl (HE.same (id := 5) rfl (HE.same (id := 6) rfl (HE.same (id := 7) rfl (HE.same (id := 8) rfl HE.nil)))))))), rfl⟩
                exact .nil
              exact .nil
            exact .nil
          refine .cons rfl rfl rfl ?_ ?_
          · refine rl_extract rfl rfl ?_
            refine rl_done ?_
            refine anyS_step ttOK (l := [2]) (by kernel_rfl) (by decide) ?_
            refine .cons rfl rfl rfl ?_ ?_
            · refine rl_lookup ttOK (ks := evKs (l.take i) e) (k := e) Tryz.underlying256 evF rfl rfl (fun _ _ _ h => ka_ints h) rfl (evMid_keys (l.take i) e) (evMid_look (l.take i) e) ?_
              refine rl_done ?_
              refine anyS_step ttOK (l := [3]) (by kernel_rfl) (by decide) ?_
              refine .cons rfl rfl rfl ?_ ?_
              · refine rl_addN (b := 1) rfl rfl (by omega) ?_
                refine rl_done ?_
                refine anyS_step ttOK (l := [6]) (by kernel_rfl) (by decide) ?_
                refine .cons rfl rfl rfl ?_ ?_
                · refine rl_entryStore (j := evPos (l.take i) e) rfl rfl rfl rfl (evMid_get _ _) (evMid_set _ _) ?_
                  refine rl_done ?_
                  refine anyS_done (by kernel_rfl) ?_
                  exact ⟨(), trivial, [], Cov.nil, (Cov.cons (t := 3) rfl (Cov.cons (t := 4) rfl (Cov.cons (t := 7) rfl (Cov.cons (t := 13) rfl (Cov.cons (t := 14) rfl (Cov.cons (t := 15) rfl Cov.nil)))))), (HE.map rfl rfl HE.nil), (HE.same (id := 0) rfl (HE.same (id := 1) rfl (HE.same (id := 3) rfl (HE.same (id := 4) rfl (HE.same (id := 5) rfl (HE.same (id := 6) rfl (HE.same (id := 7) rfl (HE.same (id := 8) rfl HE.nil)))))))), rfl⟩
                exact .nil
              exact .nil
            exact .nil
          exact .nil
        exact .nil
      exact .nil
    exact .nil
  · try dsimp only [List.cons_append, List.nil_append]
    refine ex_rs ttOK (by rfl) ?_
    refine rl_move rfl ?_
    refine rl_loadA_ptr rfl tt_179 rfl rfl rfl ?_
    refine rl_lookup ttOK (ks := evOnce (l.take i ++ [e])) (k := e) Tryz.underlying256 evF rfl rfl (fun _ _ _ h => ka_ints h) rfl (evMap_keys (l.take i ++ [e])) (evMap_look tt_3 rfl (l.take i ++ [e]) e) ?_
    refine rl_bin rfl rfl rfl ?_
    refine ex_cond rfl (fun hc5 => ?_) (fun hc5 => ?_)
    rotate_left
    · try simp at hc5
      have hq : ¬ (l.take i ++ [e]).count e = 1 := by (have := hc5; simp at this ⊢; omega)
      refine ex_skip ?_
      refine hK4 _ _ ?_
      clear hK4 K4
      refine ex_region ttOK (by rfl) ?_
      refine rl_addN (b := 1) rfl rfl (by omega) ?_
      refine rl_move rfl ?_
      exact ⟨i + 1, ⟨by omega, by omega⟩, [0, 0, 0, _, _, 0, 0, _], (Cov.cons (t := 15) rfl Cov.nil), (Cov.cons (t := 3) rfl (Cov.cons (t := 4) rfl (Cov.cons (t := 13) rfl (Cov.cons (t := 14) rfl Cov.nil)))), (HE.row rfl (by rw [take_snoc he, evOnce_same hq]) (HE.box rfl rfl (HE.map rfl (by rw [take_snoc he]) (HE.kill rfl (HE.kill rfl HE.nil))))), (HE.same (id := 0) rfl (HE.same (id := 5) rfl (HE.same (id := 6) rfl (HE.same (id := 8) rfl HE.nil)))), rfl⟩
    try simp at hc5
    have hq : (l.take i ++ [e]).count e = 1 := by (have := hc5; simp at this ⊢; omega)
    have hpl : (hfill evLt (evOnce (l.take i))).length ≤ 1000000000 := by rw [hfill_len]; exact Nat.le_trans (evOnce_len _) (by rw [List.length_take]; omega)
    refine ex_region ttOK (by rfl) ?_
    refine rl_loadA_ptr rfl tt_179 rfl rfl rfl ?_
    refine rl_meth [1, 7] [_, _] (F_impl_heap_impl_eventKey_push _ e hpl) rfl rfl rfl (by decide) rfl rfl (by repeat (first | exact InH.nil | refine InH.cons rfl ?_)) (by (simp only [pI, List.map_cons, List.map_nil, insAll, insEnc, gl, nx, memN, Nat.beq, Nat.add_eq, List.getD_cons_zero, List.getD_cons_succ, List.getD_nil, Bool.or_false, Bool.false_or, Bool.true_or, Bool.or_true, Nat.add_zero, Nat.zero_add]; rfl)) (by (simp only [pI, List.map_cons, List.map_nil, insAll, insEnc, gl, nx, memN, Nat.beq, Nat.add_eq, List.getD_cons_zero, List.getD_cons_succ, List.getD_nil, Bool.or_false, Bool.false_or, Bool.true_or, Bool.or_true, Nat.add_zero, Nat.zero_add]; rfl)) ?_
    refine hK4 _ _ ?_
    clear hK4 K4
    refine ex_region ttOK (by rfl) ?_
    refine rl_addN (b := 1) rfl rfl (by omega) ?_
    refine rl_move rfl ?_
    exact ⟨i + 1, ⟨by omega, by omega⟩, [0, 0, 0, _, _, 0, 0, _], (Cov.cons (t := 15) rfl Cov.nil), (Cov.cons (t := 3) rfl (Cov.cons (t := 4) rfl (Cov.cons (t := 13) rfl (Cov.cons (t := 14) rfl Cov.nil)))), (HE.row rfl (by rw [take_snoc he, evOnce_push hq]) (HE.box rfl rfl (HE.map rfl (by rw [take_snoc he]) (HE.kill rfl (HE.kill rfl HE.nil))))), (HE.same (id := 0) rfl (HE.same (id := 5) rfl (HE.same (id := 6) rfl (HE.same (id := 8) rfl HE.nil)))), rfl⟩
end Go.Proofs.YtpadkogpeobboaaGreat.Am
namespace Go.Proofs.YtpadkogpeobboaaGreat.Am
open Go Go.RowKit
theorem F_slices_Clone_impl_Event_impl_Event_cons (c : Bool) (a : Ev) (l : List Ev) (hl : (a :: l).length ≤ 10000000) : Meth Tryz.prog 172 1 [] [rEvs c (a :: l)] [(0, (0, .dead))] (.ref 0 0) [(0, (0, .row 76 7 ((a :: l).map encEv)))] := by
  refine meth_of_ex ttOK (fn := Tryz.f172) (by kernel_rfl) (by kernel_rfl) rfl (O0 := [.ref 0 0]) 1 1 (Nat.le_of_ble_eq_true rfl) (by rfl) (by repeat (first | exact BndH.nil | refine BndH.dead ?_)) (by repeat (first | exact BndH.nil | refine BndH.row (flatR_map fun _ => rfl) ?_)) (by rfl) fun γ => ?_
  show Ex Tryz.prog _ _ [(0, rEvs c (a :: l))] [(0, ((γ 0), .dead)), (1, (0, .dead))] _
  refine ex_rs ttOK (by rfl) ?_
  refine rl_assign rfl ?_
  refine ex_seq_k fun K1 hK1 => ?_
  refine ex_rs ttOK (by rfl) ?_
  refine rl_move rfl ?_
  refine rl_eq rfl rfl (by (intro p q h; cases h)) (.inl rfl) (eqA_row Tryz.underlying24 _ _ (by simp)) ?_
  refine ex_cond rfl (fun hc2 => ?_) (fun hc2 => ?_)
  · simp [litOp] at hc2
  try simp at hc2
  refine ex_skip ?_
  refine hK1 _ _ ?_
  clear hK1 K1
  refine ex_rs ttOK (by rfl) ?_
  refine rl_slice0 (id := 0) tt_24 rfl tt_76 rfl ?_
  refine rl_move rfl ?_
  refine rl_app_rd (zs := (a :: l).map encEv) rfl rfl tt_24 rfl tt_76 rfl rfl rfl (by exact noow_map (fun _ => rfl) _) rfl (by (simp only [List.length_map, List.length_append, List.length_cons, List.length_nil, List.length_take, T76] at *; omega)) ?_
  refine rl_assign rfl ?_
  refine ex_ret ?_
  exact ⟨.inr rfl, [_], rfl, rfl, HE.row rfl rfl HE.nil⟩
theorem F_slices_Clone_impl_Event_impl_Event_nil (c : Bool) : Meth Tryz.prog 172 1 [] [rEvs c []] [(0, (0, .dead))] (.ref 0 0) [(0, (0, .row 76 7 (([] : List Ev).map encEv)))] := by
  refine meth_of_ex ttOK (fn := Tryz.f172) (by kernel_rfl) (by kernel_rfl) rfl (O0 := [.ref 0 0]) 1 1 (Nat.le_of_ble_eq_true rfl) (by rfl) (by repeat (first | exact BndH.nil | refine BndH.dead ?_)) (by repeat (first | exact BndH.nil | refine BndH.row (flatR_map fun _ => rfl) ?_)) (by rfl) fun γ => ?_
  show Ex Tryz.prog _ _ [(0, rEvs c [])] [(0, ((γ 0), .dead)), (1, (0, .dead))] _
  refine ex_caseE 0 rfl fun A0 cap hcap => ?_
  refine ex_rs ttOK (by rfl) ?_
  refine rl_assign rfl ?_
  refine ex_seq_k fun K1 hK1 => ?_
  refine ex_rs ttOK (by rfl) ?_
  refine rl_move rfl ?_
  refine rl_eq rfl rfl (by (intro p q h h2; cases h; cases h2; rfl)) (.inl rfl) (eqA_slice Tryz.underlying24 _ _ _ _ _) ?_
  refine ex_cond rfl (fun hc2 => ?_) (fun hc2 => ?_)
  · try simp at hc2
    refine ex_rs ttOK (by rfl) ?_
    refine rl_assign rfl ?_
    refine ex_nilref 2 0 76 7 rfl rfl ?_
    refine ex_ret ?_
    exact ⟨.inr rfl, [_], rfl, rfl, HE.row rfl rfl HE.nil⟩
  try simp at hc2
  refine ex_skip ?_
  refine hK1 _ _ ?_
  clear hK1 K1
  refine ex_reE 0 76 7 rfl hcap ?_
  refine ex_rs ttOK (by rfl) ?_
  refine rl_slice0 (id := 0) tt_24 rfl tt_76 rfl ?_
  refine rl_move rfl ?_
  refine rl_app_rd (zs := ([] : List Ev).map encEv) rfl rfl tt_24 rfl tt_76 rfl rfl rfl (by rfl) rfl (by (simp only [List.length_map, List.length_append, List.length_cons, List.length_nil, List.length_take, T76] at *; omega)) ?_
  refine rl_assign rfl ?_
  refine ex_ret ?_
  exact ⟨.inr rfl, [_], rfl, rfl, HE.row rfl rfl HE.nil⟩
theorem F_slices_Clone_impl_Event_impl_Event (c : Bool) (l : List Ev) (hl : l.length ≤ 10000000) : Meth Tryz.prog 172 1 [] [rEvs c l] [(0, (0, .dead))] (.ref 0 0) [(0, (0, .row 76 7 (l.map encEv)))] := by
  cases l with
  | nil => exact F_slices_Clone_impl_Event_impl_Event_nil c
  | cons a l => exact F_slices_Clone_impl_Event_impl_Event_cons c a l hl
theorem F_slices_Clone_impl_Out_impl_Out_cons (c : Bool) (a : Ou) (l : List Ou) (hl : (a :: l).length ≤ 10000000) : Meth Tryz.prog 106 1 [] [rOus c (a :: l)] [(0, (0, .dead))] (.ref 0 0) [(0, (0, .row 104 5 ((a :: l).map encOu)))] := by
  refine meth_of_ex ttOK (fn := Tryz.f106) (by kernel_rfl) (by kernel_rfl) rfl (O0 := [.ref 0 0]) 1 1 (Nat.le_of_ble_eq_true rfl) (by rfl) (by repeat (first | exact BndH.nil | refine BndH.dead ?_)) (by repeat (first | exact BndH.nil | refine BndH.row (flatR_map fun _ => rfl) ?_)) (by rfl) fun γ => ?_
  show Ex Tryz.prog _ _ [(0, rOus c (a :: l))] [(0, ((γ 0), .dead)), (1, (0, .dead))] _
  refine ex_rs ttOK (by rfl) ?_
  refine rl_assign rfl ?_
  refine ex_seq_k fun K1 hK1 => ?_
  refine ex_rs ttOK (by rfl) ?_
  refine rl_move rfl ?_
  refine rl_eq rfl rfl (by (intro p q h; cases h)) (.inl rfl) (eqA_row Tryz.underlying25 _ _ (by simp)) ?_
  refine ex_cond rfl (fun hc2 => ?_) (fun hc2 => ?_)
  · simp [litOp] at hc2
  try simp at hc2
  refine ex_skip ?_
  refine hK1 _ _ ?_
  clear hK1 K1
  refine ex_rs ttOK (by rfl) ?_
  refine rl_slice0 (id := 0) tt_25 rfl tt_104 rfl ?_
  refine rl_move rfl ?_
  refine rl_app_rd (zs := (a :: l).map encOu) rfl rfl tt_25 rfl tt_104 rfl rfl rfl (by exact noow_map (fun _ => rfl) _) rfl (by (simp only [List.length_map, List.length_append, List.length_cons, List.length_nil, List.length_take, T104] at *; omega)) ?_
  refine rl_assign rfl ?_
  refine ex_ret ?_
  exact ⟨.inr rfl, [_], rfl, rfl, HE.row rfl rfl HE.nil⟩
theorem F_slices_Clone_impl_Out_impl_Out_nil (c : Bool) : Meth Tryz.prog 106 1 [] [rOus c []] [(0, (0, .dead))] (.ref 0 0) [(0, (0, .row 104 5 (([] : List Ou).map encOu)))] := by
  refine meth_of_ex ttOK (fn := Tryz.f106) (by kernel_rfl) (by kernel_rfl) rfl (O0 := [.ref 0 0]) 1 1 (Nat.le_of_ble_eq_true rfl) (by rfl) (by repeat (first | exact BndH.nil | refine BndH.dead ?_)) (by repeat (first | exact BndH.nil | refine BndH.row (flatR_map fun _ => rfl) ?_)) (by rfl) fun γ => ?_
  show Ex Tryz.prog _ _ [(0, rOus c [])] [(0, ((γ 0), .dead)), (1, (0, .dead))] _
  refine ex_caseE 0 rfl fun A0 cap hcap => ?_
  refine ex_rs ttOK (by rfl) ?_
  refine rl_assign rfl ?_
  refine ex_seq_k fun K1 hK1 => ?_
  refine ex_rs ttOK (by rfl) ?_
  refine rl_move rfl ?_
  refine rl_eq rfl rfl (by (intro p q h h2; cases h; cases h2; rfl)) (.inl rfl) (eqA_slice Tryz.underlying25 _ _ _ _ _) ?_
  refine ex_cond rfl (fun hc2 => ?_) (fun hc2 => ?_)
  · try simp at hc2
    refine ex_rs ttOK (by rfl) ?_
    refine rl_assign rfl ?_
    refine ex_nilref 2 0 104 5 rfl rfl ?_
    refine ex_ret ?_
    exact ⟨.inr rfl, [_], rfl, rfl, HE.row rfl rfl HE.nil⟩
  try simp at hc2
  refine ex_skip ?_
  refine hK1 _ _ ?_
  clear hK1 K1
  refine ex_reE 0 104 5 rfl hcap ?_
  refine ex_rs ttOK (by rfl) ?_
  refine rl_slice0 (id := 0) tt_25 rfl tt_104 rfl ?_
  refine rl_move rfl ?_
  refine rl_app_rd (zs := ([] : List Ou).map encOu) rfl rfl tt_25 rfl tt_104 rfl rfl rfl (by rfl) rfl (by (simp only [List.length_map, List.length_append, List.length_cons, List.length_nil, List.length_take, T76] at *; omega)) ?_
  refine rl_assign rfl ?_
  refine ex_ret ?_
  exact ⟨.inr rfl, [_], rfl, rfl, HE.row rfl rfl HE.nil⟩
theorem F_slices_Clone_impl_Out_impl_Out (c : Bool) (l : List Ou) (hl : l.length ≤ 10000000) : Meth Tryz.prog 106 1 [] [rOus c l] [(0, (0, .dead))] (.ref 0 0) [(0, (0, .row 104 5 (l.map encOu)))] := by
  cases l with
  | nil => exact F_slices_Clone_impl_Out_impl_Out_nil c
  | cons a l => exact F_slices_Clone_impl_Out_impl_Out_cons c a l hl
end Go.Proofs.YtpadkogpeobboaaGreat.Am
namespace Go.Proofs.YtpadkogpeobboaaGreat.Am
open Go Go.RowKit
def vmap (c : Bool) (vs : List Vi) : List (Value × AV) := vs.zipIdx.map fun p => (.int .i64 (p.2 : Int), .agg (encVi c p.1))
def vkeys (n : Nat) : List Int := (List.range n).map fun (i : Nat) => (i : Int)
theorem vmap_at {c : Bool} {vs : List Vi} {i : Nat} {v : Vi} (h : vs[i]? = some v) : (vmap c vs)[i]? = some (.int .i64 (i : Int), .agg (encVi c v)) := by
  rw [vmap, List.getElem?_map, List.getElem?_zipIdx, h]; simp
theorem vmap_keys (c : Bool) (vs : List Vi) : (vmap c vs).map (·.1) = (vkeys vs.length).map fun n => Value.int .i64 n := by
  apply List.ext_getElem?
  intro i
  simp only [vmap, vkeys, List.getElem?_map, List.getElem?_zipIdx, List.getElem?_range]
  by_cases h : i < vs.length
  · simp [h]
  · rw [List.getElem?_eq_none (by omega : vs.length ≤ i)]; simp [h]
theorem vkeys_at {n i : Nat} (h : i < n) : kIdx (vkeys n) (i : Int) = some i := by
  obtain ⟨j, hj⟩ := kIdx_some (k := (i : Int)) (ks := vkeys n) (List.mem_map.2 ⟨i, List.mem_range.2 h, rfl⟩)
  have := kIdx_lt hj
  simp only [vkeys, List.getElem?_map] at this
  cases hr : (List.range n)[j]? with
  | none => rw [hr] at this; cases this
  | some k =>
    rw [hr] at this
    obtain ⟨q1, q2⟩ := List.getElem?_eq_some_iff.1 hr
    simp only [List.getElem_range] at q2
    simp only [Option.map_some, Option.some.injEq] at this
    have : j = i := by omega
    rw [hj, this]
theorem vkeys_no (n : Nat) : kIdx (vkeys n) (n : Int) = none := kIdx_none.2 fun h => by
  obtain ⟨k, h1, h2⟩ := List.mem_map.1 h
  rw [List.mem_range] at h1
  omega
theorem vmap_snoc (c : Bool) (vs : List Vi) (v : Vi) : vmap c (vs ++ [v]) = vmap c vs ++ [(.int .i64 (vs.length : Int), .agg (encVi c v))] := by
  simp [vmap, List.zipIdx_append]
theorem vmap_look {tt : TT} {et : TypeId} {c : Bool} {vs : List Vi} {i : Nat} {v : Vi} (h : vs[i]? = some v) : (∃ j kv, kIdx (vkeys vs.length) (i : Int) = some j ∧ (vmap c vs)[j]? = some (kv, .agg (encVi c v))) ∨ (kIdx (vkeys vs.length) (i : Int) = none ∧ ∃ S, tt et = some S ∧ AV.agg (encVi c v) = zeroA S) :=
  .inl ⟨i, _, vkeys_at (List.getElem?_eq_some_iff.1 h).1, vmap_at h⟩
theorem vmap_flat (c : Bool) (vs : List Vi) : ∀ p ∈ vmap c vs, p.2.flatA = true := fun p hp => by
  obtain ⟨q, _, rfl⟩ := List.mem_map.1 hp; rfl
end Go.Proofs.YtpadkogpeobboaaGreat.Am
namespace Go.Proofs.YtpadkogpeobboaaGreat.Am
open Go Go.RowKit
theorem F_impl_keepOf (c : Bool) (n : Nd) (hl : n.lanes.length ≤ 1048576) : Meth Tryz.prog 108 1 [] [.agg (encNd c n)] [(0, (0, .dead))] (.agg [pI n.id, pI n.inc, pI n.g, pI n.led, .ref 0 0, rEvs c n.kept, rOus c n.outs]) [(0, (0, .row 62 3 ((n.lanes).map fun l => encSt l.base)))] := by
  refine meth_of_ex ttOK (fn := Tryz.f108) (by kernel_rfl) (by kernel_rfl) rfl (O0 := [.agg [pI n.id, pI n.inc, pI n.g, pI n.led, .ref 0 0, rEvs c n.kept, rOus c n.outs]]) 1 6 (Nat.le_of_ble_eq_true rfl) (by rfl) (by repeat (first | exact BndH.nil | refine BndH.dead ?_ )) (by repeat (first | exact BndH.nil | refine BndH.row (flatR_map fun _ => rfl) ?_ )) (by rfl) fun γ => ?_
  show Ex Tryz.prog _ _ [(0, .agg (encNd c n))] [(0, ((γ 0), .dead)), (6, (0, .dead)), (5, (0, .dead)), (4, (0, .dead)), (3, (0, .dead)), (2, (0, .dead)), (1, (0, .dead))] _
  refine ex_rs ttOK (by rfl) ?_
  refine rl_boxA (id := 1) rfl rfl rfl ?_
  refine rl_alloc (id := 2) tt_113 za_113 rfl ?_
  refine ex_rs ttOK (by rfl) ?_
  refine rl_fieldAddr rfl tt_28 rfl rfl tt_3 rfl rfl ?_
  refine rl_load_ptr rfl tt_3 rfl rfl ?_
  refine rl_fieldAddr rfl tt_28 rfl rfl tt_3 rfl rfl ?_
  refine rl_load_ptr rfl tt_3 rfl rfl ?_
  refine rl_fieldAddr rfl tt_28 rfl rfl tt_3 rfl rfl ?_
  refine rl_load_ptr rfl tt_3 rfl rfl ?_
  refine rl_fieldAddr rfl tt_28 rfl rfl tt_3 rfl rfl ?_
  refine rl_load_ptr rfl tt_3 rfl rfl ?_
  refine rl_fieldAddr rfl tt_28 rfl rfl tt_24 rfl rfl ?_
  refine rl_load_ptr rfl tt_24 rfl rfl ?_
  refine rl_fieldAddr rfl tt_28 rfl rfl tt_25 rfl rfl ?_
  refine rl_load_ptr rfl tt_25 rfl rfl ?_
  refine rl_build tt_113 rfl za_113 rfl (by simp only [pI, tt_3, T3, tt_24, T24, tt_25, T25, tt_111, T111, fillA, cellsA, AV.okc, AV.one, Value.oneCell', List.map_cons, List.map_nil, List.getElem?_cons_zero, List.getElem?_cons_succ, List.take_succ_cons, List.take_zero, List.drop_succ_cons, List.drop_zero, List.cons_append, List.nil_append, List.length_cons, List.length_nil, if_true, and_self, Nat.reduceAdd, Nat.reduceLeDiff]; rfl) ?_
  refine rl_alloc (id := 3) tt_113 za_113 rfl ?_
  refine rl_storeA rfl rfl tt_113 rfl rfl rfl rfl ?_
  refine ex_seq_k fun K1 hK1 => ?_
  refine ex_rs ttOK (by rfl) ?_
  refine rl_fieldAddr rfl tt_28 rfl rfl tt_23 rfl rfl ?_
  refine rl_load_ptr rfl tt_23 rfl rfl ?_
  refine rl_lenm rfl tt_23 rfl ?_
  refine rl_move rfl ?_
  refine ex_block ?_
  refine ex_nilB 3 4 0 62 3 rfl rfl rfl rfl rfl ?_
  refine ex_loopK (ι := Nat) (fun i γ1 => [(22, .pv (.int .i64 (i : Int)))]) (fun i γ1 => [(0, ((γ1 0), .row 62 3 ((n.lanes.take i).map fun l => encSt l.base))), (3, ((0 + 1), .box 113 [pI n.id, pI n.inc, pI n.g, pI n.led, .ref 0 (γ1 0), rEvs c n.kept, rOus c n.outs])), (4, ((γ1 4), .dead)), (5, ((γ1 5), .dead)), (6, ((γ1 6), .dead))]) (fun i => i ≤ n.lanes.length) (fun i => n.lanes.length - i) (Cov.cons (t := 2) rfl (Cov.cons (t := 3) rfl (Cov.cons (t := 20) rfl (Cov.cons (t := 21) rfl Cov.nil)))) (HE.same (id := 1) rfl (HE.same (id := 2) rfl HE.nil)) 0 (by omega) [_, 0, 0, 0, _, _, _] (Cov.cons (t := 22) rfl Cov.nil) (HE.row rfl (by rw [List.take_zero]; rfl) (HE.box rfl rfl (HE.kill rfl (HE.kill rfl (HE.kill rfl HE.nil))))) rfl fun i γ1 hi => ?_
  try dsimp only [List.cons_append, List.nil_append]
  refine ex_rs ttOK (by rfl) ?_
  refine rl_bin rfl rfl rfl ?_
  refine ex_seq_k fun K2 hK2 => ?_
  refine ex_cond rfl (fun hc3 => ?_) (fun hc3 => ?_)
  rotate_left
  · try simp at hc3
    obtain rfl : i = n.lanes.length := by omega
    refine ex_exit ?_
    refine hK1 _ _ ?_
    clear hK2 K2 hK1 K1
    refine ex_rs ttOK (by rfl) ?_
    refine rl_loadA_ptr rfl tt_113 rfl rfl rfl ?_
    refine rl_storeA rfl rfl tt_113 rfl rfl rfl rfl ?_
    refine ex_ret ?_
    exact ⟨.inr rfl, [_], rfl, rfl, HE.row rfl (by rw [List.take_length]) HE.nil⟩
  try simp at hc3
  obtain ⟨p, hp⟩ : ∃ p, n.lanes[i]? = some p := ⟨_, List.getElem?_eq_getElem (by omega)⟩
  refine ex_skip ?_
  refine hK2 _ _ ?_
  clear hK2 K2
  refine ex_seq_k fun K4 hK4 => ?_
  refine ex_block ?_
  refine ex_rs ttOK (by rfl) ?_
  refine rl_idxm rfl rfl tt_23 rfl tt_65 rfl (by assumption) ?_
  refine rl_loadA_iel rfl tt_65 rfl rfl ?_
  refine rl_alloc (id := 4) tt_65 za_65 rfl ?_
  refine rl_storeA rfl rfl tt_65 rfl rfl rfl rfl ?_
  refine ex_region ttOK (by rfl) ?_
  refine rl_fieldAddr rfl tt_113 rfl rfl tt_111 rfl rfl ?_
  refine rl_load_ptr rfl tt_111 rfl rfl ?_
  refine rl_fieldAddr rfl tt_65 rfl rfl tt_62 rfl rfl ?_
  refine rl_load_ptr (out := .agg (encSt p.base)) rfl tt_62 rfl rfl ?_
  refine rl_slice1A (id := 5) tt_111 rfl tt_62 rfl rfl rfl rfl rfl rfl ?_
  refine rl_app_rr (zs := (n.lanes.take i ++ [p]).map fun l => encSt l.base) rfl rfl tt_111 rfl tt_62 rfl rfl rfl rfl (by rfl) (map_snoc _ _ _) (by (simp only [List.length_map, List.length_append, List.length_cons, List.length_nil, List.length_take, List.length_range, T62]; omega)) ?_
  refine rl_fieldAddr rfl tt_113 rfl rfl tt_111 rfl rfl ?_
  refine rl_store1 rfl rfl tt_111 rfl rfl rfl rfl rfl (by simp only [List.set_cons_zero, List.set_cons_succ]; rfl) ?_
  refine hK4 _ _ ?_
  clear hK4 K4
  refine ex_region ttOK (by rfl) ?_
  refine rl_bin rfl rfl rfl ?_
  refine rl_move rfl ?_
  exact ⟨i + 1, ⟨by omega, by omega⟩, [_, 0, 0, 0, _, _, _], (Cov.cons' (t := 22) rfl (by rw [wrap_small (by omega) (by omega)]; rfl) Cov.nil), (Cov.cons (t := 2) rfl (Cov.cons (t := 3) rfl (Cov.cons (t := 20) rfl (Cov.cons (t := 21) rfl Cov.nil)))), (HE.row rfl (by rw [take_snoc hp]) (HE.box rfl rfl (HE.kill rfl (HE.kill rfl (HE.kill rfl HE.nil))))), (HE.same (id := 1) rfl (HE.same (id := 2) rfl HE.nil)), rfl⟩
theorem F_impl_blank_c (c : Bool) (n : Nd) (hl : n.lanes.length ≤ 1048576) : Meth Tryz.prog 80 5 [0] [.agg [pI n.id, pI n.inc, pI n.g, pI n.led, .ref 0 0, rEvs c n.kept, rOus c n.outs]] [(0, (0, .row 62 3 ((n.lanes).map fun l => encSt l.base))), (1, (0, .dead)), (2, (0, .dead)), (3, (0, .dead)), (4, (0, .dead))] (.ptr 4 0 0) [(4, (0, .box 139 [pI n.id, pI n.inc, pI n.g, pI n.led, .ref 0 0, rEvs c n.kept, rOus c n.outs, .pv (.bool false), .ref 1 0, pI 0, .mp 2 0, .ref 3 0, pI 0, pI 41])), (1, (0, .row 63 1 ((n.lanes).map fun _ => [rPas c []]))), (2, (0, .map [])), (3, (0, .row 3 1 ([0, 0, 0].map encI)))] := by
  refine meth_of_ex ttOK (fn := Tryz.f80) (by kernel_rfl) (by kernel_rfl) rfl (O0 := [.ptr 4 0 0]) 5 1 (Nat.le_of_ble_eq_true rfl) (by rfl) (by repeat (first | exact BndH.nil | refine BndH.dead ?_ | refine BndH.row (flatR_map fun _ => rfl) ?_ )) (by repeat (first | exact BndH.nil | refine BndH.box rfl ?_ | refine BndH.row (flatR_map fun _ => rfl) ?_ | refine BndH.map (by intro p hp; cases hp; done) ?_ )) (by rfl) fun γ => ?_
  show Ex Tryz.prog _ _ [(0, .agg [pI n.id, pI n.inc, pI n.g, pI n.led, .ref 0 (γ 0), rEvs c n.kept, rOus c n.outs])] [(0, ((γ 0), .row 62 3 ((n.lanes).map fun l => encSt l.base))), (1, ((γ 1), .dead)), (2, ((γ 2), .dead)), (3, ((γ 3), .dead)), (4, ((γ 4), .dead)), (5, (0, .dead))] _
  refine ex_rs ttOK (by rfl) ?_
  refine rl_boxA (id := 5) rfl rfl rfl ?_
  refine rl_assign rfl ?_
  refine ex_rsD ttOK mixed (by rfl) ?_
  refine rl_loadA_ptr rfl tt_113 rfl rfl rfl ?_
  refine rl_fieldAddr rfl tt_113 rfl rfl tt_111 rfl rfl ?_
  refine rl_load_ptr rfl tt_111 rfl rfl ?_
  refine rl_lenr rfl tt_111 rfl rfl (by exact List.length_map _) ?_
  refine rl_make (id := 1) tt_136 rfl tt_63 za_63 rfl rfl rfl rfl (by (simp only [List.length_map, List.length_append, List.length_cons, List.length_nil, List.length_take, List.length_range, T63]; omega)) rfl ?_
  refine rl_makeMap (id := 2) rfl ?_
  refine rl_make (n := 3) (id := 3) tt_22 rfl tt_3 za_3 rfl rfl rfl rfl (by (simp only [List.length_map, List.length_append, List.length_cons, List.length_nil, List.length_take, List.length_range, T3]; omega)) rfl ?_
  refine rl_build tt_139 rfl za_139 rfl (by simp only [pI, tt_3, T3, tt_4, T4, tt_22, T22, tt_113, T113, tt_136, T136, tt_137, T137, fillA, cellsA, AV.okc, AV.one, Value.oneCell', List.map_cons, List.map_nil, List.getElem?_cons_zero, List.getElem?_cons_succ, List.take_succ_cons, List.take_zero, List.drop_succ_cons, List.drop_zero, List.cons_append, List.nil_append, List.length_cons, List.length_nil, if_true, and_self, Nat.reduceAdd, Nat.reduceLeDiff]; rfl) ?_
  refine rl_boxA (id := 4) rfl rfl rfl ?_
  refine rl_assign rfl ?_
  refine ⟨by kernel_rfl, ?_⟩
  refine ex_hp_row 1 (xs' := n.lanes.map fun _ => [.pv (.slice none 0 0)]) rfl (by simp [List.map_const', T63]) ?_
  refine ex_leM (f := fun _ => [.pv (.slice none 0 0)]) (f' := fun _ => [rPas c []]) (l := n.lanes) 1 rfl (fun _ => .le rfl .nil rfl .nil) ?_
  refine ex_ret ?_
  exact ⟨.inr rfl, [γ 0, _, _, _, _], rfl, rfl, HE.box rfl rfl (HE.row rfl rfl (HE.map rfl rfl (HE.row rfl rfl (HE.same rfl HE.nil))))⟩
theorem F_impl_bodyOf (c : Bool) (n : Nd) (hl : n.lanes.length ≤ 1048576) (hv : n.views.length ≤ 1048576) (hk3 : n.known.length = 3) : Meth Tryz.prog 103 5 [] [.agg (encNd c n)] [(0, (0, .dead)), (1, (0, .dead)), (2, (0, .dead)), (3, (0, .dead)), (4, (0, .dead))] (.ptr 4 0 0) [(0, (0, .row 62 3 ((n.lanes).map fun l => encSt l.base))), (1, (0, .row 63 1 ((n.lanes).map fun l => [rPas c l.done]))), (2, (0, .map (vmap c n.views))), (3, (0, .row 3 1 (n.known.map encI))), (4, (0, .box 139 [pI n.id, pI n.inc, pI n.g, pI n.led, .ref 0 0, rEvs c n.kept, rOus c n.outs, .pv (.bool n.up), .ref 1 0, pI n.version, .mp 2 0, .ref 3 0, pI n.round, pI n.low]))] := by
  refine meth_of_ex ttOK (fn := Tryz.f103) (by kernel_rfl) (by kernel_rfl) rfl (O0 := [.ptr 4 0 0]) 5 3 (Nat.le_of_ble_eq_true rfl) (by rfl) (by repeat (first | exact BndH.nil | refine BndH.dead ?_ )) (by repeat (first | exact BndH.nil | refine BndH.box rfl ?_ | refine BndH.row (flatR_map fun _ => rfl) ?_ | refine BndH.map (vmap_flat _ _) ?_ )) (by rfl) fun γ => ?_
  show Ex Tryz.prog _ _ [(0, .agg (encNd c n))] [(0, ((γ 0), .dead)), (1, ((γ 1), .dead)), (2, ((γ 2), .dead)), (3, ((γ 3), .dead)), (4, ((γ 4), .dead)), (7, (0, .dead)), (6, (0, .dead)), (5, (0, .dead))] _
  refine ex_rs ttOK (by rfl) ?_
  refine rl_boxA (id := 5) rfl rfl rfl ?_
  refine rl_assign rfl ?_
  refine ex_rs ttOK (by rfl) ?_
  refine rl_loadA_ptr rfl tt_28 rfl rfl rfl ?_
  refine rl_meth [0] [_] (F_impl_keepOf c n hl) rfl rfl rfl (by decide) rfl rfl (by repeat (first | exact InH.nil | refine InH.cons rfl ?_)) (by (simp only [pI, List.map_cons, List.map_nil, insAll, insEnc, gl, nx, memN, Nat.beq, Nat.add_eq, List.getD_cons_zero, List.getD_cons_succ, List.getD_nil, Bool.or_false, Bool.false_or, Bool.true_or, Bool.or_true, Nat.add_zero, Nat.zero_add]; rfl)) (by (simp only [pI, List.map_cons, List.map_nil, insAll, insEnc, gl, nx, memN, Nat.beq, Nat.add_eq, List.getD_cons_zero, List.getD_cons_succ, List.getD_nil, Bool.or_false, Bool.false_or, Bool.true_or, Bool.or_true, Nat.add_zero, Nat.zero_add]; rfl)) ?_
  refine rl_meth [0, 1, 2, 3, 4] [_, _, _, _, _] (F_impl_blank_c c n hl) rfl rfl rfl (by decide) rfl rfl (by repeat (first | exact InH.nil | refine InH.cons rfl ?_)) (by (simp only [pI, List.map_cons, List.map_nil, insAll, insEnc, gl, nx, memN, Nat.beq, Nat.add_eq, List.getD_cons_zero, List.getD_cons_succ, List.getD_nil, Bool.or_false, Bool.false_or, Bool.true_or, Bool.or_true, Nat.add_zero, Nat.zero_add]; rfl)) (by (simp only [pI, List.map_cons, List.map_nil, insAll, insEnc, gl, nx, memN, Nat.beq, Nat.add_eq, List.getD_cons_zero, List.getD_cons_succ, List.getD_nil, Bool.or_false, Bool.false_or, Bool.true_or, Bool.or_true, Nat.add_zero, Nat.zero_add]; rfl)) ?_
  refine rl_assign rfl ?_
  refine ex_seq_k fun K1 hK1 => ?_
  refine ex_rs ttOK (by rfl) ?_
  refine rl_fieldAddr rfl tt_28 rfl rfl tt_23 rfl rfl ?_
  refine rl_load_ptr rfl tt_23 rfl rfl ?_
  refine rl_lenm rfl tt_23 rfl ?_
  refine rl_move rfl ?_
  refine ex_block ?_
  refine ex_loopK (ι := Nat) (fun i γ1 => [(14, .pv (.int .i64 (i : Int)))]) (fun i γ1 => [(1, ((γ 1 + 1), .row 63 1 ((n.lanes.take i).map (fun l => [rPas c l.done]) ++ (n.lanes.drop i).map fun _ => [rPas c []]))), (6, ((γ1 6), .dead))]) (fun i => i ≤ n.lanes.length) (fun i => n.lanes.length - i) (Cov.cons (t := 1) rfl (Cov.cons (t := 3) rfl (Cov.cons (t := 12) rfl (Cov.cons (t := 13) rfl Cov.nil)))) (HE.same (id := 0) rfl (HE.same (id := 2) rfl (HE.same (id := 3) rfl (HE.same (id := 4) rfl (HE.same (id := 5) rfl (HE.same (id := 7) rfl HE.nil)))))) 0 (by omega) [0, 0, 0, 0, 0, 0, _] (Cov.cons (t := 14) rfl Cov.nil) (HE.row rfl (by rw [List.take_zero, List.drop_zero]; rfl) (HE.kill rfl HE.nil)) rfl fun i γ1 hi => ?_
  try dsimp only [List.cons_append, List.nil_append]
  refine ex_rs ttOK (by rfl) ?_
  refine rl_bin rfl rfl rfl ?_
  refine ex_seq_k fun K2 hK2 => ?_
  refine ex_cond rfl (fun hc3 => ?_) (fun hc3 => ?_)
  · try simp at hc3
    obtain ⟨p, hp⟩ : ∃ p, n.lanes[i]? = some p := ⟨_, List.getElem?_eq_getElem (by omega)⟩
    have hAl : ((n.lanes.take i).map fun l => [rPas c l.done]).length = i := by rw [List.length_map, List.length_take]; omega
    rw [drop_cons hp, List.map_cons]
    refine ex_skip ?_
    refine hK2 _ _ ?_
    clear hK2 K2
    refine ex_seq_k fun K4 hK4 => ?_
    refine ex_block ?_
    refine ex_rs ttOK (by rfl) ?_
    refine rl_move rfl ?_
    refine rl_idxm rfl rfl tt_23 rfl tt_65 rfl (by assumption) ?_
    refine rl_loadA_iel rfl tt_65 rfl rfl ?_
    refine rl_alloc (id := 6) tt_65 za_65 rfl ?_
    refine rl_assign rfl ?_
    refine rl_storeA rfl rfl tt_65 rfl rfl rfl rfl ?_
    refine ex_region_any ttOK mixed (by rfl) ?_
    refine rl_move rfl ?_
    refine rl_nil rfl rfl ?_
    refine rl_fieldAddr rfl tt_139 rfl rfl tt_136 rfl rfl ?_
    refine rl_load_ptr rfl tt_136 rfl rfl ?_
    refine rl_move rfl ?_
    refine rl_fieldAddr rfl tt_65 rfl rfl tt_63 rfl rfl ?_
    refine rl_load_ptr rfl tt_63 rfl rfl ?_
    refine rl_idxM rfl rfl tt_136 rfl tt_63 rfl rfl hAl ?_
    refine rl_storeM hAl rfl rfl tt_63 rfl rfl rfl rfl rfl rfl rfl rfl ?_
    refine ⟨by kernel_rfl, ?_⟩
    refine hK4 _ _ ?_
    clear hK4 K4
    refine ex_region ttOK (by rfl) ?_
    refine rl_bin rfl rfl rfl ?_
    refine rl_move rfl ?_
    exact ⟨i + 1, ⟨by omega, by omega⟩, [0, 0, 0, 0, 0, 0, _], (Cov.cons' (t := 14) rfl (by rw [wrap_small (by omega) (by omega)]; rfl) Cov.nil), (Cov.cons (t := 1) rfl (Cov.cons (t := 3) rfl (Cov.cons (t := 12) rfl (Cov.cons (t := 13) rfl Cov.nil)))), (HE.row rfl (by rw [take_snoc hp, List.map_append, List.append_assoc]; rfl) (HE.kill rfl HE.nil)), (HE.same (id := 0) rfl (HE.same (id := 2) rfl (HE.same (id := 3) rfl (HE.same (id := 4) rfl (HE.same (id := 5) rfl (HE.same (id := 7) rfl HE.nil)))))), rfl⟩
  try simp at hc3
  obtain rfl : i = n.lanes.length := by omega
  refine ex_exit ?_
  refine hK1 _ _ ?_
  clear hK2 K2 hK1 K1
  refine ex_seq_k fun K5 hK5 => ?_
  refine ex_rs ttOK (by rfl) ?_
  refine rl_fieldAddr rfl tt_28 rfl rfl tt_26 rfl rfl ?_
  refine rl_load_ptr rfl tt_26 rfl rfl ?_
  refine rl_lenm rfl tt_26 rfl ?_
  refine rl_move rfl ?_
  refine ex_block ?_
  refine ex_loopK (ι := Nat) (fun j γ2 => [(31, .pv (.int .i64 (j : Int)))]) (fun j γ2 => [(2, ((γ 2 + 1), .map (vmap c (n.views.take j)))), (7, ((γ2 7), .dead))]) (fun j => j ≤ n.views.length) (fun j => n.views.length - j) (Cov.cons (t := 1) rfl (Cov.cons (t := 3) rfl (Cov.cons (t := 29) rfl (Cov.cons (t := 30) rfl Cov.nil)))) (HE.same (id := 0) rfl (HE.same (id := 1) rfl (HE.same (id := 3) rfl (HE.same (id := 4) rfl (HE.same (id := 5) rfl (HE.same (id := 6) rfl HE.nil)))))) 0 (by omega) [0, 0, 0, 0, 0, 0, 0, _] (Cov.cons (t := 31) rfl Cov.nil) (HE.map rfl (by rw [List.take_zero]; rfl) (HE.kill rfl HE.nil)) rfl fun j γ2 hi => ?_
  try dsimp only [List.cons_append, List.nil_append]
  refine ex_rs ttOK (by rfl) ?_
  refine rl_bin rfl rfl rfl ?_
  refine ex_seq_k fun K6 hK6 => ?_
  refine ex_cond rfl (fun hc7 => ?_) (fun hc7 => ?_)
  · try simp at hc7
    obtain ⟨q, hq⟩ : ∃ q, n.views[j]? = some q := ⟨_, List.getElem?_eq_getElem (by omega)⟩
    have hjl : (n.views.take j).length = j := by rw [List.length_take]; omega
    refine ex_skip ?_
    refine hK6 _ _ ?_
    clear hK6 K6
    refine ex_seq_k fun K8 hK8 => ?_
    refine ex_block ?_
    refine ex_rs ttOK (by rfl) ?_
    refine rl_move rfl ?_
    refine rl_idxm rfl rfl tt_26 rfl tt_141 rfl (by assumption) ?_
    refine rl_loadA_iel rfl tt_141 rfl rfl ?_
    refine rl_alloc (id := 7) tt_141 za_141 rfl ?_
    refine rl_assign rfl ?_
    refine rl_storeA rfl rfl tt_141 rfl rfl rfl rfl ?_
    refine ex_region_any ttOK mixed (by rfl) ?_
    refine rl_move rfl ?_
    refine rl_nil rfl rfl ?_
    refine rl_fieldAddr rfl tt_139 rfl rfl tt_137 rfl rfl ?_
    refine rl_load_ptr rfl tt_137 rfl rfl ?_
    refine rl_move rfl ?_
    refine rl_loadA_ptr rfl tt_141 rfl rfl rfl ?_
    refine rl_mapUpdate (κ := Int) (enc := fun n => .int .i64 n) (ks := vkeys j) (k := (j : Int)) (es' := vmap c (n.views.take j ++ [q])) Tryz.underlying137 (findK_int Tryz.underlying3) rfl rfl rfl (fun _ _ _ h => ka_pv h) rfl (by rw [vmap_keys, hjl]) (.inr ⟨vkeys_no j, by rw [vmap_snoc, hjl]⟩) ?_
    refine ⟨by kernel_rfl, ?_⟩
    refine hK8 _ _ ?_
    clear hK8 K8
    refine ex_region ttOK (by rfl) ?_
    refine rl_bin rfl rfl rfl ?_
    refine rl_move rfl ?_
    exact ⟨j + 1, ⟨by omega, by omega⟩, [0, 0, 0, 0, 0, 0, 0, _], (Cov.cons' (t := 31) rfl (by rw [wrap_small (by omega) (by omega)]; rfl) Cov.nil), (Cov.cons (t := 1) rfl (Cov.cons (t := 3) rfl (Cov.cons (t := 29) rfl (Cov.cons (t := 30) rfl Cov.nil)))), (HE.map rfl (by rw [take_snoc hq]) (HE.kill rfl HE.nil)), (HE.same (id := 0) rfl (HE.same (id := 1) rfl (HE.same (id := 3) rfl (HE.same (id := 4) rfl (HE.same (id := 5) rfl (HE.same (id := 6) rfl HE.nil)))))), rfl⟩
  try simp at hc7
  obtain rfl : j = n.views.length := by omega
  refine ex_exit ?_
  refine hK5 _ _ ?_
  clear hK6 K6 hK5 K5
  refine ex_rsD ttOK mixed (by rfl) ?_
  refine rl_move rfl ?_
  refine rl_nil rfl rfl ?_
  refine rl_fieldAddr rfl tt_139 rfl rfl tt_22 rfl rfl ?_
  refine rl_load_ptr rfl tt_22 rfl rfl ?_
  refine rl_fieldAddr rfl tt_28 rfl rfl tt_22 rfl rfl ?_
  refine rl_load_ptr rfl tt_22 rfl rfl ?_
  refine rl_copyI ttOK (l := n.known) tt_22 rfl tt_3 rfl rfl rfl rfl (by rw [hk3]; rfl) ?_
  refine ⟨by kernel_rfl, ?_⟩
  refine ex_rsD ttOK mixed (by rfl) ?_
  refine rl_move rfl ?_
  refine rl_move rfl ?_
  refine rl_move rfl ?_
  refine rl_move rfl ?_
  refine rl_fieldAddr rfl tt_28 rfl rfl tt_4 rfl rfl ?_
  refine rl_load_ptr rfl tt_4 rfl rfl ?_
  refine rl_fieldAddr rfl tt_28 rfl rfl tt_3 rfl rfl ?_
  refine rl_load_ptr rfl tt_3 rfl rfl ?_
  refine rl_fieldAddr rfl tt_28 rfl rfl tt_3 rfl rfl ?_
  refine rl_load_ptr rfl tt_3 rfl rfl ?_
  refine rl_fieldAddr rfl tt_28 rfl rfl tt_3 rfl rfl ?_
  refine rl_load_ptr rfl tt_3 rfl rfl ?_
  refine rl_nil rfl rfl ?_
  refine rl_fieldAddr rfl tt_139 rfl rfl tt_4 rfl rfl ?_
  refine rl_store1 rfl rfl tt_4 rfl rfl rfl rfl rfl (by simp only [List.set_cons_zero, List.set_cons_succ]; rfl) ?_
  refine rl_nil rfl rfl ?_
  refine rl_fieldAddr rfl tt_139 rfl rfl tt_3 rfl rfl ?_
  refine rl_store1 rfl rfl tt_3 rfl rfl rfl rfl rfl (by simp only [List.set_cons_zero, List.set_cons_succ]; rfl) ?_
  refine rl_nil rfl rfl ?_
  refine rl_fieldAddr rfl tt_139 rfl rfl tt_3 rfl rfl ?_
  refine rl_store1 rfl rfl tt_3 rfl rfl rfl rfl rfl (by simp only [List.set_cons_zero, List.set_cons_succ]; rfl) ?_
  refine rl_nil rfl rfl ?_
  refine rl_fieldAddr rfl tt_139 rfl rfl tt_3 rfl rfl ?_
  refine rl_store1 rfl rfl tt_3 rfl rfl rfl rfl rfl (by simp only [List.set_cons_zero, List.set_cons_succ]; rfl) ?_
  refine ⟨by kernel_rfl, ?_⟩
  refine ex_rs ttOK (by rfl) ?_
  refine rl_move rfl ?_
  refine rl_assign rfl ?_
  refine ex_ret ?_
  exact ⟨.inr rfl, [_, _, _, _, _], rfl, rfl, HE.row rfl rfl (HE.row rfl (by rw [List.take_length, List.drop_length, List.map_nil, List.append_nil]) (HE.map rfl (by rw [List.take_length]) (HE.row rfl rfl (HE.box rfl rfl HE.nil))))⟩
end Go.Proofs.YtpadkogpeobboaaGreat.Am
namespace Go.Proofs.YtpadkogpeobboaaGreat.Am
open Go Go.RowKit
theorem F_impl_body_sent (c : Bool) (n : Nd) (hs : (sentL n).length ≤ 5000000) (hlen : n.lanes.length ≤ 1048576) : Meth Tryz.prog 189 6 [0, 1, 2, 3, 4] [.ptr 4 0 0] [(0, (0, .row 62 3 ((n.lanes).map fun l => encSt l.base))), (1, (0, .row 63 1 ((n.lanes).map fun l => [rPas c l.done]))), (2, (0, .map (vmap c n.views))), (3, (0, .row 3 1 (n.known.map encI))), (4, (0, .box 139 [pI n.id, pI n.inc, pI n.g, pI n.led, .ref 0 0, rEvs c n.kept, rOus c n.outs, .pv (.bool n.up), .ref 1 0, pI n.version, .mp 2 0, .ref 3 0, pI n.round, pI n.low])), (5, (0, .dead))] (.ref 5 0) [(5, (0, .row 76 7 ((sentL n).map encEv)))] := by
  refine meth_of_ex ttOK (fn := Tryz.f189) (by kernel_rfl) (by kernel_rfl) rfl (O0 := [.ref 5 0]) 6 2 (Nat.le_of_ble_eq_true rfl) (by rfl) (by repeat (first | exact BndH.nil | refine BndH.dead ?_ | refine BndH.box rfl ?_ | refine BndH.row (flatR_map fun _ => rfl) ?_ | refine BndH.map (vmap_flat _ _) ?_ )) (by repeat (first | exact BndH.nil | refine BndH.row (flatR_map fun _ => rfl) ?_ )) (by rfl) fun γ => ?_
  show Ex Tryz.prog _ _ [(0, .ptr 4 (γ 4) 0)] [(0, ((γ 0), .row 62 3 ((n.lanes).map fun l => encSt l.base))), (1, ((γ 1), .row 63 1 ((n.lanes).map fun l => [rPas c l.done]))), (2, ((γ 2), .map (vmap c n.views))), (3, ((γ 3), .row 3 1 (n.known.map encI))), (4, ((γ 4), .box 139 [pI n.id, pI n.inc, pI n.g, pI n.led, .ref 0 (γ 0), rEvs c n.kept, rOus c n.outs, .pv (.bool n.up), .ref 1 (γ 1), pI n.version, .mp 2 (γ 2), .ref 3 (γ 3), pI n.round, pI n.low])), (5, ((γ 5), .dead)), (7, (0, .dead)), (6, (0, .dead))] _
  have hkl : n.kept.length ≤ 5000000 := by simp only [sentL, List.length_append] at hs; omega
  refine ex_rs ttOK (by rfl) ?_
  refine rl_assign rfl ?_
  refine ex_rs ttOK (by rfl) ?_
  refine rl_move rfl ?_
  refine rl_nil rfl rfl ?_
  refine rl_fieldAddr rfl tt_139 rfl rfl tt_113 rfl rfl ?_
  refine rl_fieldAddr rfl tt_113 rfl rfl tt_24 rfl rfl ?_
  refine rl_load_ptr rfl tt_24 rfl rfl ?_
  refine rl_meth [5] [_] (F_slices_Clone_impl_Event_impl_Event c n.kept (by omega)) rfl rfl rfl (by decide) rfl rfl (by repeat (first | exact InH.nil | refine InH.cons rfl ?_)) (by (simp only [pI, List.map_cons, List.map_nil, insAll, insEnc, gl, nx, memN, Nat.beq, Nat.add_eq, List.getD_cons_zero, List.getD_cons_succ, List.getD_nil, Bool.or_false, Bool.false_or, Bool.true_or, Bool.or_true, Nat.add_zero, Nat.zero_add]; rfl)) (by (simp only [pI, List.map_cons, List.map_nil, insAll, insEnc, gl, nx, memN, Nat.beq, Nat.add_eq, List.getD_cons_zero, List.getD_cons_succ, List.getD_nil, Bool.or_false, Bool.false_or, Bool.true_or, Bool.or_true, Nat.add_zero, Nat.zero_add]; rfl)) ?_
  refine rl_assign rfl ?_
  refine ex_seq_k fun K1 hK1 => ?_
  refine ex_rs ttOK (by rfl) ?_
  refine rl_move rfl ?_
  refine rl_nil rfl rfl ?_
  refine rl_fieldAddr rfl tt_139 rfl rfl tt_136 rfl rfl ?_
  refine rl_load_ptr rfl tt_136 rfl rfl ?_
  refine rl_lenr rfl tt_136 rfl rfl (by exact List.length_map _) ?_
  refine rl_move rfl ?_
  refine ex_block ?_
  refine ex_loopK (ι := Nat) (fun i γ1 => [(3, .ref 5 (γ1 5)), (19, .pv (.int .i64 (i : Int)))]) (fun i γ1 => [(5, ((γ1 5), .row 76 7 ((n.kept ++ (n.lanes.take i).flatMap lsent).map encEv))), (6, ((γ1 6), .dead)), (7, ((γ1 7), .dead))]) (fun i => i ≤ n.lanes.length) (fun i => n.lanes.length - i) (Cov.cons (t := 17) rfl (Cov.cons (t := 18) rfl Cov.nil)) (HE.same (id := 0) rfl (HE.same (id := 1) rfl (HE.same (id := 2) rfl (HE.same (id := 3) rfl (HE.same (id := 4) rfl HE.nil))))) 0 (by omega) [0, 0, 0, 0, 0, _, _, _] (Cov.cons (t := 3) rfl (Cov.cons (t := 19) rfl Cov.nil)) (HE.row rfl (by simp) (HE.kill rfl (HE.kill rfl HE.nil))) rfl fun i γ1 hi => ?_
  try dsimp only [List.cons_append, List.nil_append]
  refine ex_rs ttOK (by rfl) ?_
  refine rl_bin rfl rfl rfl ?_
  refine ex_seq_k fun K2 hK2 => ?_
  refine ex_cond rfl (fun hc3 => ?_) (fun hc3 => ?_)
  rotate_left
  · try simp at hc3
    obtain rfl : i = n.lanes.length := by omega
    refine ex_exit ?_
    refine hK1 _ _ ?_
    clear hK2 K2 hK1 K1
    refine ex_rs ttOK (by rfl) ?_
    refine rl_move rfl ?_
    refine rl_assign rfl ?_
    refine ex_ret ?_
    exact ⟨.inr rfl, [γ 0, γ 1, γ 2, γ 3, γ 4, _], rfl, rfl, HE.row rfl (by rw [List.take_length]; rfl) (HE.same (id := 0) rfl (HE.same (id := 1) rfl (HE.same (id := 2) rfl (HE.same (id := 3) rfl (HE.same (id := 4) rfl HE.nil)))))⟩
  try simp at hc3
  obtain ⟨p, hp⟩ : ∃ p, n.lanes[i]? = some p := ⟨_, List.getElem?_eq_getElem (by omega)⟩
  refine ex_skip ?_
  refine hK2 _ _ ?_
  clear hK2 K2
  refine ex_seq_k fun K4 hK4 => ?_
  refine ex_block ?_
  refine ex_rs ttOK (by rfl) ?_
  refine rl_idxR (j := i) rfl rfl tt_136 rfl tt_63 rfl rfl (lt_of_get hp) ?_
  refine rl_loadE rfl tt_63 rfl hp rfl ?_
  refine rl_assign rfl ?_
  refine ex_rs ttOK (by rfl) ?_
  refine rl_move rfl ?_
  refine rl_lenm rfl tt_63 rfl ?_
  refine rl_move rfl ?_
  refine ex_block ?_
  refine ex_rowlenm 23 rfl fun hlen2 => ?_
  refine ex_loopK (ι := Nat) (fun j γ2 => [(3, .ref 5 (γ2 5)), (25, .pv (.int .i64 (j : Int)))]) (fun j γ2 => [(5, ((γ2 5), .row 76 7 ((n.kept ++ (n.lanes.take i).flatMap lsent ++ (p.done.take j).flatMap Pa.sends).map encEv))), (6, ((γ2 6), .dead)), (7, ((γ2 7), .dead))]) (fun j => j ≤ p.done.length) (fun j => p.done.length - j) (Cov.cons (t := 17) rfl (Cov.cons (t := 18) rfl (Cov.cons (t := 19) rfl (Cov.cons (t := 23) rfl (Cov.cons (t := 24) rfl Cov.nil))))) (HE.same (id := 0) rfl (HE.same (id := 1) rfl (HE.same (id := 2) rfl (HE.same (id := 3) rfl (HE.same (id := 4) rfl HE.nil))))) 0 (by omega) [0, 0, 0, 0, 0, _, _, _] (Cov.cons (t := 3) rfl (Cov.cons (t := 25) rfl Cov.nil)) (HE.row rfl (by simp) (HE.kill rfl (HE.kill rfl HE.nil))) rfl fun j γ2 hi => ?_
  try dsimp only [List.cons_append, List.nil_append]
  refine ex_rs ttOK (by rfl) ?_
  refine rl_bin rfl rfl rfl ?_
  refine ex_seq_k fun K5 hK5 => ?_
  refine ex_cond rfl (fun hc6 => ?_) (fun hc6 => ?_)
  rotate_left
  · try simp at hc6
    obtain rfl : j = p.done.length := by omega
    refine ex_exit ?_
    refine hK4 _ _ ?_
    clear hK5 K5 hK4 K4
    refine ex_region ttOK (by rfl) ?_
    refine rl_bin rfl rfl rfl ?_
    refine rl_move rfl ?_
    exact ⟨i + 1, ⟨by omega, by omega⟩, [0, 0, 0, 0, 0, _, _, _], (Cov.cons (t := 3) rfl (Cov.cons' (t := 19) rfl (by rw [wrap_small (by omega) (by omega)]; rfl) Cov.nil)), (Cov.cons (t := 17) rfl (Cov.cons (t := 18) rfl Cov.nil)), (HE.row rfl (by simp only [flat_take hp, List.append_assoc, lsent, List.take_length]) (HE.kill rfl (HE.kill rfl HE.nil))), (HE.same (id := 0) rfl (HE.same (id := 1) rfl (HE.same (id := 2) rfl (HE.same (id := 3) rfl (HE.same (id := 4) rfl HE.nil))))), rfl⟩
  try simp at hc6
  obtain ⟨q, hq⟩ : ∃ q, p.done[j]? = some q := ⟨_, List.getElem?_eq_getElem (by omega)⟩
  have hsp := sent_part hp hq
  refine ex_skip ?_
  refine hK5 _ _ ?_
  clear hK5 K5
  refine ex_seq_k fun K7 hK7 => ?_
  refine ex_block ?_
  refine ex_rs ttOK (by rfl) ?_
  refine rl_idxm rfl rfl tt_63 rfl tt_78 rfl (by assumption) ?_
  refine rl_loadA_iel rfl tt_78 rfl rfl ?_
  refine rl_alloc (id := 6) tt_78 za_78 rfl ?_
  refine rl_storeA rfl rfl tt_78 rfl rfl rfl rfl ?_
  refine ex_region ttOK (by rfl) ?_
  refine rl_move rfl ?_
  refine rl_fieldAddr rfl tt_78 rfl rfl tt_24 rfl rfl ?_
  refine rl_load_ptr rfl tt_24 rfl rfl ?_
  refine rl_app_rd (zs := (n.kept ++ (n.lanes.take i).flatMap lsent ++ (p.done.take j).flatMap Pa.sends ++ q.sends).map encEv) rfl rfl tt_24 rfl tt_76 rfl rfl rfl (by exact noow_map (fun _ => rfl) _) (map_app _ _ _) (by have hb56 : T76.bytes = 56 := rfl; rw [List.length_map, hb56]; omega) ?_
  refine rl_assign rfl ?_
  refine hK7 _ _ ?_
  clear hK7 K7
  refine ex_region ttOK (by rfl) ?_
  refine rl_bin rfl rfl rfl ?_
  refine rl_move rfl ?_
  exact ⟨j + 1, ⟨by omega, by omega⟩, [0, 0, 0, 0, 0, _, _, _], (Cov.cons (t := 3) rfl (Cov.cons' (t := 25) rfl (by rw [wrap_small (by omega) (by omega)]; rfl) Cov.nil)), (Cov.cons (t := 17) rfl (Cov.cons (t := 18) rfl (Cov.cons (t := 19) rfl (Cov.cons (t := 23) rfl (Cov.cons (t := 24) rfl Cov.nil))))), (HE.row rfl (by simp only [flat_take hq, List.append_assoc]) (HE.kill rfl (HE.kill rfl HE.nil))), (HE.same (id := 0) rfl (HE.same (id := 1) rfl (HE.same (id := 2) rfl (HE.same (id := 3) rfl (HE.same (id := 4) rfl HE.nil))))), rfl⟩
theorem F_impl_body_came_1 (c : Bool) (n : Nd) (proc : Int) (e : Ev) : Meth Tryz.prog 212 7 [0, 1, 2, 3, 4, 5, 6] [.agg (encEv e), .ptr 5 0 0, .ptr 6 0 0] [(0, (0, .row 62 3 ((n.lanes).map fun l => encSt l.base))), (1, (0, .row 63 1 ((n.lanes).map fun l => [rPas c l.done]))), (2, (0, .map (vmap c n.views))), (3, (0, .row 3 1 (n.known.map encI))), (4, (0, .box 139 [pI n.id, pI n.inc, pI n.g, pI n.led, .ref 0 0, rEvs c n.kept, rOus c n.outs, .pv (.bool n.up), .ref 1 0, pI n.version, .mp 2 0, .ref 3 0, pI n.round, pI n.low])), (5, (0, .box 3 [pI proc])), (6, (0, .box 109 [.ptr 4 0 0]))] (.pv (.bool (wantC proc n.g e))) [] := by
  refine meth_of_ex ttOK (fn := Tryz.f212) (by kernel_rfl) (by kernel_rfl) rfl (O0 := [.pv (.bool (wantC proc n.g e))]) 7 1 (Nat.le_of_ble_eq_true rfl) (by rfl) (by repeat (first | exact BndH.nil | refine BndH.box rfl ?_ | refine BndH.row (flatR_map fun _ => rfl) ?_ | refine BndH.map (vmap_flat _ _) ?_ )) (by repeat (exact BndH.nil )) (by rfl) fun γ => ?_
  show Ex Tryz.prog _ _ [(0, .agg (encEv e)), (1, .ptr 5 (γ 5) 0), (2, .ptr 6 (γ 6) 0)] [(0, ((γ 0), .row 62 3 ((n.lanes).map fun l => encSt l.base))), (1, ((γ 1), .row 63 1 ((n.lanes).map fun l => [rPas c l.done]))), (2, ((γ 2), .map (vmap c n.views))), (3, ((γ 3), .row 3 1 (n.known.map encI))), (4, ((γ 4), .box 139 [pI n.id, pI n.inc, pI n.g, pI n.led, .ref 0 (γ 0), rEvs c n.kept, rOus c n.outs, .pv (.bool n.up), .ref 1 (γ 1), pI n.version, .mp 2 (γ 2), .ref 3 (γ 3), pI n.round, pI n.low])), (5, ((γ 5), .box 3 [pI proc])), (6, ((γ 6), .box 109 [.ptr 4 (γ 4) 0])), (7, (0, .dead))] _
  refine ex_rs ttOK (by rfl) ?_
  refine rl_boxA (id := 7) rfl rfl rfl ?_
  refine rl_assign rfl ?_
  refine ex_rsD ttOK mixed (by rfl) ?_
  refine rl_fieldAddr rfl tt_76 rfl rfl tt_3 rfl rfl ?_
  refine rl_load_ptr rfl tt_3 rfl rfl ?_
  refine rl_load_ptr rfl tt_3 rfl rfl ?_
  refine rl_bin rfl rfl rfl ?_
  refine rl_move rfl ?_
  refine rl_g rfl rfl (fun hg1 => ?_) (fun hg1 => ?_)
  rotate_left
  · try simp at hg1
    refine rl_gF rfl rfl ?_
    refine rl_gF rfl rfl ?_
    refine rl_gF rfl rfl ?_
    refine rl_gF rfl rfl ?_
    refine rl_gF rfl rfl ?_
    refine rl_gF rfl rfl ?_
    refine rl_gF rfl rfl ?_
    refine rl_pickF rfl rfl ?_
    refine rl_assign rfl ?_
    refine ⟨by kernel_rfl, ?_⟩
    refine ex_ret ?_
    exact ⟨.inr rfl, [γ 0, γ 1, γ 2, γ 3, γ 4, γ 5, γ 6], rfl, congrArg (fun b : Bool => some [AV.pv (.bool b)]) (by exact (decide_eq_false (by omega)).symm), (HE.same (id := 0) rfl (HE.same (id := 1) rfl (HE.same (id := 2) rfl (HE.same (id := 3) rfl (HE.same (id := 4) rfl (HE.same (id := 5) rfl (HE.same (id := 6) rfl HE.nil)))))))⟩
  try simp at hg1
  refine rl_fieldAddr rfl tt_76 rfl rfl tt_3 rfl rfl ?_
  refine rl_gT rfl rfl ?_
  refine rl_load_ptr rfl tt_3 rfl rfl ?_
  refine rl_gT rfl rfl ?_
  refine rl_load_ptr rfl tt_109 rfl rfl ?_
  refine rl_gT rfl rfl ?_
  refine rl_nil rfl rfl ?_
  refine rl_gT rfl rfl ?_
  refine rl_fieldAddr rfl tt_139 rfl rfl tt_113 rfl rfl ?_
  refine rl_gT rfl rfl ?_
  refine rl_fieldAddr rfl tt_113 rfl rfl tt_3 rfl rfl ?_
  refine rl_gT rfl rfl ?_
  refine rl_load_ptr rfl tt_3 rfl rfl ?_
  refine rl_gT rfl rfl ?_
  refine rl_bin rfl rfl rfl ?_
  refine rl_pickT rfl rfl ?_
  refine rl_assign rfl ?_
  refine ⟨by kernel_rfl, ?_⟩
  refine ex_ret ?_
  exact ⟨.inr rfl, [γ 0, γ 1, γ 2, γ 3, γ 4, γ 5, γ 6], rfl, congrArg (fun b : Bool => some [AV.pv (.bool b)]) (by exact decide_eq_decide.2 (by omega)), (HE.same (id := 0) rfl (HE.same (id := 1) rfl (HE.same (id := 2) rfl (HE.same (id := 3) rfl (HE.same (id := 4) rfl (HE.same (id := 5) rfl (HE.same (id := 6) rfl HE.nil)))))))⟩
theorem F_impl_pick_impl_Event_came (c : Bool) (n : Nd) (proc : Int) (l : List Ev) (hl : l.length ≤ 10000000) : Meth Tryz.prog 188 7 [0, 1, 2, 3, 4, 5, 6] [rEvs true l, .fn (.func 212) [] [.ptr 5 0 0, .ptr 6 0 0]] [(0, (0, .row 62 3 ((n.lanes).map fun l => encSt l.base))), (1, (0, .row 63 1 ((n.lanes).map fun l => [rPas c l.done]))), (2, (0, .map (vmap c n.views))), (3, (0, .row 3 1 (n.known.map encI))), (4, (0, .box 139 [pI n.id, pI n.inc, pI n.g, pI n.led, .ref 0 0, rEvs c n.kept, rOus c n.outs, .pv (.bool n.up), .ref 1 0, pI n.version, .mp 2 0, .ref 3 0, pI n.round, pI n.low])), (5, (0, .box 3 [pI proc])), (6, (0, .box 109 [.ptr 4 0 0]))] (rEvs true (l.filter (wantC proc n.g))) [] := by
  refine meth_of_ex ttOK (fn := Tryz.f188) (by kernel_rfl) (by kernel_rfl) rfl (O0 := [rEvs true (l.filter (wantC proc n.g))]) 7 4 (Nat.le_of_ble_eq_true rfl) (by rfl) (by repeat (first | exact BndH.nil | refine BndH.box rfl ?_ | refine BndH.row (flatR_map fun _ => rfl) ?_ | refine BndH.map (vmap_flat _ _) ?_ )) (by repeat (exact BndH.nil )) (by rfl) fun γ => ?_
  show Ex Tryz.prog _ _ [(0, rEvs true l), (1, .fn (.func 212) [] [.ptr 5 (γ 5) 0, .ptr 6 (γ 6) 0])] [(0, ((γ 0), .row 62 3 ((n.lanes).map fun l => encSt l.base))), (1, ((γ 1), .row 63 1 ((n.lanes).map fun l => [rPas c l.done]))), (2, ((γ 2), .map (vmap c n.views))), (3, ((γ 3), .row 3 1 (n.known.map encI))), (4, ((γ 4), .box 139 [pI n.id, pI n.inc, pI n.g, pI n.led, .ref 0 (γ 0), rEvs c n.kept, rOus c n.outs, .pv (.bool n.up), .ref 1 (γ 1), pI n.version, .mp 2 (γ 2), .ref 3 (γ 3), pI n.round, pI n.low])), (5, ((γ 5), .box 3 [pI proc])), (6, ((γ 6), .box 109 [.ptr 4 (γ 4) 0])), (10, (0, .dead)), (9, (0, .dead)), (8, (0, .dead)), (7, (0, .dead))] _
  refine ex_rs ttOK (by rfl) ?_
  refine rl_assign rfl ?_
  refine ex_rs ttOK (by rfl) ?_
  refine rl_assign rfl ?_
  refine ex_seq_k fun K1 hK1 => ?_
  refine ex_rs ttOK (by rfl) ?_
  refine rl_move rfl ?_
  refine rl_lenm rfl tt_24 rfl ?_
  refine rl_move rfl ?_
  refine ex_block ?_
  refine ex_nilref 5 10 76 7 rfl rfl ?_
  refine ex_loopK (ι := Nat) (fun i γ1 => [(5, .ref 10 (γ1 10)), (10, .pv (.int .i64 (i : Int)))]) (fun i γ1 => [(10, ((γ1 10), .row 76 7 (((l.take i).filter (wantC proc n.g)).map encEv))), (7, ((γ1 7), .dead)), (8, ((γ1 8), .dead)), (9, ((γ1 9), .dead))]) (fun i => i ≤ l.length) (fun i => l.length - i) (Cov.cons (t := 1) rfl (Cov.cons (t := 8) rfl (Cov.cons (t := 9) rfl Cov.nil))) (HE.same (id := 0) rfl (HE.same (id := 1) rfl (HE.same (id := 2) rfl (HE.same (id := 3) rfl (HE.same (id := 4) rfl (HE.same (id := 5) rfl (HE.same (id := 6) rfl HE.nil))))))) 0 (by omega) [0, 0, 0, 0, 0, 0, 0, _, _, _, _] (Cov.cons (t := 5) rfl (Cov.cons (t := 10) rfl Cov.nil)) (HE.row rfl (by rw [List.take_zero]; rfl) (HE.kill rfl (HE.kill rfl (HE.kill rfl HE.nil)))) rfl fun i γ1 hi => ?_
  try dsimp only [List.cons_append, List.nil_append]
  refine ex_rs ttOK (by rfl) ?_
  refine rl_bin rfl rfl rfl ?_
  refine ex_seq_k fun K2 hK2 => ?_
  refine ex_cond rfl (fun hc3 => ?_) (fun hc3 => ?_)
  rotate_left
  · try simp at hc3
    obtain rfl : i = l.length := by omega
    rw [List.take_length]
    refine ex_exit ?_
    refine hK1 _ _ ?_
    clear hK2 K2 hK1 K1
    refine ex_frzM 5 rfl rfl (fun _ => rfl) ?_
    refine ex_rs ttOK (by rfl) ?_
    refine rl_move rfl ?_
    refine rl_assign rfl ?_
    refine ex_ret ?_
    exact ⟨.inr rfl, [γ 0, γ 1, γ 2, γ 3, γ 4, γ 5, γ 6], rfl, rfl, (HE.same (id := 0) rfl (HE.same (id := 1) rfl (HE.same (id := 2) rfl (HE.same (id := 3) rfl (HE.same (id := 4) rfl (HE.same (id := 5) rfl (HE.same (id := 6) rfl HE.nil)))))))⟩
  try simp at hc3
  obtain ⟨p, hp⟩ : ∃ p, l[i]? = some p := ⟨_, List.getElem?_eq_getElem (by omega)⟩
  have hfl : ((l.take i).filter (wantC proc n.g)).length ≤ 10000000 := Nat.le_trans (List.length_filter_le _ _) (by rw [List.length_take]; omega)
  refine ex_skip ?_
  refine hK2 _ _ ?_
  clear hK2 K2
  refine ex_seq_k fun K4 hK4 => ?_
  refine ex_block ?_
  refine ex_rs ttOK (by rfl) ?_
  refine rl_idxm rfl rfl tt_24 rfl tt_76 rfl (by assumption) ?_
  refine rl_loadA_iel rfl tt_76 rfl rfl ?_
  refine rl_alloc (id := 7) tt_76 za_76 rfl ?_
  refine rl_storeA rfl rfl tt_76 rfl rfl rfl rfl ?_
  refine ex_rs ttOK (by rfl) ?_
  refine rl_move rfl ?_
  refine rl_loadA_ptr rfl tt_76 rfl rfl rfl ?_
  refine rl_meth [0, 1, 2, 3, 4, 5, 6] [_, _, _, _, _, _, _] (F_impl_body_came_1 c n proc p) rfl rfl rfl (by decide) rfl rfl (by repeat (first | exact InH.nil | refine InH.cons rfl ?_)) (by (simp only [pI, List.map_cons, List.map_nil, insAll, insEnc, gl, nx, memN, Nat.beq, Nat.add_eq, List.getD_cons_zero, List.getD_cons_succ, List.getD_nil, Bool.or_false, Bool.false_or, Bool.true_or, Bool.or_true, Nat.add_zero, Nat.zero_add]; rfl)) (by (simp only [pI, List.map_cons, List.map_nil, insAll, insEnc, gl, nx, memN, Nat.beq, Nat.add_eq, List.getD_cons_zero, List.getD_cons_succ, List.getD_nil, Bool.or_false, Bool.false_or, Bool.true_or, Bool.or_true, Nat.add_zero, Nat.zero_add]; rfl)) ?_
  refine ex_cond rfl (fun hc5 => ?_) (fun hc5 => ?_)
  rotate_left
  · try simp at hc5
    have hw : ¬ wantC proc n.g p = true := by rw [hc5]; decide
    refine ex_skip ?_
    refine hK4 _ _ ?_
    clear hK4 K4
    refine ex_region ttOK (by rfl) ?_
    refine rl_bin rfl rfl rfl ?_
    refine rl_move rfl ?_
    exact ⟨i + 1, ⟨by omega, by omega⟩, [0, 0, 0, 0, 0, 0, 0, _, _, _, _], (Cov.cons (t := 5) rfl (Cov.cons' (t := 10) rfl (by rw [wrap_small (by omega) (by omega)]; rfl) Cov.nil)), (Cov.cons (t := 1) rfl (Cov.cons (t := 8) rfl (Cov.cons (t := 9) rfl Cov.nil))), (HE.row rfl (by rw [filter_take hp]; rw [if_neg hw, List.append_nil]) (HE.kill rfl (HE.kill rfl (HE.kill rfl HE.nil)))), (HE.same (id := 0) rfl (HE.same (id := 1) rfl (HE.same (id := 2) rfl (HE.same (id := 3) rfl (HE.same (id := 4) rfl (HE.same (id := 5) rfl (HE.same (id := 6) rfl HE.nil))))))), rfl⟩
  try simp at hc5
  have hw : wantC proc n.g p = true := hc5
  refine ex_region ttOK (by rfl) ?_
  refine rl_move rfl ?_
  refine rl_loadA_ptr rfl tt_76 rfl rfl rfl ?_
  refine rl_slice1A (id := 8) tt_24 rfl tt_76 rfl rfl rfl rfl rfl rfl ?_
  refine rl_app_rr (zs := ((l.take i).filter (wantC proc n.g) ++ [p]).map encEv) rfl rfl tt_24 rfl tt_76 rfl rfl rfl rfl (by rfl) (map_snoc _ _ _) (by (simp only [List.length_map, List.length_append, List.length_cons, List.length_nil, List.length_take, List.length_range, T76]; omega)) ?_
  refine rl_assign rfl ?_
  refine hK4 _ _ ?_
  clear hK4 K4
  refine ex_region ttOK (by rfl) ?_
  refine rl_bin rfl rfl rfl ?_
  refine rl_move rfl ?_
  exact ⟨i + 1, ⟨by omega, by omega⟩, [0, 0, 0, 0, 0, 0, 0, _, _, _, _], (Cov.cons (t := 5) rfl (Cov.cons' (t := 10) rfl (by rw [wrap_small (by omega) (by omega)]; rfl) Cov.nil)), (Cov.cons (t := 1) rfl (Cov.cons (t := 8) rfl (Cov.cons (t := 9) rfl Cov.nil))), (HE.row rfl (by rw [filter_take hp]; rw [if_pos hw]) (HE.kill rfl (HE.kill rfl (HE.kill rfl HE.nil)))), (HE.same (id := 0) rfl (HE.same (id := 1) rfl (HE.same (id := 2) rfl (HE.same (id := 3) rfl (HE.same (id := 4) rfl (HE.same (id := 5) rfl (HE.same (id := 6) rfl HE.nil))))))), rfl⟩
theorem F_impl_body_came (c : Bool) (n : Nd) (proc : Int) (hs : (sentL n).length + (otherL n 3).length ≤ 5000000) (hlen : n.lanes.length ≤ 1048576) (hv3 : n.views.length = 3) : Meth Tryz.prog 145 6 [0, 1, 2, 3, 4] [.ptr 4 0 0, .pv (.int .i64 proc)] [(0, (0, .row 62 3 ((n.lanes).map fun l => encSt l.base))), (1, (0, .row 63 1 ((n.lanes).map fun l => [rPas c l.done]))), (2, (0, .map (vmap c n.views))), (3, (0, .row 3 1 (n.known.map encI))), (4, (0, .box 139 [pI n.id, pI n.inc, pI n.g, pI n.led, .ref 0 0, rEvs c n.kept, rOus c n.outs, .pv (.bool n.up), .ref 1 0, pI n.version, .mp 2 0, .ref 3 0, pI n.round, pI n.low])), (5, (0, .dead))] (.ref 5 0) [(5, (0, .row 76 7 ((cameL n proc).map encEv)))] := by
  refine meth_of_ex ttOK (fn := Tryz.f145) (by kernel_rfl) (by kernel_rfl) rfl (O0 := [.ref 5 0]) 6 4 (Nat.le_of_ble_eq_true rfl) (by rfl) (by repeat (first | exact BndH.nil | refine BndH.dead ?_ | refine BndH.box rfl ?_ | refine BndH.row (flatR_map fun _ => rfl) ?_ | refine BndH.map (vmap_flat _ _) ?_ )) (by repeat (first | exact BndH.nil | refine BndH.row (flatR_map fun _ => rfl) ?_ )) (by rfl) fun γ => ?_
  show Ex Tryz.prog _ _ [(0, .ptr 4 (γ 4) 0), (1, .pv (.int .i64 proc))] [(0, ((γ 0), .row 62 3 ((n.lanes).map fun l => encSt l.base))), (1, ((γ 1), .row 63 1 ((n.lanes).map fun l => [rPas c l.done]))), (2, ((γ 2), .map (vmap c n.views))), (3, ((γ 3), .row 3 1 (n.known.map encI))), (4, ((γ 4), .box 139 [pI n.id, pI n.inc, pI n.g, pI n.led, .ref 0 (γ 0), rEvs c n.kept, rOus c n.outs, .pv (.bool n.up), .ref 1 (γ 1), pI n.version, .mp 2 (γ 2), .ref 3 (γ 3), pI n.round, pI n.low])), (5, ((γ 5), .dead)), (9, (0, .dead)), (8, (0, .dead)), (7, (0, .dead)), (6, (0, .dead))] _
  refine ex_rs ttOK (by rfl) ?_
  refine rl_box1 (id := 6) rfl rfl rfl rfl ?_
  refine rl_box1 (id := 7) rfl rfl rfl rfl ?_
  refine rl_assign rfl ?_
  refine ex_rs ttOK (by rfl) ?_
  refine rl_load_ptr rfl tt_109 rfl rfl ?_
  refine rl_meth [0, 1, 2, 3, 4, 9] [_, _, _, _, _, _] (F_impl_body_sent c n (by omega) hlen) rfl rfl rfl (by decide) rfl rfl (by repeat (first | exact InH.nil | refine InH.cons rfl ?_)) (by (simp only [pI, List.map_cons, List.map_nil, insAll, insEnc, gl, nx, memN, Nat.beq, Nat.add_eq, List.getD_cons_zero, List.getD_cons_succ, List.getD_nil, Bool.or_false, Bool.false_or, Bool.true_or, Bool.or_true, Nat.add_zero, Nat.zero_add]; rfl)) (by (simp only [pI, List.map_cons, List.map_nil, insAll, insEnc, gl, nx, memN, Nat.beq, Nat.add_eq, List.getD_cons_zero, List.getD_cons_succ, List.getD_nil, Bool.or_false, Bool.false_or, Bool.true_or, Bool.or_true, Nat.add_zero, Nat.zero_add]; rfl)) ?_
  refine rl_assign rfl ?_
  refine ex_seq_k fun K1 hK1 => ?_
  refine ex_rs ttOK (by rfl) ?_
  refine rl_move rfl ?_
  refine ex_block ?_
  refine ex_loopK (ι := Nat) (fun i γ1 => [(5, .ref 9 (γ1 9)), (9, .pv (.int .i64 (i : Int)))]) (fun i γ1 => [(9, ((γ1 9), .row 76 7 ((sentL n ++ otherL n i).map encEv))), (8, ((γ1 8), .dead))]) (fun i => i ≤ 3) (fun i => 3 - i) (Cov.cons (t := 2) rfl (Cov.cons (t := 3) rfl Cov.nil)) (HE.same (id := 0) rfl (HE.same (id := 1) rfl (HE.same (id := 2) rfl (HE.same (id := 3) rfl (HE.same (id := 4) rfl (HE.same (id := 5) rfl (HE.same (id := 6) rfl (HE.same (id := 7) rfl HE.nil)))))))) 0 (by omega) [0, 0, 0, 0, 0, 0, 0, 0, _, _] (Cov.cons (t := 5) rfl (Cov.cons (t := 9) rfl Cov.nil)) (HE.row rfl (by simp [otherL]) (HE.kill rfl HE.nil)) rfl fun i γ1 hi => ?_
  try dsimp only [List.cons_append, List.nil_append]
  refine ex_rs ttOK (by rfl) ?_
  refine rl_bin rfl rfl rfl ?_
  refine ex_seq_k fun K2 hK2 => ?_
  refine ex_cond rfl (fun hc3 => ?_) (fun hc3 => ?_)
  rotate_left
  · try simp at hc3
    obtain rfl : i = 3 := by omega
    refine ex_exit ?_
    refine hK1 _ _ ?_
    clear hK2 K2 hK1 K1
    refine ex_frzM 5 rfl rfl (fun _ => rfl) ?_
    refine ex_rs ttOK (by rfl) ?_
    refine rl_move rfl ?_
    refine rl_makeFunc rfl rfl ?_
    refine rl_meth [0, 1, 2, 3, 4, 7, 6] [_, _, _, _, _, _, _] (F_impl_pick_impl_Event_came c n proc _ (by rw [List.length_append]; omega)) rfl rfl rfl (by decide) rfl rfl (by repeat (first | exact InH.nil | refine InH.cons rfl ?_)) (by (simp only [pI, List.map_cons, List.map_nil, insAll, insEnc, gl, nx, memN, Nat.beq, Nat.add_eq, List.getD_cons_zero, List.getD_cons_succ, List.getD_nil, Bool.or_false, Bool.false_or, Bool.true_or, Bool.or_true, Nat.add_zero, Nat.zero_add]; rfl)) (by (simp only [pI, List.map_cons, List.map_nil, insAll, insEnc, gl, nx, memN, Nat.beq, Nat.add_eq, List.getD_cons_zero, List.getD_cons_succ, List.getD_nil, Bool.or_false, Bool.false_or, Bool.true_or, Bool.or_true, Nat.add_zero, Nat.zero_add]; rfl)) ?_
    refine rl_meth [5] [_] (F_impl_EventSort true _ (Nat.le_trans (List.length_filter_le _ _) (by rw [List.length_append]; omega))) rfl rfl rfl (by decide) rfl rfl (by repeat (first | exact InH.nil | refine InH.cons rfl ?_)) (by (simp only [pI, List.map_cons, List.map_nil, insAll, insEnc, gl, nx, memN, Nat.beq, Nat.add_eq, List.getD_cons_zero, List.getD_cons_succ, List.getD_nil, Bool.or_false, Bool.false_or, Bool.true_or, Bool.or_true, Nat.add_zero, Nat.zero_add]; rfl)) (by (simp only [pI, List.map_cons, List.map_nil, insAll, insEnc, gl, nx, memN, Nat.beq, Nat.add_eq, List.getD_cons_zero, List.getD_cons_succ, List.getD_nil, Bool.or_false, Bool.false_or, Bool.true_or, Bool.or_true, Nat.add_zero, Nat.zero_add]; rfl)) ?_
    refine rl_assign rfl ?_
    refine ex_ret ?_
    exact ⟨.inr rfl, [γ 0, γ 1, γ 2, γ 3, γ 4, _], rfl, rfl, HE.row rfl rfl (HE.same (id := 0) rfl (HE.same (id := 1) rfl (HE.same (id := 2) rfl (HE.same (id := 3) rfl (HE.same (id := 4) rfl HE.nil)))))⟩
  try simp at hc3
  obtain ⟨v, hv⟩ : ∃ v, n.views[i]? = some v := ⟨_, List.getElem?_eq_getElem (by omega)⟩
  have hg : n.views.getD i vi0 = v := by rw [List.getD_eq_getElem?_getD, hv]; rfl
  have hol := otherL_le n (i := i + 1) (by omega)
  rw [otherL_succ] at hol
  refine ex_skip ?_
  refine hK2 _ _ ?_
  clear hK2 K2
  refine ex_seq_k fun K4 hK4 => ?_
  refine ex_block ?_
  refine ex_rs ttOK (by rfl) ?_
  refine rl_move rfl ?_
  refine rl_assign rfl ?_
  refine ex_rs ttOK (by rfl) ?_
  refine rl_move rfl ?_
  refine rl_load_ptr rfl tt_109 rfl rfl ?_
  refine rl_nil rfl rfl ?_
  refine rl_fieldAddr rfl tt_139 rfl rfl tt_113 rfl rfl ?_
  refine rl_fieldAddr rfl tt_113 rfl rfl tt_3 rfl rfl ?_
  refine rl_load_ptr rfl tt_3 rfl rfl ?_
  refine rl_bin rfl rfl rfl ?_
  refine ex_cond rfl (fun hc5 => ?_) (fun hc5 => ?_)
  rotate_left
  · try simp at hc5
    have hve : viewE n i = [] := by rw [viewE, if_pos (by exact hc5)]
    refine ex_skip ?_
    refine hK4 _ _ ?_
    clear hK4 K4
    refine ex_region ttOK (by rfl) ?_
    refine rl_bin rfl rfl rfl ?_
    refine rl_move rfl ?_
    exact ⟨i + 1, ⟨by omega, by omega⟩, [0, 0, 0, 0, 0, 0, 0, 0, _, _], (Cov.cons (t := 5) rfl (Cov.cons' (t := 9) rfl (by rw [wrap_small (by omega) (by omega)]; rfl) Cov.nil)), (Cov.cons (t := 2) rfl (Cov.cons (t := 3) rfl Cov.nil)), (HE.row rfl (by rw [otherL_succ, hve]; simp) (HE.kill rfl HE.nil)), (HE.same (id := 0) rfl (HE.same (id := 1) rfl (HE.same (id := 2) rfl (HE.same (id := 3) rfl (HE.same (id := 4) rfl (HE.same (id := 5) rfl (HE.same (id := 6) rfl (HE.same (id := 7) rfl HE.nil)))))))), rfl⟩
  try simp at hc5
  have hve : viewE n i = v.events := by rw [viewE, if_neg (by exact hc5), hg]
  rw [hve] at hol
  simp only [List.length_append] at hol
  refine ex_region ttOK (by rfl) ?_
  refine rl_move rfl ?_
  refine rl_load_ptr rfl tt_109 rfl rfl ?_
  refine rl_nil rfl rfl ?_
  refine rl_fieldAddr rfl tt_139 rfl rfl tt_137 rfl rfl ?_
  refine rl_load_ptr rfl tt_137 rfl rfl ?_
  refine rl_move rfl ?_
  refine rl_lookup (κ := Int) (enc := fun n => .int .i64 n) (ks := vkeys n.views.length) (k := (i : Int)) (out := .agg (encVi c v)) ttOK Tryz.underlying137 (findK_int Tryz.underlying3) rfl rfl (fun _ _ _ h => ka_pv h) rfl (vmap_keys _ _) (vmap_look hv) ?_
  refine rl_field rfl tt_141 rfl rfl tt_24 rfl ?_
  refine rl_app_rd (zs := (sentL n ++ otherL n i ++ v.events).map encEv) rfl rfl tt_24 rfl tt_76 rfl rfl rfl (by exact noow_map (fun _ => rfl) _) (map_app _ _ _) (by have hb56 : T76.bytes = 56 := rfl; rw [List.length_map, hb56]; simp only [List.length_append]; omega) ?_
  refine rl_assign rfl ?_
  refine hK4 _ _ ?_
  clear hK4 K4
  refine ex_region ttOK (by rfl) ?_
  refine rl_bin rfl rfl rfl ?_
  refine rl_move rfl ?_
  exact ⟨i + 1, ⟨by omega, by omega⟩, [0, 0, 0, 0, 0, 0, 0, 0, _, _], (Cov.cons (t := 5) rfl (Cov.cons' (t := 9) rfl (by rw [wrap_small (by omega) (by omega)]; rfl) Cov.nil)), (Cov.cons (t := 2) rfl (Cov.cons (t := 3) rfl Cov.nil)), (HE.row rfl (by rw [otherL_succ, hve]; simp) (HE.kill rfl HE.nil)), (HE.same (id := 0) rfl (HE.same (id := 1) rfl (HE.same (id := 2) rfl (HE.same (id := 3) rfl (HE.same (id := 4) rfl (HE.same (id := 5) rfl (HE.same (id := 6) rfl (HE.same (id := 7) rfl HE.nil)))))))), rfl⟩
end Go.Proofs.YtpadkogpeobboaaGreat.Am
namespace Go.Proofs.YtpadkogpeobboaaGreat.Am
open Go Go.RowKit
theorem F_impl_chain_add (c : Bool) (p : Pa) (ps : List Pa) : Meth Tryz.prog 216 1 [0] [.ptr 0 0 0, .agg (encPa c p)] [(0, (0, .chn 240 243 ((ps).map (encPa c))))] (.tup []) [(0, (0, .chn 240 243 ((ps ++ [p]).map (encPa c))))] := by
  refine meth_of_ex ttOK (fn := Tryz.f216) (by kernel_rfl) (by kernel_rfl) rfl (O0 := []) 1 2 (Nat.le_of_ble_eq_true rfl) (by rfl) (by repeat (first | exact BndH.nil | refine BndH.chn ?_)) (by repeat (first | exact BndH.nil | refine BndH.chn ?_)) (by rfl) fun γ => ?_
  show Ex Tryz.prog _ _ [(0, .ptr 0 (γ 0) 0), (1, .agg (encPa c p))] [(0, ((γ 0), .chn 240 243 ((ps).map (encPa c)))), (2, (0, .dead)), (1, (0, .dead))] _
  refine ex_conv ?_
  refine ex_chn 0 rfl fun b0 bs hbl hbn => ?_
  have hbl2 : bs.length = ps.length := by rw [hbl, List.length_map]
  refine ex_rs ttOK (by rfl) ?_
  refine rl_boxA (id := 1) rfl rfl rfl ?_
  refine ex_rs ttOK (by rfl) ?_
  refine rl_loadA_ptr rfl tt_78 rfl rfl rfl ?_
  refine rl_build tt_243 rfl za_243 rfl (by simp only [pI, tt_78, T78, tt_238, T238, fillA, cellsA, AV.okc, AV.one, Value.oneCell', List.map_cons, List.map_nil, List.getElem?_cons_zero, List.getElem?_cons_succ, List.take_succ_cons, List.take_zero, List.drop_succ_cons, List.drop_zero, List.cons_append, List.nil_append, List.length_cons, List.length_nil, if_true, and_self, Nat.reduceAdd, Nat.reduceLeDiff]; rfl) ?_
  refine rl_boxA (id := 2) rfl rfl rfl ?_
  refine rl_assign rfl ?_
  refine ex_seq_k fun K1 hK1 => ?_
  refine ex_absorb 4 0 2 rfl rfl (by intro h; cases h) rfl rfl rfl fun bn hbn2 => ?_
  refine ex_rs ttOK (by rfl) ?_
  refine rl_move rfl ?_
  refine rl_nil rfl rfl ?_
  refine rl_fieldAddr rfl tt_240 rfl rfl tt_238 rfl rfl ?_
  refine rl_loadK ttOK (out := .pv (ptrOf bs.getLast?)) rfl tt_238 rfl rfl ?_
  refine rl_eq rfl rfl (by intro a c h h2; cases h; cases h2; rfl) (.inl rfl) (eqA_ptr (by kernel_rfl) _ _ _) ?_
  refine ex_cond rfl (fun hc2 => ?_) (fun hc2 => ?_)
  · try simp at hc2
    obtain rfl : bs = [] := by cases bs with | nil => rfl | cons b r => (simp [List.getLast?_cons, litOp] at hc2)
    obtain rfl : ps = [] := List.eq_nil_of_length_eq_zero (by simpa using hbl2.symm)
    refine ex_region ttOK (by rfl) ?_
    refine rl_move rfl ?_
    refine rl_move rfl ?_
    refine rl_nil rfl rfl ?_
    refine rl_fieldAddr rfl tt_240 rfl rfl tt_238 rfl rfl ?_
    refine rl_storeK ttOK rfl rfl tt_238 rfl rfl rfl rfl rfl ?_
    refine hK1 _ _ ?_
    clear hK1 K1
    refine ex_region ttOK (by rfl) ?_
    refine rl_move rfl ?_
    refine rl_move rfl ?_
    refine rl_nil rfl rfl ?_
    refine rl_fieldAddr rfl tt_240 rfl rfl tt_238 rfl rfl ?_
    refine rl_storeK ttOK rfl rfl tt_238 rfl rfl rfl rfl rfl ?_
    refine Conv.step (sr_toChn 0 b0 240 243 ([bn]) ([encPa c p]) rfl rfl rfl) (Conv.done ?_)
    exact ⟨.inl rfl, [γ 0], rfl, rfl, HE.same rfl HE.nil⟩
  try simp at hc2
  obtain ⟨bs0, bl, rfl⟩ := snoc_of (l := bs) (by exact hc2)
  obtain ⟨ps0, pl, rfl⟩ := snoc_of (l := ps) (by rintro rfl; simp at hbl2)
  refine ex_region ttOK (by rfl) ?_
  refine rl_move rfl ?_
  refine rl_nil rfl rfl ?_
  refine rl_fieldAddr rfl tt_240 rfl rfl tt_238 rfl rfl ?_
  refine rl_loadK ttOK (out := PQ bl 0) rfl tt_238 rfl (by rw [List.getLast?_concat]; rfl) ?_
  refine rl_move rfl ?_
  refine rl_nilQ rfl ?_
  refine rl_fieldAddrQ ttOK rfl tt_243 rfl rfl tt_238 rfl ?_
  refine rl_storeQ ttOK (bty := 243) ((b0, 240, [.pv (ptrOf (bs0 ++ [bl]).head?), .pv (ptrOf (bs0 ++ [bl]).getLast?)]) :: lnkB 243 (some bl) bs0 (ps0.map (encPa c))) [(bn, 243, encPa c p ++ [.pv (.pointer none)])] (cs := encPa c pl ++ [.pv (.pointer none)]) 0 rfl rfl tt_238 rfl rfl rfl (by rw [chB, List.map_append, List.map_cons, List.map_nil, lnkB_snoc (by rw [List.length_map]; simpa using hbl2)]; simp [ptrOf]) (Nat.le_of_ble_eq_true rfl) rfl ?_
  refine hK1 _ _ ?_
  clear hK1 K1
  refine ex_region ttOK (by rfl) ?_
  refine rl_move rfl ?_
  refine rl_move rfl ?_
  refine rl_nil rfl rfl ?_
  refine rl_fieldAddr rfl tt_240 rfl rfl tt_238 rfl rfl ?_
  refine rl_storeK ttOK rfl rfl tt_238 rfl rfl rfl rfl rfl ?_
  refine Conv.step (sr_toChn 0 b0 240 243 (bs0 ++ [bl] ++ [bn]) (((ps0 ++ [pl]) ++ [p]).map (encPa c)) rfl (by simp at hbl2 ⊢; exact hbl2) (by rw [List.map_append, List.map_cons (l := []), List.map_nil, chB_snoc (by rw [List.length_map]; exact hbl2), List.map_append, List.map_cons, List.map_nil, lnkB_snoc (by rw [List.length_map]; simpa using hbl2)]; cases bs0 <;> simp [ptrOf] <;> rfl)) (Conv.done ?_)
  exact ⟨.inl rfl, [γ 0], rfl, rfl, HE.same rfl HE.nil⟩
theorem F_impl_chainOf (c : Bool) (l : List Pa) : Meth Tryz.prog 150 1 [] [rPas c l] [(0, (0, .dead))] (.ptr 0 0 0) [(0, (0, .chn 240 243 ((l).map (encPa c))))] := by
  refine meth_of_ex ttOK (fn := Tryz.f150) (by kernel_rfl) (by kernel_rfl) rfl (O0 := [.ptr 0 0 0]) 1 1 (Nat.le_of_ble_eq_true rfl) (by rfl) (by repeat (first | exact BndH.nil | refine BndH.dead ?_)) (by repeat (first | exact BndH.nil | refine BndH.chn ?_)) (by rfl) fun γ => ?_
  show Ex Tryz.prog _ _ [(0, rPas c l)] [(0, ((γ 0), .dead)), (1, (0, .dead))] _
  refine ex_rowlenm 0 rfl fun hlen => ?_
  refine ex_rs ttOK (by rfl) ?_
  refine rl_assign rfl ?_
  refine ex_rs ttOK (by rfl) ?_
  refine rl_build tt_240 rfl za_240 rfl (by simp only [pI, fillA, cellsA, AV.okc, AV.one, T3, T4, List.getElem?_cons_zero, List.getElem?_cons_succ, List.take_succ_cons, List.take_zero, List.drop_succ_cons, List.drop_zero, List.cons_append, List.nil_append, List.length_cons, List.length_nil, if_true, and_self, Nat.reduceAdd, Nat.reduceLeDiff]; rfl) ?_
  refine rl_boxA (id := 0) rfl rfl rfl ?_
  refine rl_assign rfl ?_
  refine ex_seq_k fun K1 hK1 => ?_
  refine ex_rs ttOK (by rfl) ?_
  refine rl_move rfl ?_
  refine rl_lenm rfl tt_63 rfl ?_
  refine rl_move rfl ?_
  refine ex_block ?_
  refine ex_newChn 0 243 rfl ?_
  refine ex_loopK (ι := Nat) (fun i γ1 => [(10, .pv (.int .i64 (i : Int)))]) (fun i γ1 => [(0, ((γ 0 + 1), .chn 240 243 ((l.take i).map (encPa c)))), (1, ((γ1 1), .dead))]) (fun i => i ≤ l.length) (fun i => l.length - i) (Cov.cons (t := 3) rfl (Cov.cons (t := 8) rfl (Cov.cons (t := 9) rfl Cov.nil))) HE.nil 0 (by omega) [0, _] (Cov.cons (t := 10) rfl Cov.nil) (HE.chn rfl (by rw [List.take_zero]; rfl) (HE.kill rfl HE.nil)) rfl fun i γ1 hi => ?_
  try dsimp only [List.cons_append, List.nil_append]
  refine ex_rs ttOK (by rfl) ?_
  refine rl_bin rfl rfl rfl ?_
  refine ex_seq_k fun K2 hK2 => ?_
  refine ex_cond rfl (fun hc3 => ?_) (fun hc3 => ?_)
  rotate_left
  · try simp at hc3
    obtain rfl : i = l.length := by omega
    refine ex_exit ?_
    refine hK1 _ _ ?_
    clear hK2 K2 hK1 K1
    refine ex_rs ttOK (by rfl) ?_
    refine rl_move rfl ?_
    refine rl_assign rfl ?_
    refine ex_ret ?_
    rw [List.take_length]
    exact ⟨.inr rfl, [_], rfl, rfl, HE.same rfl HE.nil⟩
  try simp at hc3
  obtain ⟨p, hp⟩ : ∃ p, l[i]? = some p := ⟨_, List.getElem?_eq_getElem (by omega)⟩
  refine ex_skip ?_
  refine hK2 _ _ ?_
  clear hK2 K2
  refine ex_seq_k fun K4 hK4 => ?_
  refine ex_block ?_
  refine ex_rs ttOK (by rfl) ?_
  refine rl_idxm rfl rfl tt_63 rfl tt_78 rfl (by assumption) ?_
  refine rl_loadA_iel rfl tt_78 rfl rfl ?_
  refine rl_alloc (id := 1) tt_78 za_78 rfl ?_
  refine rl_storeA rfl rfl tt_78 rfl rfl rfl rfl ?_
  refine ex_region ttOK (by rfl) ?_
  refine rl_move rfl ?_
  refine rl_loadA_ptr rfl tt_78 rfl rfl rfl ?_
  refine rl_meth [0] [_] (F_impl_chain_add c p (l.take i)) rfl rfl rfl (by decide) rfl rfl (by repeat (first | exact InH.nil | refine InH.cons rfl ?_)) (by (simp only [pI, List.map_cons, List.map_nil, insAll, insEnc, gl, nx, memN, Nat.beq, Nat.add_eq, List.getD_cons_zero, List.getD_cons_succ, List.getD_nil, Bool.or_false, Bool.false_or, Bool.true_or, Bool.or_true, Nat.add_zero, Nat.zero_add]; rfl)) (by (simp only [pI, List.map_cons, List.map_nil, insAll, insEnc, gl, nx, memN, Nat.beq, Nat.add_eq, List.getD_cons_zero, List.getD_cons_succ, List.getD_nil, Bool.or_false, Bool.false_or, Bool.true_or, Bool.or_true, Nat.add_zero, Nat.zero_add]; rfl)) ?_
  refine hK4 _ _ ?_
  clear hK4 K4
  refine ex_region ttOK (by rfl) ?_
  refine rl_addN (b := 1) rfl rfl (by omega) ?_
  refine rl_move rfl ?_
  exact ⟨i + 1, ⟨by omega, by omega⟩, [0, _], (Cov.cons (t := 10) rfl Cov.nil), (Cov.cons (t := 3) rfl (Cov.cons (t := 8) rfl (Cov.cons (t := 9) rfl Cov.nil))), (HE.chn rfl (by rw [take_snoc hp]) (HE.kill rfl HE.nil)), HE.nil, rfl⟩
theorem F_impl_chain_agreeing (c c' : Bool) (ps : List Pa) (s : List Ev) : Meth Tryz.prog 151 1 [0] [.ptr 0 0 0, rEvs c' s] [(0, (0, .chn 240 243 ((ps).map (encPa c))))] (.pv (.int .i64 (same ps s : Int))) [] := by
  refine meth_of_ex ttOK (fn := Tryz.f151) (by kernel_rfl) (by kernel_rfl) rfl (O0 := [.pv (.int .i64 (same ps s : Int))]) 1 0 (Nat.le_of_ble_eq_true rfl) (by rfl) (by repeat (first | exact BndH.nil | refine BndH.chn ?_)) (by repeat (exact BndH.nil)) (by rfl) fun γ => ?_
  show Ex Tryz.prog _ _ [(0, .ptr 0 (γ 0) 0), (1, rEvs c' s)] [(0, ((γ 0), .chn 240 243 ((ps).map (encPa c))))] _
  refine ex_rowlenm 1 rfl fun hlen => ?_
  refine ex_chn 0 rfl fun b0 bs hbl hbn => ?_
  have hbl2 : bs.length = ps.length := by rw [hbl, List.length_map]
  refine ex_rs ttOK (by rfl) ?_
  refine rl_assign rfl ?_
  refine ex_rs ttOK (by rfl) ?_
  refine rl_assign rfl ?_
  refine ex_seq_k fun K1 hK1 => ?_
  refine ex_rs ttOK (by rfl) ?_
  refine rl_move rfl ?_
  refine rl_nil rfl rfl ?_
  refine rl_fieldAddr rfl tt_240 rfl rfl tt_238 rfl rfl ?_
  refine rl_loadK ttOK (out := .pv (ptrOf bs.head?)) rfl tt_238 rfl rfl ?_
  refine rl_assign rfl ?_
  refine ex_block ?_
  refine ex_loopK (ι := Nat) (fun i γ1 => [(5, .pv (.int .i64 (i : Int))), (6, .pv (ptrOf bs[i]?))]) (fun i γ1 => []) (fun i => i ≤ ps.length ∧ i ≤ s.length ∧ same ps s = i + same (ps.drop i) (s.drop i)) (fun i => ps.length - i) (Cov.cons (t := 1) rfl Cov.nil) (HE.same (id := 0) rfl HE.nil) 0 ⟨by omega, by omega, by rw [List.drop_zero, List.drop_zero, Nat.zero_add]⟩ [] (Cov.cons (t := 5) rfl (Cov.cons' (t := 6) rfl ((by rw [List.head?_eq_getElem?])) Cov.nil)) HE.nil rfl fun i γ1 hi => ?_
  try dsimp only [List.cons_append, List.nil_append]
  obtain ⟨h1, h2, h3⟩ := hi
  refine ex_seq_k fun K2 hK2 => ?_
  refine ex_rsD ttOK mixed (by rfl) ?_
  refine rl_move rfl ?_
  refine rl_eq rfl rfl (by intro a c h h2; cases h; cases h2; rfl) (.inr rfl) (eqA_ptr (by kernel_rfl) _ _ _) ?_
  refine rl_move rfl ?_
  refine rl_g rfl rfl (fun hg3 => ?_) (fun hg3 => ?_)
  rotate_left
  · try simp at hg3
    have g1 : ps.length ≤ i := by omega
    refine rl_gF rfl rfl ?_
    refine rl_gF rfl rfl ?_
    refine rl_gF rfl rfl ?_
    refine rl_pickF rfl rfl ?_
    refine rl_move rfl ?_
    refine rl_gF rfl rfl ?_
    refine rl_gF rfl rfl ?_
    refine rl_gF rfl rfl ?_
    refine rl_gF rfl rfl ?_
    refine rl_gF rfl rfl ?_
    refine rl_gF rfl rfl ?_
    refine rl_gF rfl rfl ?_
    refine rl_gF rfl rfl ?_
    refine rl_gF rfl rfl ?_
    refine rl_gF rfl rfl ?_
    refine rl_pickF rfl rfl ?_
    refine ⟨by kernel_rfl, ?_⟩
    refine ex_cond rfl (fun hc8 => ?_) (fun hc8 => ?_)
    · simp at hc8
    try simp at hc8
    try have heq : ¬ p.ev = e := by simpa [litOp] using hc8
    refine ex_exit ?_
    refine hK1 _ _ ?_
    clear hK2 K2 hK1 K1
    refine ex_rs ttOK (by rfl) ?_
    refine rl_move rfl ?_
    refine rl_assign rfl ?_
    refine ex_toChn 0 b0 240 243 (bs) (ps.map (encPa c)) rfl hbl rfl ?_
    refine ex_ret ?_
    refine ⟨.inr rfl, [γ 0], rfl, ?_, HE.same rfl HE.nil⟩
    exact congrArg (fun v : Nat => some [AV.pv (.int .i64 (v : Int))]) (h3.trans (by rw [same_end1 g1]; rfl)).symm
  try simp at hg3
  obtain ⟨b, hb⟩ : ∃ b, bs[i]? = some b := ⟨_, List.getElem?_eq_getElem (by omega)⟩
  rw [hb]
  have g1 : i < ps.length := by have := (List.getElem?_eq_some_iff.1 hb).1; omega
  obtain ⟨p, hp⟩ : ∃ p, ps[i]? = some p := ⟨_, List.getElem?_eq_getElem (by omega)⟩
  refine rl_move rfl ?_
  refine rl_gT rfl rfl ?_
  refine rl_move rfl ?_
  refine rl_gT rfl rfl ?_
  refine rl_lenm rfl tt_24 rfl ?_
  refine rl_gT rfl rfl ?_
  refine rl_bin rfl rfl rfl ?_
  refine rl_pickT rfl rfl ?_
  refine rl_move rfl ?_
  refine rl_g rfl rfl (fun hg4 => ?_) (fun hg4 => ?_)
  rotate_left
  · try simp at hg4
    have g2 : s.length ≤ i := by omega
    refine rl_gF rfl rfl ?_
    refine rl_gF rfl rfl ?_
    refine rl_gF rfl rfl ?_
    refine rl_gF rfl rfl ?_
    refine rl_gF rfl rfl ?_
    refine rl_gF rfl rfl ?_
    refine rl_gF rfl rfl ?_
    refine rl_gF rfl rfl ?_
    refine rl_gF rfl rfl ?_
    refine rl_pickF rfl rfl ?_
    refine ⟨by kernel_rfl, ?_⟩
    refine ex_cond rfl (fun hc7 => ?_) (fun hc7 => ?_)
    · simp at hc7
    try simp at hc7
    try have heq : ¬ p.ev = e := by simpa [litOp] using hc7
    refine ex_exit ?_
    refine hK1 _ _ ?_
    clear hK2 K2 hK1 K1
    refine ex_rs ttOK (by rfl) ?_
    refine rl_move rfl ?_
    refine rl_assign rfl ?_
    refine ex_toChn 0 b0 240 243 (bs) (ps.map (encPa c)) rfl hbl rfl ?_
    refine ex_ret ?_
    refine ⟨.inr rfl, [γ 0], rfl, ?_, HE.same rfl HE.nil⟩
    exact congrArg (fun v : Nat => some [AV.pv (.int .i64 (v : Int))]) (h3.trans (by rw [same_end2 g2]; rfl)).symm
  try simp at hg4
  have g2 : i < s.length := by omega
  obtain ⟨e, he⟩ : ∃ e, s[i]? = some e := ⟨_, List.getElem?_eq_getElem (by omega)⟩
  refine rl_move rfl ?_
  refine rl_gT rfl rfl ?_
  refine rl_nilQ rfl ?_
  refine rl_gT rfl rfl ?_
  refine rl_fieldAddrQ ttOK rfl tt_243 rfl rfl tt_78 rfl ?_
  refine rl_gT rfl rfl ?_
  refine rl_fieldAddrQ ttOK rfl tt_78 rfl rfl tt_76 rfl ?_
  refine rl_gT rfl rfl ?_
  refine rl_loadQ ttOK (out := .agg (encEv p.ev)) 0 rfl tt_76 rfl (chB_get hbl hb (get_map hp)) rfl ?_
  refine rl_gT rfl rfl ?_
  refine rl_move rfl ?_
  refine rl_gT rfl rfl ?_
  refine rl_move rfl ?_
  refine rl_gT rfl rfl ?_
  refine rl_idxm rfl rfl tt_24 rfl tt_76 rfl he ?_
  refine rl_gT rfl rfl ?_
  refine rl_load_iel (out := .agg (encEv e)) rfl tt_76 rfl ?_
  refine rl_gT rfl rfl ?_
  refine rl_eq rfl rfl (by intro a c h; cases h) (.inl rfl) (eqEv _ _ _ _) ?_
  refine rl_pickT rfl rfl ?_
  refine ⟨by kernel_rfl, ?_⟩
  refine ex_cond rfl (fun hc5 => ?_) (fun hc5 => ?_)
  rotate_left
  · try simp at hc5
    try have heq : ¬ p.ev = e := by simpa [litOp] using hc5
    refine ex_exit ?_
    refine hK1 _ _ ?_
    clear hK2 K2 hK1 K1
    refine ex_rs ttOK (by rfl) ?_
    refine rl_move rfl ?_
    refine rl_assign rfl ?_
    refine ex_toChn 0 b0 240 243 (bs) (ps.map (encPa c)) rfl hbl rfl ?_
    refine ex_ret ?_
    refine ⟨.inr rfl, [γ 0], rfl, ?_, HE.same rfl HE.nil⟩
    exact congrArg (fun v : Nat => some [AV.pv (.int .i64 (v : Int))]) (h3.trans (by rw [same_stop hp he heq]; rfl)).symm
  try simp at hc5
  try have heq : p.ev = e := by simpa [litOp] using hc5
  refine ex_skip ?_
  refine hK2 _ _ ?_
  clear hK2 K2
  refine ex_seq_k fun K6 hK6 => ?_
  refine ex_block ?_
  refine ex_region ttOK (by rfl) ?_
  refine rl_move rfl ?_
  refine rl_addN (b := 1) rfl rfl (by omega) ?_
  refine rl_assign rfl ?_
  refine hK6 _ _ ?_
  clear hK6 K6
  refine ex_region ttOK (by rfl) ?_
  refine rl_move rfl ?_
  refine rl_nilQ rfl ?_
  refine rl_fieldAddrQ ttOK rfl tt_243 rfl rfl tt_238 rfl ?_
  refine rl_loadQ ttOK (out := .pv (ptrOf bs[i + 1]?)) 0 rfl tt_238 rfl (chB_get hbl hb (get_map hp)) rfl ?_
  refine rl_assign rfl ?_
  exact ⟨i + 1, ⟨⟨by omega, by omega, by rw [h3, same_step hp he heq]; omega⟩, by omega⟩, [], (Cov.cons (t := 5) rfl (Cov.cons (t := 6) rfl Cov.nil)), (Cov.cons (t := 1) rfl Cov.nil), HE.nil, (HE.same (id := 0) rfl HE.nil), rfl⟩
end Go.Proofs.YtpadkogpeobboaaGreat.Am
namespace Go.Proofs.YtpadkogpeobboaaGreat.Am
open Go Go.RowKit
theorem F_impl_NodeOk (c : Bool) (n : Nd) : Pure Tryz.prog 61 [.agg (encNd c n)] (.pv (.bool (kb (nodeOk n)))) := by
  refine pure_of_ex ttOK (fn := Tryz.f61) (by kernel_rfl) (by kernel_rfl) rfl (outs := [.pv (.bool (kb (nodeOk n)))]) (by rfl) (Nat.le_of_ble_eq_true rfl) 8 ?_
  have hpl := procs_len n.id 4
  refine ex_rs ttOK (by rfl) ?_
  refine rl_boxA (id := 0) rfl rfl rfl ?_
  refine rl_assign rfl ?_
  refine ex_seq_k fun K1 hK1 => ?_
  refine ex_rs ttOK (by rfl) ?_
  refine rl_loadA_ptr rfl tt_28 rfl rfl rfl ?_
  refine rl_call rfl rfl rfl (F_impl_shapeOk ..) ?_
  refine rl_not rfl ?_
  refine ex_cond rfl (fun hc2 => ?_) (fun hc2 => ?_)
  · try simp at hc2
    try have hX : ¬ shapeOk n := kb_not (by simpa using hc2)
    refine ex_rs ttOK (by rfl) ?_
    refine rl_assign rfl ?_
    refine ex_ret ⟨.inr rfl, ?_⟩
    clear hK1 K1
    refine ret_pv rfl ?_ rfl
    exact congrArg (fun b : Bool => [AV.pv (.bool b)]) (kb_f (fun h => hX h.1))
  try simp at hc2
  have fS : shapeOk n := kb_iff.1 (by simpa using hc2)
  have fB := shape_bound fS
  have fL := fS.2.2.2.2.1
  have fV := fS.2.2.2.2.2.1
  refine ex_skip ?_
  refine hK1 _ _ ?_
  clear hK1 K1
  refine ex_rs ttOK (by rfl) ?_
  refine rl_loadA_ptr rfl tt_28 rfl rfl rfl ?_
  refine rl_meth [1, 2, 3, 4, 5] [_, _, _, _, _] (F_impl_bodyOf c n (by omega) (by omega) fS.2.2.2.2.2.2.1) rfl rfl rfl (by decide) rfl rfl (by repeat (first | exact InH.nil | refine InH.cons rfl ?_)) (by (simp only [pI, List.map_cons, List.map_nil, insAll, insEnc, gl, nx, memN, Nat.beq, Nat.add_eq, List.getD_cons_zero, List.getD_cons_succ, List.getD_nil, Bool.or_false, Bool.false_or, Bool.true_or, Bool.or_true, Nat.add_zero, Nat.zero_add]; rfl)) (by (simp only [pI, List.map_cons, List.map_nil, insAll, insEnc, gl, nx, memN, Nat.beq, Nat.add_eq, List.getD_cons_zero, List.getD_cons_succ, List.getD_nil, Bool.or_false, Bool.false_or, Bool.true_or, Bool.or_true, Nat.add_zero, Nat.zero_add]; rfl)) ?_
  refine rl_assign rfl ?_
  refine ex_seq_k fun K3 hK3 => ?_
  refine ex_rs ttOK (by rfl) ?_
  refine rl_fieldAddr rfl tt_28 rfl rfl tt_3 rfl rfl ?_
  refine rl_load_ptr rfl tt_3 rfl rfl ?_
  refine rl_call rfl rfl rfl (F_impl_procsOf ..) ?_
  refine rl_lenm rfl tt_22 rfl ?_
  refine rl_move rfl ?_
  refine ex_block ?_
  refine ex_loopK (ι := Nat) (fun j γ1 => [(16, .pv (.int .i64 (j : Int)))]) (fun j γ1 => [(6, ((γ1 6), .dead)), (7, ((γ1 7), .dead))]) (fun j => j ≤ (procs n.id 4).length ∧ upTo n.lanes (fun j l => ∀ p, (procs n.id 4)[j]? = some p → l.done.length ≤ same l.done (cameL n p) ∧ (cameL n p).length ≤ 100) j) (fun j => (procs n.id 4).length - j) (Cov.cons (t := 3) rfl (Cov.cons (t := 14) rfl (Cov.cons (t := 15) rfl Cov.nil))) (HE.same (id := 0) rfl (HE.same (id := 1) rfl (HE.same (id := 2) rfl (HE.same (id := 3) rfl (HE.same (id := 4) rfl (HE.same (id := 5) rfl HE.nil)))))) 0 ⟨by omega, upTo_zero⟩ [0, 0, 0, 0, 0, 0, _, _] (Cov.cons (t := 16) rfl Cov.nil) (HE.kill rfl (HE.kill rfl HE.nil)) rfl fun j γ1 hi => ?_
  try dsimp only [List.cons_append, List.nil_append]
  obtain ⟨d1, d2⟩ := hi
  refine ex_rs ttOK (by rfl) ?_
  refine rl_bin rfl rfl rfl ?_
  refine ex_seq_k fun K4 hK4 => ?_
  refine ex_cond rfl (fun hc5 => ?_) (fun hc5 => ?_)
  rotate_left
  · try simp at hc5
    have fC := fun (i : Nat) p l (a : (procs n.id 4)[i]? = some p) (b : n.lanes[i]? = some l) => upTo_all d2 (by omega) i l b p a
    refine ex_exit ?_
    refine hK3 _ _ ?_
    clear hK4 K4 hK3 K3
    refine ex_rs ttOK (by rfl) ?_
    refine rl_assign rfl ?_
    refine ex_ret ⟨.inr rfl, ?_⟩
    refine ret_pv rfl ?_ rfl
    exact congrArg (fun b : Bool => [AV.pv (.bool b)]) (kb_t ⟨fS, fC⟩)
  try simp at hc5
  obtain ⟨l, hl⟩ : ∃ l, n.lanes[j]? = some l := ⟨_, List.getElem?_eq_getElem (by omega)⟩
  obtain ⟨p, hp⟩ : ∃ p, (procs n.id 4)[j]? = some p := ⟨_, List.getElem?_eq_getElem (by omega)⟩
  obtain ⟨hdl, _⟩ := laOk_parts (fS.2.2.2.2.2.2.2.1 j l hl).2
  refine ex_skip ?_
  refine hK4 _ _ ?_
  clear hK4 K4
  refine ex_seq_k fun K6 hK6 => ?_
  refine ex_block ?_
  refine ex_rs ttOK (by rfl) ?_
  refine rl_move rfl ?_
  refine rl_idxm rfl rfl tt_22 rfl tt_3 rfl hp ?_
  refine rl_load_iel rfl tt_3 rfl ?_
  refine rl_assign rfl ?_
  refine rl_assign rfl ?_
  refine ex_rs ttOK (by rfl) ?_
  refine rl_move rfl ?_
  refine rl_move rfl ?_
  refine rl_meth [1, 2, 3, 4, 5, 6] [_, _, _, _, _, _] (F_impl_body_came c n p (came_bound fS) (by omega) fS.2.2.2.2.2.1) rfl rfl rfl (by decide) rfl rfl (by repeat (first | exact InH.nil | refine InH.cons rfl ?_)) (by (simp only [pI, List.map_cons, List.map_nil, insAll, insEnc, gl, nx, memN, Nat.beq, Nat.add_eq, List.getD_cons_zero, List.getD_cons_succ, List.getD_nil, Bool.or_false, Bool.false_or, Bool.true_or, Bool.or_true, Nat.add_zero, Nat.zero_add]; rfl)) (by (simp only [pI, List.map_cons, List.map_nil, insAll, insEnc, gl, nx, memN, Nat.beq, Nat.add_eq, List.getD_cons_zero, List.getD_cons_succ, List.getD_nil, Bool.or_false, Bool.false_or, Bool.true_or, Bool.or_true, Nat.add_zero, Nat.zero_add]; rfl)) ?_
  refine rl_assign rfl ?_
  refine ex_frzM 6 rfl rfl (fun _ => rfl) ?_
  refine ex_rsD ttOK mixed (by rfl) ?_
  refine rl_move rfl ?_
  refine rl_lenm rfl tt_24 rfl ?_
  refine rl_bin rfl rfl rfl ?_
  refine rl_move rfl ?_
  refine rl_g rfl rfl (fun hg7 => ?_) (fun hg7 => ?_)
  rotate_left
  · try simp at hg7
    refine rl_gF rfl rfl ?_
    refine rl_gF rfl rfl ?_
    refine rl_gF rfl rfl ?_
    refine rl_gF rfl rfl ?_
    refine rl_gF rfl rfl ?_
    refine rl_gF rfl rfl ?_
    refine rl_gF rfl rfl ?_
    refine rl_gF rfl rfl ?_
    refine rl_gF rfl rfl ?_
    refine rl_gF rfl rfl ?_
    refine rl_gF rfl rfl ?_
    refine rl_gF rfl rfl ?_
    refine rl_gF rfl rfl ?_
    refine rl_gF rfl rfl ?_
    refine rl_gF rfl rfl ?_
    refine rl_gF rfl rfl ?_
    refine rl_gF rfl rfl ?_
    refine rl_gF rfl rfl ?_
    refine rl_pickT rfl rfl ?_
    refine ⟨by kernel_rfl, ?_⟩
    refine ex_cond rfl (fun hc9 => ?_) (fun hc9 => ?_)
    rotate_left
    · simp at hc9
    try simp at hc9
    refine ex_rs ttOK (by rfl) ?_
    refine rl_assign rfl ?_
    refine ex_ret ⟨.inr rfl, ?_⟩
    clear hK6 K6 hK3 K3
    refine ret_pv rfl ?_ rfl
    exact congrArg (fun b : Bool => [AV.pv (.bool b)]) (kb_f (fun h => by have := h.2 _ _ _ hp hl; omega))
  try simp at hg7
  refine rl_move rfl ?_
  refine rl_gT rfl rfl ?_
  refine rl_nil rfl rfl ?_
  refine rl_gT rfl rfl ?_
  refine rl_fieldAddr rfl tt_139 rfl rfl tt_136 rfl rfl ?_
  refine rl_gT rfl rfl ?_
  refine rl_load_ptr rfl tt_136 rfl rfl ?_
  refine rl_gT rfl rfl ?_
  refine rl_move rfl ?_
  refine rl_gT rfl rfl ?_
  refine rl_idxR (j := j) rfl rfl tt_136 rfl tt_63 rfl rfl (lt_of_get hl) ?_
  refine rl_gT rfl rfl ?_
  refine rl_loadE rfl tt_63 rfl hl rfl ?_
  refine rl_gT rfl rfl ?_
  refine rl_meth [7] [_] (F_impl_chainOf c l.done) rfl rfl rfl (by decide) rfl rfl (by repeat (first | exact InH.nil | refine InH.cons rfl ?_)) (by (simp only [pI, List.map_cons, List.map_nil, insAll, insEnc, gl, nx, memN, Nat.beq, Nat.add_eq, List.getD_cons_zero, List.getD_cons_succ, List.getD_nil, Bool.or_false, Bool.false_or, Bool.true_or, Bool.or_true, Nat.add_zero, Nat.zero_add]; rfl)) (by (simp only [pI, List.map_cons, List.map_nil, insAll, insEnc, gl, nx, memN, Nat.beq, Nat.add_eq, List.getD_cons_zero, List.getD_cons_succ, List.getD_nil, Bool.or_false, Bool.false_or, Bool.true_or, Bool.or_true, Nat.add_zero, Nat.zero_add]; rfl)) ?_
  refine rl_gT rfl rfl ?_
  refine rl_move rfl ?_
  refine rl_gT rfl rfl ?_
  refine rl_meth [7] [_] (F_impl_chain_agreeing c true l.done (cameL n p)) rfl rfl rfl (by decide) rfl rfl (by repeat (first | exact InH.nil | refine InH.cons rfl ?_)) (by (simp only [pI, List.map_cons, List.map_nil, insAll, insEnc, gl, nx, memN, Nat.beq, Nat.add_eq, List.getD_cons_zero, List.getD_cons_succ, List.getD_nil, Bool.or_false, Bool.false_or, Bool.true_or, Bool.or_true, Nat.add_zero, Nat.zero_add]; rfl)) (by (simp only [pI, List.map_cons, List.map_nil, insAll, insEnc, gl, nx, memN, Nat.beq, Nat.add_eq, List.getD_cons_zero, List.getD_cons_succ, List.getD_nil, Bool.or_false, Bool.false_or, Bool.true_or, Bool.or_true, Nat.add_zero, Nat.zero_add]; rfl)) ?_
  refine rl_gT rfl rfl ?_
  refine rl_move rfl ?_
  refine rl_gT rfl rfl ?_
  refine rl_nil rfl rfl ?_
  refine rl_gT rfl rfl ?_
  refine rl_fieldAddr rfl tt_139 rfl rfl tt_136 rfl rfl ?_
  refine rl_gT rfl rfl ?_
  refine rl_load_ptr rfl tt_136 rfl rfl ?_
  refine rl_gT rfl rfl ?_
  refine rl_move rfl ?_
  refine rl_gT rfl rfl ?_
  refine rl_idxR (j := j) rfl rfl tt_136 rfl tt_63 rfl rfl (lt_of_get hl) ?_
  refine rl_gT rfl rfl ?_
  refine rl_loadE rfl tt_63 rfl hl rfl ?_
  refine rl_gT rfl rfl ?_
  refine rl_lenm rfl tt_63 rfl ?_
  refine rl_gT rfl rfl ?_
  refine rl_bin rfl rfl rfl ?_
  refine rl_pickF rfl rfl ?_
  refine ⟨by kernel_rfl, ?_⟩
  refine ex_cond rfl (fun hc8 => ?_) (fun hc8 => ?_)
  rotate_left
  · try simp at hc8
    refine ex_skip ?_
    refine hK6 _ _ ?_
    clear hK6 K6
    refine ex_region ttOK (by rfl) ?_
    refine rl_addN (b := 1) rfl rfl (by omega) ?_
    refine rl_move rfl ?_
    exact ⟨j + 1, ⟨⟨by omega, upTo_step d2 hl (fun p2 hp2 => by rw [hp] at hp2; cases hp2; omega)⟩, by omega⟩, [0, 0, 0, 0, 0, 0, _, _], (Cov.cons (t := 16) rfl Cov.nil), (Cov.cons (t := 3) rfl (Cov.cons (t := 14) rfl (Cov.cons (t := 15) rfl Cov.nil))), (HE.kill rfl (HE.kill rfl HE.nil)), (HE.same (id := 0) rfl (HE.same (id := 1) rfl (HE.same (id := 2) rfl (HE.same (id := 3) rfl (HE.same (id := 4) rfl (HE.same (id := 5) rfl HE.nil)))))), rfl⟩
  try simp at hc8
  refine ex_rs ttOK (by rfl) ?_
  refine rl_assign rfl ?_
  refine ex_ret ⟨.inr rfl, ?_⟩
  clear hK6 K6 hK3 K3
  refine ret_pv rfl ?_ rfl
  exact congrArg (fun b : Bool => [AV.pv (.bool b)]) (kb_f (fun h => by have := h.2 _ _ _ hp hl; omega))
end Go.Proofs.YtpadkogpeobboaaGreat.Am
namespace Go.Proofs.YtpadkogpeobboaaGreat.Am
open Go Go.RowKit
theorem F_impl_body_sent_f (c : Bool) (n : Nd) (hs : (sentL n).length ≤ 5000000) (hlen : n.lanes.length ≤ 1048576) : Meth Tryz.prog 189 6 [0, 1, 2, 3, 4] [.ptr 4 0 0] [(0, (0, .row 62 3 ((n.lanes).map fun l => encSt l.base))), (1, (0, .row 63 1 ((n.lanes).map fun l => [rPas c l.done]))), (2, (0, .map (vmap c n.views))), (3, (0, .row 3 1 (n.known.map encI))), (4, (0, .box 139 [pI n.id, pI n.inc, pI n.g, pI n.led, .ref 0 0, rEvs c n.kept, rOus c n.outs, .pv (.bool n.up), .ref 1 0, pI n.version, .mp 2 0, .ref 3 0, pI n.round, pI n.low])), (5, (0, .dead))] (rEvs true (sentL n)) [(5, (0, .dead))] := by
  refine meth_of_ex ttOK (fn := Tryz.f189) (by kernel_rfl) (by kernel_rfl) rfl (O0 := [rEvs true (sentL n)]) 6 2 (Nat.le_of_ble_eq_true rfl) (by rfl) (by repeat (first | exact BndH.nil | refine BndH.dead ?_ | refine BndH.box rfl ?_ | refine BndH.row (flatR_map fun _ => rfl) ?_ | refine BndH.map (vmap_flat _ _) ?_ )) (by repeat (first | exact BndH.nil | refine BndH.dead ?_ )) (by rfl) fun γ => ?_
  show Ex Tryz.prog _ _ [(0, .ptr 4 (γ 4) 0)] [(0, ((γ 0), .row 62 3 ((n.lanes).map fun l => encSt l.base))), (1, ((γ 1), .row 63 1 ((n.lanes).map fun l => [rPas c l.done]))), (2, ((γ 2), .map (vmap c n.views))), (3, ((γ 3), .row 3 1 (n.known.map encI))), (4, ((γ 4), .box 139 [pI n.id, pI n.inc, pI n.g, pI n.led, .ref 0 (γ 0), rEvs c n.kept, rOus c n.outs, .pv (.bool n.up), .ref 1 (γ 1), pI n.version, .mp 2 (γ 2), .ref 3 (γ 3), pI n.round, pI n.low])), (5, ((γ 5), .dead)), (7, (0, .dead)), (6, (0, .dead))] _
  have hkl : n.kept.length ≤ 5000000 := by simp only [sentL, List.length_append] at hs; omega
  refine ex_rs ttOK (by rfl) ?_
  refine rl_assign rfl ?_
  refine ex_rs ttOK (by rfl) ?_
  refine rl_move rfl ?_
  refine rl_nil rfl rfl ?_
  refine rl_fieldAddr rfl tt_139 rfl rfl tt_113 rfl rfl ?_
  refine rl_fieldAddr rfl tt_113 rfl rfl tt_24 rfl rfl ?_
  refine rl_load_ptr rfl tt_24 rfl rfl ?_
  refine rl_meth [5] [_] (F_slices_Clone_impl_Event_impl_Event c n.kept (by omega)) rfl rfl rfl (by decide) rfl rfl (by repeat (first | exact InH.nil | refine InH.cons rfl ?_)) (by (simp only [pI, List.map_cons, List.map_nil, insAll, insEnc, gl, nx, memN, Nat.beq, Nat.add_eq, List.getD_cons_zero, List.getD_cons_succ, List.getD_nil, Bool.or_false, Bool.false_or, Bool.true_or, Bool.or_true, Nat.add_zero, Nat.zero_add]; rfl)) (by (simp only [pI, List.map_cons, List.map_nil, insAll, insEnc, gl, nx, memN, Nat.beq, Nat.add_eq, List.getD_cons_zero, List.getD_cons_succ, List.getD_nil, Bool.or_false, Bool.false_or, Bool.true_or, Bool.or_true, Nat.add_zero, Nat.zero_add]; rfl)) ?_
  refine rl_assign rfl ?_
  refine ex_seq_k fun K1 hK1 => ?_
  refine ex_rs ttOK (by rfl) ?_
  refine rl_move rfl ?_
  refine rl_nil rfl rfl ?_
  refine rl_fieldAddr rfl tt_139 rfl rfl tt_136 rfl rfl ?_
  refine rl_load_ptr rfl tt_136 rfl rfl ?_
  refine rl_lenr rfl tt_136 rfl rfl (by exact List.length_map _) ?_
  refine rl_move rfl ?_
  refine ex_block ?_
  refine ex_loopK (ι := Nat) (fun i γ1 => [(3, .ref 5 (γ1 5)), (19, .pv (.int .i64 (i : Int)))]) (fun i γ1 => [(5, ((γ1 5), .row 76 7 ((n.kept ++ (n.lanes.take i).flatMap lsent).map encEv))), (6, ((γ1 6), .dead)), (7, ((γ1 7), .dead))]) (fun i => i ≤ n.lanes.length) (fun i => n.lanes.length - i) (Cov.cons (t := 17) rfl (Cov.cons (t := 18) rfl Cov.nil)) (HE.same (id := 0) rfl (HE.same (id := 1) rfl (HE.same (id := 2) rfl (HE.same (id := 3) rfl (HE.same (id := 4) rfl HE.nil))))) 0 (by omega) [0, 0, 0, 0, 0, _, _, _] (Cov.cons (t := 3) rfl (Cov.cons (t := 19) rfl Cov.nil)) (HE.row rfl (by simp) (HE.kill rfl (HE.kill rfl HE.nil))) rfl fun i γ1 hi => ?_
  try dsimp only [List.cons_append, List.nil_append]
  refine ex_rs ttOK (by rfl) ?_
  refine rl_bin rfl rfl rfl ?_
  refine ex_seq_k fun K2 hK2 => ?_
  refine ex_cond rfl (fun hc3 => ?_) (fun hc3 => ?_)
  rotate_left
  · try simp at hc3
    obtain rfl : i = n.lanes.length := by omega
    refine ex_exit ?_
    refine hK1 _ _ ?_
    clear hK2 K2 hK1 K1
    refine ex_rs ttOK (by rfl) ?_
    refine rl_move rfl ?_
    refine rl_assign rfl ?_
    refine ex_frzM 2 rfl rfl (fun _ => rfl) ?_
    refine ex_ret ?_
    exact ⟨.inr rfl, [γ 0, γ 1, γ 2, γ 3, γ 4, _], rfl, congrArg (fun l : List Ev => some [rEvs true l]) (by rw [List.take_length]; rfl), HE.kill rfl (HE.same (id := 0) rfl (HE.same (id := 1) rfl (HE.same (id := 2) rfl (HE.same (id := 3) rfl (HE.same (id := 4) rfl HE.nil)))))⟩
  try simp at hc3
  obtain ⟨p, hp⟩ : ∃ p, n.lanes[i]? = some p := ⟨_, List.getElem?_eq_getElem (by omega)⟩
  refine ex_skip ?_
  refine hK2 _ _ ?_
  clear hK2 K2
  refine ex_seq_k fun K4 hK4 => ?_
  refine ex_block ?_
  refine ex_rs ttOK (by rfl) ?_
  refine rl_idxR (j := i) rfl rfl tt_136 rfl tt_63 rfl rfl (lt_of_get hp) ?_
  refine rl_loadE rfl tt_63 rfl hp rfl ?_
  refine rl_assign rfl ?_
  refine ex_rs ttOK (by rfl) ?_
  refine rl_move rfl ?_
  refine rl_lenm rfl tt_63 rfl ?_
  refine rl_move rfl ?_
  refine ex_block ?_
  refine ex_rowlenm 23 rfl fun hlen2 => ?_
  refine ex_loopK (ι := Nat) (fun j γ2 => [(3, .ref 5 (γ2 5)), (25, .pv (.int .i64 (j : Int)))]) (fun j γ2 => [(5, ((γ2 5), .row 76 7 ((n.kept ++ (n.lanes.take i).flatMap lsent ++ (p.done.take j).flatMap Pa.sends).map encEv))), (6, ((γ2 6), .dead)), (7, ((γ2 7), .dead))]) (fun j => j ≤ p.done.length) (fun j => p.done.length - j) (Cov.cons (t := 17) rfl (Cov.cons (t := 18) rfl (Cov.cons (t := 19) rfl (Cov.cons (t := 23) rfl (Cov.cons (t := 24) rfl Cov.nil))))) (HE.same (id := 0) rfl (HE.same (id := 1) rfl (HE.same (id := 2) rfl (HE.same (id := 3) rfl (HE.same (id := 4) rfl HE.nil))))) 0 (by omega) [0, 0, 0, 0, 0, _, _, _] (Cov.cons (t := 3) rfl (Cov.cons (t := 25) rfl Cov.nil)) (HE.row rfl (by simp) (HE.kill rfl (HE.kill rfl HE.nil))) rfl fun j γ2 hi => ?_
  try dsimp only [List.cons_append, List.nil_append]
  refine ex_rs ttOK (by rfl) ?_
  refine rl_bin rfl rfl rfl ?_
  refine ex_seq_k fun K5 hK5 => ?_
  refine ex_cond rfl (fun hc6 => ?_) (fun hc6 => ?_)
  rotate_left
  · try simp at hc6
    obtain rfl : j = p.done.length := by omega
    refine ex_exit ?_
    refine hK4 _ _ ?_
    clear hK5 K5 hK4 K4
    refine ex_region ttOK (by rfl) ?_
    refine rl_bin rfl rfl rfl ?_
    refine rl_move rfl ?_
    exact ⟨i + 1, ⟨by omega, by omega⟩, [0, 0, 0, 0, 0, _, _, _], (Cov.cons (t := 3) rfl (Cov.cons' (t := 19) rfl (by rw [wrap_small (by omega) (by omega)]; rfl) Cov.nil)), (Cov.cons (t := 17) rfl (Cov.cons (t := 18) rfl Cov.nil)), (HE.row rfl (by simp only [flat_take hp, List.append_assoc, lsent, List.take_length]) (HE.kill rfl (HE.kill rfl HE.nil))), (HE.same (id := 0) rfl (HE.same (id := 1) rfl (HE.same (id := 2) rfl (HE.same (id := 3) rfl (HE.same (id := 4) rfl HE.nil))))), rfl⟩
  try simp at hc6
  obtain ⟨q, hq⟩ : ∃ q, p.done[j]? = some q := ⟨_, List.getElem?_eq_getElem (by omega)⟩
  have hsp := sent_part hp hq
  refine ex_skip ?_
  refine hK5 _ _ ?_
  clear hK5 K5
  refine ex_seq_k fun K7 hK7 => ?_
  refine ex_block ?_
  refine ex_rs ttOK (by rfl) ?_
  refine rl_idxm rfl rfl tt_63 rfl tt_78 rfl (by assumption) ?_
  refine rl_loadA_iel rfl tt_78 rfl rfl ?_
  refine rl_alloc (id := 6) tt_78 za_78 rfl ?_
  refine rl_storeA rfl rfl tt_78 rfl rfl rfl rfl ?_
  refine ex_region ttOK (by rfl) ?_
  refine rl_move rfl ?_
  refine rl_fieldAddr rfl tt_78 rfl rfl tt_24 rfl rfl ?_
  refine rl_load_ptr rfl tt_24 rfl rfl ?_
  refine rl_app_rd (zs := (n.kept ++ (n.lanes.take i).flatMap lsent ++ (p.done.take j).flatMap Pa.sends ++ q.sends).map encEv) rfl rfl tt_24 rfl tt_76 rfl rfl rfl (by exact noow_map (fun _ => rfl) _) (map_app _ _ _) (by have hb56 : T76.bytes = 56 := rfl; rw [List.length_map, hb56]; omega) ?_
  refine rl_assign rfl ?_
  refine hK7 _ _ ?_
  clear hK7 K7
  refine ex_region ttOK (by rfl) ?_
  refine rl_bin rfl rfl rfl ?_
  refine rl_move rfl ?_
  exact ⟨j + 1, ⟨by omega, by omega⟩, [0, 0, 0, 0, 0, _, _, _], (Cov.cons (t := 3) rfl (Cov.cons' (t := 25) rfl (by rw [wrap_small (by omega) (by omega)]; rfl) Cov.nil)), (Cov.cons (t := 17) rfl (Cov.cons (t := 18) rfl (Cov.cons (t := 19) rfl (Cov.cons (t := 23) rfl (Cov.cons (t := 24) rfl Cov.nil))))), (HE.row rfl (by simp only [flat_take hq, List.append_assoc]) (HE.kill rfl (HE.kill rfl HE.nil))), (HE.same (id := 0) rfl (HE.same (id := 1) rfl (HE.same (id := 2) rfl (HE.same (id := 3) rfl (HE.same (id := 4) rfl HE.nil))))), rfl⟩
theorem F_impl_body_tells_1 (to kn : Int) (e : Ev) : Meth Tryz.prog 190 2 [0, 1] [.agg (encEv e), .ptr 0 0 0, .ptr 1 0 0] [(0, (0, .box 3 [pI to])), (1, (0, .box 3 [pI kn]))] (.pv (.bool (wantK to kn e))) [] := by
  refine meth_of_ex ttOK (fn := Tryz.f190) (by kernel_rfl) (by kernel_rfl) rfl (O0 := [.pv (.bool (wantK to kn e))]) 2 1 (Nat.le_of_ble_eq_true rfl) (by rfl) (by repeat (first | exact BndH.nil | refine BndH.box rfl ?_ )) (by repeat (exact BndH.nil )) (by rfl) fun γ => ?_
  show Ex Tryz.prog _ _ [(0, .agg (encEv e)), (1, .ptr 0 (γ 0) 0), (2, .ptr 1 (γ 1) 0)] [(0, ((γ 0), .box 3 [pI to])), (1, ((γ 1), .box 3 [pI kn])), (2, (0, .dead))] _
  refine ex_rs ttOK (by rfl) ?_
  refine rl_boxA (id := 2) rfl rfl rfl ?_
  refine rl_assign rfl ?_
  refine ex_rsD ttOK mixed (by rfl) ?_
  refine rl_fieldAddr rfl tt_76 rfl rfl tt_3 rfl rfl ?_
  refine rl_load_ptr rfl tt_3 rfl rfl ?_
  refine rl_call rfl rfl rfl (F_impl_NodeOf ..) ?_
  refine rl_load_ptr rfl tt_3 rfl rfl ?_
  refine rl_bin rfl rfl rfl ?_
  refine rl_move rfl ?_
  refine rl_g rfl rfl (fun hg1 => ?_) (fun hg1 => ?_)
  rotate_left
  · try simp at hg1
    refine rl_gF rfl rfl ?_
    refine rl_gF rfl rfl ?_
    refine rl_gF rfl rfl ?_
    refine rl_pickF rfl rfl ?_
    refine rl_assign rfl ?_
    refine ⟨by kernel_rfl, ?_⟩
    refine ex_ret ?_
    exact ⟨.inr rfl, [γ 0, γ 1], rfl, congrArg (fun b : Bool => some [AV.pv (.bool b)]) (by exact (decide_eq_false (by omega)).symm), (HE.same (id := 0) rfl (HE.same (id := 1) rfl HE.nil))⟩
  try simp at hg1
  refine rl_fieldAddr rfl tt_76 rfl rfl tt_3 rfl rfl ?_
  refine rl_gT rfl rfl ?_
  refine rl_load_ptr rfl tt_3 rfl rfl ?_
  refine rl_gT rfl rfl ?_
  refine rl_load_ptr rfl tt_3 rfl rfl ?_
  refine rl_gT rfl rfl ?_
  refine rl_bin rfl rfl rfl ?_
  refine rl_pickT rfl rfl ?_
  refine rl_assign rfl ?_
  refine ⟨by kernel_rfl, ?_⟩
  refine ex_ret ?_
  exact ⟨.inr rfl, [γ 0, γ 1], rfl, congrArg (fun b : Bool => some [AV.pv (.bool b)]) (by exact decide_eq_decide.2 (by omega)), (HE.same (id := 0) rfl (HE.same (id := 1) rfl HE.nil))⟩
theorem F_impl_pick_impl_Event_tells (to kn : Int) (l : List Ev) (hl : l.length ≤ 10000000) : Meth Tryz.prog 188 2 [0, 1] [rEvs true l, .fn (.func 190) [] [.ptr 0 0 0, .ptr 1 0 0]] [(0, (0, .box 3 [pI to])), (1, (0, .box 3 [pI kn]))] (rEvs true (l.filter (wantK to kn))) [] := by
  refine meth_of_ex ttOK (fn := Tryz.f188) (by kernel_rfl) (by kernel_rfl) rfl (O0 := [rEvs true (l.filter (wantK to kn))]) 2 4 (Nat.le_of_ble_eq_true rfl) (by rfl) (by repeat (first | exact BndH.nil | refine BndH.box rfl ?_ )) (by repeat (exact BndH.nil )) (by rfl) fun γ => ?_
  show Ex Tryz.prog _ _ [(0, rEvs true l), (1, .fn (.func 190) [] [.ptr 0 (γ 0) 0, .ptr 1 (γ 1) 0])] [(0, ((γ 0), .box 3 [pI to])), (1, ((γ 1), .box 3 [pI kn])), (5, (0, .dead)), (4, (0, .dead)), (3, (0, .dead)), (2, (0, .dead))] _
  refine ex_rs ttOK (by rfl) ?_
  refine rl_assign rfl ?_
  refine ex_rs ttOK (by rfl) ?_
  refine rl_assign rfl ?_
  refine ex_seq_k fun K1 hK1 => ?_
  refine ex_rs ttOK (by rfl) ?_
  refine rl_move rfl ?_
  refine rl_lenm rfl tt_24 rfl ?_
  refine rl_move rfl ?_
  refine ex_block ?_
  refine ex_nilref 5 5 76 7 rfl rfl ?_
  refine ex_loopK (ι := Nat) (fun i γ1 => [(5, .ref 5 (γ1 5)), (10, .pv (.int .i64 (i : Int)))]) (fun i γ1 => [(5, ((γ1 5), .row 76 7 (((l.take i).filter (wantK to kn)).map encEv))), (2, ((γ1 2), .dead)), (3, ((γ1 3), .dead)), (4, ((γ1 4), .dead))]) (fun i => i ≤ l.length) (fun i => l.length - i) (Cov.cons (t := 1) rfl (Cov.cons (t := 8) rfl (Cov.cons (t := 9) rfl Cov.nil))) (HE.same (id := 0) rfl (HE.same (id := 1) rfl HE.nil)) 0 (by omega) [0, 0, _, _, _, _] (Cov.cons (t := 5) rfl (Cov.cons (t := 10) rfl Cov.nil)) (HE.row rfl (by rw [List.take_zero]; rfl) (HE.kill rfl (HE.kill rfl (HE.kill rfl HE.nil)))) rfl fun i γ1 hi => ?_
  try dsimp only [List.cons_append, List.nil_append]
  refine ex_rs ttOK (by rfl) ?_
  refine rl_bin rfl rfl rfl ?_
  refine ex_seq_k fun K2 hK2 => ?_
  refine ex_cond rfl (fun hc3 => ?_) (fun hc3 => ?_)
  rotate_left
  · try simp at hc3
    obtain rfl : i = l.length := by omega
    rw [List.take_length]
    refine ex_exit ?_
    refine hK1 _ _ ?_
    clear hK2 K2 hK1 K1
    refine ex_frzM 5 rfl rfl (fun _ => rfl) ?_
    refine ex_rs ttOK (by rfl) ?_
    refine rl_move rfl ?_
    refine rl_assign rfl ?_
    refine ex_ret ?_
    exact ⟨.inr rfl, [γ 0, γ 1], rfl, rfl, (HE.same (id := 0) rfl (HE.same (id := 1) rfl HE.nil))⟩
  try simp at hc3
  obtain ⟨p, hp⟩ : ∃ p, l[i]? = some p := ⟨_, List.getElem?_eq_getElem (by omega)⟩
  have hfl : ((l.take i).filter (wantK to kn)).length ≤ 10000000 := Nat.le_trans (List.length_filter_le _ _) (by rw [List.length_take]; omega)
  refine ex_skip ?_
  refine hK2 _ _ ?_
  clear hK2 K2
  refine ex_seq_k fun K4 hK4 => ?_
  refine ex_block ?_
  refine ex_rs ttOK (by rfl) ?_
  refine rl_idxm rfl rfl tt_24 rfl tt_76 rfl (by assumption) ?_
  refine rl_loadA_iel rfl tt_76 rfl rfl ?_
  refine rl_alloc (id := 2) tt_76 za_76 rfl ?_
  refine rl_storeA rfl rfl tt_76 rfl rfl rfl rfl ?_
  refine ex_rs ttOK (by rfl) ?_
  refine rl_move rfl ?_
  refine rl_loadA_ptr rfl tt_76 rfl rfl rfl ?_
  refine rl_meth [0, 1] [_, _] (F_impl_body_tells_1 to kn p) rfl rfl rfl (by decide) rfl rfl (by repeat (first | exact InH.nil | refine InH.cons rfl ?_)) (by (simp only [pI, List.map_cons, List.map_nil, insAll, insEnc, gl, nx, memN, Nat.beq, Nat.add_eq, List.getD_cons_zero, List.getD_cons_succ, List.getD_nil, Bool.or_false, Bool.false_or, Bool.true_or, Bool.or_true, Nat.add_zero, Nat.zero_add]; rfl)) (by (simp only [pI, List.map_cons, List.map_nil, insAll, insEnc, gl, nx, memN, Nat.beq, Nat.add_eq, List.getD_cons_zero, List.getD_cons_succ, List.getD_nil, Bool.or_false, Bool.false_or, Bool.true_or, Bool.or_true, Nat.add_zero, Nat.zero_add]; rfl)) ?_
  refine ex_cond rfl (fun hc5 => ?_) (fun hc5 => ?_)
  rotate_left
  · try simp at hc5
    have hw : ¬ wantK to kn p = true := by rw [hc5]; decide
    refine ex_skip ?_
    refine hK4 _ _ ?_
    clear hK4 K4
    refine ex_region ttOK (by rfl) ?_
    refine rl_bin rfl rfl rfl ?_
    refine rl_move rfl ?_
    exact ⟨i + 1, ⟨by omega, by omega⟩, [0, 0, _, _, _, _], (Cov.cons (t := 5) rfl (Cov.cons' (t := 10) rfl (by rw [wrap_small (by omega) (by omega)]; rfl) Cov.nil)), (Cov.cons (t := 1) rfl (Cov.cons (t := 8) rfl (Cov.cons (t := 9) rfl Cov.nil))), (HE.row rfl (by rw [filter_take hp]; rw [if_neg hw, List.append_nil]) (HE.kill rfl (HE.kill rfl (HE.kill rfl HE.nil)))), (HE.same (id := 0) rfl (HE.same (id := 1) rfl HE.nil)), rfl⟩
  try simp at hc5
  have hw : wantK to kn p = true := hc5
  refine ex_region ttOK (by rfl) ?_
  refine rl_move rfl ?_
  refine rl_loadA_ptr rfl tt_76 rfl rfl rfl ?_
  refine rl_slice1A (id := 3) tt_24 rfl tt_76 rfl rfl rfl rfl rfl rfl ?_
  refine rl_app_rr (zs := ((l.take i).filter (wantK to kn) ++ [p]).map encEv) rfl rfl tt_24 rfl tt_76 rfl rfl rfl rfl (by rfl) (map_snoc _ _ _) (by (simp only [List.length_map, List.length_append, List.length_cons, List.length_nil, List.length_take, List.length_range, T76] at *; omega)) ?_
  refine rl_assign rfl ?_
  refine hK4 _ _ ?_
  clear hK4 K4
  refine ex_region ttOK (by rfl) ?_
  refine rl_bin rfl rfl rfl ?_
  refine rl_move rfl ?_
  exact ⟨i + 1, ⟨by omega, by omega⟩, [0, 0, _, _, _, _], (Cov.cons (t := 5) rfl (Cov.cons' (t := 10) rfl (by rw [wrap_small (by omega) (by omega)]; rfl) Cov.nil)), (Cov.cons (t := 1) rfl (Cov.cons (t := 8) rfl (Cov.cons (t := 9) rfl Cov.nil))), (HE.row rfl (by rw [filter_take hp]; rw [if_pos hw]) (HE.kill rfl (HE.kill rfl (HE.kill rfl HE.nil)))), (HE.same (id := 0) rfl (HE.same (id := 1) rfl HE.nil)), rfl⟩
theorem F_impl_body_tells (c : Bool) (n : Nd) (t : Nat) (ht : t < 3) (hk3 : n.known.length = 3) (hs : (sentL n).length ≤ 5000000) (hlen : n.lanes.length ≤ 1048576) : Meth Tryz.prog 104 6 [0, 1, 2, 3, 4] [.ptr 4 0 0, .pv (.int .i64 (t : Int))] [(0, (0, .row 62 3 ((n.lanes).map fun l => encSt l.base))), (1, (0, .row 63 1 ((n.lanes).map fun l => [rPas c l.done]))), (2, (0, .map (vmap c n.views))), (3, (0, .row 3 1 (n.known.map encI))), (4, (0, .box 139 [pI n.id, pI n.inc, pI n.g, pI n.led, .ref 0 0, rEvs c n.kept, rOus c n.outs, .pv (.bool n.up), .ref 1 0, pI n.version, .mp 2 0, .ref 3 0, pI n.round, pI n.low])), (5, (0, .dead))] (.ref 5 0) [(5, (0, .row 76 7 ((tellsL n (t : Int)).map encEv)))] := by
  refine meth_of_ex ttOK (fn := Tryz.f104) (by kernel_rfl) (by kernel_rfl) rfl (O0 := [.ref 5 0]) 6 3 (Nat.le_of_ble_eq_true rfl) (by rfl) (by repeat (first | exact BndH.nil | refine BndH.dead ?_ | refine BndH.box rfl ?_ | refine BndH.row (flatR_map fun _ => rfl) ?_ | refine BndH.map (vmap_flat _ _) ?_ )) (by repeat (first | exact BndH.nil | refine BndH.row (flatR_map fun _ => rfl) ?_ )) (by rfl) fun γ => ?_
  show Ex Tryz.prog _ _ [(0, .ptr 4 (γ 4) 0), (1, .pv (.int .i64 (t : Int)))] [(0, ((γ 0), .row 62 3 ((n.lanes).map fun l => encSt l.base))), (1, ((γ 1), .row 63 1 ((n.lanes).map fun l => [rPas c l.done]))), (2, ((γ 2), .map (vmap c n.views))), (3, ((γ 3), .row 3 1 (n.known.map encI))), (4, ((γ 4), .box 139 [pI n.id, pI n.inc, pI n.g, pI n.led, .ref 0 (γ 0), rEvs c n.kept, rOus c n.outs, .pv (.bool n.up), .ref 1 (γ 1), pI n.version, .mp 2 (γ 2), .ref 3 (γ 3), pI n.round, pI n.low])), (5, ((γ 5), .dead)), (8, (0, .dead)), (7, (0, .dead)), (6, (0, .dead))] _
  obtain ⟨kn, hkn⟩ : ∃ kn, n.known[t]? = some kn := ⟨_, List.getElem?_eq_getElem (by omega)⟩
  refine ex_rs ttOK (by rfl) ?_
  refine rl_box1 (id := 6) rfl rfl rfl rfl ?_
  refine rl_assign rfl ?_
  refine ex_rsD ttOK mixed (by rfl) ?_
  refine rl_move rfl ?_
  refine rl_nil rfl rfl ?_
  refine rl_fieldAddr rfl tt_139 rfl rfl tt_22 rfl rfl ?_
  refine rl_load_ptr rfl tt_22 rfl rfl ?_
  refine rl_load_ptr rfl tt_3 rfl rfl ?_
  refine rl_idxR (j := t) rfl rfl tt_22 rfl tt_3 rfl rfl (lt_of_get hkn) ?_
  refine rl_loadE rfl tt_3 rfl hkn rfl ?_
  refine rl_alloc (id := 7) tt_3 za_3 rfl ?_
  refine rl_store1 rfl rfl tt_3 rfl rfl rfl rfl rfl (by simp only [List.set_cons_zero, List.set_cons_succ]; rfl) ?_
  refine ⟨by kernel_rfl, ?_⟩
  refine ex_rs ttOK (by rfl) ?_
  refine rl_move rfl ?_
  refine rl_meth [0, 1, 2, 3, 4, 8] [_, _, _, _, _, _] (F_impl_body_sent_f c n hs hlen) rfl rfl rfl (by decide) rfl rfl (by repeat (first | exact InH.nil | refine InH.cons rfl ?_)) (by (simp only [pI, List.map_cons, List.map_nil, insAll, insEnc, gl, nx, memN, Nat.beq, Nat.add_eq, List.getD_cons_zero, List.getD_cons_succ, List.getD_nil, Bool.or_false, Bool.false_or, Bool.true_or, Bool.or_true, Nat.add_zero, Nat.zero_add]; rfl)) (by (simp only [pI, List.map_cons, List.map_nil, insAll, insEnc, gl, nx, memN, Nat.beq, Nat.add_eq, List.getD_cons_zero, List.getD_cons_succ, List.getD_nil, Bool.or_false, Bool.false_or, Bool.true_or, Bool.or_true, Nat.add_zero, Nat.zero_add]; rfl)) ?_
  refine rl_makeFunc rfl rfl ?_
  refine rl_meth [6, 7] [_, _] (F_impl_pick_impl_Event_tells (t : Int) kn _ (by omega)) rfl rfl rfl (by decide) rfl rfl (by repeat (first | exact InH.nil | refine InH.cons rfl ?_)) (by (simp only [pI, List.map_cons, List.map_nil, insAll, insEnc, gl, nx, memN, Nat.beq, Nat.add_eq, List.getD_cons_zero, List.getD_cons_succ, List.getD_nil, Bool.or_false, Bool.false_or, Bool.true_or, Bool.or_true, Nat.add_zero, Nat.zero_add]; rfl)) (by (simp only [pI, List.map_cons, List.map_nil, insAll, insEnc, gl, nx, memN, Nat.beq, Nat.add_eq, List.getD_cons_zero, List.getD_cons_succ, List.getD_nil, Bool.or_false, Bool.false_or, Bool.true_or, Bool.or_true, Nat.add_zero, Nat.zero_add]; rfl)) ?_
  refine rl_meth [5] [_] (F_impl_EventSort true _ (Nat.le_trans (List.length_filter_le _ _) (by omega))) rfl rfl rfl (by decide) rfl rfl (by repeat (first | exact InH.nil | refine InH.cons rfl ?_)) (by (simp only [pI, List.map_cons, List.map_nil, insAll, insEnc, gl, nx, memN, Nat.beq, Nat.add_eq, List.getD_cons_zero, List.getD_cons_succ, List.getD_nil, Bool.or_false, Bool.false_or, Bool.true_or, Bool.or_true, Nat.add_zero, Nat.zero_add]; rfl)) (by (simp only [pI, List.map_cons, List.map_nil, insAll, insEnc, gl, nx, memN, Nat.beq, Nat.add_eq, List.getD_cons_zero, List.getD_cons_succ, List.getD_nil, Bool.or_false, Bool.false_or, Bool.true_or, Bool.or_true, Nat.add_zero, Nat.zero_add]; rfl)) ?_
  refine rl_assign rfl ?_
  refine ex_ret ?_
  exact ⟨.inr rfl, [γ 0, γ 1, γ 2, γ 3, γ 4, _], rfl, rfl, HE.row rfl (by rw [tellsL_at hkn]) (HE.same (id := 0) rfl (HE.same (id := 1) rfl (HE.same (id := 2) rfl (HE.same (id := 3) rfl (HE.same (id := 4) rfl HE.nil)))))⟩
end Go.Proofs.YtpadkogpeobboaaGreat.Am
namespace Go.Proofs.YtpadkogpeobboaaGreat.Am
open Go Go.RowKit
theorem F_impl_tellsWord_word (i v g f t : Int) (l : List Ev) : Meth Tryz.prog 105 1 [0] [.agg [pI i, pI v, pI g, .ref 0 0], .pv (.int .i64 f), .pv (.int .i64 t)] [(0, (0, .row 76 7 ((l).map encEv)))] (.agg [pI 1, pI f, pI t, pI i, pI v, pI 0, pI g, .pv (.slice none 0 0), .pv (.slice none 0 0), .ref 0 0, .pv (.slice none 0 0)]) [] := by
  refine meth_of_ex ttOK (fn := Tryz.f105) (by kernel_rfl) (by kernel_rfl) rfl (O0 := [.agg [pI 1, pI f, pI t, pI i, pI v, pI 0, pI g, .pv (.slice none 0 0), .pv (.slice none 0 0), .ref 0 0, .pv (.slice none 0 0)]]) 1 2 (Nat.le_of_ble_eq_true rfl) (by rfl) (by repeat (first | exact BndH.nil | refine BndH.row (flatR_map fun _ => rfl) ?_ )) (by repeat (exact BndH.nil )) (by rfl) fun γ => ?_
  show Ex Tryz.prog _ _ [(0, .agg [pI i, pI v, pI g, .ref 0 (γ 0)]), (1, .pv (.int .i64 f)), (2, .pv (.int .i64 t))] [(0, ((γ 0), .row 76 7 ((l).map encEv))), (2, (0, .dead)), (1, (0, .dead))] _
  refine ex_rs ttOK (by rfl) ?_
  refine rl_boxA (id := 1) rfl rfl rfl ?_
  refine rl_alloc (id := 2) tt_52 za_52 rfl ?_
  refine ex_rs ttOK (by rfl) ?_
  refine rl_move rfl ?_
  refine rl_move rfl ?_
  refine rl_fieldAddr rfl tt_130 rfl rfl tt_3 rfl rfl ?_
  refine rl_load_ptr rfl tt_3 rfl rfl ?_
  refine rl_fieldAddr rfl tt_130 rfl rfl tt_3 rfl rfl ?_
  refine rl_load_ptr rfl tt_3 rfl rfl ?_
  refine rl_fieldAddr rfl tt_130 rfl rfl tt_3 rfl rfl ?_
  refine rl_load_ptr rfl tt_3 rfl rfl ?_
  refine rl_fieldAddr rfl tt_130 rfl rfl tt_24 rfl rfl ?_
  refine rl_load_ptr rfl tt_24 rfl rfl ?_
  refine rl_build tt_52 rfl za_52 rfl (by simp only [pI, tt_3, T3, tt_22, T22, tt_24, T24, tt_25, T25, fillA, cellsA, AV.okc, AV.one, Value.oneCell', List.map_cons, List.map_nil, List.getElem?_cons_zero, List.getElem?_cons_succ, List.take_succ_cons, List.take_zero, List.drop_succ_cons, List.drop_zero, List.cons_append, List.nil_append, List.length_cons, List.length_nil, if_true, and_self, Nat.reduceAdd, Nat.reduceLeDiff]; rfl) ?_
  refine rl_storeA rfl rfl tt_52 rfl rfl rfl rfl ?_
  refine ex_ret ?_
  exact ⟨.inr rfl, [γ 0], rfl, rfl, HE.same rfl HE.nil⟩
theorem F_impl_outsWord_word (g f t : Int) (l : List Ou) : Meth Tryz.prog 107 1 [0] [.agg [pI g, .ref 0 0], .pv (.int .i64 f), .pv (.int .i64 t)] [(0, (0, .row 104 5 ((l).map encOu)))] (.agg [pI 7, pI f, pI t, pI 0, pI 0, pI 0, pI g, .pv (.slice none 0 0), .pv (.slice none 0 0), .pv (.slice none 0 0), .ref 0 0]) [] := by
  refine meth_of_ex ttOK (fn := Tryz.f107) (by kernel_rfl) (by kernel_rfl) rfl (O0 := [.agg [pI 7, pI f, pI t, pI 0, pI 0, pI 0, pI g, .pv (.slice none 0 0), .pv (.slice none 0 0), .pv (.slice none 0 0), .ref 0 0]]) 1 2 (Nat.le_of_ble_eq_true rfl) (by rfl) (by repeat (first | exact BndH.nil | refine BndH.row (flatR_map fun _ => rfl) ?_ )) (by repeat (exact BndH.nil )) (by rfl) fun γ => ?_
  show Ex Tryz.prog _ _ [(0, .agg [pI g, .ref 0 (γ 0)]), (1, .pv (.int .i64 f)), (2, .pv (.int .i64 t))] [(0, ((γ 0), .row 104 5 ((l).map encOu))), (2, (0, .dead)), (1, (0, .dead))] _
  refine ex_rs ttOK (by rfl) ?_
  refine rl_boxA (id := 1) rfl rfl rfl ?_
  refine rl_alloc (id := 2) tt_52 za_52 rfl ?_
  refine ex_rs ttOK (by rfl) ?_
  refine rl_move rfl ?_
  refine rl_move rfl ?_
  refine rl_fieldAddr rfl tt_134 rfl rfl tt_3 rfl rfl ?_
  refine rl_load_ptr rfl tt_3 rfl rfl ?_
  refine rl_fieldAddr rfl tt_134 rfl rfl tt_25 rfl rfl ?_
  refine rl_load_ptr rfl tt_25 rfl rfl ?_
  refine rl_build tt_52 rfl za_52 rfl (by simp only [pI, tt_3, T3, tt_22, T22, tt_24, T24, tt_25, T25, fillA, cellsA, AV.okc, AV.one, Value.oneCell', List.map_cons, List.map_nil, List.getElem?_cons_zero, List.getElem?_cons_succ, List.take_succ_cons, List.take_zero, List.drop_succ_cons, List.drop_zero, List.cons_append, List.nil_append, List.length_cons, List.length_nil, if_true, and_self, Nat.reduceAdd, Nat.reduceLeDiff]; rfl) ?_
  refine rl_storeA rfl rfl tt_52 rfl rfl rfl rfl ?_
  refine ex_ret ?_
  exact ⟨.inr rfl, [γ 0], rfl, rfl, HE.same rfl HE.nil⟩
set_option maxHeartbeats 1000000 in
theorem F_impl_NodeTend (c : Bool) (n : Nd) : Meth Tryz.prog 26 1 [] [.agg (encNd c n)] [(0, (0, .dead))] (.ref 0 0) [(0, (0, .row 52 11 ((tendL n).map encWoO)))] := by
  refine meth_of_ex ttOK (fn := Tryz.f26) (by kernel_rfl) (by kernel_rfl) rfl (O0 := [.ref 0 0]) 1 12 (Nat.le_of_ble_eq_true rfl) (by rfl) (by repeat (first | exact BndH.nil | refine BndH.dead ?_ )) (by repeat (first | exact BndH.nil | refine BndH.row (flatR_map fun _ => rfl) ?_ )) (by rfl) fun γ => ?_
  show Ex Tryz.prog _ _ [(0, .agg (encNd c n))] [(0, ((γ 0), .dead)), (12, (0, .dead)), (11, (0, .dead)), (10, (0, .dead)), (9, (0, .dead)), (8, (0, .dead)), (7, (0, .dead)), (6, (0, .dead)), (5, (0, .dead)), (4, (0, .dead)), (3, (0, .dead)), (2, (0, .dead)), (1, (0, .dead))] _
  refine ex_rs ttOK (by rfl) ?_
  refine rl_boxA (id := 1) rfl rfl rfl ?_
  refine rl_assign rfl ?_
  refine ex_seq_k fun K1 hK1 => ?_
  refine ex_rs ttOK (by rfl) ?_
  refine rl_loadA_ptr rfl tt_28 rfl rfl rfl ?_
  refine rl_call rfl rfl rfl (F_impl_NodeOk ..) ?_
  refine rl_not rfl ?_
  refine rl_move rfl ?_
  refine rl_g rfl rfl (fun hg2 => ?_) (fun hg2 => ?_)
  rotate_left
  · try simp at hg2
    have fX : ¬ (nodeOk n ∧ n.up = true) := fun h => kb_not (by simpa using hg2) h.1
    refine rl_gF rfl rfl ?_
    refine rl_gF rfl rfl ?_
    refine rl_pickT rfl rfl ?_
    refine ex_cond rfl (fun hc11 => ?_) (fun hc11 => ?_)
    rotate_left
    · simp at hc11
    try simp at hc11
    have fX : ¬ (nodeOk n ∧ n.up = true) := by exact fX
    refine ex_rs ttOK (by rfl) ?_
    refine rl_assign rfl ?_
    refine ex_nilref 2 0 52 11 rfl rfl ?_
    refine ex_ret ?_
    exact ⟨.inr rfl, [_], rfl, rfl, HE.row rfl (by rw [tendL_f fX]; rfl) HE.nil⟩
  try simp at hg2
  have fK : nodeOk n := kb_iff.1 (by simpa using hg2)
  have fS := fK.1
  have fB := shape_bound fS
  have fV := fS.2.2.2.2.2.1
  refine rl_fieldAddr rfl tt_28 rfl rfl tt_4 rfl rfl ?_
  refine rl_gT rfl rfl ?_
  refine rl_load_ptr rfl tt_4 rfl rfl ?_
  refine rl_gT rfl rfl ?_
  refine rl_not rfl ?_
  refine rl_pickF rfl rfl ?_
  refine ex_cond rfl (fun hc3 => ?_) (fun hc3 => ?_)
  · try simp at hc3
    have fX : ¬ (nodeOk n ∧ n.up = true) := by (intro h; simp_all; done)
    refine ex_rs ttOK (by rfl) ?_
    refine rl_assign rfl ?_
    refine ex_nilref 2 0 52 11 rfl rfl ?_
    refine ex_ret ?_
    exact ⟨.inr rfl, [_], rfl, rfl, HE.row rfl (by rw [tendL_f fX]; rfl) HE.nil⟩
  try simp at hc3
  have fU : n.up = true := by exact hc3
  refine ex_skip ?_
  refine hK1 _ _ ?_
  clear hK1 K1
  refine ex_rs ttOK (by rfl) ?_
  refine rl_loadA_ptr rfl tt_28 rfl rfl rfl ?_
  refine rl_meth [5, 6, 7, 8, 9] [_, _, _, _, _] (F_impl_bodyOf c n (by omega) (by omega) fS.2.2.2.2.2.2.1) rfl rfl rfl (by decide) rfl rfl (by repeat (first | exact InH.nil | refine InH.cons rfl ?_)) (by (simp only [pI, List.map_cons, List.map_nil, insAll, insEnc, gl, nx, memN, Nat.beq, Nat.add_eq, List.getD_cons_zero, List.getD_cons_succ, List.getD_nil, Bool.or_false, Bool.false_or, Bool.true_or, Bool.or_true, Nat.add_zero, Nat.zero_add]; rfl)) (by (simp only [pI, List.map_cons, List.map_nil, insAll, insEnc, gl, nx, memN, Nat.beq, Nat.add_eq, List.getD_cons_zero, List.getD_cons_succ, List.getD_nil, Bool.or_false, Bool.false_or, Bool.true_or, Bool.or_true, Nat.add_zero, Nat.zero_add]; rfl)) ?_
  refine rl_assign rfl ?_
  refine ex_rs ttOK (by rfl) ?_
  refine rl_assign rfl ?_
  refine ex_seq_k fun K4 hK4 => ?_
  refine ex_rs ttOK (by rfl) ?_
  refine rl_move rfl ?_
  refine ex_block ?_
  refine ex_nilref 4 0 52 11 rfl rfl ?_
  refine ex_loopK (ι := Nat) (fun i γ1 => [(4, .ref 0 (γ1 0)), (17, .pv (.int .i64 (i : Int)))]) (fun i γ1 => [(0, ((γ1 0), .row 52 11 ((tendTo n i).map encWoO))), (10, ((γ1 10), .dead)), (2, ((γ1 2), .dead)), (3, ((γ1 3), .dead))]) (fun i => i ≤ 3) (fun i => 3 - i) (Cov.cons (t := 1) rfl (Cov.cons (t := 3) rfl Cov.nil)) (HE.same (id := 1) rfl (HE.same (id := 4) rfl (HE.same (id := 5) rfl (HE.same (id := 6) rfl (HE.same (id := 7) rfl (HE.same (id := 8) rfl (HE.same (id := 9) rfl (HE.same (id := 11) rfl (HE.same (id := 12) rfl HE.nil))))))))) 0 (by omega) [_, 0, _, _, 0, 0, 0, 0, 0, 0, _] (Cov.cons (t := 4) rfl (Cov.cons (t := 17) rfl Cov.nil)) (HE.row rfl (by rfl) (HE.kill rfl (HE.kill rfl (HE.kill rfl HE.nil)))) rfl fun i γ1 hi => ?_
  try dsimp only [List.cons_append, List.nil_append]
  refine ex_rs ttOK (by rfl) ?_
  refine rl_bin rfl rfl rfl ?_
  refine ex_seq_k fun K5 hK5 => ?_
  refine ex_cond rfl (fun hc6 => ?_) (fun hc6 => ?_)
  · try simp at hc6
    refine ex_skip ?_
    refine hK5 _ _ ?_
    clear hK5 K5
    refine ex_seq_k fun K7 hK7 => ?_
    refine ex_block ?_
    refine ex_rs ttOK (by rfl) ?_
    refine rl_move rfl ?_
    refine rl_assign rfl ?_
    refine ex_rs ttOK (by rfl) ?_
    refine rl_move rfl ?_
    refine rl_fieldAddr rfl tt_28 rfl rfl tt_3 rfl rfl ?_
    refine rl_load_ptr rfl tt_3 rfl rfl ?_
    refine rl_bin rfl rfl rfl ?_
    refine ex_cond rfl (fun hc8 => ?_) (fun hc8 => ?_)
    rotate_left
    · try simp at hc8
      have hto : (i : Int) = n.id := by exact hc8
      refine ex_skip ?_
      refine hK7 _ _ ?_
      clear hK7 K7
      skip
      refine ex_region ttOK (by rfl) ?_
      refine rl_bin rfl rfl rfl ?_
      refine rl_move rfl ?_
      exact ⟨i + 1, ⟨by omega, by omega⟩, [_, 0, _, _, 0, 0, 0, 0, 0, 0, _], (Cov.cons (t := 4) rfl (Cov.cons' (t := 17) rfl (by rw [wrap_small (by omega) (by omega)]; rfl) Cov.nil)), (Cov.cons (t := 1) rfl (Cov.cons (t := 3) rfl Cov.nil)), (HE.row rfl (by rw [tendTo_f hto]) (HE.kill rfl (HE.kill rfl (HE.kill rfl HE.nil)))), (HE.same (id := 1) rfl (HE.same (id := 4) rfl (HE.same (id := 5) rfl (HE.same (id := 6) rfl (HE.same (id := 7) rfl (HE.same (id := 8) rfl (HE.same (id := 9) rfl (HE.same (id := 11) rfl (HE.same (id := 12) rfl HE.nil))))))))), rfl⟩
    try simp at hc8
    have hto : ¬ (i : Int) = n.id := by exact hc8
    have htl := tellsL_le fS (i : Int)
    have htn := tendTo_le n i
    refine ex_rsD ttOK mixed (by rfl) ?_
    refine rl_fieldAddr rfl tt_28 rfl rfl tt_3 rfl rfl ?_
    refine rl_load_ptr rfl tt_3 rfl rfl ?_
    refine rl_fieldAddr rfl tt_28 rfl rfl tt_3 rfl rfl ?_
    refine rl_load_ptr rfl tt_3 rfl rfl ?_
    refine rl_fieldAddr rfl tt_28 rfl rfl tt_3 rfl rfl ?_
    refine rl_load_ptr rfl tt_3 rfl rfl ?_
    refine rl_move rfl ?_
    refine rl_move rfl ?_
    refine rl_meth [5, 6, 7, 8, 9, 10] [_, _, _, _, _, _] (F_impl_body_tells c n i (by omega) fS.2.2.2.2.2.2.1 (by have := came_bound fS; omega) (by omega)) rfl rfl rfl (by decide) rfl rfl (by repeat (first | exact InH.nil | refine InH.cons rfl ?_)) (by (simp only [pI, List.map_cons, List.map_nil, insAll, insEnc, gl, nx, memN, Nat.beq, Nat.add_eq, List.getD_cons_zero, List.getD_cons_succ, List.getD_nil, Bool.or_false, Bool.false_or, Bool.true_or, Bool.or_true, Nat.add_zero, Nat.zero_add]; rfl)) (by (simp only [pI, List.map_cons, List.map_nil, insAll, insEnc, gl, nx, memN, Nat.beq, Nat.add_eq, List.getD_cons_zero, List.getD_cons_succ, List.getD_nil, Bool.or_false, Bool.false_or, Bool.true_or, Bool.or_true, Nat.add_zero, Nat.zero_add]; rfl)) ?_
    refine rl_build tt_130 rfl za_130 rfl (by simp only [pI, tt_3, T3, tt_24, T24, fillA, cellsA, AV.okc, AV.one, Value.oneCell', List.map_cons, List.map_nil, List.getElem?_cons_zero, List.getElem?_cons_succ, List.take_succ_cons, List.take_zero, List.drop_succ_cons, List.drop_zero, List.cons_append, List.nil_append, List.length_cons, List.length_nil, if_true, and_self, Nat.reduceAdd, Nat.reduceLeDiff]; rfl) ?_
    refine rl_alloc (id := 2) tt_130 za_130 rfl ?_
    refine rl_storeA rfl rfl tt_130 rfl rfl rfl rfl ?_
    refine ⟨by kernel_rfl, ?_⟩
    refine ex_region ttOK (by rfl) ?_
    refine rl_move rfl ?_
    refine rl_loadA_ptr rfl tt_130 rfl rfl rfl ?_
    refine rl_fieldAddr rfl tt_28 rfl rfl tt_3 rfl rfl ?_
    refine rl_load_ptr rfl tt_3 rfl rfl ?_
    refine rl_move rfl ?_
    refine rl_meth [10] [_] (F_impl_tellsWord_word n.inc n.version n.g n.id (i : Int) (tellsL n (i : Int))) rfl rfl rfl (by decide) rfl rfl (by repeat (first | exact InH.nil | refine InH.cons rfl ?_)) (by (simp only [pI, List.map_cons, List.map_nil, insAll, insEnc, gl, nx, memN, Nat.beq, Nat.add_eq, List.getD_cons_zero, List.getD_cons_succ, List.getD_nil, Bool.or_false, Bool.false_or, Bool.true_or, Bool.or_true, Nat.add_zero, Nat.zero_add]; rfl)) (by (simp only [pI, List.map_cons, List.map_nil, insAll, insEnc, gl, nx, memN, Nat.beq, Nat.add_eq, List.getD_cons_zero, List.getD_cons_succ, List.getD_nil, Bool.or_false, Bool.false_or, Bool.true_or, Bool.or_true, Nat.add_zero, Nat.zero_add]; rfl)) ?_
    refine rl_buildSlice (id := 3) tt_44 rfl tt_52 rfl rfl rfl rfl (.val rfl rfl (.val rfl rfl (.val rfl rfl (.val rfl rfl (.val rfl rfl (.val rfl rfl (.val rfl rfl (.val rfl rfl (.val rfl rfl (.ref rfl (flatR_map fun _ => rfl) (.val rfl rfl .nil) rfl rfl)))))))))) rfl (Nat.le_of_ble_eq_true rfl) (Nat.le_of_ble_eq_true rfl) (Nat.le_of_ble_eq_true rfl) rfl rfl ?_
    refine rl_app_mv ttOK (zs := (tendTo n i).map encWoO ++ [[pI (wTells n (i : Int)).kind, pI (wTells n (i : Int)).from', pI (wTells n (i : Int)).to, pI (wTells n (i : Int)).inc, pI (wTells n (i : Int)).version, pI (wTells n (i : Int)).round, pI (wTells n (i : Int)).g, .pv (.slice none 0 0), .pv (.slice none 0 0), .row .ow 76 7 ((tellsL n (i : Int)).map encEv), .pv (.slice none 0 0)]]) rfl rfl tt_44 rfl tt_52 rfl rfl rfl rfl rfl rfl (by (simp only [List.length_map, List.length_append, List.length_cons, List.length_nil, List.length_take, List.length_range, T52] at *; omega)) ?_
    refine rl_assign rfl ?_
    refine hK7 _ _ ?_
    clear hK7 K7
    refine ex_nilE 0 rfl (NilLs.snoc (x' := encWoO (wTells n (i : Int))) (.same (.same (.same (.same (.same (.same (.same (.own (.own (.same (.own .nil))))))))))) _) ?_
    refine ex_region ttOK (by rfl) ?_
    refine rl_bin rfl rfl rfl ?_
    refine rl_move rfl ?_
    exact ⟨i + 1, ⟨by omega, by omega⟩, [_, 0, _, _, 0, 0, 0, 0, 0, 0, _], (Cov.cons (t := 4) rfl (Cov.cons' (t := 17) rfl (by rw [wrap_small (by omega) (by omega)]; rfl) Cov.nil)), (Cov.cons (t := 1) rfl (Cov.cons (t := 3) rfl Cov.nil)), (HE.row rfl (by (rw [tendTo_t hto, List.map_append]; rfl)) (HE.kill rfl (HE.kill rfl (HE.kill rfl HE.nil)))), (HE.same (id := 1) rfl (HE.same (id := 4) rfl (HE.same (id := 5) rfl (HE.same (id := 6) rfl (HE.same (id := 7) rfl (HE.same (id := 8) rfl (HE.same (id := 9) rfl (HE.same (id := 11) rfl (HE.same (id := 12) rfl HE.nil))))))))), rfl⟩
  try simp at hc6
  obtain rfl : i = 3 := by omega
  have htn := tendTo_le n 3
  refine ex_exit ?_
  refine hK4 _ _ ?_
  clear hK5 K5 hK4 K4
  refine ex_seq_k fun K9 hK9 => ?_
  refine ex_rs ttOK (by rfl) ?_
  refine rl_fieldAddr rfl tt_28 rfl rfl tt_3 rfl rfl ?_
  refine rl_load_ptr rfl tt_3 rfl rfl ?_
  refine rl_bin rfl rfl rfl ?_
  refine ex_cond rfl (fun hc10 => ?_) (fun hc10 => ?_)
  rotate_left
  · try simp at hc10
    have h0 : n.id = 0 := by exact hc10
    refine ex_skip ?_
    refine hK9 _ _ ?_
    clear hK9 K9
    skip
    refine ex_rs ttOK (by rfl) ?_
    refine rl_move rfl ?_
    refine rl_assign rfl ?_
    skip
    refine ex_ret ?_
    exact ⟨.inr rfl, [_], rfl, rfl, HE.row rfl (by rw [tendL_0 ⟨fK, fU⟩ h0]) HE.nil⟩
  try simp at hc10
  have h0 : ¬ n.id = 0 := by exact hc10
  refine ex_region_any ttOK mixed (by rfl) ?_
  refine rl_move rfl ?_
  refine rl_fieldAddr rfl tt_28 rfl rfl tt_3 rfl rfl ?_
  refine rl_load_ptr rfl tt_3 rfl rfl ?_
  refine rl_fieldAddr rfl tt_28 rfl rfl tt_25 rfl rfl ?_
  refine rl_load_ptr rfl tt_25 rfl rfl ?_
  refine rl_meth [11] [_] (F_slices_Clone_impl_Out_impl_Out c n.outs (by omega)) rfl rfl rfl (by decide) rfl rfl (by repeat (first | exact InH.nil | refine InH.cons rfl ?_)) (by (simp only [pI, List.map_cons, List.map_nil, insAll, insEnc, gl, nx, memN, Nat.beq, Nat.add_eq, List.getD_cons_zero, List.getD_cons_succ, List.getD_nil, Bool.or_false, Bool.false_or, Bool.true_or, Bool.or_true, Nat.add_zero, Nat.zero_add]; rfl)) (by (simp only [pI, List.map_cons, List.map_nil, insAll, insEnc, gl, nx, memN, Nat.beq, Nat.add_eq, List.getD_cons_zero, List.getD_cons_succ, List.getD_nil, Bool.or_false, Bool.false_or, Bool.true_or, Bool.or_true, Nat.add_zero, Nat.zero_add]; rfl)) ?_
  refine rl_build tt_134 rfl za_134 rfl (by simp only [pI, tt_3, T3, tt_25, T25, fillA, cellsA, AV.okc, AV.one, Value.oneCell', List.map_cons, List.map_nil, List.getElem?_cons_zero, List.getElem?_cons_succ, List.take_succ_cons, List.take_zero, List.drop_succ_cons, List.drop_zero, List.cons_append, List.nil_append, List.length_cons, List.length_nil, if_true, and_self, Nat.reduceAdd, Nat.reduceLeDiff]; rfl) ?_
  refine rl_fieldAddr rfl tt_28 rfl rfl tt_3 rfl rfl ?_
  refine rl_load_ptr rfl tt_3 rfl rfl ?_
  refine rl_meth [11] [_] (F_impl_outsWord_word n.g n.id 0 n.outs) rfl rfl rfl (by decide) rfl rfl (by repeat (first | exact InH.nil | refine InH.cons rfl ?_)) (by (simp only [pI, List.map_cons, List.map_nil, insAll, insEnc, gl, nx, memN, Nat.beq, Nat.add_eq, List.getD_cons_zero, List.getD_cons_succ, List.getD_nil, Bool.or_false, Bool.false_or, Bool.true_or, Bool.or_true, Nat.add_zero, Nat.zero_add]; rfl)) (by (simp only [pI, List.map_cons, List.map_nil, insAll, insEnc, gl, nx, memN, Nat.beq, Nat.add_eq, List.getD_cons_zero, List.getD_cons_succ, List.getD_nil, Bool.or_false, Bool.false_or, Bool.true_or, Bool.or_true, Nat.add_zero, Nat.zero_add]; rfl)) ?_
  refine rl_buildSlice (id := 4) tt_44 rfl tt_52 rfl rfl rfl rfl (.val rfl rfl (.val rfl rfl (.val rfl rfl (.val rfl rfl (.val rfl rfl (.val rfl rfl (.val rfl rfl (.val rfl rfl (.val rfl rfl (.val rfl rfl (.ref rfl (flatR_map fun _ => rfl) .nil rfl rfl))))))))))) rfl (Nat.le_of_ble_eq_true rfl) (Nat.le_of_ble_eq_true rfl) (Nat.le_of_ble_eq_true rfl) rfl rfl ?_
  refine rl_app_mv ttOK (zs := (tendTo n 3).map encWoO ++ [[pI (wOuts n).kind, pI (wOuts n).from', pI (wOuts n).to, pI (wOuts n).inc, pI (wOuts n).version, pI (wOuts n).round, pI (wOuts n).g, .pv (.slice none 0 0), .pv (.slice none 0 0), .pv (.slice none 0 0), .row .ow 104 5 (n.outs.map encOu)]]) rfl rfl tt_44 rfl tt_52 rfl rfl rfl rfl rfl rfl (by (simp only [List.length_map, List.length_append, List.length_cons, List.length_nil, List.length_take, List.length_range, T52] at *; omega)) ?_
  refine rl_assign rfl ?_
  refine ⟨by kernel_rfl, ?_⟩
  refine hK9 _ _ ?_
  clear hK9 K9
  refine ex_nilE 0 rfl (NilLs.snoc (x' := encWoO (wOuts n)) (.same (.same (.same (.same (.same (.same (.same (.own (.own (.own (.same .nil))))))))))) _) ?_
  refine ex_rs ttOK (by rfl) ?_
  refine rl_move rfl ?_
  refine rl_assign rfl ?_
  skip
  refine ex_ret ?_
  exact ⟨.inr rfl, [_], rfl, rfl, HE.row rfl (by rw [tendL_t ⟨fK, fU⟩ h0, List.map_append]; rfl) HE.nil⟩
end Go.Proofs.YtpadkogpeobboaaGreat.Am
namespace Go.Proofs.YtpadkogpeobboaaGreat.Am
open Go Go.RowKit
theorem F_spec_l22Lanes (id : Int) : Pure Tryz.prog 76 [.pv (.int .i64 id)] (.row (.rd true) 65 5 ((procs id 4).map fun p => encLa true (lane0 p))) := by
  refine pure_of_ex ttOK (fn := Tryz.f76) (by kernel_rfl) (by kernel_rfl) rfl (outs := [.row (.rd true) 65 5 ((procs id 4).map fun p => encLa true (lane0 p))]) (by rfl) (Nat.le_of_ble_eq_true rfl) 3 ?_
  have hpl := fun k => procs_len id k
  refine ex_rs ttOK (by rfl) ?_
  refine rl_assign rfl ?_
  refine ex_rs ttOK (by rfl) ?_
  refine rl_slice0 (id := 0) tt_23 rfl tt_65 rfl ?_
  refine rl_assign rfl ?_
  refine ex_seq_k fun K1 hK1 => ?_
  refine ex_rs ttOK (by rfl) ?_
  refine rl_assign rfl ?_
  refine ex_block ?_
  refine ex_loopK (ι := Nat) (fun i γ1 => [(3, .ref 0 (γ1 0)), (4, .pv (.int .i64 (i : Int)))]) (fun i γ1 => [(0, ((γ1 0), .row 65 5 ((procs id i).map encLaN))), (1, ((γ1 1), .dead)), (2, ((γ1 2), .dead))]) (fun i => i ≤ 4) (fun i => 4 - i) (Cov.cons (t := 0) rfl Cov.nil) HE.nil 0 (by omega) [_, _, _] (Cov.cons (t := 3) rfl (Cov.cons (t := 4) rfl Cov.nil)) (HE.row rfl rfl (HE.kill rfl (HE.kill rfl HE.nil))) rfl fun i γ1 hi => ?_
  try dsimp only [List.cons_append, List.nil_append]
  refine ex_seq_k fun K2 hK2 => ?_
  refine ex_rs ttOK (by rfl) ?_
  refine rl_move rfl ?_
  refine rl_bin rfl rfl rfl ?_
  refine ex_cond rfl (fun hc3 => ?_) (fun hc3 => ?_)
  rotate_left
  · try simp at hc3
    refine ex_exit ?_
    refine hK1 _ _ ?_
    clear hK2 K2 hK1 K1
    refine ex_rs ttOK (by rfl) ?_
    refine rl_move rfl ?_
    refine rl_assign rfl ?_
    refine ex_ret ⟨.inr rfl, ?_⟩
    refine ret_row2 rfl rfl encLaN_le ?_
    have : i = 4 := by omega
    rw [this]
  try simp at hc3
  refine ex_skip ?_
  refine hK2 _ _ ?_
  clear hK2 K2
  refine ex_seq_k fun K4 hK4 => ?_
  refine ex_block ?_
  refine ex_rs ttOK (by rfl) ?_
  refine rl_move rfl ?_
  refine rl_call rfl rfl rfl (F_spec_NodeOf ..) ?_
  refine rl_move rfl ?_
  refine rl_bin rfl rfl rfl ?_
  refine ex_cond rfl (fun hc5 => ?_) (fun hc5 => ?_)
  rotate_left
  · try simp at hc5
    refine ex_skip ?_
    refine hK4 _ _ ?_
    clear hK4 K4
    refine ex_region ttOK (by rfl) ?_
    refine rl_move rfl ?_
    refine rl_bin rfl rfl rfl ?_
    refine rl_assign rfl ?_
    exact ⟨i + 1, ⟨by omega, by omega⟩, [_, _, _], (Cov.cons (t := 3) rfl (Cov.cons' (t := 4) rfl (by rw [wrap_small (by omega) (by omega)]; rfl) Cov.nil)), (Cov.cons (t := 0) rfl Cov.nil), (HE.row rfl (by simp only [procs_succ]; rw [if_neg (by assumption)]) (HE.kill rfl (HE.kill rfl HE.nil))), HE.nil, rfl⟩
  try simp at hc5
  refine ex_region ttOK (by rfl) ?_
  refine rl_move rfl ?_
  refine rl_move rfl ?_
  refine rl_build tt_65 rfl za_65 rfl (by simp only [pI, tt_3, T3, tt_62, T62, tt_63, T63, fillA, cellsA, AV.okc, AV.one, Value.oneCell', List.map_cons, List.map_nil, List.getElem?_cons_zero, List.getElem?_cons_succ, List.take_succ_cons, List.take_zero, List.drop_succ_cons, List.drop_zero, List.cons_append, List.nil_append, List.length_cons, List.length_nil, if_true, and_self, Nat.reduceAdd, Nat.reduceLeDiff]; rfl) ?_
  refine rl_slice1A (id := 1) tt_23 rfl tt_65 rfl rfl rfl rfl rfl rfl ?_
  have := hpl i
  refine rl_app_rr (zs := (procs id i ++ [(i : Int)]).map encLaN) rfl rfl tt_23 rfl tt_65 rfl rfl rfl rfl (by rfl) (map_snoc _ _ _) (by (simp only [List.length_map, List.length_append, List.length_cons, List.length_nil, List.length_take, List.length_range, T65]; omega)) ?_
  refine rl_assign rfl ?_
  refine hK4 _ _ ?_
  clear hK4 K4
  refine ex_region ttOK (by rfl) ?_
  refine rl_move rfl ?_
  refine rl_bin rfl rfl rfl ?_
  refine rl_assign rfl ?_
  exact ⟨i + 1, ⟨by omega, by omega⟩, [_, _, _], (Cov.cons (t := 3) rfl (Cov.cons' (t := 4) rfl (by rw [wrap_small (by omega) (by omega)]; rfl) Cov.nil)), (Cov.cons (t := 0) rfl Cov.nil), (HE.row rfl (by simp only [procs_succ]; rw [if_pos (by assumption)]) (HE.kill rfl (HE.kill rfl HE.nil))), HE.nil, rfl⟩
end Go.Proofs.YtpadkogpeobboaaGreat.Am
namespace Go.Proofs.YtpadkogpeobboaaGreat.Am
open Go Go.RowKit
theorem F_spec_l21Same (c c' : Bool) (l : La) (s : List Ev) : Pure Tryz.prog 161 [.agg (encLa c l), rEvs c' s] (.pv (.int .i64 (same l.done s : Int))) := by
  refine pure_of_ex ttOK (fn := Tryz.f161) (by kernel_rfl) (by kernel_rfl) rfl (outs := [.pv (.int .i64 (same l.done s : Int))]) (by rfl) (Nat.le_of_ble_eq_true rfl) 1 ?_
  refine ex_rowlenm 1 rfl fun hlen => ?_
  refine ex_rs ttOK (by rfl) ?_
  refine rl_boxA (id := 0) rfl rfl rfl ?_
  refine rl_assign rfl ?_
  refine ex_rs ttOK (by rfl) ?_
  refine rl_assign rfl ?_
  refine ex_seq_k fun K1 hK1 => ?_
  refine ex_block ?_
  refine ex_loopK (ι := Nat) (fun i γ1 => [(5, .pv (.int .i64 (i : Int)))]) (fun i γ1 => []) (fun i => i ≤ l.done.length ∧ i ≤ s.length ∧ same l.done s = i + same (l.done.drop i) (s.drop i)) (fun i => l.done.length - i) (Cov.cons (t := 1) rfl (Cov.cons (t := 2) rfl Cov.nil)) (HE.same (id := 0) rfl HE.nil) 0 ⟨by omega, by omega, by rw [List.drop_zero, List.drop_zero, Nat.zero_add]⟩ [] (Cov.cons (t := 5) rfl Cov.nil) HE.nil rfl fun i γ1 hi => ?_
  try dsimp only [List.cons_append, List.nil_append]
  obtain ⟨h1, h2, h3⟩ := hi
  refine ex_seq_k fun K2 hK2 => ?_
  refine ex_rsD ttOK mixed (by rfl) ?_
  refine rl_move rfl ?_
  refine rl_fieldAddr rfl tt_65 rfl rfl tt_63 rfl rfl ?_
  refine rl_load_ptr rfl tt_63 rfl rfl ?_
  refine rl_lenm rfl tt_63 rfl ?_
  refine rl_bin rfl rfl rfl ?_
  refine rl_move rfl ?_
  refine rl_g rfl rfl (fun hg3 => ?_) (fun hg3 => ?_)
  rotate_left
  · try simp at hg3
    have g1 : l.done.length ≤ i := by omega
    refine rl_gF rfl rfl ?_
    refine rl_gF rfl rfl ?_
    refine rl_gF rfl rfl ?_
    refine rl_pickF rfl rfl ?_
    refine rl_move rfl ?_
    refine rl_gF rfl rfl ?_
    refine rl_gF rfl rfl ?_
    refine rl_gF rfl rfl ?_
    refine rl_gF rfl rfl ?_
    refine rl_gF rfl rfl ?_
    refine rl_gF rfl rfl ?_
    refine rl_gF rfl rfl ?_
    refine rl_gF rfl rfl ?_
    refine rl_gF rfl rfl ?_
    refine rl_gF rfl rfl ?_
    refine rl_gF rfl rfl ?_
    refine rl_pickF rfl rfl ?_
    refine ⟨by kernel_rfl, ?_⟩
    refine ex_cond rfl (fun hc7 => ?_) (fun hc7 => ?_)
    · simp at hc7
    try simp at hc7
    try have heq : ¬ p.ev = e := by simpa [litOp] using hc7
    refine ex_exit ?_
    refine hK1 _ _ ?_
    clear hK2 K2 hK1 K1
    refine ex_rs ttOK (by rfl) ?_
    refine rl_move rfl ?_
    refine rl_assign rfl ?_
    refine ex_ret ⟨.inr rfl, ?_⟩
    refine ret_pv rfl ?_ rfl
    exact congrArg (fun v : Nat => [AV.pv (.int .i64 (v : Int))]) (h3.trans (by rw [same_end1 g1]; rfl)).symm
  try simp at hg3
  have g1 : i < l.done.length := by omega
  obtain ⟨p, hp⟩ : ∃ p, l.done[i]? = some p := ⟨_, List.getElem?_eq_getElem (by omega)⟩
  refine rl_move rfl ?_
  refine rl_gT rfl rfl ?_
  refine rl_move rfl ?_
  refine rl_gT rfl rfl ?_
  refine rl_lenm rfl tt_24 rfl ?_
  refine rl_gT rfl rfl ?_
  refine rl_bin rfl rfl rfl ?_
  refine rl_pickT rfl rfl ?_
  refine rl_move rfl ?_
  refine rl_g rfl rfl (fun hg4 => ?_) (fun hg4 => ?_)
  rotate_left
  · try simp at hg4
    have g2 : s.length ≤ i := by omega
    refine rl_gF rfl rfl ?_
    refine rl_gF rfl rfl ?_
    refine rl_gF rfl rfl ?_
    refine rl_gF rfl rfl ?_
    refine rl_gF rfl rfl ?_
    refine rl_gF rfl rfl ?_
    refine rl_gF rfl rfl ?_
    refine rl_gF rfl rfl ?_
    refine rl_gF rfl rfl ?_
    refine rl_gF rfl rfl ?_
    refine rl_pickF rfl rfl ?_
    refine ⟨by kernel_rfl, ?_⟩
    refine ex_cond rfl (fun hc6 => ?_) (fun hc6 => ?_)
    · simp at hc6
    try simp at hc6
    try have heq : ¬ p.ev = e := by simpa [litOp] using hc6
    refine ex_exit ?_
    refine hK1 _ _ ?_
    clear hK2 K2 hK1 K1
    refine ex_rs ttOK (by rfl) ?_
    refine rl_move rfl ?_
    refine rl_assign rfl ?_
    refine ex_ret ⟨.inr rfl, ?_⟩
    refine ret_pv rfl ?_ rfl
    exact congrArg (fun v : Nat => [AV.pv (.int .i64 (v : Int))]) (h3.trans (by rw [same_end2 g2]; rfl)).symm
  try simp at hg4
  have g2 : i < s.length := by omega
  obtain ⟨e, he⟩ : ∃ e, s[i]? = some e := ⟨_, List.getElem?_eq_getElem (by omega)⟩
  refine rl_fieldAddr rfl tt_65 rfl rfl tt_63 rfl rfl ?_
  refine rl_gT rfl rfl ?_
  refine rl_load_ptr rfl tt_63 rfl rfl ?_
  refine rl_gT rfl rfl ?_
  refine rl_move rfl ?_
  refine rl_gT rfl rfl ?_
  refine rl_idxm rfl rfl tt_63 rfl tt_78 rfl hp ?_
  refine rl_gT rfl rfl ?_
  refine rl_fieldAddr rfl tt_78 rfl rfl tt_76 rfl rfl ?_
  refine rl_gT rfl rfl ?_
  refine rl_load_iel (out := .agg (encEv p.ev)) rfl tt_76 rfl ?_
  refine rl_gT rfl rfl ?_
  refine rl_move rfl ?_
  refine rl_gT rfl rfl ?_
  refine rl_move rfl ?_
  refine rl_gT rfl rfl ?_
  refine rl_idxm rfl rfl tt_24 rfl tt_76 rfl he ?_
  refine rl_gT rfl rfl ?_
  refine rl_load_iel (out := .agg (encEv e)) rfl tt_76 rfl ?_
  refine rl_gT rfl rfl ?_
  refine rl_eq rfl rfl (by intro a c h; cases h) (.inl rfl) (eqEv _ _ _ _) ?_
  refine rl_pickT rfl rfl ?_
  refine ⟨by kernel_rfl, ?_⟩
  refine ex_cond rfl (fun hc5 => ?_) (fun hc5 => ?_)
  · try simp at hc5
    try have heq : p.ev = e := by simpa [litOp] using hc5
    refine ex_skip ?_
    refine hK2 _ _ ?_
    clear hK2 K2
    refine ex_block ?_
    refine ex_region ttOK (by rfl) ?_
    refine rl_move rfl ?_
    refine rl_addN (b := 1) rfl rfl (by omega) ?_
    refine rl_assign rfl ?_
    exact ⟨i + 1, ⟨⟨by omega, by omega, by rw [h3, same_step hp he heq]; omega⟩, by omega⟩, [], (Cov.cons (t := 5) rfl Cov.nil), (Cov.cons (t := 1) rfl (Cov.cons (t := 2) rfl Cov.nil)), HE.nil, (HE.same (id := 0) rfl HE.nil), rfl⟩
  try simp at hc5
  try have heq : ¬ p.ev = e := by simpa [litOp] using hc5
  refine ex_exit ?_
  refine hK1 _ _ ?_
  clear hK2 K2 hK1 K1
  refine ex_rs ttOK (by rfl) ?_
  refine rl_move rfl ?_
  refine rl_assign rfl ?_
  refine ex_ret ⟨.inr rfl, ?_⟩
  refine ret_pv rfl ?_ rfl
  exact congrArg (fun v : Nat => [AV.pv (.int .i64 (v : Int))]) (h3.trans (by rw [same_stop hp he heq]; rfl)).symm
theorem F_spec_l22Sent (c : Bool) (n : Nd) (hs : (sentL n).length ≤ 5000000) (hlen : n.lanes.length ≤ 1048576) : Meth Tryz.prog 183 1 [] [.agg (encNd c n)] [(0, (0, .dead))] (.ref 0 0) [(0, (0, .row 76 7 ((sentL n).map encEv)))] := by
  refine meth_of_ex ttOK (fn := Tryz.f183) (by kernel_rfl) (by kernel_rfl) rfl (O0 := [.ref 0 0]) 1 3 (Nat.le_of_ble_eq_true rfl) (by rfl) (by repeat (first | exact BndH.nil | refine BndH.dead ?_)) (by repeat (first | exact BndH.nil | refine BndH.row (flatR_map fun _ => rfl) ?_)) (by rfl) fun γ => ?_
  show Ex Tryz.prog _ _ [(0, .agg (encNd c n))] [(0, ((γ 0), .dead)), (3, (0, .dead)), (2, (0, .dead)), (1, (0, .dead))] _
  have hkl : n.kept.length ≤ 5000000 := by simp only [sentL, List.length_append] at hs; omega
  refine ex_rs ttOK (by rfl) ?_
  refine rl_boxA (id := 1) rfl rfl rfl ?_
  refine rl_assign rfl ?_
  refine ex_rs ttOK (by rfl) ?_
  refine rl_slice0 (id := 0) tt_24 rfl tt_76 rfl ?_
  refine rl_fieldAddr rfl tt_28 rfl rfl tt_24 rfl rfl ?_
  refine rl_load_ptr rfl tt_24 rfl rfl ?_
  refine rl_app_rd (zs := n.kept.map encEv) rfl rfl tt_24 rfl tt_76 rfl rfl rfl (by exact noow_map (fun _ => rfl) _) rfl (by have hb56 : T76.bytes = 56 := rfl; rw [List.length_map, hb56]; omega) ?_
  refine rl_assign rfl ?_
  refine ex_seq_k fun K1 hK1 => ?_
  refine ex_rs ttOK (by rfl) ?_
  refine rl_assign rfl ?_
  refine ex_block ?_
  refine ex_loopK (ι := Nat) (fun i γ1 => [(3, .ref 0 (γ1 0)), (4, .pv (.int .i64 (i : Int)))]) (fun i γ1 => [(0, ((γ1 0), .row 76 7 ((n.kept ++ (n.lanes.take i).flatMap lsent).map encEv))), (3, ((γ1 3), .dead))]) (fun i => i ≤ n.lanes.length) (fun i => n.lanes.length - i) (Cov.cons (t := 1) rfl Cov.nil) (HE.same (id := 1) rfl (HE.same (id := 2) rfl HE.nil)) 0 (by omega) [_, 0, 0, _] (Cov.cons (t := 3) rfl (Cov.cons (t := 4) rfl Cov.nil)) (HE.row rfl (by simp) (HE.kill rfl HE.nil)) rfl fun i γ1 hi => ?_
  try dsimp only [List.cons_append, List.nil_append]
  refine ex_seq_k fun K2 hK2 => ?_
  refine ex_rs ttOK (by rfl) ?_
  refine rl_move rfl ?_
  refine rl_fieldAddr rfl tt_28 rfl rfl tt_23 rfl rfl ?_
  refine rl_load_ptr rfl tt_23 rfl rfl ?_
  refine rl_lenm rfl tt_23 rfl ?_
  refine rl_bin rfl rfl rfl ?_
  refine ex_cond rfl (fun hc3 => ?_) (fun hc3 => ?_)
  rotate_left
  · try simp at hc3
    obtain rfl : i = n.lanes.length := by omega
    refine ex_exit ?_
    refine hK1 _ _ ?_
    clear hK2 K2 hK1 K1
    refine ex_rs ttOK (by rfl) ?_
    refine rl_move rfl ?_
    refine rl_assign rfl ?_
    refine ex_ret ?_
    exact ⟨.inr rfl, [_], rfl, rfl, HE.row rfl (by rw [List.take_length]; rfl) HE.nil⟩
  try simp at hc3
  obtain ⟨p, hp⟩ : ∃ p, n.lanes[i]? = some p := ⟨_, List.getElem?_eq_getElem (by omega)⟩
  refine ex_skip ?_
  refine hK2 _ _ ?_
  clear hK2 K2
  refine ex_seq_k fun K4 hK4 => ?_
  refine ex_block ?_
  refine ex_rs ttOK (by rfl) ?_
  refine rl_assign rfl ?_
  refine ex_block ?_
  refine ex_loopK (ι := Nat) (fun j γ2 => [(3, .ref 0 (γ2 0)), (5, .pv (.int .i64 (j : Int)))]) (fun j γ2 => [(0, ((γ2 0), .row 76 7 ((n.kept ++ (n.lanes.take i).flatMap lsent ++ (p.done.take j).flatMap Pa.sends).map encEv))), (3, ((γ2 3), .dead))]) (fun j => j ≤ p.done.length) (fun j => p.done.length - j) (Cov.cons (t := 1) rfl (Cov.cons (t := 4) rfl Cov.nil)) (HE.same (id := 1) rfl (HE.same (id := 2) rfl HE.nil)) 0 (by omega) [_, 0, 0, _] (Cov.cons (t := 3) rfl (Cov.cons (t := 5) rfl Cov.nil)) (HE.row rfl (by simp) (HE.kill rfl HE.nil)) rfl fun j γ2 hi => ?_
  try dsimp only [List.cons_append, List.nil_append]
  refine ex_seq_k fun K5 hK5 => ?_
  refine ex_rs ttOK (by rfl) ?_
  refine rl_move rfl ?_
  refine rl_fieldAddr rfl tt_28 rfl rfl tt_23 rfl rfl ?_
  refine rl_load_ptr rfl tt_23 rfl rfl ?_
  refine rl_move rfl ?_
  refine rl_idxm rfl rfl tt_23 rfl tt_65 rfl hp ?_
  refine rl_fieldAddr rfl tt_65 rfl rfl tt_63 rfl rfl ?_
  refine rl_load_iel rfl tt_63 rfl ?_
  refine rl_lenm rfl tt_63 rfl ?_
  refine rl_bin rfl rfl rfl ?_
  refine ex_cond rfl (fun hc6 => ?_) (fun hc6 => ?_)
  rotate_left
  · try simp at hc6
    obtain rfl : j = p.done.length := by omega
    refine ex_exit ?_
    refine hK4 _ _ ?_
    clear hK5 K5 hK4 K4
    refine ex_region ttOK (by rfl) ?_
    refine rl_move rfl ?_
    refine rl_bin rfl rfl rfl ?_
    refine rl_assign rfl ?_
    exact ⟨i + 1, ⟨by omega, by omega⟩, [_, 0, 0, _], (Cov.cons (t := 3) rfl (Cov.cons' (t := 4) rfl (by rw [wrap_small (by omega) (by omega)]; rfl) Cov.nil)), (Cov.cons (t := 1) rfl Cov.nil), (HE.row rfl (by simp only [flat_take hp, List.append_assoc, lsent, List.take_length]) (HE.kill rfl HE.nil)), (HE.same (id := 1) rfl (HE.same (id := 2) rfl HE.nil)), rfl⟩
  try simp at hc6
  obtain ⟨q, hq⟩ : ∃ q, p.done[j]? = some q := ⟨_, List.getElem?_eq_getElem (by omega)⟩
  have hsp := sent_part hp hq
  refine ex_skip ?_
  refine hK5 _ _ ?_
  clear hK5 K5
  refine ex_seq_k fun K7 hK7 => ?_
  refine ex_block ?_
  refine ex_region ttOK (by rfl) ?_
  refine rl_move rfl ?_
  refine rl_fieldAddr rfl tt_28 rfl rfl tt_23 rfl rfl ?_
  refine rl_load_ptr rfl tt_23 rfl rfl ?_
  refine rl_move rfl ?_
  refine rl_idxm rfl rfl tt_23 rfl tt_65 rfl hp ?_
  refine rl_fieldAddr rfl tt_65 rfl rfl tt_63 rfl rfl ?_
  refine rl_load_iel rfl tt_63 rfl ?_
  refine rl_move rfl ?_
  refine rl_idxm rfl rfl tt_63 rfl tt_78 rfl hq ?_
  refine rl_fieldAddr rfl tt_78 rfl rfl tt_24 rfl rfl ?_
  refine rl_load_iel rfl tt_24 rfl ?_
  refine rl_app_rd (zs := (n.kept ++ (n.lanes.take i).flatMap lsent ++ (p.done.take j).flatMap Pa.sends ++ q.sends).map encEv) rfl rfl tt_24 rfl tt_76 rfl rfl rfl (by exact noow_map (fun _ => rfl) _) (map_app _ _ _) (by have hb56 : T76.bytes = 56 := rfl; rw [List.length_map, hb56]; omega) ?_
  refine rl_assign rfl ?_
  refine hK7 _ _ ?_
  clear hK7 K7
  refine ex_rowlenm 23 rfl fun hlen2 => ?_
  refine ex_region ttOK (by rfl) ?_
  refine rl_move rfl ?_
  refine rl_bin rfl rfl rfl ?_
  refine rl_assign rfl ?_
  exact ⟨j + 1, ⟨by omega, by omega⟩, [_, 0, 0, _], (Cov.cons (t := 3) rfl (Cov.cons' (t := 5) rfl (by rw [wrap_small (by omega) (by omega)]; rfl) Cov.nil)), (Cov.cons (t := 1) rfl (Cov.cons (t := 4) rfl Cov.nil)), (HE.row rfl (by simp only [flat_take hq, List.append_assoc]) (HE.kill rfl HE.nil)), (HE.same (id := 1) rfl (HE.same (id := 2) rfl HE.nil)), rfl⟩
end Go.Proofs.YtpadkogpeobboaaGreat.Am
namespace Go.Proofs.YtpadkogpeobboaaGreat.Am
open Go Go.RowKit
theorem F_spec_EventSort (c : Bool) (l : List Ev) (hl : l.length ≤ 10000000) : Pure Tryz.prog 114 [rEvs c l] (rEvs true (evSort l)) := by
  refine pure_of_ex ttOK (fn := Tryz.f114) (by kernel_rfl) (by kernel_rfl) rfl (outs := [rEvs true (evSort l)]) (by rfl) (Nat.le_of_ble_eq_true rfl) 3 ?_
  refine ex_rs ttOK (by rfl) ?_
  refine rl_assign rfl ?_
  refine ex_rs ttOK (by rfl) ?_
  refine rl_slice0 (id := 0) tt_24 rfl tt_76 rfl ?_
  refine rl_assign rfl ?_
  refine ex_seq_k fun K1 hK1 => ?_
  refine ex_rs ttOK (by rfl) ?_
  refine rl_assign rfl ?_
  refine ex_block ?_
  refine ex_loopK (ι := Nat) (fun i γ1 => [(3, .ref 0 (γ1 0)), (4, .pv (.int .i64 (i : Int)))]) (fun i γ1 => [(0, ((γ1 0), .row 76 7 ((evSort (l.take i)).map encEv))), (1, ((γ1 1), .dead)), (2, ((γ1 2), .dead))]) (fun i => i ≤ l.length) (fun i => l.length - i) (Cov.cons (t := 0) rfl Cov.nil) HE.nil 0 (by omega) [_, _, _] (Cov.cons (t := 3) rfl (Cov.cons (t := 4) rfl Cov.nil)) (HE.row rfl (by rw [List.take_zero]; rfl) (HE.kill rfl (HE.kill rfl HE.nil))) rfl fun i γ1 hi => ?_
  try dsimp only [List.cons_append, List.nil_append]
  refine ex_seq_k fun K2 hK2 => ?_
  refine ex_rs ttOK (by rfl) ?_
  refine rl_move rfl ?_
  refine rl_move rfl ?_
  refine rl_lenm rfl tt_24 rfl ?_
  refine rl_bin rfl rfl rfl ?_
  refine ex_cond rfl (fun hc3 => ?_) (fun hc3 => ?_)
  rotate_left
  · try simp at hc3
    obtain rfl : i = l.length := by omega
    refine ex_exit ?_
    refine hK1 _ _ ?_
    clear hK2 K2 hK1 K1
    refine ex_rs ttOK (by rfl) ?_
    refine rl_move rfl ?_
    refine rl_assign rfl ?_
    refine ex_ret ⟨.inr rfl, ?_⟩
    refine ret_row rfl rfl (fun _ => rfl) ?_
    rw [List.take_length]
  try simp at hc3
  obtain ⟨x, hx⟩ : ∃ x, l[i]? = some x := ⟨_, List.getElem?_eq_getElem (by omega)⟩
  have hol : (evSort (l.take i)).length ≤ 10000000 := Nat.le_trans (evSort_le _) (by rw [List.length_take]; omega)
  have hss := evSort_ss (l.take i)
  refine ex_skip ?_
  refine hK2 _ _ ?_
  clear hK2 K2
  refine ex_seq_k fun K4 hK4 => ?_
  refine ex_block ?_
  refine ex_rs ttOK (by rfl) ?_
  refine rl_move rfl ?_
  refine rl_lenr rfl tt_24 rfl rfl (by exact List.length_map _) ?_
  refine rl_assign rfl ?_
  refine ex_cutK (ι := Nat) (fun k γ2 => [(5, .pv (.int .i64 (k : Int)))]) (fun k γ2 => []) (fun k => k ≤ (evSort (l.take i)).length ∧ (∀ (j : Nat) y, k ≤ j → (evSort (l.take i))[j]? = some y → evLt x y = true) ∧ (∀ y, 0 < k → (evSort (l.take i))[k - 1]? = some y → evLt x y = false)) (Cov.cons (t := 0) rfl (Cov.cons (t := 3) rfl (Cov.cons (t := 4) rfl Cov.nil))) (HE.same (id := 0) rfl (HE.same (id := 1) rfl (HE.same (id := 2) rfl HE.nil))) ?_ fun k γ2 hi => ?_
  · refine ex_block ?_
    refine ex_loopK (ι := Nat) (fun k γ3 => [(5, .pv (.int .i64 (k : Int)))]) (fun k γ3 => []) (fun k => k ≤ (evSort (l.take i)).length ∧ (∀ (j : Nat) y, k ≤ j → (evSort (l.take i))[j]? = some y → evLt x y = true)) (fun k => k) (Cov.cons (t := 0) rfl (Cov.cons (t := 3) rfl (Cov.cons (t := 4) rfl Cov.nil))) (HE.same (id := 0) rfl (HE.same (id := 1) rfl (HE.same (id := 2) rfl HE.nil))) (evSort (l.take i)).length ⟨Nat.le_refl _, fun j y hj hy => by have := (List.getElem?_eq_some_iff.1 hy).1; omega⟩ [] (Cov.cons (t := 5) rfl Cov.nil) HE.nil rfl fun k γ3 hi => ?_
    try dsimp only [List.cons_append, List.nil_append]
    obtain ⟨k1, k2⟩ := hi
    refine ex_seq_k fun K5 hK5 => ?_
    refine ex_rsD ttOK mixed (by rfl) ?_
    refine rl_move rfl ?_
    refine rl_bin rfl rfl rfl ?_
    refine rl_move rfl ?_
    refine rl_g rfl rfl (fun hg6 => ?_) (fun hg6 => ?_)
    rotate_left
    · try simp at hg6
      have k0 : k = 0 := by omega
      refine rl_gF rfl rfl ?_
      refine rl_gF rfl rfl ?_
      refine rl_gF rfl rfl ?_
      refine rl_gF rfl rfl ?_
      refine rl_gF rfl rfl ?_
      refine rl_gF rfl rfl ?_
      refine rl_gF rfl rfl ?_
      refine rl_gF rfl rfl ?_
      refine rl_gF rfl rfl ?_
      refine rl_pickF rfl rfl ?_
      refine ⟨by kernel_rfl, ?_⟩
      refine ex_cond rfl (fun hc8 => ?_) (fun hc8 => ?_)
      · simp at hc8
      try simp at hc8
      try have hlt := hc8
      refine ex_exit ?_
      exact ⟨k, ⟨k1, k2, fun y2 h0 h2 => by omega⟩, [], (Cov.cons (t := 5) rfl Cov.nil), (Cov.cons (t := 0) rfl (Cov.cons (t := 3) rfl (Cov.cons (t := 4) rfl Cov.nil))), HE.nil, (HE.same (id := 0) rfl (HE.same (id := 1) rfl (HE.same (id := 2) rfl HE.nil))), rfl⟩
    try simp at hg6
    have k0 : 0 < k := by omega
    obtain ⟨y, hy⟩ : ∃ y, (evSort (l.take i))[k - 1]? = some y := ⟨_, List.getElem?_eq_getElem (by omega)⟩
    refine rl_move rfl ?_
    refine rl_gT rfl rfl ?_
    refine rl_move rfl ?_
    refine rl_gT rfl rfl ?_
    refine rl_idxm rfl rfl tt_24 rfl tt_76 rfl hx ?_
    refine rl_gT rfl rfl ?_
    refine rl_loadA_iel rfl tt_76 rfl rfl ?_
    refine rl_gT rfl rfl ?_
    refine rl_move rfl ?_
    refine rl_gT rfl rfl ?_
    refine rl_move rfl ?_
    refine rl_gT rfl rfl ?_
    refine rl_subN (b := 1) rfl rfl (by omega) (by omega) ?_
    refine rl_gT rfl rfl ?_
    refine rl_idxR (j := k - 1) rfl rfl tt_24 rfl tt_76 rfl rfl (by omega) ?_
    refine rl_gT rfl rfl ?_
    refine rl_loadEA rfl tt_76 rfl hy rfl rfl ?_
    refine rl_gT rfl rfl ?_
    refine rl_call rfl rfl rfl (F_spec_EventLess ..) ?_
    refine rl_pickT rfl rfl ?_
    refine ⟨by kernel_rfl, ?_⟩
    refine ex_cond rfl (fun hc7 => ?_) (fun hc7 => ?_)
    rotate_left
    · try simp at hc7
      try have hlt := hc7
      refine ex_exit ?_
      exact ⟨k, ⟨k1, k2, fun y2 h0 h2 => by (rw [hy] at h2; cases h2; exact hlt)⟩, [], (Cov.cons (t := 5) rfl Cov.nil), (Cov.cons (t := 0) rfl (Cov.cons (t := 3) rfl (Cov.cons (t := 4) rfl Cov.nil))), HE.nil, (HE.same (id := 0) rfl (HE.same (id := 1) rfl (HE.same (id := 2) rfl HE.nil))), rfl⟩
    try simp at hc7
    try have hlt := hc7
    refine ex_skip ?_
    refine hK5 _ _ ?_
    clear hK5 K5
    refine ex_block ?_
    refine ex_region ttOK (by rfl) ?_
    refine rl_move rfl ?_
    refine rl_subN (b := 1) rfl rfl (by omega) (by omega) ?_
    refine rl_assign rfl ?_
    exact ⟨k - 1, ⟨⟨by omega, fun j y2 hj hy2 => by by_cases hjk : j = k - 1; (subst hjk; rw [hy] at hy2; cases hy2; exact hlt); exact k2 j y2 (by omega) hy2⟩, by omega⟩, [], (Cov.cons (t := 5) rfl Cov.nil), (Cov.cons (t := 0) rfl (Cov.cons (t := 3) rfl (Cov.cons (t := 4) rfl Cov.nil))), HE.nil, (HE.same (id := 0) rfl (HE.same (id := 1) rfl (HE.same (id := 2) rfl HE.nil))), rfl⟩
  · try dsimp only [List.cons_append, List.nil_append]
    obtain ⟨c1, c2, c3⟩ := hi
    refine ex_seq_k fun K9 hK9 => ?_
    refine ex_rsD ttOK mixed (by rfl) ?_
    refine rl_move rfl ?_
    refine rl_bin rfl rfl rfl ?_
    refine rl_move rfl ?_
    refine rl_g rfl rfl (fun hg10 => ?_) (fun hg10 => ?_)
    rotate_left
    · try simp at hg10
      have k0 : k = 0 := by omega
      refine rl_gF rfl rfl ?_
      refine rl_gF rfl rfl ?_
      refine rl_gF rfl rfl ?_
      refine rl_gF rfl rfl ?_
      refine rl_gF rfl rfl ?_
      refine rl_gF rfl rfl ?_
      refine rl_gF rfl rfl ?_
      refine rl_gF rfl rfl ?_
      refine rl_gF rfl rfl ?_
      refine rl_pickF rfl rfl ?_
      refine ⟨by kernel_rfl, ?_⟩
      refine ex_cond rfl (fun hc16 => ?_) (fun hc16 => ?_)
      · simp at hc16
      try simp at hc16
      try have hyx : ¬ y = x := by simpa [litOp] using hc16
      have hin : evSort (l.take (i + 1)) = (evSort (l.take i)).take k ++ x :: (evSort (l.take i)).drop k := by rw [evSort_take hx]; exact insU_at evSTO hss c2 (fun y2 h0 h2 => ⟨c3 y2 h0 h2, by omega⟩) c1
      refine ex_skip ?_
      refine hK9 _ _ ?_
      clear hK9 K9
      refine ex_rs ttOK (by rfl) ?_
      refine rl_move rfl ?_
      refine rl_move rfl ?_
      refine rl_move rfl ?_
      refine rl_idxm rfl rfl tt_24 rfl tt_76 rfl hx ?_
      refine rl_loadA_iel rfl tt_76 rfl rfl ?_
      refine rl_slice1A (id := 1) tt_24 rfl tt_76 rfl rfl rfl rfl rfl rfl ?_
      refine rl_app_rr (zs := (evSort (l.take i) ++ [x]).map encEv) rfl rfl tt_24 rfl tt_76 rfl rfl rfl rfl (by rfl) (map_snoc _ _ _) (by have hb56 : T76.bytes = 56 := rfl; rw [List.length_map, hb56]; simp only [List.length_append, List.length_cons, List.length_nil]; omega) ?_
      refine rl_assign rfl ?_
      refine ex_seq_k fun K17 hK17 => ?_
      refine ex_rs ttOK (by rfl) ?_
      refine rl_move rfl ?_
      refine rl_lenr rfl tt_24 rfl rfl (by exact List.length_map _) ?_
      refine rl_subN (b := 1) rfl rfl (by (simp; done)) (by (simp; omega)) ?_
      refine rl_assign rfl ?_
      refine ex_block ?_
      refine ex_loopK (ι := Nat × Ev) (fun q γ5 => [(6, .pv (.int .i64 (q.1 : Int)))]) (fun q γ5 => [(0, ((γ1 0 + 1), .row 76 7 (((evSort (l.take i)).take q.1 ++ q.2 :: (evSort (l.take i)).drop q.1).map encEv)))]) (fun q => k ≤ q.1 ∧ q.1 ≤ (evSort (l.take i)).length) (fun q => q.1) (Cov.cons (t := 0) rfl (Cov.cons (t := 3) rfl (Cov.cons (t := 4) rfl (Cov.cons (t := 5) rfl Cov.nil)))) (HE.same (id := 1) rfl (HE.same (id := 2) rfl HE.nil)) ((evSort (l.take i)).length, x) ⟨c1, Nat.le_refl _⟩ [] (Cov.cons' (t := 6) rfl (by simp) Cov.nil) (HE.row rfl (by rw [List.take_length, List.drop_length]) HE.nil) rfl fun q γ5 hi => ?_
      try dsimp only [List.cons_append, List.nil_append]
      obtain ⟨m, u⟩ := q
      obtain ⟨m1, m2⟩ := hi
      dsimp only at m1 m2 ⊢
      refine ex_seq_k fun K18 hK18 => ?_
      refine ex_rs ttOK (by rfl) ?_
      refine rl_move rfl ?_
      refine rl_move rfl ?_
      refine rl_bin rfl rfl rfl ?_
      refine ex_cond rfl (fun hc19 => ?_) (fun hc19 => ?_)
      rotate_left
      · try simp at hc19
        obtain rfl : k = m := by omega
        refine ex_exit ?_
        refine hK17 _ _ ?_
        clear hK18 K18 hK17 K17
        refine ex_region ttOK (by rfl) ?_
        refine rl_move rfl ?_
        refine rl_move rfl ?_
        refine rl_move rfl ?_
        refine rl_move rfl ?_
        refine rl_idxm rfl rfl tt_24 rfl tt_76 rfl hx ?_
        refine rl_loadA_iel rfl tt_76 rfl rfl ?_
        refine rl_idxR (j := k) rfl rfl tt_24 rfl tt_76 rfl rfl (lt_of_get (sh_at c1)) ?_
        refine rl_storeEA (el' := x) rfl rfl tt_76 rfl rfl rfl (sh_at c1) rfl (abs_ints _) rfl rfl ?_
        refine hK4 _ _ ?_
        clear hK4 K4
        refine ex_region ttOK (by rfl) ?_
        refine rl_move rfl ?_
        refine rl_addN (b := 1) rfl rfl (by omega) ?_
        refine rl_assign rfl ?_
        exact ⟨i + 1, ⟨by omega, by omega⟩, [_, _, _], (Cov.cons (t := 3) rfl (Cov.cons (t := 4) rfl Cov.nil)), (Cov.cons (t := 0) rfl Cov.nil), (HE.row rfl (by rw [hin, sh_put c1]) (HE.kill rfl (HE.kill rfl HE.nil))), HE.nil, rfl⟩
      try simp at hc19
      obtain ⟨z, hz⟩ : ∃ z, (evSort (l.take i))[m - 1]? = some z := ⟨_, List.getElem?_eq_getElem (by omega)⟩
      refine ex_skip ?_
      refine hK18 _ _ ?_
      clear hK18 K18
      refine ex_seq_k fun K20 hK20 => ?_
      refine ex_block ?_
      refine ex_region ttOK (by rfl) ?_
      refine rl_move rfl ?_
      refine rl_move rfl ?_
      refine rl_move rfl ?_
      refine rl_move rfl ?_
      refine rl_subN (b := 1) rfl rfl (by omega) (by omega) ?_
      refine rl_idxR (j := m - 1) rfl rfl tt_24 rfl tt_76 rfl rfl (lt_of_get (sh_get m2 (by omega) hz)) ?_
      refine rl_loadEA rfl tt_76 rfl (sh_get m2 (by omega) hz) rfl rfl ?_
      refine rl_idxR (j := m) rfl rfl tt_24 rfl tt_76 rfl rfl (lt_of_get (sh_at m2)) ?_
      refine rl_storeEA (el' := z) rfl rfl tt_76 rfl rfl rfl (sh_at m2) rfl (abs_ints _) rfl rfl ?_
      refine hK20 _ _ ?_
      clear hK20 K20
      refine ex_region ttOK (by rfl) ?_
      refine rl_move rfl ?_
      refine rl_subN (b := 1) rfl rfl (by omega) (by omega) ?_
      refine rl_assign rfl ?_
      exact ⟨(m - 1, z), ⟨⟨by dsimp only; omega, by dsimp only; omega⟩, (by dsimp only; omega)⟩, [], (Cov.cons (t := 6) rfl Cov.nil), (Cov.cons (t := 0) rfl (Cov.cons (t := 3) rfl (Cov.cons (t := 4) rfl (Cov.cons (t := 5) rfl Cov.nil)))), (HE.row rfl (by rw [sh_set m2 (by omega) hz]) HE.nil), (HE.same (id := 1) rfl (HE.same (id := 2) rfl HE.nil)), rfl⟩
    try simp at hg10
    have k0 : 0 < k := by omega
    obtain ⟨y, hy⟩ : ∃ y, (evSort (l.take i))[k - 1]? = some y := ⟨_, List.getElem?_eq_getElem (by omega)⟩
    refine rl_move rfl ?_
    refine rl_gT rfl rfl ?_
    refine rl_move rfl ?_
    refine rl_gT rfl rfl ?_
    refine rl_subN (b := 1) rfl rfl (by omega) (by omega) ?_
    refine rl_gT rfl rfl ?_
    refine rl_idxR (j := k - 1) rfl rfl tt_24 rfl tt_76 rfl rfl (by omega) ?_
    refine rl_gT rfl rfl ?_
    refine rl_loadEA rfl tt_76 rfl hy rfl rfl ?_
    refine rl_gT rfl rfl ?_
    refine rl_move rfl ?_
    refine rl_gT rfl rfl ?_
    refine rl_move rfl ?_
    refine rl_gT rfl rfl ?_
    refine rl_idxm rfl rfl tt_24 rfl tt_76 rfl hx ?_
    refine rl_gT rfl rfl ?_
    refine rl_loadA_iel rfl tt_76 rfl rfl ?_
    refine rl_gT rfl rfl ?_
    refine rl_eq rfl rfl (by intro a c h; cases h) (.inl rfl) (eqEv _ _ _ _) ?_
    refine rl_pickT rfl rfl ?_
    refine ⟨by kernel_rfl, ?_⟩
    refine ex_cond rfl (fun hc11 => ?_) (fun hc11 => ?_)
    · try simp at hc11
      have hyx : y = x := by simpa [litOp] using hc11
      have hsk : evSort (l.take (i + 1)) = evSort (l.take i) := by rw [evSort_take hx]; exact insU_in evSTO hss (List.mem_of_getElem? (hyx ▸ hy))
      refine ex_exit ?_
      refine hK4 _ _ ?_
      clear hK9 K9 hK4 K4
      refine ex_region ttOK (by rfl) ?_
      refine rl_move rfl ?_
      refine rl_addN (b := 1) rfl rfl (by omega) ?_
      refine rl_assign rfl ?_
      exact ⟨i + 1, ⟨by omega, by omega⟩, [_, _, _], (Cov.cons (t := 3) rfl (Cov.cons (t := 4) rfl Cov.nil)), (Cov.cons (t := 0) rfl Cov.nil), (HE.row rfl (by rw [hsk]) (HE.kill rfl (HE.kill rfl HE.nil))), HE.nil, rfl⟩
    try simp at hc11
    try have hyx : ¬ y = x := by simpa [litOp] using hc11
    have hin : evSort (l.take (i + 1)) = (evSort (l.take i)).take k ++ x :: (evSort (l.take i)).drop k := by rw [evSort_take hx]; exact insU_at evSTO hss c2 (fun y2 h0 h2 => ⟨c3 y2 h0 h2, by (rw [hy] at h2; cases h2; exact hyx)⟩) c1
    refine ex_skip ?_
    refine hK9 _ _ ?_
    clear hK9 K9
    refine ex_rs ttOK (by rfl) ?_
    refine rl_move rfl ?_
    refine rl_move rfl ?_
    refine rl_move rfl ?_
    refine rl_idxm rfl rfl tt_24 rfl tt_76 rfl hx ?_
    refine rl_loadA_iel rfl tt_76 rfl rfl ?_
    refine rl_slice1A (id := 1) tt_24 rfl tt_76 rfl rfl rfl rfl rfl rfl ?_
    refine rl_app_rr (zs := (evSort (l.take i) ++ [x]).map encEv) rfl rfl tt_24 rfl tt_76 rfl rfl rfl rfl (by rfl) (map_snoc _ _ _) (by have hb56 : T76.bytes = 56 := rfl; rw [List.length_map, hb56]; simp only [List.length_append, List.length_cons, List.length_nil]; omega) ?_
    refine rl_assign rfl ?_
    refine ex_seq_k fun K12 hK12 => ?_
    refine ex_rs ttOK (by rfl) ?_
    refine rl_move rfl ?_
    refine rl_lenr rfl tt_24 rfl rfl (by exact List.length_map _) ?_
    refine rl_subN (b := 1) rfl rfl (by (simp; done)) (by (simp; omega)) ?_
    refine rl_assign rfl ?_
    refine ex_block ?_
    refine ex_loopK (ι := Nat × Ev) (fun q γ4 => [(6, .pv (.int .i64 (q.1 : Int)))]) (fun q γ4 => [(0, ((γ1 0 + 1), .row 76 7 (((evSort (l.take i)).take q.1 ++ q.2 :: (evSort (l.take i)).drop q.1).map encEv)))]) (fun q => k ≤ q.1 ∧ q.1 ≤ (evSort (l.take i)).length) (fun q => q.1) (Cov.cons (t := 0) rfl (Cov.cons (t := 3) rfl (Cov.cons (t := 4) rfl (Cov.cons (t := 5) rfl Cov.nil)))) (HE.same (id := 1) rfl (HE.same (id := 2) rfl HE.nil)) ((evSort (l.take i)).length, x) ⟨c1, Nat.le_refl _⟩ [] (Cov.cons' (t := 6) rfl (by simp) Cov.nil) (HE.row rfl (by rw [List.take_length, List.drop_length]) HE.nil) rfl fun q γ4 hi => ?_
    try dsimp only [List.cons_append, List.nil_append]
    obtain ⟨m, u⟩ := q
    obtain ⟨m1, m2⟩ := hi
    dsimp only at m1 m2 ⊢
    refine ex_seq_k fun K13 hK13 => ?_
    refine ex_rs ttOK (by rfl) ?_
    refine rl_move rfl ?_
    refine rl_move rfl ?_
    refine rl_bin rfl rfl rfl ?_
    refine ex_cond rfl (fun hc14 => ?_) (fun hc14 => ?_)
    rotate_left
    · try simp at hc14
      obtain rfl : k = m := by omega
      refine ex_exit ?_
      refine hK12 _ _ ?_
      clear hK13 K13 hK12 K12
      refine ex_region ttOK (by rfl) ?_
      refine rl_move rfl ?_
      refine rl_move rfl ?_
      refine rl_move rfl ?_
      refine rl_move rfl ?_
      refine rl_idxm rfl rfl tt_24 rfl tt_76 rfl hx ?_
      refine rl_loadA_iel rfl tt_76 rfl rfl ?_
      refine rl_idxR (j := k) rfl rfl tt_24 rfl tt_76 rfl rfl (lt_of_get (sh_at c1)) ?_
      refine rl_storeEA (el' := x) rfl rfl tt_76 rfl rfl rfl (sh_at c1) rfl (abs_ints _) rfl rfl ?_
      refine hK4 _ _ ?_
      clear hK4 K4
      refine ex_region ttOK (by rfl) ?_
      refine rl_move rfl ?_
      refine rl_addN (b := 1) rfl rfl (by omega) ?_
      refine rl_assign rfl ?_
      exact ⟨i + 1, ⟨by omega, by omega⟩, [_, _, _], (Cov.cons (t := 3) rfl (Cov.cons (t := 4) rfl Cov.nil)), (Cov.cons (t := 0) rfl Cov.nil), (HE.row rfl (by rw [hin, sh_put c1]) (HE.kill rfl (HE.kill rfl HE.nil))), HE.nil, rfl⟩
    try simp at hc14
    obtain ⟨z, hz⟩ : ∃ z, (evSort (l.take i))[m - 1]? = some z := ⟨_, List.getElem?_eq_getElem (by omega)⟩
    refine ex_skip ?_
    refine hK13 _ _ ?_
    clear hK13 K13
    refine ex_seq_k fun K15 hK15 => ?_
    refine ex_block ?_
    refine ex_region ttOK (by rfl) ?_
    refine rl_move rfl ?_
    refine rl_move rfl ?_
    refine rl_move rfl ?_
    refine rl_move rfl ?_
    refine rl_subN (b := 1) rfl rfl (by omega) (by omega) ?_
    refine rl_idxR (j := m - 1) rfl rfl tt_24 rfl tt_76 rfl rfl (lt_of_get (sh_get m2 (by omega) hz)) ?_
    refine rl_loadEA rfl tt_76 rfl (sh_get m2 (by omega) hz) rfl rfl ?_
    refine rl_idxR (j := m) rfl rfl tt_24 rfl tt_76 rfl rfl (lt_of_get (sh_at m2)) ?_
    refine rl_storeEA (el' := z) rfl rfl tt_76 rfl rfl rfl (sh_at m2) rfl (abs_ints _) rfl rfl ?_
    refine hK15 _ _ ?_
    clear hK15 K15
    refine ex_region ttOK (by rfl) ?_
    refine rl_move rfl ?_
    refine rl_subN (b := 1) rfl rfl (by omega) (by omega) ?_
    refine rl_assign rfl ?_
    exact ⟨(m - 1, z), ⟨⟨by dsimp only; omega, by dsimp only; omega⟩, (by dsimp only; omega)⟩, [], (Cov.cons (t := 6) rfl Cov.nil), (Cov.cons (t := 0) rfl (Cov.cons (t := 3) rfl (Cov.cons (t := 4) rfl (Cov.cons (t := 5) rfl Cov.nil)))), (HE.row rfl (by rw [sh_set m2 (by omega) hz]) HE.nil), (HE.same (id := 1) rfl (HE.same (id := 2) rfl HE.nil)), rfl⟩
end Go.Proofs.YtpadkogpeobboaaGreat.Am
namespace Go.Proofs.YtpadkogpeobboaaGreat.Am
open Go Go.RowKit
theorem F_spec_l22Came (c : Bool) (n : Nd) (proc : Int) (hs : (sentL n).length + (otherL n 3).length ≤ 5000000) (hlen : n.lanes.length ≤ 1048576) (hv3 : n.views.length = 3) : Pure Tryz.prog 144 [.agg (encNd c n), .pv (.int .i64 proc)] (rEvs true (cameL n proc)) := by
  refine pure_of_ex ttOK (fn := Tryz.f144) (by kernel_rfl) (by kernel_rfl) rfl (outs := [rEvs true (cameL n proc)]) (by rfl) (Nat.le_of_ble_eq_true rfl) 6 ?_
  have hla : (sentL n ++ otherL n 3).length = (sentL n).length + (otherL n 3).length := List.length_append
  refine ex_rs ttOK (by rfl) ?_
  refine rl_boxA (id := 0) rfl rfl rfl ?_
  refine rl_assign rfl ?_
  refine ex_rs ttOK (by rfl) ?_
  refine rl_loadA_ptr rfl tt_28 rfl rfl rfl ?_
  refine rl_meth [5] [_] (F_spec_l22Sent c n (by omega) hlen) rfl rfl rfl (by decide) rfl rfl (by repeat (first | exact InH.nil | refine InH.cons rfl ?_)) (by (simp only [pI, List.map_cons, List.map_nil, insAll, insEnc, gl, nx, memN, Nat.beq, Nat.add_eq, List.getD_cons_zero, List.getD_cons_succ, List.getD_nil, Bool.or_false, Bool.false_or, Bool.true_or, Bool.or_true, Nat.add_zero, Nat.zero_add]; rfl)) (by (simp only [pI, List.map_cons, List.map_nil, insAll, insEnc, gl, nx, memN, Nat.beq, Nat.add_eq, List.getD_cons_zero, List.getD_cons_succ, List.getD_nil, Bool.or_false, Bool.false_or, Bool.true_or, Bool.or_true, Nat.add_zero, Nat.zero_add]; rfl)) ?_
  refine rl_assign rfl ?_
  refine ex_seq_k fun K1 hK1 => ?_
  refine ex_rs ttOK (by rfl) ?_
  refine rl_assign rfl ?_
  refine ex_block ?_
  refine ex_loopK (ι := Nat) (fun i γ1 => [(5, .ref 5 (γ1 5)), (6, .pv (.int .i64 (i : Int)))]) (fun i γ1 => [(5, ((γ1 5), .row 76 7 ((sentL n ++ otherL n i).map encEv))), (1, ((γ1 1), .dead))]) (fun i => i ≤ 3) (fun i => 3 - i) (Cov.cons (t := 1) rfl (Cov.cons (t := 2) rfl Cov.nil)) (HE.same (id := 0) rfl (HE.same (id := 2) rfl (HE.same (id := 3) rfl (HE.same (id := 4) rfl HE.nil)))) 0 (by omega) [0, _, 0, 0, 0, _] (Cov.cons (t := 5) rfl (Cov.cons (t := 6) rfl Cov.nil)) (HE.row rfl (by simp [otherL]) (HE.kill rfl HE.nil)) rfl fun i γ1 hi => ?_
  try dsimp only [List.cons_append, List.nil_append]
  refine ex_seq_k fun K2 hK2 => ?_
  refine ex_rs ttOK (by rfl) ?_
  refine rl_move rfl ?_
  refine rl_fieldAddr rfl tt_28 rfl rfl tt_26 rfl rfl ?_
  refine rl_load_ptr rfl tt_26 rfl rfl ?_
  refine rl_lenm rfl tt_26 rfl ?_
  refine rl_bin rfl rfl rfl ?_
  refine ex_cond rfl (fun hc3 => ?_) (fun hc3 => ?_)
  · try simp at hc3
    obtain ⟨v, hv⟩ : ∃ v, n.views[i]? = some v := ⟨_, List.getElem?_eq_getElem (by omega)⟩
    have hg : n.views.getD i vi0 = v := by rw [List.getD_eq_getElem?_getD, hv]; rfl
    have hol := otherL_le n (i := i + 1) (by omega)
    rw [otherL_succ] at hol
    refine ex_skip ?_
    refine hK2 _ _ ?_
    clear hK2 K2
    refine ex_seq_k fun K4 hK4 => ?_
    refine ex_block ?_
    refine ex_rs ttOK (by rfl) ?_
    refine rl_move rfl ?_
    refine rl_fieldAddr rfl tt_28 rfl rfl tt_3 rfl rfl ?_
    refine rl_load_ptr rfl tt_3 rfl rfl ?_
    refine rl_bin rfl rfl rfl ?_
    refine ex_cond rfl (fun hc5 => ?_) (fun hc5 => ?_)
    rotate_left
    · try simp at hc5
      have hve : viewE n i = [] := by rw [viewE, if_pos (by exact hc5)]
      refine ex_skip ?_
      refine hK4 _ _ ?_
      clear hK4 K4
      refine ex_region ttOK (by rfl) ?_
      refine rl_move rfl ?_
      refine rl_bin rfl rfl rfl ?_
      refine rl_assign rfl ?_
      exact ⟨i + 1, ⟨by omega, by omega⟩, [0, _, 0, 0, 0, _], (Cov.cons (t := 5) rfl (Cov.cons' (t := 6) rfl (by rw [wrap_small (by omega) (by omega)]; rfl) Cov.nil)), (Cov.cons (t := 1) rfl (Cov.cons (t := 2) rfl Cov.nil)), (HE.row rfl (by rw [otherL_succ, hve]; simp) (HE.kill rfl HE.nil)), (HE.same (id := 0) rfl (HE.same (id := 2) rfl (HE.same (id := 3) rfl (HE.same (id := 4) rfl HE.nil)))), rfl⟩
    try simp at hc5
    have hve : viewE n i = v.events := by rw [viewE, if_neg (by exact hc5), hg]
    rw [hve] at hol
    simp only [List.length_append] at hol
    refine ex_region ttOK (by rfl) ?_
    refine rl_move rfl ?_
    refine rl_fieldAddr rfl tt_28 rfl rfl tt_26 rfl rfl ?_
    refine rl_load_ptr rfl tt_26 rfl rfl ?_
    refine rl_move rfl ?_
    refine rl_idxm rfl rfl tt_26 rfl tt_141 rfl hv ?_
    refine rl_fieldAddr rfl tt_141 rfl rfl tt_24 rfl rfl ?_
    refine rl_load_iel rfl tt_24 rfl ?_
    refine rl_app_rd (zs := (sentL n ++ otherL n i ++ v.events).map encEv) rfl rfl tt_24 rfl tt_76 rfl rfl rfl (by exact noow_map (fun _ => rfl) _) (map_app _ _ _) (by have hb56 : T76.bytes = 56 := rfl; rw [List.length_map, hb56]; simp only [List.length_append, List.length_cons, List.length_nil]; omega) ?_
    refine rl_assign rfl ?_
    refine hK4 _ _ ?_
    clear hK4 K4
    refine ex_region ttOK (by rfl) ?_
    refine rl_move rfl ?_
    refine rl_bin rfl rfl rfl ?_
    refine rl_assign rfl ?_
    exact ⟨i + 1, ⟨by omega, by omega⟩, [0, _, 0, 0, 0, _], (Cov.cons (t := 5) rfl (Cov.cons' (t := 6) rfl (by rw [wrap_small (by omega) (by omega)]; rfl) Cov.nil)), (Cov.cons (t := 1) rfl (Cov.cons (t := 2) rfl Cov.nil)), (HE.row rfl (by rw [otherL_succ, hve]; simp) (HE.kill rfl HE.nil)), (HE.same (id := 0) rfl (HE.same (id := 2) rfl (HE.same (id := 3) rfl (HE.same (id := 4) rfl HE.nil)))), rfl⟩
  try simp at hc3
  obtain rfl : i = 3 := by omega
  have hall : (sentL n ++ otherL n 3).length ≤ 5000000 := by rw [List.length_append]; omega
  refine ex_exit ?_
  refine hK1 _ _ ?_
  clear hK2 K2 hK1 K1
  refine ex_frzM 5 rfl rfl (fun _ => rfl) ?_
  refine ex_rs ttOK (by rfl) ?_
  refine rl_slice0 (id := 2) tt_24 rfl tt_76 rfl ?_
  refine rl_assign rfl ?_
  refine ex_seq_k fun K6 hK6 => ?_
  refine ex_rs ttOK (by rfl) ?_
  refine rl_assign rfl ?_
  refine ex_block ?_
  refine ex_loopK (ι := Nat) (fun j γ2 => [(7, .ref 2 (γ2 2)), (8, .pv (.int .i64 (j : Int)))]) (fun j γ2 => [(2, ((γ2 2), .row 76 7 ((((sentL n ++ otherL n 3).take j).filter (wantC proc n.g)).map encEv))), (3, ((γ2 3), .dead)), (4, ((γ2 4), .dead))]) (fun j => j ≤ (sentL n ++ otherL n 3).length) (fun j => (sentL n ++ otherL n 3).length - j) (Cov.cons (t := 1) rfl (Cov.cons (t := 2) rfl (Cov.cons (t := 5) rfl Cov.nil))) (HE.same (id := 0) rfl (HE.same (id := 1) rfl (HE.same (id := 5) rfl HE.nil))) 0 (by omega) [0, 0, _, _, _] (Cov.cons (t := 7) rfl (Cov.cons (t := 8) rfl Cov.nil)) (HE.row rfl (by rw [List.take_zero]; rfl) (HE.kill rfl (HE.kill rfl HE.nil))) rfl fun j γ2 hi => ?_
  try dsimp only [List.cons_append, List.nil_append]
  refine ex_seq_k fun K7 hK7 => ?_
  refine ex_rs ttOK (by rfl) ?_
  refine rl_move rfl ?_
  refine rl_move rfl ?_
  refine rl_lenm rfl tt_24 rfl ?_
  refine rl_bin rfl rfl rfl ?_
  refine ex_cond rfl (fun hc8 => ?_) (fun hc8 => ?_)
  rotate_left
  · try simp at hc8
    obtain rfl : j = (sentL n ++ otherL n 3).length := by omega
    rw [List.take_length]
    refine ex_exit ?_
    refine hK6 _ _ ?_
    clear hK7 K7 hK6 K6
    refine ex_frzM 7 rfl rfl (fun _ => rfl) ?_
    refine ex_rs ttOK (by rfl) ?_
    refine rl_move rfl ?_
    refine rl_call rfl rfl rfl (F_spec_EventSort true ((sentL n ++ otherL n 3).filter (wantC proc n.g)) (Nat.le_trans (List.length_filter_le _ _) (by rw [List.length_append]; omega))) ?_
    refine rl_assign rfl ?_
    refine ex_ret ⟨.inr rfl, ?_⟩
    refine ret_pv rfl rfl rfl
  try simp at hc8
  obtain ⟨p, hp⟩ : ∃ p, (sentL n ++ otherL n 3)[j]? = some p := ⟨_, List.getElem?_eq_getElem (by omega)⟩
  have hfl : (((sentL n ++ otherL n 3).take j).filter (wantC proc n.g)).length ≤ 5000000 := Nat.le_trans (List.length_filter_le _ _) (by rw [List.length_take]; omega)
  refine ex_skip ?_
  refine hK7 _ _ ?_
  clear hK7 K7
  refine ex_seq_k fun K9 hK9 => ?_
  refine ex_block ?_
  refine ex_rsD ttOK mixed (by rfl) ?_
  refine rl_move rfl ?_
  refine rl_move rfl ?_
  refine rl_idxm rfl rfl tt_24 rfl tt_76 rfl hp ?_
  refine rl_fieldAddr rfl tt_76 rfl rfl tt_3 rfl rfl ?_
  refine rl_load_iel rfl tt_3 rfl ?_
  refine rl_move rfl ?_
  refine rl_bin rfl rfl rfl ?_
  refine rl_move rfl ?_
  refine rl_g rfl rfl (fun hg10 => ?_) (fun hg10 => ?_)
  rotate_left
  · try simp at hg10
    have hw : ¬ wantC proc n.g p = true := by simp only [wantC, decide_eq_true_eq]; omega
    refine rl_gF rfl rfl ?_
    refine rl_gF rfl rfl ?_
    refine rl_gF rfl rfl ?_
    refine rl_gF rfl rfl ?_
    refine rl_gF rfl rfl ?_
    refine rl_gF rfl rfl ?_
    refine rl_gF rfl rfl ?_
    refine rl_pickF rfl rfl ?_
    refine ⟨by kernel_rfl, ?_⟩
    refine ex_cond rfl (fun hc12 => ?_) (fun hc12 => ?_)
    · simp at hc12
    try simp at hc12
    try have hw : ¬ wantC proc n.g p = true := by simp only [wantC, decide_eq_true_eq]; omega
    refine ex_skip ?_
    refine hK9 _ _ ?_
    clear hK9 K9
    refine ex_region ttOK (by rfl) ?_
    refine rl_move rfl ?_
    refine rl_bin rfl rfl rfl ?_
    refine rl_assign rfl ?_
    exact ⟨j + 1, ⟨by omega, by omega⟩, [0, 0, _, _, _], (Cov.cons (t := 7) rfl (Cov.cons' (t := 8) rfl (by rw [wrap_small (by omega) (by omega)]; rfl) Cov.nil)), (Cov.cons (t := 1) rfl (Cov.cons (t := 2) rfl (Cov.cons (t := 5) rfl Cov.nil))), (HE.row rfl (by rw [filter_take hp]; rw [if_neg hw, List.append_nil]) (HE.kill rfl (HE.kill rfl HE.nil))), (HE.same (id := 0) rfl (HE.same (id := 1) rfl (HE.same (id := 5) rfl HE.nil))), rfl⟩
  try simp at hg10
  have hw1 : p.to = proc := by exact hg10
  refine rl_move rfl ?_
  refine rl_gT rfl rfl ?_
  refine rl_move rfl ?_
  refine rl_gT rfl rfl ?_
  refine rl_idxm rfl rfl tt_24 rfl tt_76 rfl hp ?_
  refine rl_gT rfl rfl ?_
  refine rl_fieldAddr rfl tt_76 rfl rfl tt_3 rfl rfl ?_
  refine rl_gT rfl rfl ?_
  refine rl_load_iel rfl tt_3 rfl ?_
  refine rl_gT rfl rfl ?_
  refine rl_fieldAddr rfl tt_28 rfl rfl tt_3 rfl rfl ?_
  refine rl_gT rfl rfl ?_
  refine rl_load_ptr rfl tt_3 rfl rfl ?_
  refine rl_gT rfl rfl ?_
  refine rl_bin rfl rfl rfl ?_
  refine rl_pickT rfl rfl ?_
  refine ⟨by kernel_rfl, ?_⟩
  refine ex_cond rfl (fun hc11 => ?_) (fun hc11 => ?_)
  rotate_left
  · try simp at hc11
    try have hw : ¬ wantC proc n.g p = true := by simp only [wantC, decide_eq_true_eq]; omega
    refine ex_skip ?_
    refine hK9 _ _ ?_
    clear hK9 K9
    refine ex_region ttOK (by rfl) ?_
    refine rl_move rfl ?_
    refine rl_bin rfl rfl rfl ?_
    refine rl_assign rfl ?_
    exact ⟨j + 1, ⟨by omega, by omega⟩, [0, 0, _, _, _], (Cov.cons (t := 7) rfl (Cov.cons' (t := 8) rfl (by rw [wrap_small (by omega) (by omega)]; rfl) Cov.nil)), (Cov.cons (t := 1) rfl (Cov.cons (t := 2) rfl (Cov.cons (t := 5) rfl Cov.nil))), (HE.row rfl (by rw [filter_take hp]; rw [if_neg hw, List.append_nil]) (HE.kill rfl (HE.kill rfl HE.nil))), (HE.same (id := 0) rfl (HE.same (id := 1) rfl (HE.same (id := 5) rfl HE.nil))), rfl⟩
  try simp at hc11
  have hw : wantC proc n.g p = true := by simp only [wantC, decide_eq_true_eq]; omega
  refine ex_region ttOK (by rfl) ?_
  refine rl_move rfl ?_
  refine rl_move rfl ?_
  refine rl_move rfl ?_
  refine rl_idxm rfl rfl tt_24 rfl tt_76 rfl hp ?_
  refine rl_loadA_iel rfl tt_76 rfl rfl ?_
  refine rl_slice1A (id := 3) tt_24 rfl tt_76 rfl rfl rfl rfl rfl rfl ?_
  refine rl_app_rr (zs := (((sentL n ++ otherL n 3).take j).filter (wantC proc n.g) ++ [p]).map encEv) rfl rfl tt_24 rfl tt_76 rfl rfl rfl rfl (by rfl) (map_snoc _ _ _) (by have hb56 : T76.bytes = 56 := rfl; rw [List.length_map, hb56]; simp only [List.length_append, List.length_cons, List.length_nil]; omega) ?_
  refine rl_assign rfl ?_
  refine hK9 _ _ ?_
  clear hK9 K9
  refine ex_region ttOK (by rfl) ?_
  refine rl_move rfl ?_
  refine rl_bin rfl rfl rfl ?_
  refine rl_assign rfl ?_
  exact ⟨j + 1, ⟨by omega, by omega⟩, [0, 0, _, _, _], (Cov.cons (t := 7) rfl (Cov.cons' (t := 8) rfl (by rw [wrap_small (by omega) (by omega)]; rfl) Cov.nil)), (Cov.cons (t := 1) rfl (Cov.cons (t := 2) rfl (Cov.cons (t := 5) rfl Cov.nil))), (HE.row rfl (by rw [filter_take hp]; rw [if_pos hw]) (HE.kill rfl (HE.kill rfl HE.nil))), (HE.same (id := 0) rfl (HE.same (id := 1) rfl (HE.same (id := 5) rfl HE.nil))), rfl⟩
end Go.Proofs.YtpadkogpeobboaaGreat.Am
namespace Go.Proofs.YtpadkogpeobboaaGreat.Am
open Go Go.RowKit
theorem F_spec_NodeOk (c : Bool) (n : Nd) : Pure Tryz.prog 69 [.agg (encNd c n)] (.pv (.bool (kb (nodeOk n)))) := by
  refine pure_of_ex ttOK (fn := Tryz.f69) (by kernel_rfl) (by kernel_rfl) rfl (outs := [.pv (.bool (kb (nodeOk n)))]) (by rfl) (Nat.le_of_ble_eq_true rfl) 1 ?_
  have hpl := procs_len n.id 4
  refine ex_rs ttOK (by rfl) ?_
  refine rl_boxA (id := 0) rfl rfl rfl ?_
  refine rl_assign rfl ?_
  refine ex_seq_k fun K1 hK1 => ?_
  refine ex_rsD ttOK mixed (by rfl) ?_
  refine rl_fieldAddr rfl tt_28 rfl rfl tt_3 rfl rfl ?_
  refine rl_load_ptr rfl tt_3 rfl rfl ?_
  refine rl_call rfl rfl rfl (F_spec_l6In ..) ?_
  refine rl_not rfl ?_
  refine rl_move rfl ?_
  refine rl_g rfl rfl (fun hg2 => ?_) (fun hg2 => ?_)
  rotate_left
  · try simp at hg2
    have hX : ¬ (0 ≤ n.id ∧ n.id ≤ 2) := by omega
    refine rl_gF rfl rfl ?_
    refine rl_gF rfl rfl ?_
    refine rl_gF rfl rfl ?_
    refine rl_gF rfl rfl ?_
    refine rl_pickT rfl rfl ?_
    refine rl_move rfl ?_
    refine rl_gF rfl rfl ?_
    refine rl_gF rfl rfl ?_
    refine rl_gF rfl rfl ?_
    refine rl_gF rfl rfl ?_
    refine rl_pickT rfl rfl ?_
    refine rl_move rfl ?_
    refine rl_gF rfl rfl ?_
    refine rl_gF rfl rfl ?_
    refine rl_gF rfl rfl ?_
    refine rl_gF rfl rfl ?_
    refine rl_gF rfl rfl ?_
    refine rl_pickT rfl rfl ?_
    refine rl_move rfl ?_
    refine rl_gF rfl rfl ?_
    refine rl_gF rfl rfl ?_
    refine rl_gF rfl rfl ?_
    refine rl_gF rfl rfl ?_
    refine rl_gF rfl rfl ?_
    refine rl_pickT rfl rfl ?_
    refine rl_move rfl ?_
    refine rl_gF rfl rfl ?_
    refine rl_gF rfl rfl ?_
    refine rl_gF rfl rfl ?_
    refine rl_gF rfl rfl ?_
    refine rl_pickT rfl rfl ?_
    refine rl_move rfl ?_
    refine rl_gF rfl rfl ?_
    refine rl_gF rfl rfl ?_
    refine rl_gF rfl rfl ?_
    refine rl_pickT rfl rfl ?_
    refine ⟨by kernel_rfl, ?_⟩
    refine ex_cond rfl (fun hc33 => ?_) (fun hc33 => ?_)
    rotate_left
    · simp at hc33
    try simp at hc33
    try have hX : ¬ formsOk n := kb_not (by simpa using hc33)
    refine ex_rs ttOK (by rfl) ?_
    refine rl_assign rfl ?_
    refine ex_ret ⟨.inr rfl, ?_⟩
    clear hK1 K1
    refine ret_pv rfl ?_ rfl
    exact congrArg (fun b : Bool => [AV.pv (.bool b)]) (kb_f (fun h => by obtain ⟨⟨q1, q2, q3, q4, q5, q6, q7, q8, q9⟩, q0⟩ := h; exact hX q1.1))
  try simp at hg2
  have f1 : 0 ≤ n.id ∧ n.id ≤ 2 := by exact hg2
  refine rl_fieldAddr rfl tt_28 rfl rfl tt_3 rfl rfl ?_
  refine rl_gT rfl rfl ?_
  refine rl_load_ptr rfl tt_3 rfl rfl ?_
  refine rl_gT rfl rfl ?_
  refine rl_call rfl rfl rfl (F_spec_l22Max ..) ?_
  refine rl_gT rfl rfl ?_
  refine rl_call rfl rfl rfl (F_spec_l6In ..) ?_
  refine rl_gT rfl rfl ?_
  refine rl_not rfl ?_
  refine rl_pickF rfl rfl ?_
  refine rl_move rfl ?_
  refine rl_g rfl rfl (fun hg3 => ?_) (fun hg3 => ?_)
  rotate_left
  · try simp at hg3
    have hX : ¬ (1 ≤ n.inc ∧ n.inc ≤ 9999) := by omega
    refine rl_gF rfl rfl ?_
    refine rl_gF rfl rfl ?_
    refine rl_gF rfl rfl ?_
    refine rl_pickT rfl rfl ?_
    refine rl_move rfl ?_
    refine rl_gF rfl rfl ?_
    refine rl_gF rfl rfl ?_
    refine rl_gF rfl rfl ?_
    refine rl_gF rfl rfl ?_
    refine rl_gF rfl rfl ?_
    refine rl_pickT rfl rfl ?_
    refine rl_move rfl ?_
    refine rl_gF rfl rfl ?_
    refine rl_gF rfl rfl ?_
    refine rl_gF rfl rfl ?_
    refine rl_gF rfl rfl ?_
    refine rl_gF rfl rfl ?_
    refine rl_pickT rfl rfl ?_
    refine rl_move rfl ?_
    refine rl_gF rfl rfl ?_
    refine rl_gF rfl rfl ?_
    refine rl_gF rfl rfl ?_
    refine rl_gF rfl rfl ?_
    refine rl_pickT rfl rfl ?_
    refine rl_move rfl ?_
    refine rl_gF rfl rfl ?_
    refine rl_gF rfl rfl ?_
    refine rl_gF rfl rfl ?_
    refine rl_pickT rfl rfl ?_
    refine ⟨by kernel_rfl, ?_⟩
    refine ex_cond rfl (fun hc32 => ?_) (fun hc32 => ?_)
    rotate_left
    · simp at hc32
    try simp at hc32
    try have hX : ¬ formsOk n := kb_not (by simpa using hc32)
    refine ex_rs ttOK (by rfl) ?_
    refine rl_assign rfl ?_
    refine ex_ret ⟨.inr rfl, ?_⟩
    clear hK1 K1
    refine ret_pv rfl ?_ rfl
    exact congrArg (fun b : Bool => [AV.pv (.bool b)]) (kb_f (fun h => by obtain ⟨⟨q1, q2, q3, q4, q5, q6, q7, q8, q9⟩, q0⟩ := h; exact hX q1.2.1))
  try simp at hg3
  have f2 : 1 ≤ n.inc ∧ n.inc ≤ 9999 := by exact hg3
  refine rl_fieldAddr rfl tt_28 rfl rfl tt_3 rfl rfl ?_
  refine rl_gT rfl rfl ?_
  refine rl_load_ptr rfl tt_3 rfl rfl ?_
  refine rl_gT rfl rfl ?_
  refine rl_call rfl rfl rfl (F_spec_l6In ..) ?_
  refine rl_gT rfl rfl ?_
  refine rl_not rfl ?_
  refine rl_pickF rfl rfl ?_
  refine rl_move rfl ?_
  refine rl_g rfl rfl (fun hg4 => ?_) (fun hg4 => ?_)
  rotate_left
  · try simp at hg4
    have hX : ¬ (0 ≤ n.g ∧ n.g ≤ 41) := by omega
    refine rl_gF rfl rfl ?_
    refine rl_gF rfl rfl ?_
    refine rl_gF rfl rfl ?_
    refine rl_gF rfl rfl ?_
    refine rl_pickT rfl rfl ?_
    refine rl_move rfl ?_
    refine rl_gF rfl rfl ?_
    refine rl_gF rfl rfl ?_
    refine rl_gF rfl rfl ?_
    refine rl_gF rfl rfl ?_
    refine rl_gF rfl rfl ?_
    refine rl_pickT rfl rfl ?_
    refine rl_move rfl ?_
    refine rl_gF rfl rfl ?_
    refine rl_gF rfl rfl ?_
    refine rl_gF rfl rfl ?_
    refine rl_gF rfl rfl ?_
    refine rl_pickT rfl rfl ?_
    refine rl_move rfl ?_
    refine rl_gF rfl rfl ?_
    refine rl_gF rfl rfl ?_
    refine rl_gF rfl rfl ?_
    refine rl_pickT rfl rfl ?_
    refine ⟨by kernel_rfl, ?_⟩
    refine ex_cond rfl (fun hc31 => ?_) (fun hc31 => ?_)
    rotate_left
    · simp at hc31
    try simp at hc31
    try have hX : ¬ formsOk n := kb_not (by simpa using hc31)
    refine ex_rs ttOK (by rfl) ?_
    refine rl_assign rfl ?_
    refine ex_ret ⟨.inr rfl, ?_⟩
    clear hK1 K1
    refine ret_pv rfl ?_ rfl
    exact congrArg (fun b : Bool => [AV.pv (.bool b)]) (kb_f (fun h => by obtain ⟨⟨q1, q2, q3, q4, q5, q6, q7, q8, q9⟩, q0⟩ := h; exact hX q1.2.2.1))
  try simp at hg4
  have f3 : 0 ≤ n.g ∧ n.g ≤ 41 := by exact hg4
  refine rl_fieldAddr rfl tt_28 rfl rfl tt_3 rfl rfl ?_
  refine rl_gT rfl rfl ?_
  refine rl_load_ptr rfl tt_3 rfl rfl ?_
  refine rl_gT rfl rfl ?_
  refine rl_call rfl rfl rfl (F_spec_l22Max ..) ?_
  refine rl_gT rfl rfl ?_
  refine rl_call rfl rfl rfl (F_spec_l6In ..) ?_
  refine rl_gT rfl rfl ?_
  refine rl_not rfl ?_
  refine rl_pickF rfl rfl ?_
  refine rl_move rfl ?_
  refine rl_g rfl rfl (fun hg5 => ?_) (fun hg5 => ?_)
  rotate_left
  · try simp at hg5
    have hX : ¬ (0 ≤ n.led ∧ n.led ≤ 9999) := by omega
    refine rl_gF rfl rfl ?_
    refine rl_gF rfl rfl ?_
    refine rl_gF rfl rfl ?_
    refine rl_gF rfl rfl ?_
    refine rl_pickT rfl rfl ?_
    refine rl_move rfl ?_
    refine rl_gF rfl rfl ?_
    refine rl_gF rfl rfl ?_
    refine rl_gF rfl rfl ?_
    refine rl_gF rfl rfl ?_
    refine rl_pickT rfl rfl ?_
    refine rl_move rfl ?_
    refine rl_gF rfl rfl ?_
    refine rl_gF rfl rfl ?_
    refine rl_gF rfl rfl ?_
    refine rl_pickT rfl rfl ?_
    refine ⟨by kernel_rfl, ?_⟩
    refine ex_cond rfl (fun hc30 => ?_) (fun hc30 => ?_)
    rotate_left
    · simp at hc30
    try simp at hc30
    try have hX : ¬ formsOk n := kb_not (by simpa using hc30)
    refine ex_rs ttOK (by rfl) ?_
    refine rl_assign rfl ?_
    refine ex_ret ⟨.inr rfl, ?_⟩
    clear hK1 K1
    refine ret_pv rfl ?_ rfl
    exact congrArg (fun b : Bool => [AV.pv (.bool b)]) (kb_f (fun h => by obtain ⟨⟨q1, q2, q3, q4, q5, q6, q7, q8, q9⟩, q0⟩ := h; exact hX q1.2.2.2.1))
  try simp at hg5
  have f4 : 0 ≤ n.led ∧ n.led ≤ 9999 := by exact hg5
  refine rl_fieldAddr rfl tt_28 rfl rfl tt_24 rfl rfl ?_
  refine rl_gT rfl rfl ?_
  refine rl_load_ptr rfl tt_24 rfl rfl ?_
  refine rl_gT rfl rfl ?_
  refine rl_call rfl rfl rfl (F_spec_l2Most ..) ?_
  refine rl_gT rfl rfl ?_
  refine rl_call rfl rfl rfl (F_spec_l2Events ..) ?_
  refine rl_gT rfl rfl ?_
  refine rl_not rfl ?_
  refine rl_pickF rfl rfl ?_
  refine rl_move rfl ?_
  refine rl_g rfl rfl (fun hg6 => ?_) (fun hg6 => ?_)
  rotate_left
  · try simp at hg6
    have hX : ¬ lsOk okE evLt n.kept 100 = true := by simpa using hg6
    refine rl_gF rfl rfl ?_
    refine rl_gF rfl rfl ?_
    refine rl_gF rfl rfl ?_
    refine rl_pickT rfl rfl ?_
    refine rl_move rfl ?_
    refine rl_gF rfl rfl ?_
    refine rl_gF rfl rfl ?_
    refine rl_gF rfl rfl ?_
    refine rl_pickT rfl rfl ?_
    refine ⟨by kernel_rfl, ?_⟩
    refine ex_cond rfl (fun hc29 => ?_) (fun hc29 => ?_)
    rotate_left
    · simp at hc29
    try simp at hc29
    try have hX : ¬ formsOk n := kb_not (by simpa using hc29)
    refine ex_rs ttOK (by rfl) ?_
    refine rl_assign rfl ?_
    refine ex_ret ⟨.inr rfl, ?_⟩
    clear hK1 K1
    refine ret_pv rfl ?_ rfl
    exact congrArg (fun b : Bool => [AV.pv (.bool b)]) (kb_f (fun h => by obtain ⟨⟨q1, q2, q3, q4, q5, q6, q7, q8, q9⟩, q0⟩ := h; exact hX q2))
  try simp at hg6
  have f5 : lsOk okE evLt n.kept 100 = true := by exact hg6
  refine rl_fieldAddr rfl tt_28 rfl rfl tt_25 rfl rfl ?_
  refine rl_gT rfl rfl ?_
  refine rl_load_ptr rfl tt_25 rfl rfl ?_
  refine rl_gT rfl rfl ?_
  refine rl_call rfl rfl rfl (F_spec_l2Outs ..) ?_
  refine rl_gT rfl rfl ?_
  refine rl_not rfl ?_
  refine rl_pickF rfl rfl ?_
  refine rl_move rfl ?_
  refine rl_g rfl rfl (fun hg7 => ?_) (fun hg7 => ?_)
  rotate_left
  · try simp at hg7
    have hX : ¬ lsOk okO ouLt n.outs 96 = true := by simpa using hg7
    refine rl_gF rfl rfl ?_
    refine rl_gF rfl rfl ?_
    refine rl_pickT rfl rfl ?_
    refine ⟨by kernel_rfl, ?_⟩
    refine ex_cond rfl (fun hc28 => ?_) (fun hc28 => ?_)
    rotate_left
    · simp at hc28
    try simp at hc28
    try have hX : ¬ formsOk n := kb_not (by simpa using hc28)
    refine ex_rs ttOK (by rfl) ?_
    refine rl_assign rfl ?_
    refine ex_ret ⟨.inr rfl, ?_⟩
    clear hK1 K1
    refine ret_pv rfl ?_ rfl
    exact congrArg (fun b : Bool => [AV.pv (.bool b)]) (kb_f (fun h => by obtain ⟨⟨q1, q2, q3, q4, q5, q6, q7, q8, q9⟩, q0⟩ := h; exact hX q3))
  try simp at hg7
  have f6 : lsOk okO ouLt n.outs 96 = true := by exact hg7
  refine rl_loadA_ptr rfl tt_28 rfl rfl rfl ?_
  refine rl_gT rfl rfl ?_
  refine rl_call rfl rfl rfl (F_spec_l22Forms ..) ?_
  refine rl_gT rfl rfl ?_
  refine rl_not rfl ?_
  refine rl_pickF rfl rfl ?_
  refine ⟨by kernel_rfl, ?_⟩
  refine ex_cond rfl (fun hc8 => ?_) (fun hc8 => ?_)
  · try simp at hc8
    try have hX : ¬ formsOk n := kb_not (by simpa using hc8)
    refine ex_rs ttOK (by rfl) ?_
    refine rl_assign rfl ?_
    refine ex_ret ⟨.inr rfl, ?_⟩
    clear hK1 K1
    refine ret_pv rfl ?_ rfl
    exact congrArg (fun b : Bool => [AV.pv (.bool b)]) (kb_f (fun h => by obtain ⟨⟨q1, q2, q3, q4, q5, q6, q7, q8, q9⟩, q0⟩ := h; exact hX ⟨q6, q7, q1.2.2.2.2.1, q1.2.2.2.2.2.1, q1.2.2.2.2.2.2, q9⟩))
  try simp at hc8
  have fF : formsOk n := kb_iff.1 (by simpa using hc8)
  have fo96 := (lsOk_all f6).1
  refine ex_skip ?_
  refine hK1 _ _ ?_
  clear hK1 K1
  refine ex_cutK (ι := Unit) (fun _i γ1 => []) (fun _i γ1 => []) (fun _i => ∀ (i : Nat) a, n.outs[i]? = some a → a.time < n.g) (Cov.cons (t := 1) rfl Cov.nil) (HE.same (id := 0) rfl HE.nil) ?_ fun _i γ1 hi => ?_
  · refine ex_rsD ttOK mixed (by rfl) ?_
    refine rl_fieldAddr rfl tt_28 rfl rfl tt_25 rfl rfl ?_
    refine rl_load_ptr rfl tt_25 rfl rfl ?_
    refine rl_lenm rfl tt_25 rfl ?_
    refine rl_bin rfl rfl rfl ?_
    refine rl_move rfl ?_
    refine rl_g rfl rfl (fun hg9 => ?_) (fun hg9 => ?_)
    rotate_left
    · try simp at hg9
      have g0 : n.outs.length = 0 := by (rw [hg9]; rfl)
      have fO : ∀ (i : Nat) a, n.outs[i]? = some a → a.time < n.g := fun i a ha => by have := (List.getElem?_eq_some_iff.1 ha).1; omega
      refine rl_gF rfl rfl ?_
      refine rl_gF rfl rfl ?_
      refine rl_gF rfl rfl ?_
      refine rl_gF rfl rfl ?_
      refine rl_gF rfl rfl ?_
      refine rl_gF rfl rfl ?_
      refine rl_gF rfl rfl ?_
      refine rl_gF rfl rfl ?_
      refine rl_gF rfl rfl ?_
      refine rl_gF rfl rfl ?_
      refine rl_gF rfl rfl ?_
      refine rl_pickF rfl rfl ?_
      refine ⟨by kernel_rfl, ?_⟩
      refine ex_cond rfl (fun hc11 => ?_) (fun hc11 => ?_)
      · simp at hc11
      try simp at hc11
      try have fO : ∀ (i : Nat) a, n.outs[i]? = some a → a.time < n.g := outs_last f6 ho (by omega)
      refine ex_skip ?_
      exact ⟨(), fO, [], Cov.nil, (Cov.cons (t := 1) rfl Cov.nil), HE.nil, (HE.same (id := 0) rfl HE.nil), rfl⟩
    try simp at hg9
    have g0 : 0 < n.outs.length := by omega
    obtain ⟨o, ho⟩ : ∃ o, n.outs[n.outs.length - 1]? = some o := ⟨_, List.getElem?_eq_getElem (by omega)⟩
    refine rl_fieldAddr rfl tt_28 rfl rfl tt_25 rfl rfl ?_
    refine rl_gT rfl rfl ?_
    refine rl_load_ptr rfl tt_25 rfl rfl ?_
    refine rl_gT rfl rfl ?_
    refine rl_fieldAddr rfl tt_28 rfl rfl tt_25 rfl rfl ?_
    refine rl_gT rfl rfl ?_
    refine rl_load_ptr rfl tt_25 rfl rfl ?_
    refine rl_gT rfl rfl ?_
    refine rl_lenm rfl tt_25 rfl ?_
    refine rl_gT rfl rfl ?_
    refine rl_subN (b := 1) rfl rfl (by omega) (by omega) ?_
    refine rl_gT rfl rfl ?_
    refine rl_idxm rfl rfl tt_25 rfl tt_104 rfl ho ?_
    refine rl_gT rfl rfl ?_
    refine rl_fieldAddr rfl tt_104 rfl rfl tt_3 rfl rfl ?_
    refine rl_gT rfl rfl ?_
    refine rl_load_iel rfl tt_3 rfl ?_
    refine rl_gT rfl rfl ?_
    refine rl_fieldAddr rfl tt_28 rfl rfl tt_3 rfl rfl ?_
    refine rl_gT rfl rfl ?_
    refine rl_load_ptr rfl tt_3 rfl rfl ?_
    refine rl_gT rfl rfl ?_
    refine rl_bin rfl rfl rfl ?_
    refine rl_pickT rfl rfl ?_
    refine ⟨by kernel_rfl, ?_⟩
    refine ex_cond rfl (fun hc10 => ?_) (fun hc10 => ?_)
    rotate_left
    · try simp at hc10
      try have fO : ∀ (i : Nat) a, n.outs[i]? = some a → a.time < n.g := outs_last f6 ho (by omega)
      refine ex_skip ?_
      exact ⟨(), fO, [], Cov.nil, (Cov.cons (t := 1) rfl Cov.nil), HE.nil, (HE.same (id := 0) rfl HE.nil), rfl⟩
    try simp at hc10
    have hX : ¬ o.time < n.g := by omega
    refine ex_rs ttOK (by rfl) ?_
    refine rl_assign rfl ?_
    refine ex_ret ⟨.inr rfl, ?_⟩
    refine ret_pv rfl ?_ rfl
    exact congrArg (fun b : Bool => [AV.pv (.bool b)]) (kb_f (fun h => by obtain ⟨⟨q1, q2, q3, q4, q5, q6, q7, q8, q9⟩, q0⟩ := h; exact hX (q4 _ _ ho)))
  · try dsimp only [List.cons_append, List.nil_append]
    have fO := hi
    refine ex_rs ttOK (by rfl) ?_
    refine rl_fieldAddr rfl tt_28 rfl rfl tt_3 rfl rfl ?_
    refine rl_load_ptr rfl tt_3 rfl rfl ?_
    refine rl_call rfl rfl rfl (F_spec_l22Lanes ..) ?_
    refine rl_assign rfl ?_
    refine ex_seq_k fun K12 hK12 => ?_
    refine ex_rs ttOK (by rfl) ?_
    refine rl_fieldAddr rfl tt_28 rfl rfl tt_23 rfl rfl ?_
    refine rl_load_ptr rfl tt_23 rfl rfl ?_
    refine rl_lenm rfl tt_23 rfl ?_
    refine rl_move rfl ?_
    refine rl_lenm rfl tt_23 rfl ?_
    refine rl_bin rfl rfl rfl ?_
    refine ex_cond rfl (fun hc13 => ?_) (fun hc13 => ?_)
    · try simp at hc13
      refine ex_rs ttOK (by rfl) ?_
      refine rl_assign rfl ?_
      refine ex_ret ⟨.inr rfl, ?_⟩
      clear hK12 K12
      refine ret_pv rfl ?_ rfl
      exact congrArg (fun b : Bool => [AV.pv (.bool b)]) (kb_f (fun h => by obtain ⟨⟨q1, q2, q3, q4, q5, q6, q7, q8, q9⟩, q0⟩ := h; omega))
    try simp at hc13
    have fL : n.lanes.length = (procs n.id 4).length := by omega
    refine ex_skip ?_
    refine hK12 _ _ ?_
    clear hK12 K12
    refine ex_seq_k fun K14 hK14 => ?_
    refine ex_rs ttOK (by rfl) ?_
    refine rl_assign rfl ?_
    refine ex_block ?_
    refine ex_loopK (ι := Nat) (fun i γ2 => [(4, .pv (.int .i64 (i : Int)))]) (fun i γ2 => []) (fun i => i ≤ (procs n.id 4).length ∧ upTo n.lanes (fun j l => (procs n.id 4)[j]? = some l.proc ∧ laOk l = true) i) (fun i => (procs n.id 4).length - i) (Cov.cons (t := 1) rfl (Cov.cons (t := 3) rfl Cov.nil)) (HE.same (id := 0) rfl HE.nil) 0 ⟨by omega, upTo_zero⟩ [] (Cov.cons (t := 4) rfl Cov.nil) HE.nil rfl fun i γ2 hi => ?_
    try dsimp only [List.cons_append, List.nil_append]
    obtain ⟨b1, b2⟩ := hi
    refine ex_seq_k fun K15 hK15 => ?_
    refine ex_rs ttOK (by rfl) ?_
    refine rl_move rfl ?_
    refine rl_move rfl ?_
    refine rl_lenm rfl tt_23 rfl ?_
    refine rl_bin rfl rfl rfl ?_
    refine ex_cond rfl (fun hc16 => ?_) (fun hc16 => ?_)
    · try simp at hc16
      obtain ⟨l, hl⟩ : ∃ l, n.lanes[i]? = some l := ⟨_, List.getElem?_eq_getElem (by omega)⟩
      obtain ⟨p, hp⟩ : ∃ p, (procs n.id 4)[i]? = some p := ⟨_, List.getElem?_eq_getElem (by omega)⟩
      refine ex_skip ?_
      refine hK15 _ _ ?_
      clear hK15 K15
      refine ex_seq_k fun K17 hK17 => ?_
      refine ex_block ?_
      refine ex_rsD ttOK mixed (by rfl) ?_
      refine rl_fieldAddr rfl tt_28 rfl rfl tt_23 rfl rfl ?_
      refine rl_load_ptr rfl tt_23 rfl rfl ?_
      refine rl_move rfl ?_
      refine rl_idxm rfl rfl tt_23 rfl tt_65 rfl hl ?_
      refine rl_loadA_iel rfl tt_65 rfl rfl ?_
      refine rl_call rfl rfl rfl (F_spec_LaneOk ..) ?_
      refine rl_not rfl ?_
      refine rl_move rfl ?_
      refine rl_g rfl rfl (fun hg18 => ?_) (fun hg18 => ?_)
      rotate_left
      · try simp at hg18
        have hX : ¬ laOk l = true := by simpa using hg18
        refine rl_gF rfl rfl ?_
        refine rl_gF rfl rfl ?_
        refine rl_gF rfl rfl ?_
        refine rl_gF rfl rfl ?_
        refine rl_gF rfl rfl ?_
        refine rl_gF rfl rfl ?_
        refine rl_gF rfl rfl ?_
        refine rl_gF rfl rfl ?_
        refine rl_gF rfl rfl ?_
        refine rl_gF rfl rfl ?_
        refine rl_gF rfl rfl ?_
        refine rl_pickT rfl rfl ?_
        refine ⟨by kernel_rfl, ?_⟩
        refine ex_cond rfl (fun hc20 => ?_) (fun hc20 => ?_)
        rotate_left
        · simp at hc20
        try simp at hc20
        try have hX : ¬ l.proc = p := by first | exact hc20 | (simpa [lane0] using hc20)
        refine ex_rs ttOK (by rfl) ?_
        refine rl_assign rfl ?_
        refine ex_ret ⟨.inr rfl, ?_⟩
        clear hK17 K17 hK14 K14
        refine ret_pv rfl ?_ rfl
        exact congrArg (fun b : Bool => [AV.pv (.bool b)]) (kb_f (fun h => by obtain ⟨⟨q1, q2, q3, q4, q5, q6, q7, q8, q9⟩, q0⟩ := h; exact hX (q8 _ _ hl).2))
      try simp at hg18
      have hlo : laOk l = true := by exact hg18
      refine rl_fieldAddr rfl tt_28 rfl rfl tt_23 rfl rfl ?_
      refine rl_gT rfl rfl ?_
      refine rl_load_ptr rfl tt_23 rfl rfl ?_
      refine rl_gT rfl rfl ?_
      refine rl_move rfl ?_
      refine rl_gT rfl rfl ?_
      refine rl_idxm rfl rfl tt_23 rfl tt_65 rfl hl ?_
      refine rl_gT rfl rfl ?_
      refine rl_fieldAddr rfl tt_65 rfl rfl tt_3 rfl rfl ?_
      refine rl_gT rfl rfl ?_
      refine rl_load_iel rfl tt_3 rfl ?_
      refine rl_gT rfl rfl ?_
      refine rl_move rfl ?_
      refine rl_gT rfl rfl ?_
      refine rl_move rfl ?_
      refine rl_gT rfl rfl ?_
      refine rl_idxm rfl rfl tt_23 rfl tt_65 rfl hp ?_
      refine rl_gT rfl rfl ?_
      refine rl_fieldAddr rfl tt_65 rfl rfl tt_3 rfl rfl ?_
      refine rl_gT rfl rfl ?_
      refine rl_load_iel rfl tt_3 rfl ?_
      refine rl_gT rfl rfl ?_
      refine rl_bin rfl rfl rfl ?_
      refine rl_pickF rfl rfl ?_
      refine ⟨by kernel_rfl, ?_⟩
      refine ex_cond rfl (fun hc19 => ?_) (fun hc19 => ?_)
      rotate_left
      · try simp at hc19
        have hpe : l.proc = p := by exact hc19
        refine ex_skip ?_
        refine hK17 _ _ ?_
        clear hK17 K17
        refine ex_region ttOK (by rfl) ?_
        refine rl_move rfl ?_
        refine rl_addN (b := 1) rfl rfl (by omega) ?_
        refine rl_assign rfl ?_
        exact ⟨i + 1, ⟨⟨by omega, upTo_step b2 hl ⟨by rw [hp, hpe], hlo⟩⟩, by omega⟩, [], (Cov.cons (t := 4) rfl Cov.nil), (Cov.cons (t := 1) rfl (Cov.cons (t := 3) rfl Cov.nil)), HE.nil, (HE.same (id := 0) rfl HE.nil), rfl⟩
      try simp at hc19
      try have hX : ¬ l.proc = p := by exact hc19
      refine ex_rs ttOK (by rfl) ?_
      refine rl_assign rfl ?_
      refine ex_ret ⟨.inr rfl, ?_⟩
      clear hK17 K17 hK14 K14
      refine ret_pv rfl ?_ rfl
      exact congrArg (fun b : Bool => [AV.pv (.bool b)]) (kb_f (fun h => by obtain ⟨⟨q1, q2, q3, q4, q5, q6, q7, q8, q9⟩, q0⟩ := h; have := (q8 _ _ hl).1; rw [hp] at this; exact hX (Option.some.inj this).symm))
    try simp at hc16
    have fN : lnsOk n := upTo_all b2 (by omega)
    refine ex_exit ?_
    refine hK14 _ _ ?_
    clear hK15 K15 hK14 K14
    refine ex_seq_k fun K21 hK21 => ?_
    refine ex_rs ttOK (by rfl) ?_
    refine rl_assign rfl ?_
    refine ex_block ?_
    refine ex_loopK (ι := Nat) (fun j γ3 => [(5, .pv (.int .i64 (j : Int)))]) (fun j γ3 => []) (fun j => j ≤ (procs n.id 4).length ∧ upTo n.lanes (fun j l => ∀ p, (procs n.id 4)[j]? = some p → l.done.length ≤ same l.done (cameL n p) ∧ (cameL n p).length ≤ 100) j) (fun j => (procs n.id 4).length - j) (Cov.cons (t := 1) rfl (Cov.cons (t := 3) rfl Cov.nil)) (HE.same (id := 0) rfl HE.nil) 0 ⟨by omega, upTo_zero⟩ [] (Cov.cons (t := 5) rfl Cov.nil) HE.nil rfl fun j γ3 hi => ?_
    try dsimp only [List.cons_append, List.nil_append]
    obtain ⟨d1, d2⟩ := hi
    refine ex_seq_k fun K22 hK22 => ?_
    refine ex_rs ttOK (by rfl) ?_
    refine rl_move rfl ?_
    refine rl_move rfl ?_
    refine rl_lenm rfl tt_23 rfl ?_
    refine rl_bin rfl rfl rfl ?_
    refine ex_cond rfl (fun hc23 => ?_) (fun hc23 => ?_)
    rotate_left
    · try simp at hc23
      have fC := fun (i : Nat) p l (a : (procs n.id 4)[i]? = some p) (b : n.lanes[i]? = some l) => upTo_all d2 (by omega) i l b p a
      refine ex_exit ?_
      refine hK21 _ _ ?_
      clear hK22 K22 hK21 K21
      refine ex_rs ttOK (by rfl) ?_
      refine rl_assign rfl ?_
      refine ex_ret ⟨.inr rfl, ?_⟩
      refine ret_pv rfl ?_ rfl
      exact congrArg (fun b : Bool => [AV.pv (.bool b)]) (kb_t ⟨⟨⟨f1, f2, f3, f4, fF.2.2.1, fF.2.2.2.1, fF.2.2.2.2.1⟩, f5, f6, fO, fL, fF.1, fF.2.1, fN, fF.2.2.2.2.2⟩, fC⟩)
    try simp at hc23
    obtain ⟨l, hl⟩ : ∃ l, n.lanes[j]? = some l := ⟨_, List.getElem?_eq_getElem (by omega)⟩
    obtain ⟨p, hp⟩ : ∃ p, (procs n.id 4)[j]? = some p := ⟨_, List.getElem?_eq_getElem (by omega)⟩
    obtain ⟨hdl, _⟩ := laOk_parts (fN j l hl).2
    refine ex_skip ?_
    refine hK22 _ _ ?_
    clear hK22 K22
    refine ex_seq_k fun K24 hK24 => ?_
    refine ex_block ?_
    refine ex_rsD ttOK mixed (by rfl) ?_
    refine rl_fieldAddr rfl tt_28 rfl rfl tt_23 rfl rfl ?_
    refine rl_load_ptr rfl tt_23 rfl rfl ?_
    refine rl_move rfl ?_
    refine rl_idxm rfl rfl tt_23 rfl tt_65 rfl hl ?_
    refine rl_loadA_iel rfl tt_65 rfl rfl ?_
    refine rl_loadA_ptr rfl tt_28 rfl rfl rfl ?_
    refine rl_move rfl ?_
    refine rl_move rfl ?_
    refine rl_idxm rfl rfl tt_23 rfl tt_65 rfl hp ?_
    refine rl_fieldAddr rfl tt_65 rfl rfl tt_3 rfl rfl ?_
    refine rl_load_iel rfl tt_3 rfl ?_
    refine rl_call rfl rfl rfl (F_spec_l22Came c n p (by have := sent_le f5 (by omega) fN; have := other_le fF.1 fF.2.1 fF.2.2.2.2.2; omega) (by omega) fF.1) ?_
    refine rl_call rfl rfl rfl (F_spec_l21Same ..) ?_
    refine rl_fieldAddr rfl tt_28 rfl rfl tt_23 rfl rfl ?_
    refine rl_load_ptr rfl tt_23 rfl rfl ?_
    refine rl_move rfl ?_
    refine rl_idxm rfl rfl tt_23 rfl tt_65 rfl hl ?_
    refine rl_fieldAddr rfl tt_65 rfl rfl tt_63 rfl rfl ?_
    refine rl_load_iel rfl tt_63 rfl ?_
    refine rl_lenm rfl tt_63 rfl ?_
    refine rl_bin rfl rfl rfl ?_
    refine rl_move rfl ?_
    refine rl_g rfl rfl (fun hg25 => ?_) (fun hg25 => ?_)
    rotate_left
    · try simp at hg25
      refine rl_gF rfl rfl ?_
      refine rl_gF rfl rfl ?_
      refine rl_gF rfl rfl ?_
      refine rl_gF rfl rfl ?_
      refine rl_gF rfl rfl ?_
      refine rl_gF rfl rfl ?_
      refine rl_gF rfl rfl ?_
      refine rl_gF rfl rfl ?_
      refine rl_gF rfl rfl ?_
      refine rl_pickT rfl rfl ?_
      refine ⟨by kernel_rfl, ?_⟩
      refine ex_cond rfl (fun hc27 => ?_) (fun hc27 => ?_)
      rotate_left
      · simp at hc27
      try simp at hc27
      refine ex_rs ttOK (by rfl) ?_
      refine rl_assign rfl ?_
      refine ex_ret ⟨.inr rfl, ?_⟩
      clear hK24 K24 hK21 K21
      refine ret_pv rfl ?_ rfl
      exact congrArg (fun b : Bool => [AV.pv (.bool b)]) (kb_f (fun h => by obtain ⟨⟨q1, q2, q3, q4, q5, q6, q7, q8, q9⟩, q0⟩ := h; have := q0 _ _ _ hp hl; omega))
    try simp at hg25
    refine rl_loadA_ptr rfl tt_28 rfl rfl rfl ?_
    refine rl_gT rfl rfl ?_
    refine rl_move rfl ?_
    refine rl_gT rfl rfl ?_
    refine rl_move rfl ?_
    refine rl_gT rfl rfl ?_
    refine rl_idxm rfl rfl tt_23 rfl tt_65 rfl hp ?_
    refine rl_gT rfl rfl ?_
    refine rl_fieldAddr rfl tt_65 rfl rfl tt_3 rfl rfl ?_
    refine rl_gT rfl rfl ?_
    refine rl_load_iel rfl tt_3 rfl ?_
    refine rl_gT rfl rfl ?_
    refine rl_call rfl rfl rfl (F_spec_l22Came c n p (by have := sent_le f5 (by omega) fN; have := other_le fF.1 fF.2.1 fF.2.2.2.2.2; omega) (by omega) fF.1) ?_
    refine rl_gT rfl rfl ?_
    refine rl_lenm rfl tt_24 rfl ?_
    refine rl_gT rfl rfl ?_
    refine rl_call rfl rfl rfl (F_spec_l2Most ..) ?_
    refine rl_gT rfl rfl ?_
    refine rl_bin rfl rfl rfl ?_
    refine rl_pickF rfl rfl ?_
    refine ⟨by kernel_rfl, ?_⟩
    refine ex_cond rfl (fun hc26 => ?_) (fun hc26 => ?_)
    rotate_left
    · try simp at hc26
      refine ex_skip ?_
      refine hK24 _ _ ?_
      clear hK24 K24
      refine ex_region ttOK (by rfl) ?_
      refine rl_move rfl ?_
      refine rl_addN (b := 1) rfl rfl (by omega) ?_
      refine rl_assign rfl ?_
      exact ⟨j + 1, ⟨⟨by omega, upTo_step d2 hl (fun p2 hp2 => by rw [hp] at hp2; cases hp2; omega)⟩, by omega⟩, [], (Cov.cons (t := 5) rfl Cov.nil), (Cov.cons (t := 1) rfl (Cov.cons (t := 3) rfl Cov.nil)), HE.nil, (HE.same (id := 0) rfl HE.nil), rfl⟩
    try simp at hc26
    refine ex_rs ttOK (by rfl) ?_
    refine rl_assign rfl ?_
    refine ex_ret ⟨.inr rfl, ?_⟩
    clear hK24 K24 hK21 K21
    refine ret_pv rfl ?_ rfl
    exact congrArg (fun b : Bool => [AV.pv (.bool b)]) (kb_f (fun h => by obtain ⟨⟨q1, q2, q3, q4, q5, q6, q7, q8, q9⟩, q0⟩ := h; have := q0 _ _ _ hp hl; omega))
end Go.Proofs.YtpadkogpeobboaaGreat.Am
namespace Go.Proofs.YtpadkogpeobboaaGreat.Am
open Go Go.RowKit
theorem F_spec_l22Tells (c : Bool) (n : Nd) (t : Nat) (ht : t < 3) (hk3 : n.known.length = 3) (hs : (sentL n).length ≤ 5000000) (hlen : n.lanes.length ≤ 1048576) : Pure Tryz.prog 99 [.agg (encNd c n), .pv (.int .i64 (t : Int))] (rEvs true (tellsL n (t : Int))) := by
  refine pure_of_ex ttOK (fn := Tryz.f99) (by kernel_rfl) (by kernel_rfl) rfl (outs := [rEvs true (tellsL n (t : Int))]) (by rfl) (Nat.le_of_ble_eq_true rfl) 5 ?_
  obtain ⟨kn, hkn⟩ : ∃ kn, n.known[t]? = some kn := ⟨_, List.getElem?_eq_getElem (by omega)⟩
  rw [tellsL_at hkn]
  refine ex_rs ttOK (by rfl) ?_
  refine rl_boxA (id := 0) rfl rfl rfl ?_
  refine rl_assign rfl ?_
  refine ex_rs ttOK (by rfl) ?_
  refine rl_loadA_ptr rfl tt_28 rfl rfl rfl ?_
  refine rl_meth [4] [_] (F_spec_l22Sent c n (by omega) hlen) rfl rfl rfl (by decide) rfl rfl (by repeat (first | exact InH.nil | refine InH.cons rfl ?_)) (by (simp only [pI, List.map_cons, List.map_nil, insAll, insEnc, gl, nx, memN, Nat.beq, Nat.add_eq, List.getD_cons_zero, List.getD_cons_succ, List.getD_nil, Bool.or_false, Bool.false_or, Bool.true_or, Bool.or_true, Nat.add_zero, Nat.zero_add]; rfl)) (by (simp only [pI, List.map_cons, List.map_nil, insAll, insEnc, gl, nx, memN, Nat.beq, Nat.add_eq, List.getD_cons_zero, List.getD_cons_succ, List.getD_nil, Bool.or_false, Bool.false_or, Bool.true_or, Bool.or_true, Nat.add_zero, Nat.zero_add]; rfl)) ?_
  refine rl_assign rfl ?_
  refine ex_frzM 5 rfl rfl (fun _ => rfl) ?_
  refine ex_rs ttOK (by rfl) ?_
  refine rl_slice0 (id := 1) tt_24 rfl tt_76 rfl ?_
  refine rl_assign rfl ?_
  refine ex_seq_k fun K1 hK1 => ?_
  refine ex_rs ttOK (by rfl) ?_
  refine rl_assign rfl ?_
  refine ex_block ?_
  refine ex_loopK (ι := Nat) (fun j γ1 => [(6, .ref 1 (γ1 1)), (7, .pv (.int .i64 (j : Int)))]) (fun j γ1 => [(1, ((γ1 1), .row 76 7 ((((sentL n).take j).filter (wantK (t : Int) kn)).map encEv))), (2, ((γ1 2), .dead)), (3, ((γ1 3), .dead))]) (fun j => j ≤ (sentL n).length) (fun j => (sentL n).length - j) (Cov.cons (t := 1) rfl (Cov.cons (t := 2) rfl (Cov.cons (t := 5) rfl Cov.nil))) (HE.same (id := 0) rfl (HE.same (id := 4) rfl HE.nil)) 0 (by omega) [0, _, _, _] (Cov.cons (t := 6) rfl (Cov.cons (t := 7) rfl Cov.nil)) (HE.row rfl (by rw [List.take_zero]; rfl) (HE.kill rfl (HE.kill rfl HE.nil))) rfl fun j γ1 hi => ?_
  try dsimp only [List.cons_append, List.nil_append]
  refine ex_seq_k fun K2 hK2 => ?_
  refine ex_rs ttOK (by rfl) ?_
  refine rl_move rfl ?_
  refine rl_move rfl ?_
  refine rl_lenm rfl tt_24 rfl ?_
  refine rl_bin rfl rfl rfl ?_
  refine ex_cond rfl (fun hc3 => ?_) (fun hc3 => ?_)
  rotate_left
  · try simp at hc3
    obtain rfl : j = (sentL n).length := by omega
    rw [List.take_length]
    refine ex_exit ?_
    refine hK1 _ _ ?_
    clear hK2 K2 hK1 K1
    refine ex_frzM 6 rfl rfl (fun _ => rfl) ?_
    refine ex_rs ttOK (by rfl) ?_
    refine rl_move rfl ?_
    refine rl_call rfl rfl rfl (F_spec_EventSort true ((sentL n).filter (wantK (t : Int) kn)) (Nat.le_trans (List.length_filter_le _ _) (by omega))) ?_
    refine rl_assign rfl ?_
    refine ex_ret ⟨.inr rfl, ?_⟩
    refine ret_pv rfl rfl rfl
  try simp at hc3
  obtain ⟨p, hp⟩ : ∃ p, (sentL n)[j]? = some p := ⟨_, List.getElem?_eq_getElem (by omega)⟩
  have hfl : (((sentL n).take j).filter (wantK (t : Int) kn)).length ≤ 5000000 := Nat.le_trans (List.length_filter_le _ _) (by rw [List.length_take]; omega)
  refine ex_skip ?_
  refine hK2 _ _ ?_
  clear hK2 K2
  refine ex_seq_k fun K4 hK4 => ?_
  refine ex_block ?_
  refine ex_rsD ttOK mixed (by rfl) ?_
  refine rl_move rfl ?_
  refine rl_move rfl ?_
  refine rl_idxm rfl rfl tt_24 rfl tt_76 rfl hp ?_
  refine rl_fieldAddr rfl tt_76 rfl rfl tt_3 rfl rfl ?_
  refine rl_load_iel rfl tt_3 rfl ?_
  refine rl_call rfl rfl rfl (F_spec_NodeOf ..) ?_
  refine rl_move rfl ?_
  refine rl_bin rfl rfl rfl ?_
  refine rl_move rfl ?_
  refine rl_g rfl rfl (fun hg5 => ?_) (fun hg5 => ?_)
  rotate_left
  · try simp at hg5
    have hw : ¬ wantK (t : Int) kn p = true := by simp only [wantK, decide_eq_true_eq]; omega
    refine rl_gF rfl rfl ?_
    refine rl_gF rfl rfl ?_
    refine rl_gF rfl rfl ?_
    refine rl_gF rfl rfl ?_
    refine rl_gF rfl rfl ?_
    refine rl_gF rfl rfl ?_
    refine rl_gF rfl rfl ?_
    refine rl_gF rfl rfl ?_
    refine rl_gF rfl rfl ?_
    refine rl_gF rfl rfl ?_
    refine rl_pickF rfl rfl ?_
    refine ⟨by kernel_rfl, ?_⟩
    refine ex_cond rfl (fun hc7 => ?_) (fun hc7 => ?_)
    · simp at hc7
    try simp at hc7
    try have hw : ¬ wantK (t : Int) kn p = true := by simp only [wantK, decide_eq_true_eq]; omega
    refine ex_skip ?_
    refine hK4 _ _ ?_
    clear hK4 K4
    refine ex_region ttOK (by rfl) ?_
    refine rl_move rfl ?_
    refine rl_bin rfl rfl rfl ?_
    refine rl_assign rfl ?_
    exact ⟨j + 1, ⟨by omega, by omega⟩, [0, _, _, _], (Cov.cons (t := 6) rfl (Cov.cons' (t := 7) rfl (by rw [wrap_small (by omega) (by omega)]; rfl) Cov.nil)), (Cov.cons (t := 1) rfl (Cov.cons (t := 2) rfl (Cov.cons (t := 5) rfl Cov.nil))), (HE.row rfl (by rw [filter_take hp]; rw [if_neg hw, List.append_nil]) (HE.kill rfl (HE.kill rfl HE.nil))), (HE.same (id := 0) rfl (HE.same (id := 4) rfl HE.nil)), rfl⟩
  try simp at hg5
  have hw1 : nodeOf p.to = (t : Int) := by exact hg5
  refine rl_move rfl ?_
  refine rl_gT rfl rfl ?_
  refine rl_move rfl ?_
  refine rl_gT rfl rfl ?_
  refine rl_idxm rfl rfl tt_24 rfl tt_76 rfl hp ?_
  refine rl_gT rfl rfl ?_
  refine rl_fieldAddr rfl tt_76 rfl rfl tt_3 rfl rfl ?_
  refine rl_gT rfl rfl ?_
  refine rl_load_iel rfl tt_3 rfl ?_
  refine rl_gT rfl rfl ?_
  refine rl_fieldAddr rfl tt_28 rfl rfl tt_22 rfl rfl ?_
  refine rl_gT rfl rfl ?_
  refine rl_load_ptr rfl tt_22 rfl rfl ?_
  refine rl_gT rfl rfl ?_
  refine rl_move rfl ?_
  refine rl_gT rfl rfl ?_
  refine rl_idxm rfl rfl tt_22 rfl tt_3 rfl hkn ?_
  refine rl_gT rfl rfl ?_
  refine rl_load_iel rfl tt_3 rfl ?_
  refine rl_gT rfl rfl ?_
  refine rl_bin rfl rfl rfl ?_
  refine rl_pickT rfl rfl ?_
  refine ⟨by kernel_rfl, ?_⟩
  refine ex_cond rfl (fun hc6 => ?_) (fun hc6 => ?_)
  rotate_left
  · try simp at hc6
    try have hw : ¬ wantK (t : Int) kn p = true := by simp only [wantK, decide_eq_true_eq]; omega
    refine ex_skip ?_
    refine hK4 _ _ ?_
    clear hK4 K4
    refine ex_region ttOK (by rfl) ?_
    refine rl_move rfl ?_
    refine rl_bin rfl rfl rfl ?_
    refine rl_assign rfl ?_
    exact ⟨j + 1, ⟨by omega, by omega⟩, [0, _, _, _], (Cov.cons (t := 6) rfl (Cov.cons' (t := 7) rfl (by rw [wrap_small (by omega) (by omega)]; rfl) Cov.nil)), (Cov.cons (t := 1) rfl (Cov.cons (t := 2) rfl (Cov.cons (t := 5) rfl Cov.nil))), (HE.row rfl (by rw [filter_take hp]; rw [if_neg hw, List.append_nil]) (HE.kill rfl (HE.kill rfl HE.nil))), (HE.same (id := 0) rfl (HE.same (id := 4) rfl HE.nil)), rfl⟩
  try simp at hc6
  have hw : wantK (t : Int) kn p = true := by simp only [wantK, decide_eq_true_eq]; omega
  refine ex_region ttOK (by rfl) ?_
  refine rl_move rfl ?_
  refine rl_move rfl ?_
  refine rl_move rfl ?_
  refine rl_idxm rfl rfl tt_24 rfl tt_76 rfl hp ?_
  refine rl_loadA_iel rfl tt_76 rfl rfl ?_
  refine rl_slice1A (id := 2) tt_24 rfl tt_76 rfl rfl rfl rfl rfl rfl ?_
  refine rl_app_rr (zs := (((sentL n).take j).filter (wantK (t : Int) kn) ++ [p]).map encEv) rfl rfl tt_24 rfl tt_76 rfl rfl rfl rfl (by rfl) (map_snoc _ _ _) (by (simp only [List.length_map, List.length_append, List.length_cons, List.length_nil, List.length_take, List.length_range, T76] at *; omega)) ?_
  refine rl_assign rfl ?_
  refine hK4 _ _ ?_
  clear hK4 K4
  refine ex_region ttOK (by rfl) ?_
  refine rl_move rfl ?_
  refine rl_bin rfl rfl rfl ?_
  refine rl_assign rfl ?_
  exact ⟨j + 1, ⟨by omega, by omega⟩, [0, _, _, _], (Cov.cons (t := 6) rfl (Cov.cons' (t := 7) rfl (by rw [wrap_small (by omega) (by omega)]; rfl) Cov.nil)), (Cov.cons (t := 1) rfl (Cov.cons (t := 2) rfl (Cov.cons (t := 5) rfl Cov.nil))), (HE.row rfl (by rw [filter_take hp]; rw [if_pos hw]) (HE.kill rfl (HE.kill rfl HE.nil))), (HE.same (id := 0) rfl (HE.same (id := 4) rfl HE.nil)), rfl⟩
end Go.Proofs.YtpadkogpeobboaaGreat.Am
namespace Go.Proofs.YtpadkogpeobboaaGreat.Am
open Go Go.RowKit
set_option maxHeartbeats 1000000 in
theorem F_spec_NodeTend (c : Bool) (n : Nd) : Pure Tryz.prog 24 [.agg (encNd c n)] (rWos true (tendL n)) := by
  refine pure_of_ex ttOK (fn := Tryz.f24) (by kernel_rfl) (by kernel_rfl) rfl (outs := [rWos true (tendL n)]) (by rfl) (Nat.le_of_ble_eq_true rfl) 8 ?_
  refine ex_rs ttOK (by rfl) ?_
  refine rl_boxA (id := 0) rfl rfl rfl ?_
  refine rl_assign rfl ?_
  refine ex_rs ttOK (by rfl) ?_
  refine rl_slice0 (id := 1) tt_44 rfl tt_52 rfl ?_
  refine rl_assign rfl ?_
  refine ex_seq_k fun K1 hK1 => ?_
  refine ex_rs ttOK (by rfl) ?_
  refine rl_loadA_ptr rfl tt_28 rfl rfl rfl ?_
  refine rl_call rfl rfl rfl (F_spec_NodeOk ..) ?_
  refine rl_not rfl ?_
  refine rl_move rfl ?_
  refine rl_g rfl rfl (fun hg2 => ?_) (fun hg2 => ?_)
  rotate_left
  · try simp at hg2
    have fX : ¬ (nodeOk n ∧ n.up = true) := fun h => kb_not (by simpa using hg2) h.1
    refine rl_gF rfl rfl ?_
    refine rl_gF rfl rfl ?_
    refine rl_pickT rfl rfl ?_
    refine ex_cond rfl (fun hc11 => ?_) (fun hc11 => ?_)
    rotate_left
    · simp at hc11
    try simp at hc11
    have fX : ¬ (nodeOk n ∧ n.up = true) := by exact fX
    refine ex_rs ttOK (by rfl) ?_
    refine rl_move rfl ?_
    refine rl_assign rfl ?_
    refine ex_ret ⟨.inr rfl, ?_⟩
    clear hK1 K1
    (rw [tendL_f fX]; exact ret_row (l := ([] : List Wo)) rfl rfl (fun _ => rfl) rfl)
  try simp at hg2
  have fK : nodeOk n := kb_iff.1 (by simpa using hg2)
  have fS := fK.1
  have fB := shape_bound fS
  have fV := fS.2.2.2.2.2.1
  refine rl_fieldAddr rfl tt_28 rfl rfl tt_4 rfl rfl ?_
  refine rl_gT rfl rfl ?_
  refine rl_load_ptr rfl tt_4 rfl rfl ?_
  refine rl_gT rfl rfl ?_
  refine rl_not rfl ?_
  refine rl_pickF rfl rfl ?_
  refine ex_cond rfl (fun hc3 => ?_) (fun hc3 => ?_)
  · try simp at hc3
    have fX : ¬ (nodeOk n ∧ n.up = true) := by (intro h; simp_all; done)
    refine ex_rs ttOK (by rfl) ?_
    refine rl_move rfl ?_
    refine rl_assign rfl ?_
    refine ex_ret ⟨.inr rfl, ?_⟩
    clear hK1 K1
    (rw [tendL_f fX]; exact ret_row (l := ([] : List Wo)) rfl rfl (fun _ => rfl) rfl)
  try simp at hc3
  have fU : n.up = true := by exact hc3
  refine ex_skip ?_
  refine hK1 _ _ ?_
  clear hK1 K1
  refine ex_seq_k fun K4 hK4 => ?_
  refine ex_rs ttOK (by rfl) ?_
  refine rl_assign rfl ?_
  refine ex_block ?_
  refine ex_loopK (ι := Nat) (fun i γ1 => [(3, .ref 1 (γ1 1)), (4, .pv (.int .i64 (i : Int)))]) (fun i γ1 => [(1, ((γ1 1), .row 52 11 ((tendTo n i).map (encWo true)))), (2, ((γ1 2), .dead)), (3, ((γ1 3), .dead))]) (fun i => i ≤ 3) (fun i => 3 - i) (Cov.cons (t := 1) rfl Cov.nil) (HE.same (id := 0) rfl (HE.same (id := 4) rfl (HE.same (id := 5) rfl (HE.same (id := 6) rfl (HE.same (id := 7) rfl HE.nil))))) 0 (by omega) [0, _, _, _] (Cov.cons (t := 3) rfl (Cov.cons (t := 4) rfl Cov.nil)) (HE.row rfl (by rfl) (HE.kill rfl (HE.kill rfl HE.nil))) rfl fun i γ1 hi => ?_
  try dsimp only [List.cons_append, List.nil_append]
  refine ex_seq_k fun K5 hK5 => ?_
  refine ex_rs ttOK (by rfl) ?_
  refine rl_move rfl ?_
  refine rl_bin rfl rfl rfl ?_
  refine ex_cond rfl (fun hc6 => ?_) (fun hc6 => ?_)
  · try simp at hc6
    refine ex_skip ?_
    refine hK5 _ _ ?_
    clear hK5 K5
    refine ex_seq_k fun K7 hK7 => ?_
    refine ex_block ?_
    refine ex_rs ttOK (by rfl) ?_
    refine rl_move rfl ?_
    refine rl_fieldAddr rfl tt_28 rfl rfl tt_3 rfl rfl ?_
    refine rl_load_ptr rfl tt_3 rfl rfl ?_
    refine rl_bin rfl rfl rfl ?_
    refine ex_cond rfl (fun hc8 => ?_) (fun hc8 => ?_)
    rotate_left
    · try simp at hc8
      have hto : (i : Int) = n.id := by exact hc8
      refine ex_skip ?_
      refine hK7 _ _ ?_
      clear hK7 K7
      skip
      refine ex_region ttOK (by rfl) ?_
      refine rl_move rfl ?_
      refine rl_bin rfl rfl rfl ?_
      refine rl_assign rfl ?_
      exact ⟨i + 1, ⟨by omega, by omega⟩, [0, _, _, _], (Cov.cons (t := 3) rfl (Cov.cons' (t := 4) rfl (by rw [wrap_small (by omega) (by omega)]; rfl) Cov.nil)), (Cov.cons (t := 1) rfl Cov.nil), (HE.row rfl (by rw [tendTo_f hto]) (HE.kill rfl (HE.kill rfl HE.nil))), (HE.same (id := 0) rfl (HE.same (id := 4) rfl (HE.same (id := 5) rfl (HE.same (id := 6) rfl (HE.same (id := 7) rfl HE.nil))))), rfl⟩
    try simp at hc8
    have hto : ¬ (i : Int) = n.id := by exact hc8
    have htl := tellsL_le fS (i : Int)
    have htn := tendTo_le n i
    refine ex_region_any ttOK mixed (by rfl) ?_
    refine rl_move rfl ?_
    refine rl_fieldAddr rfl tt_28 rfl rfl tt_3 rfl rfl ?_
    refine rl_load_ptr rfl tt_3 rfl rfl ?_
    refine rl_move rfl ?_
    refine rl_fieldAddr rfl tt_28 rfl rfl tt_3 rfl rfl ?_
    refine rl_load_ptr rfl tt_3 rfl rfl ?_
    refine rl_fieldAddr rfl tt_28 rfl rfl tt_3 rfl rfl ?_
    refine rl_load_ptr rfl tt_3 rfl rfl ?_
    refine rl_fieldAddr rfl tt_28 rfl rfl tt_3 rfl rfl ?_
    refine rl_load_ptr rfl tt_3 rfl rfl ?_
    refine rl_loadA_ptr rfl tt_28 rfl rfl rfl ?_
    refine rl_move rfl ?_
    refine rl_call rfl rfl rfl (F_spec_l22Tells c n i (by omega) fS.2.2.2.2.2.2.1 (by have := came_bound fS; omega) (by omega)) ?_
    refine rl_build tt_52 rfl za_52 rfl (by simp only [pI, tt_3, T3, tt_22, T22, tt_24, T24, tt_25, T25, fillA, cellsA, AV.okc, AV.one, Value.oneCell', List.map_cons, List.map_nil, List.getElem?_cons_zero, List.getElem?_cons_succ, List.take_succ_cons, List.take_zero, List.drop_succ_cons, List.drop_zero, List.cons_append, List.nil_append, List.length_cons, List.length_nil, if_true, and_self, Nat.reduceAdd, Nat.reduceLeDiff]; rfl) ?_
    refine rl_slice1A (id := 2) tt_44 rfl tt_52 rfl rfl rfl rfl rfl rfl ?_
    refine rl_app_rr (zs := (tendTo n i).map (encWo true) ++ [[pI (wTells n (i : Int)).kind, pI (wTells n (i : Int)).from', pI (wTells n (i : Int)).to, pI (wTells n (i : Int)).inc, pI (wTells n (i : Int)).version, pI (wTells n (i : Int)).round, pI (wTells n (i : Int)).g, .pv (.slice none 0 0), .pv (.slice none 0 0), rEvs true (tellsL n (i : Int)), .pv (.slice none 0 0)]]) rfl rfl tt_44 rfl tt_52 rfl rfl rfl rfl rfl rfl (by (simp only [List.length_map, List.length_append, List.length_cons, List.length_nil, List.length_take, List.length_range, T52] at *; omega)) ?_
    refine rl_assign rfl ?_
    refine ⟨by kernel_rfl, ?_⟩
    refine hK7 _ _ ?_
    clear hK7 K7
    refine ex_leE 1 rfl (LeLs.snoc (x' := encWo true (wTells n (i : Int))) (.same (.same (.same (.same (.same (.same (.same (.le rfl .nil rfl (.le rfl .nil rfl (.same (.le rfl .nil rfl .nil))))))))))) _) ?_
    refine ex_region ttOK (by rfl) ?_
    refine rl_move rfl ?_
    refine rl_bin rfl rfl rfl ?_
    refine rl_assign rfl ?_
    exact ⟨i + 1, ⟨by omega, by omega⟩, [0, _, _, _], (Cov.cons (t := 3) rfl (Cov.cons' (t := 4) rfl (by rw [wrap_small (by omega) (by omega)]; rfl) Cov.nil)), (Cov.cons (t := 1) rfl Cov.nil), (HE.row rfl (by (rw [tendTo_t hto, List.map_append]; rfl)) (HE.kill rfl (HE.kill rfl HE.nil))), (HE.same (id := 0) rfl (HE.same (id := 4) rfl (HE.same (id := 5) rfl (HE.same (id := 6) rfl (HE.same (id := 7) rfl HE.nil))))), rfl⟩
  try simp at hc6
  obtain rfl : i = 3 := by omega
  have htn := tendTo_le n 3
  refine ex_exit ?_
  refine hK4 _ _ ?_
  clear hK5 K5 hK4 K4
  refine ex_seq_k fun K9 hK9 => ?_
  refine ex_rs ttOK (by rfl) ?_
  refine rl_fieldAddr rfl tt_28 rfl rfl tt_3 rfl rfl ?_
  refine rl_load_ptr rfl tt_3 rfl rfl ?_
  refine rl_bin rfl rfl rfl ?_
  refine ex_cond rfl (fun hc10 => ?_) (fun hc10 => ?_)
  rotate_left
  · try simp at hc10
    have h0 : n.id = 0 := by exact hc10
    refine ex_skip ?_
    refine hK9 _ _ ?_
    clear hK9 K9
    skip
    refine ex_rs ttOK (by rfl) ?_
    refine rl_move rfl ?_
    refine rl_assign rfl ?_
    refine ex_ret ⟨.inr rfl, ?_⟩
    (rw [tendL_0 ⟨fK, fU⟩ h0]; exact ret_row rfl rfl (fun _ => rfl) rfl)
  try simp at hc10
  have h0 : ¬ n.id = 0 := by exact hc10
  refine ex_region_any ttOK mixed (by rfl) ?_
  refine rl_move rfl ?_
  refine rl_fieldAddr rfl tt_28 rfl rfl tt_3 rfl rfl ?_
  refine rl_load_ptr rfl tt_3 rfl rfl ?_
  refine rl_fieldAddr rfl tt_28 rfl rfl tt_3 rfl rfl ?_
  refine rl_load_ptr rfl tt_3 rfl rfl ?_
  refine rl_slice0 (id := 4) tt_25 rfl tt_104 rfl ?_
  refine rl_fieldAddr rfl tt_28 rfl rfl tt_25 rfl rfl ?_
  refine rl_load_ptr rfl tt_25 rfl rfl ?_
  refine rl_appF ttOK (zs := (n.outs).map encOu) rfl rfl tt_25 rfl tt_104 rfl rfl rfl (by exact noow_map (fun _ => rfl) _) rfl (by (simp only [List.length_map, List.length_append, List.length_cons, List.length_nil, List.length_take, List.length_range, T104] at *; omega)) (Le.ow_map _ (fun _ => rfl) (fun _ => rfl)) ?_
  refine rl_build tt_52 rfl za_52 rfl (by simp only [pI, tt_3, T3, tt_22, T22, tt_24, T24, tt_25, T25, fillA, cellsA, AV.okc, AV.one, Value.oneCell', List.map_cons, List.map_nil, List.getElem?_cons_zero, List.getElem?_cons_succ, List.take_succ_cons, List.take_zero, List.drop_succ_cons, List.drop_zero, List.cons_append, List.nil_append, List.length_cons, List.length_nil, if_true, and_self, Nat.reduceAdd, Nat.reduceLeDiff]; rfl) ?_
  refine rl_slice1A (id := 6) tt_44 rfl tt_52 rfl rfl rfl rfl rfl rfl ?_
  refine rl_app_rr (zs := (tendTo n 3).map (encWo true) ++ [[pI (wOuts n).kind, pI (wOuts n).from', pI (wOuts n).to, pI (wOuts n).inc, pI (wOuts n).version, pI (wOuts n).round, pI (wOuts n).g, .pv (.slice none 0 0), .pv (.slice none 0 0), .pv (.slice none 0 0), rOus true n.outs]]) rfl rfl tt_44 rfl tt_52 rfl rfl rfl rfl rfl rfl (by (simp only [List.length_map, List.length_append, List.length_cons, List.length_nil, List.length_take, List.length_range, T52] at *; omega)) ?_
  refine rl_assign rfl ?_
  refine ⟨by kernel_rfl, ?_⟩
  refine hK9 _ _ ?_
  clear hK9 K9
  (refine ex_leE 1 rfl (LeLs.snoc (x' := encWo true (wOuts n)) (.same (.same (.same (.same (.same (.same (.same (.le rfl .nil rfl (.le rfl .nil rfl (.le rfl .nil rfl (.same .nil))))))))))) _) ?_; refine ex_hp_row 1 (xs' := (tendTo n 3 ++ [wOuts n]).map (encWo true)) rfl (by rw [List.map_append]; rfl) ?_)
  refine ex_rs ttOK (by rfl) ?_
  refine rl_move rfl ?_
  refine rl_assign rfl ?_
  refine ex_ret ⟨.inr rfl, ?_⟩
  (rw [tendL_t ⟨fK, fU⟩ h0]; exact ret_row rfl rfl (fun _ => rfl) rfl)
end Go.Proofs.YtpadkogpeobboaaGreat.Am
