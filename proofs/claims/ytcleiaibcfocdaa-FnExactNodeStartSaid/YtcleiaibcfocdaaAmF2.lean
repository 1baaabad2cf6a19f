/- Walks. PRINTED BY wip/gen/gen2.py out of b2.py. -/
import Derived.Test.YtcleiaibcfocdaaAmF1
set_option linter.unusedVariables false
set_option linter.unusedSimpArgs false
namespace Go.Proofs.Ytcleiaibcfocdaa.Am
open Go Go.RowKit

theorem F_cmp_isNaN_int (x : Int) : Pure Try.prog 131 [.pv (.int .i64 x)] (.pv (.bool (false))) := by
  refine pure_of_ex ttOK (fn := Try.f131) (by kernel_rfl) (by kernel_rfl) rfl (outs := [.pv (.bool (false))]) (by rfl) (Nat.le_of_ble_eq_true rfl) 0 ?_
  refine ex_seq_k fun K1 hK1 => ?_
  refine ex_region ttOK (by rfl) ?_
  refine rl_assign rfl ?_
  refine hK1 _ _ ?_
  clear hK1 K1
  refine ex_seq_k fun K2 hK2 => ?_
  refine ex_region ttOK (by rfl) ?_
  refine rl_move rfl ?_
  refine rl_move rfl ?_
  refine rl_bin rfl rfl rfl ?_
  refine rl_assign rfl ?_
  refine hK2 _ _ ?_
  clear hK2 K2
  refine ex_ret ⟨.inr rfl, ?_⟩
  refine ret_pv rfl ?_ rfl
  simp

theorem F_cmp_Compare_int (x y : Int) : Pure Try.prog 127 [.pv (.int .i64 x), .pv (.int .i64 y)] (.pv (.int .i64 (if x < y then -1 else if y < x then 1 else 0))) := by
  refine pure_of_ex ttOK (fn := Try.f127) (by kernel_rfl) (by kernel_rfl) rfl (outs := [.pv (.int .i64 (if x < y then -1 else if y < x then 1 else 0))]) (by rfl) (Nat.le_of_ble_eq_true rfl) 0 ?_
  refine ex_seq_k fun K1 hK1 => ?_
  refine ex_region ttOK (by rfl) ?_
  refine rl_assign rfl ?_
  refine hK1 _ _ ?_
  clear hK1 K1
  refine ex_seq_k fun K2 hK2 => ?_
  refine ex_region ttOK (by rfl) ?_
  refine rl_move rfl ?_
  refine rl_call rfl rfl rfl (F_cmp_isNaN_int ..) ?_
  refine rl_assign rfl ?_
  refine hK2 _ _ ?_
  clear hK2 K2
  refine ex_seq_k fun K3 hK3 => ?_
  refine ex_region ttOK (by rfl) ?_
  refine rl_move rfl ?_
  refine rl_call rfl rfl rfl (F_cmp_isNaN_int ..) ?_
  refine rl_assign rfl ?_
  refine hK3 _ _ ?_
  clear hK3 K3
  refine ex_seq_k fun K4 hK4 => ?_
  refine ex_seq_k fun K5 hK5 => ?_
  refine ex_region ttOK (by rfl) ?_
  refine rl_move rfl ?_
  refine hK5 _ _ ?_
  clear hK5 K5
  refine ex_cond rfl (fun hc6 => ?_) (fun hc6 => ?_)
  · simp at hc6
  · try simp at hc6
    refine ex_skip ?_
    refine hK4 _ _ ?_
    clear hK4 K4
    refine ex_seq_k fun K7 hK7 => ?_
    refine ex_seq_k fun K8 hK8 => ?_
    refine ex_region ttOK (by rfl) ?_
    refine rl_move rfl ?_
    refine hK8 _ _ ?_
    clear hK8 K8
    refine ex_cond rfl (fun hc9 => ?_) (fun hc9 => ?_)
    · simp at hc9
    · try simp at hc9
      refine ex_skip ?_
      refine hK7 _ _ ?_
      clear hK7 K7
      refine ex_seq_k fun K10 hK10 => ?_
      refine ex_seq_k fun K11 hK11 => ?_
      refine ex_region ttOK (by rfl) ?_
      refine rl_move rfl ?_
      refine rl_move rfl ?_
      refine rl_bin rfl rfl rfl ?_
      refine hK11 _ _ ?_
      clear hK11 K11
      refine ex_cond rfl (fun hc12 => ?_) (fun hc12 => ?_)
      · try simp at hc12
        refine ex_seq_k fun K13 hK13 => ?_
        refine ex_region ttOK (by rfl) ?_
        refine rl_assign rfl ?_
        refine hK13 _ _ ?_
        clear hK13 K13
        refine ex_ret ⟨.inr rfl, ?_⟩
        clear hK10 K10
        refine ret_pv rfl ?_ rfl
        simp only [List.cons.injEq, and_true, AV.pv.injEq, Value.int.injEq, true_and]
        split <;> (try split) <;> omega
      · try simp at hc12
        refine ex_skip ?_
        refine hK10 _ _ ?_
        clear hK10 K10
        refine ex_seq_k fun K14 hK14 => ?_
        refine ex_seq_k fun K15 hK15 => ?_
        refine ex_region ttOK (by rfl) ?_
        refine rl_move rfl ?_
        refine rl_move rfl ?_
        refine rl_bin rfl rfl rfl ?_
        refine hK15 _ _ ?_
        clear hK15 K15
        refine ex_cond rfl (fun hc16 => ?_) (fun hc16 => ?_)
        · try simp at hc16
          refine ex_seq_k fun K17 hK17 => ?_
          refine ex_region ttOK (by rfl) ?_
          refine rl_assign rfl ?_
          refine hK17 _ _ ?_
          clear hK17 K17
          refine ex_ret ⟨.inr rfl, ?_⟩
          clear hK14 K14
          refine ret_pv rfl ?_ rfl
          simp only [List.cons.injEq, and_true, AV.pv.injEq, Value.int.injEq, true_and]
          split <;> (try split) <;> omega
        · try simp at hc16
          refine ex_skip ?_
          refine hK14 _ _ ?_
          clear hK14 K14
          refine ex_seq_k fun K18 hK18 => ?_
          refine ex_region ttOK (by rfl) ?_
          refine rl_assign rfl ?_
          refine hK18 _ _ ?_
          clear hK18 K18
          refine ex_ret ⟨.inr rfl, ?_⟩
          refine ret_pv rfl ?_ rfl
          simp only [List.cons.injEq, and_true, AV.pv.injEq, Value.int.injEq, true_and]
          split <;> (try split) <;> omega

theorem F_slices_Compare_int_int (u v : List Int) (hab : u.length = v.length) (hn : u.length ≤ 1000000) (ty : Nat) : Meth Try.prog 114 2 [0, 1] [.bsl 0 0 0 u.length, .bsl 1 0 0 u.length] [(0, (0, .box ty (u.map pI))), (1, (0, .box ty (v.map pI)))] (.pv (.int .i64 (cmpL u v))) [] := by
  refine meth_of_ex ttOK (fn := Try.f114) (by kernel_rfl) (by kernel_rfl) rfl (O0 := [.pv (.int .i64 (cmpL u v))]) 2 0 (Nat.le_of_ble_eq_true rfl) (by rfl) (by first | exact .nil | exact .box (bndC_ints _ _) (.box (bndC_ints _ _) .nil)) (by first | exact .nil | exact .box (bndC_ints _ _) (.box (bndC_ints _ _) .nil)) (by rfl) fun γ => ?_
  have hI : List.map (insH idf γ) [(0, (0, .box ty (u.map pI))), (1, (0, .box ty (v.map pI)))] = [(0, ((γ 0), .box ty (u.map pI))), (1, ((γ 1), .box ty (v.map pI)))] := by simp only [List.map_cons, List.map_nil, insH, inE, inC_ints]; rfl
  rw [hI]
  show Ex Try.prog _ _ [(0, .bsl 0 (γ 0) 0 u.length), (1, .bsl 1 (γ 1) 0 u.length)] [(0, ((γ 0), .box ty (u.map pI))), (1, ((γ 1), .box ty (v.map pI)))] _
  refine ex_seq_k fun K1 hK1 => ?_
  refine ex_region ttOK (by rfl) ?_
  refine rl_assign rfl ?_
  refine hK1 _ _ ?_
  clear hK1 K1
  refine ex_seq_k fun K2 hK2 => ?_
  refine ex_seq_k fun K3 hK3 => ?_
  refine ex_region ttOK (by rfl) ?_
  refine rl_move rfl ?_
  first | refine rl_lenm rfl tt_29 rfl ?_ | refine rl_lenr rfl tt_29 rfl rfl (by first | exact List.length_map _ | rfl) ?_ | refine rl_len rfl tt_29 rfl rfl (by intro s hs; cases hs) rfl ?_
  refine rl_move rfl ?_
  refine hK3 _ _ ?_
  clear hK3 K3
  refine ex_block ?_
  refine ex_loopK (ι := Nat) (fun i γ1 => [(11, .pv (.int .i64 (i : Int)))]) (fun i γ1 => []) (fun i => i ≤ u.length ∧ cmpL u v = cmpL (u.drop i) (v.drop i)) (fun i => u.length - i) (Cov.cons (t := 0) rfl (Cov.cons (t := 1) rfl (Cov.cons (t := 9) rfl (Cov.cons (t := 10) rfl Cov.nil)))) (HE.same (id := 0) rfl (HE.same (id := 1) rfl HE.nil)) 0 ⟨by omega, rfl⟩ [] (Cov.cons (t := 11) rfl Cov.nil) HE.nil rfl fun i γ1 hi => ?_
  try dsimp only [List.cons_append, List.nil_append]
  obtain ⟨h1, h2⟩ := hi
  refine ex_seq_k fun K4 hK4 => ?_
  refine ex_region ttOK (by rfl) ?_
  refine rl_bin rfl rfl rfl ?_
  refine hK4 _ _ ?_
  clear hK4 K4
  refine ex_seq_k fun K5 hK5 => ?_
  refine ex_cond rfl (fun hc6 => ?_) (fun hc6 => ?_)
  · try simp at hc6
    obtain ⟨a, ha1⟩ : ∃ a, u[i]? = some a := ⟨_, List.getElem?_eq_getElem (by omega)⟩
    obtain ⟨b, hb1⟩ : ∃ b, v[i]? = some b := ⟨_, List.getElem?_eq_getElem (by omega)⟩
    refine ex_skip ?_
    refine hK5 _ _ ?_
    clear hK5 K5
    refine ex_seq_k fun K7 hK7 => ?_
    refine ex_block ?_
    refine ex_seq_k fun K8 hK8 => ?_
    refine ex_region ttOK (by rfl) ?_
    refine rl_move rfl ?_
    refine rl_idxb ttOK rfl rfl tt_29 rfl tt_3 rfl (by omega) ?_
    refine rl_load_ptr rfl tt_3 rfl (ldv_ints rfl ha1) ?_
    refine rl_assign rfl ?_
    refine rl_assign rfl ?_
    refine hK8 _ _ ?_
    clear hK8 K8
    refine ex_seq_k fun K9 hK9 => ?_
    refine ex_seq_k fun K10 hK10 => ?_
    refine ex_region ttOK (by rfl) ?_
    refine rl_move rfl ?_
    refine rl_move rfl ?_
    first | refine rl_lenm rfl tt_29 rfl ?_ | refine rl_lenr rfl tt_29 rfl rfl (by first | exact List.length_map _ | rfl) ?_ | refine rl_len rfl tt_29 rfl rfl (by intro s hs; cases hs) rfl ?_
    refine rl_bin rfl rfl rfl ?_
    refine hK10 _ _ ?_
    clear hK10 K10
    refine ex_cond rfl (fun hc11 => ?_) (fun hc11 => ?_)
    · try simp at hc11
      omega
    · try simp at hc11
      refine ex_skip ?_
      refine hK9 _ _ ?_
      clear hK9 K9
      refine ex_seq_k fun K12 hK12 => ?_
      refine ex_region ttOK (by rfl) ?_
      refine rl_move rfl ?_
      refine rl_move rfl ?_
      refine rl_idxb ttOK rfl rfl tt_29 rfl tt_3 rfl (by omega) ?_
      refine rl_load_ptr rfl tt_3 rfl (ldv_ints rfl hb1) ?_
      refine rl_assign rfl ?_
      refine hK12 _ _ ?_
      clear hK12 K12
      refine ex_seq_k fun K13 hK13 => ?_
      refine ex_region ttOK (by rfl) ?_
      refine rl_move rfl ?_
      refine rl_move rfl ?_
      refine rl_call rfl rfl rfl (F_cmp_Compare_int ..) ?_
      refine rl_assign rfl ?_
      refine hK13 _ _ ?_
      clear hK13 K13
      refine ex_seq_k fun K14 hK14 => ?_
      refine ex_region ttOK (by rfl) ?_
      refine rl_move rfl ?_
      refine rl_bin rfl rfl rfl ?_
      refine hK14 _ _ ?_
      clear hK14 K14
      refine ex_cond rfl (fun hc15 => ?_) (fun hc15 => ?_)
      · try simp at hc15
        have hz := hc15
        refine ex_seq_k fun K16 hK16 => ?_
        refine ex_region ttOK (by rfl) ?_
        refine rl_move rfl ?_
        refine rl_assign rfl ?_
        refine hK16 _ _ ?_
        clear hK16 K16
        refine ex_ret ?_
        first
        | exact ⟨.inr rfl, [γ 0, γ 1], rfl, congrArg (fun z => some [AV.pv (.int .i64 z)]) (by rw [h2, cmpL_drop ha1 hb1]; exact (cmp_ne hz).symm), HE.cast hI (HE.same rfl (HE.same rfl HE.nil))⟩
        | exact ⟨.inr rfl, [γ 0, γ 1], rfl, congrArg (fun z => some [AV.pv (.int .i64 z)]) (by rw [h2, List.drop_of_length_le (by omega), List.drop_of_length_le (by omega)]; rfl), HE.cast hI (HE.same rfl (HE.same rfl HE.nil))⟩
      · try simp at hc15
        have hz := hc15
        refine ex_skip ?_
        refine hK7 _ _ ?_
        clear hK7 K7
        refine ex_region ttOK (by rfl) ?_
        refine rl_bin rfl rfl rfl ?_
        refine rl_move rfl ?_
        exact ⟨i + 1, ⟨⟨by omega, by rw [h2, cmpL_drop ha1 hb1, cmp_eq hz]⟩, by omega⟩, [], (Cov.cons' (t := 11) rfl (by rw [wrap_small (by omega) (by omega)]; rfl) Cov.nil), (Cov.cons (t := 0) rfl (Cov.cons (t := 1) rfl (Cov.cons (t := 9) rfl (Cov.cons (t := 10) rfl Cov.nil)))), HE.nil, (HE.same (id := 0) rfl (HE.same (id := 1) rfl HE.nil)), rfl⟩
  · try simp at hc6
    refine ex_exit ?_
    refine hK2 _ _ ?_
    clear hK5 K5 hK2 K2
    refine ex_seq_k fun K17 hK17 => ?_
    refine ex_seq_k fun K18 hK18 => ?_
    refine ex_region ttOK (by rfl) ?_
    refine rl_move rfl ?_
    first | refine rl_lenm rfl tt_29 rfl ?_ | refine rl_lenr rfl tt_29 rfl rfl (by first | exact List.length_map _ | rfl) ?_ | refine rl_len rfl tt_29 rfl rfl (by intro s hs; cases hs) rfl ?_
    refine rl_move rfl ?_
    first | refine rl_lenm rfl tt_29 rfl ?_ | refine rl_lenr rfl tt_29 rfl rfl (by first | exact List.length_map _ | rfl) ?_ | refine rl_len rfl tt_29 rfl rfl (by intro s hs; cases hs) rfl ?_
    refine rl_bin rfl rfl rfl ?_
    refine hK18 _ _ ?_
    clear hK18 K18
    refine ex_cond rfl (fun hc19 => ?_) (fun hc19 => ?_)
    · simp at hc19
    · try simp at hc19
      refine ex_skip ?_
      refine hK17 _ _ ?_
      clear hK17 K17
      refine ex_seq_k fun K20 hK20 => ?_
      refine ex_region ttOK (by rfl) ?_
      refine rl_assign rfl ?_
      refine hK20 _ _ ?_
      clear hK20 K20
      refine ex_ret ?_
      first
      | exact ⟨.inr rfl, [γ 0, γ 1], rfl, congrArg (fun z => some [AV.pv (.int .i64 z)]) (by rw [h2, cmpL_drop ha1 hb1]; exact (cmp_ne hz).symm), HE.cast hI (HE.same rfl (HE.same rfl HE.nil))⟩
      | exact ⟨.inr rfl, [γ 0, γ 1], rfl, congrArg (fun z => some [AV.pv (.int .i64 z)]) (by rw [h2, List.drop_of_length_le (by omega), List.drop_of_length_le (by omega)]; rfl), HE.cast hI (HE.same rfl (HE.same rfl HE.nil))⟩

theorem F_impl_keyOf (e : Ev) : Pure Try.prog 81 [.agg (encEv e)] (.agg (encEv e)) := by
  refine pure_of_ex ttOK (fn := Try.f81) (by kernel_rfl) (by kernel_rfl) rfl (outs := [.agg (encEv e)]) (by rfl) (Nat.le_of_ble_eq_true rfl) 2 ?_
  refine ex_seq_k fun K1 hK1 => ?_
  refine ex_region ttOK (by rfl) ?_
  refine rl_boxA (id := 0) rfl rfl rfl ?_
  refine rl_alloc (id := 1) tt_116 za_116 rfl ?_
  refine hK1 _ _ ?_
  clear hK1 K1
  refine ex_seq_k fun K2 hK2 => ?_
  refine ex_region ttOK (by rfl) ?_
  refine rl_fieldAddr rfl tt_60 rfl rfl tt_3 rfl rfl ?_
  first | refine rl_load_ptr rfl tt_3 rfl rfl ?_ | refine rl_load_iel rfl tt_3 rfl ?_
  refine rl_fieldAddr rfl tt_60 rfl rfl tt_3 rfl rfl ?_
  first | refine rl_load_ptr rfl tt_3 rfl rfl ?_ | refine rl_load_iel rfl tt_3 rfl ?_
  refine rl_fieldAddr rfl tt_60 rfl rfl tt_3 rfl rfl ?_
  first | refine rl_load_ptr rfl tt_3 rfl rfl ?_ | refine rl_load_iel rfl tt_3 rfl ?_
  refine rl_fieldAddr rfl tt_60 rfl rfl tt_3 rfl rfl ?_
  first | refine rl_load_ptr rfl tt_3 rfl rfl ?_ | refine rl_load_iel rfl tt_3 rfl ?_
  refine rl_fieldAddr rfl tt_60 rfl rfl tt_3 rfl rfl ?_
  first | refine rl_load_ptr rfl tt_3 rfl rfl ?_ | refine rl_load_iel rfl tt_3 rfl ?_
  refine rl_fieldAddr rfl tt_60 rfl rfl tt_3 rfl rfl ?_
  first | refine rl_load_ptr rfl tt_3 rfl rfl ?_ | refine rl_load_iel rfl tt_3 rfl ?_
  refine rl_fieldAddr rfl tt_60 rfl rfl tt_3 rfl rfl ?_
  first | refine rl_load_ptr rfl tt_3 rfl rfl ?_ | refine rl_load_iel rfl tt_3 rfl ?_
  refine rl_buildArr ttOK tt_116 rfl tt_3 za_116 rfl (by simp only [pI, tt_3, arrFlds, List.range, List.range.loop, List.map_cons, List.map_nil, fillA, cellsA, AV.okc, AV.one, Value.oneCell', T3, T4, List.getElem?_cons_zero, List.getElem?_cons_succ, List.take_succ_cons, List.take_zero, List.drop_succ_cons, List.drop_zero, List.cons_append, List.nil_append, List.length_cons, List.length_nil, if_true, and_self, Nat.reduceAdd, Nat.reduceMul, Nat.reduceLeDiff]; rfl) ?_
  refine rl_storeA rfl rfl tt_116 rfl rfl rfl rfl ?_
  refine hK2 _ _ ?_
  clear hK2 K2
  refine ex_ret ⟨.inr rfl, ?_⟩
  exact ret_agg rfl rfl rfl rfl

theorem F_impl_eventKey_event (e : Ev) : Pure Try.prog 84 [.agg (encEv e)] (.agg (encEv e)) := by
  refine pure_of_ex ttOK (fn := Try.f84) (by kernel_rfl) (by kernel_rfl) rfl (outs := [.agg (encEv e)]) (by rfl) (Nat.le_of_ble_eq_true rfl) 2 ?_
  refine ex_seq_k fun K1 hK1 => ?_
  refine ex_region ttOK (by rfl) ?_
  refine rl_boxA (id := 0) rfl rfl rfl ?_
  refine rl_alloc (id := 1) tt_60 za_60 rfl ?_
  refine hK1 _ _ ?_
  clear hK1 K1
  refine ex_seq_k fun K2 hK2 => ?_
  refine ex_region ttOK (by rfl) ?_
  refine rl_idxa ttOK (j := 0) rfl rfl tt_116 rfl tt_3 (by decide) rfl ?_
  first | refine rl_load_ptr rfl tt_3 rfl rfl ?_ | refine rl_load_iel rfl tt_3 rfl ?_
  refine rl_idxa ttOK (j := 1) rfl rfl tt_116 rfl tt_3 (by decide) rfl ?_
  first | refine rl_load_ptr rfl tt_3 rfl rfl ?_ | refine rl_load_iel rfl tt_3 rfl ?_
  refine rl_idxa ttOK (j := 2) rfl rfl tt_116 rfl tt_3 (by decide) rfl ?_
  first | refine rl_load_ptr rfl tt_3 rfl rfl ?_ | refine rl_load_iel rfl tt_3 rfl ?_
  refine rl_idxa ttOK (j := 3) rfl rfl tt_116 rfl tt_3 (by decide) rfl ?_
  first | refine rl_load_ptr rfl tt_3 rfl rfl ?_ | refine rl_load_iel rfl tt_3 rfl ?_
  refine rl_idxa ttOK (j := 4) rfl rfl tt_116 rfl tt_3 (by decide) rfl ?_
  first | refine rl_load_ptr rfl tt_3 rfl rfl ?_ | refine rl_load_iel rfl tt_3 rfl ?_
  refine rl_idxa ttOK (j := 5) rfl rfl tt_116 rfl tt_3 (by decide) rfl ?_
  first | refine rl_load_ptr rfl tt_3 rfl rfl ?_ | refine rl_load_iel rfl tt_3 rfl ?_
  refine rl_idxa ttOK (j := 6) rfl rfl tt_116 rfl tt_3 (by decide) rfl ?_
  first | refine rl_load_ptr rfl tt_3 rfl rfl ?_ | refine rl_load_iel rfl tt_3 rfl ?_
  refine rl_build tt_60 rfl za_60 rfl (by simp only [pI, fillA, cellsA, AV.okc, AV.one, T3, T4, List.getElem?_cons_zero, List.getElem?_cons_succ, List.take_succ_cons, List.take_zero, List.drop_succ_cons, List.drop_zero, List.cons_append, List.nil_append, List.length_cons, List.length_nil, if_true, and_self, Nat.reduceAdd, Nat.reduceLeDiff]; rfl) ?_
  refine rl_storeA rfl rfl tt_60 rfl rfl rfl rfl ?_
  refine hK2 _ _ ?_
  clear hK2 K2
  refine ex_ret ⟨.inr rfl, ?_⟩
  exact ret_agg rfl rfl rfl rfl

theorem F_impl_keyLess (a b : Ev) : Pure Try.prog 80 [.agg (encEv a), .agg (encEv b)] (.pv (.bool (evLt a b))) := by
  refine pure_of_ex ttOK (fn := Try.f80) (by kernel_rfl) (by kernel_rfl) rfl (outs := [.pv (.bool (evLt a b))]) (by rfl) (Nat.le_of_ble_eq_true rfl) 2 ?_
  refine ex_seq_k fun K1 hK1 => ?_
  refine ex_region ttOK (by rfl) ?_
  refine rl_boxA (id := 0) rfl rfl rfl ?_
  refine rl_boxA (id := 1) rfl rfl rfl ?_
  refine rl_assign rfl ?_
  refine hK1 _ _ ?_
  clear hK1 K1
  refine ex_seq_k fun K2 hK2 => ?_
  refine ex_region_any ttOK mixed (by rfl) ?_
  refine rl_asl ttOK rfl tt_116 rfl tt_3 rfl ?_
  refine rl_asl ttOK rfl tt_116 rfl tt_3 rfl ?_
  refine rl_meth [0, 1] [_, _] (F_slices_Compare_int_int (evN a) (evN b) rfl (Nat.le_of_ble_eq_true rfl) 116) rfl rfl rfl (by decide) rfl rfl (by repeat (first | exact InH.nil | refine InH.cons rfl ?_)) (by first | (simp only [List.map_cons, List.map_nil, insH, inE, inT, inA, inC, inD, inB, gl, nx, memN, Nat.beq, Nat.add_eq, List.getD_cons_zero, List.getD_cons_succ, List.getD_nil, Bool.or_false, Bool.false_or, Bool.true_or, Bool.or_true, Nat.add_zero, Nat.zero_add]; rfl) | rfl) (by first | (simp only [List.map_cons, List.map_nil, insH, inE, inT, inA, inC, inD, inB, gl, nx, memN, Nat.beq, Nat.add_eq, List.getD_cons_zero, List.getD_cons_succ, List.getD_nil, Bool.or_false, Bool.false_or, Bool.true_or, Bool.or_true, Nat.add_zero, Nat.zero_add]; rfl) | rfl) ?_
  refine rl_bin rfl rfl rfl ?_
  refine rl_assign rfl ?_
  refine ⟨by kernel_rfl, ?_⟩
  refine hK2 _ _ ?_
  clear hK2 K2
  refine ex_ret ⟨.inr rfl, ?_⟩
  refine ret_pv rfl ?_ rfl
  simp only [evLt, ← cmpL_lex (evN a) (evN b) rfl]

theorem F_impl_EventLess (a b : Ev) : Pure Try.prog 105 [.agg (encEv a), .agg (encEv b)] (.pv (.bool (evLt a b))) := by
  refine pure_of_ex ttOK (fn := Try.f105) (by kernel_rfl) (by kernel_rfl) rfl (outs := [.pv (.bool (evLt a b))]) (by rfl) (Nat.le_of_ble_eq_true rfl) 2 ?_
  refine ex_seq_k fun K1 hK1 => ?_
  refine ex_region ttOK (by rfl) ?_
  refine rl_boxA (id := 0) rfl rfl rfl ?_
  refine rl_boxA (id := 1) rfl rfl rfl ?_
  refine rl_assign rfl ?_
  refine hK1 _ _ ?_
  clear hK1 K1
  refine ex_seq_k fun K2 hK2 => ?_
  refine ex_region_any ttOK mixed (by rfl) ?_
  first | refine rl_loadA_ptr rfl tt_60 rfl rfl rfl ?_ | refine rl_loadA_iel rfl tt_60 rfl rfl ?_ | refine rl_load_ptr rfl tt_60 rfl rfl ?_ | refine rl_load_iel rfl tt_60 rfl ?_ | refine rl_loadEA rfl tt_60 rfl (by assumption) rfl rfl ?_
  refine rl_call rfl rfl rfl (F_impl_keyOf ..) ?_
  first | refine rl_loadA_ptr rfl tt_60 rfl rfl rfl ?_ | refine rl_loadA_iel rfl tt_60 rfl rfl ?_ | refine rl_load_ptr rfl tt_60 rfl rfl ?_ | refine rl_load_iel rfl tt_60 rfl ?_ | refine rl_loadEA rfl tt_60 rfl (by assumption) rfl rfl ?_
  refine rl_call rfl rfl rfl (F_impl_keyOf ..) ?_
  refine rl_call rfl rfl rfl (F_impl_keyLess ..) ?_
  refine rl_assign rfl ?_
  refine ⟨by kernel_rfl, ?_⟩
  refine hK2 _ _ ?_
  clear hK2 K2
  refine ex_ret ⟨.inr rfl, ?_⟩
  exact ret_pv rfl rfl rfl

end Go.Proofs.Ytcleiaibcfocdaa.Am
