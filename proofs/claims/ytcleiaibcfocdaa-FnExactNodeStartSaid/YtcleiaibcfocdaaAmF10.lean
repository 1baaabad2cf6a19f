/- Walks. PRINTED BY wip/gen/gen2.py out of b8.py. -/
import Derived.Test.YtcleiaibcfocdaaAmD
set_option linter.unusedVariables false
set_option linter.unusedSimpArgs false
namespace Go.Proofs.Ytcleiaibcfocdaa.Am
open Go Go.RowKit

theorem F_laws_markIntS (l : List Int) (k : Nat) (hk : k + szs zI l ≤ 1000000000) : Meth Try.prog 74 1 [0] [.ref 0 0, .pv (.int .i64 (k : Int))] [(0, (0, .row 3 1 (l.map encI)))] (.pv (.int .i64 ((k + szs zI l : Nat) : Int))) [(0, (0, .row 3 1 ((mks zI kI k l).map encI)))] := by
  refine meth_of_ex ttOK (fn := Try.f74) (by kernel_rfl) (by kernel_rfl) rfl (O0 := [.pv (.int .i64 ((k + szs zI l : Nat) : Int))]) 1 0 (Nat.le_of_ble_eq_true rfl) (by rfl) (by repeat (first | exact BndH.nil | refine BndH.dead ?_ | refine BndH.box rfl ?_ | refine BndH.box (by assumption) ?_ | refine BndH.row (flatR_map fun _ => rfl) ?_ | refine BndH.row flatR_nil ?_ | refine BndH.map (by intro p hp; cases hp; done) ?_ | refine BndH.map (by intro p hp; simp only [List.mem_map, List.not_mem_nil] at hp; first | (obtain ⟨a, _, rfl⟩ := hp; rfl) | exact hp.elim) ?_ | refine BndH.chn ?_)) (by repeat (first | exact BndH.nil | refine BndH.dead ?_ | refine BndH.box rfl ?_ | refine BndH.box (by assumption) ?_ | refine BndH.row (flatR_map fun _ => rfl) ?_ | refine BndH.row flatR_nil ?_ | refine BndH.map (by intro p hp; cases hp; done) ?_ | refine BndH.map (by intro p hp; simp only [List.mem_map, List.not_mem_nil] at hp; first | (obtain ⟨a, _, rfl⟩ := hp; rfl) | exact hp.elim) ?_ | refine BndH.chn ?_)) (by rfl) fun γ => ?_
  show Ex Try.prog _ _ [(0, .ref 0 (γ 0)), (1, .pv (.int .i64 (k : Int)))] [(0, ((γ 0), .row 3 1 (l.map encI)))] _
  have hml := mks_len zI kI k l
  have hll := szs_len zI (fun p => by unfold zI; omega) l
  refine ex_seq_k fun K1 hK1 => ?_
  refine ex_region ttOK (by rfl) ?_
  refine rl_assign rfl ?_
  refine hK1 _ _ ?_
  clear hK1 K1
  refine ex_seq_k fun K2 hK2 => ?_
  refine ex_seq_k fun K3 hK3 => ?_
  refine ex_region ttOK (by rfl) ?_
  refine rl_assign rfl ?_
  refine hK3 _ _ ?_
  clear hK3 K3
  refine ex_block ?_
  refine ex_loopK (ι := Nat) (fun i γ1 => [(1, .pv (.int .i64 ((k + szs zI (l.take i) : Nat) : Int))), (5, .pv (.int .i64 (i : Int)))]) (fun i γ1 => [(0, ((γ 0), .row 3 1 (((mks zI kI k l).take i).map encI ++ (l.drop i).map encI)))]) (fun i => i ≤ l.length) (fun i => l.length - i) (Cov.cons (t := 0) rfl Cov.nil) HE.nil 0 (by omega) [] (Cov.cons' (t := 1) rfl (by rw [List.take_zero]; rfl) (Cov.cons (t := 5) rfl Cov.nil)) (HE.row rfl (by rw [List.take_zero, List.drop_zero]; rfl) HE.nil) rfl fun i γ1 hi => ?_
  try dsimp only [List.cons_append, List.nil_append]
  refine ex_seq_k fun K4 hK4 => ?_
  refine ex_seq_k fun K5 hK5 => ?_
  refine ex_region ttOK (by rfl) ?_
  refine rl_move rfl ?_
  refine rl_move rfl ?_
  refine rl_lenr (n := l.length) rfl tt_29 rfl rfl (by rw [List.length_append, List.length_map, List.length_map, List.length_take, List.length_drop]; omega) ?_
  refine rl_bin rfl rfl rfl ?_
  refine hK5 _ _ ?_
  clear hK5 K5
  refine ex_cond rfl (fun hc6 => ?_) (fun hc6 => ?_)
  · try simp at hc6
    obtain ⟨p, hp⟩ : ∃ p, l[i]? = some p := ⟨_, List.getElem?_eq_getElem (by omega)⟩
    have hmk := mks_get zI kI (k := k) hp
    have hat := szs_at zI hp
    have hzp : zI p = 1 := rfl
    have hAl : (((mks zI kI k l).take i).map encI).length = i := by rw [List.length_map, List.length_take]; omega
    rw [drop_cons hp, List.map_cons]
    rw [show encI p = [pI p] from rfl]
    obtain ⟨q, hq⟩ : ∃ q, q = k + szs zI (l.take i) := ⟨_, rfl⟩
    rw [← hq] at hmk ⊢
    refine ex_skip ?_
    refine hK4 _ _ ?_
    clear hK4 K4
    refine ex_seq_k fun K7 hK7 => ?_
    refine ex_block ?_
    refine ex_seq_k fun K8 hK8 => ?_
    refine ex_region ttOK (by rfl) ?_
    refine rl_move rfl ?_
    refine rl_move rfl ?_
    refine rl_move rfl ?_
    refine rl_idxM rfl rfl tt_29 rfl tt_3 rfl rfl hAl ?_
    refine rl_storeM hAl rfl rfl tt_3 rfl rfl rfl rfl rfl rfl rfl (by simp only [List.set_cons_zero, List.set_cons_succ]; rfl) ?_
    refine hK8 _ _ ?_
    clear hK8 K8
    refine ex_region ttOK (by rfl) ?_
    refine rl_move rfl ?_
    refine rl_addN (b := 1) rfl rfl (by omega) ?_
    refine rl_assign rfl ?_
    refine hK7 _ _ ?_
    clear hK7 K7
    refine ex_region ttOK (by rfl) ?_
    refine rl_move rfl ?_
    refine rl_addN (b := 1) rfl rfl (by omega) ?_
    refine rl_assign rfl ?_
    exact ⟨i + 1, ⟨by omega, by omega⟩, [], (Cov.cons' (t := 1) rfl (by rw [szs_take zI hp]; exact congrArg (fun v : Nat => AV.pv (.int .i64 (v : Int))) (by omega)) (Cov.cons (t := 5) rfl Cov.nil)), (Cov.cons (t := 0) rfl Cov.nil), (HE.row rfl (by rw [take_snoc hmk, List.map_append, List.append_assoc]; rfl) HE.nil), HE.nil, rfl⟩
  · try simp at hc6
    obtain rfl : i = l.length := by omega
    refine ex_exit ?_
    refine hK2 _ _ ?_
    clear hK4 K4 hK2 K2
    refine ex_seq_k fun K9 hK9 => ?_
    refine ex_region ttOK (by rfl) ?_
    refine rl_move rfl ?_
    refine rl_assign rfl ?_
    refine hK9 _ _ ?_
    clear hK9 K9
    refine ex_ret ?_
    exact ⟨.inr rfl, [γ 0], rfl, congrArg (fun v : Nat => some [AV.pv (.int .i64 (v : Int))]) (by rw [List.take_length]), HE.row rfl (by rw [List.take_of_length_le (by omega), List.drop_length, List.map_nil, List.append_nil]) HE.nil⟩

theorem F_laws_markEventS (l : List Ev) (k : Nat) (hk : k + szs zEv l ≤ 1000000000) : Meth Try.prog 71 1 [0] [.ref 0 0, .pv (.int .i64 (k : Int))] [(0, (0, .row 60 7 (l.map encEv)))] (.pv (.int .i64 ((k + szs zEv l : Nat) : Int))) [(0, (0, .row 60 7 ((mks zEv kEv k l).map encEv)))] := by
  refine meth_of_ex ttOK (fn := Try.f71) (by kernel_rfl) (by kernel_rfl) rfl (O0 := [.pv (.int .i64 ((k + szs zEv l : Nat) : Int))]) 1 0 (Nat.le_of_ble_eq_true rfl) (by rfl) (by repeat (first | exact BndH.nil | refine BndH.dead ?_ | refine BndH.box rfl ?_ | refine BndH.box (by assumption) ?_ | refine BndH.row (flatR_map fun _ => rfl) ?_ | refine BndH.row flatR_nil ?_ | refine BndH.map (by intro p hp; cases hp; done) ?_ | refine BndH.map (by intro p hp; simp only [List.mem_map, List.not_mem_nil] at hp; first | (obtain ⟨a, _, rfl⟩ := hp; rfl) | exact hp.elim) ?_ | refine BndH.chn ?_)) (by repeat (first | exact BndH.nil | refine BndH.dead ?_ | refine BndH.box rfl ?_ | refine BndH.box (by assumption) ?_ | refine BndH.row (flatR_map fun _ => rfl) ?_ | refine BndH.row flatR_nil ?_ | refine BndH.map (by intro p hp; cases hp; done) ?_ | refine BndH.map (by intro p hp; simp only [List.mem_map, List.not_mem_nil] at hp; first | (obtain ⟨a, _, rfl⟩ := hp; rfl) | exact hp.elim) ?_ | refine BndH.chn ?_)) (by rfl) fun γ => ?_
  show Ex Try.prog _ _ [(0, .ref 0 (γ 0)), (1, .pv (.int .i64 (k : Int)))] [(0, ((γ 0), .row 60 7 (l.map encEv)))] _
  have hml := mks_len zEv kEv k l
  have hll := szs_len zEv (fun p => by unfold zEv; omega) l
  refine ex_seq_k fun K1 hK1 => ?_
  refine ex_region ttOK (by rfl) ?_
  refine rl_assign rfl ?_
  refine hK1 _ _ ?_
  clear hK1 K1
  refine ex_seq_k fun K2 hK2 => ?_
  refine ex_seq_k fun K3 hK3 => ?_
  refine ex_region ttOK (by rfl) ?_
  refine rl_assign rfl ?_
  refine hK3 _ _ ?_
  clear hK3 K3
  refine ex_block ?_
  refine ex_loopK (ι := Nat) (fun i γ1 => [(1, .pv (.int .i64 ((k + szs zEv (l.take i) : Nat) : Int))), (5, .pv (.int .i64 (i : Int)))]) (fun i γ1 => [(0, ((γ 0), .row 60 7 (((mks zEv kEv k l).take i).map encEv ++ (l.drop i).map encEv)))]) (fun i => i ≤ l.length) (fun i => l.length - i) (Cov.cons (t := 0) rfl Cov.nil) HE.nil 0 (by omega) [] (Cov.cons' (t := 1) rfl (by rw [List.take_zero]; rfl) (Cov.cons (t := 5) rfl Cov.nil)) (HE.row rfl (by rw [List.take_zero, List.drop_zero]; rfl) HE.nil) rfl fun i γ1 hi => ?_
  try dsimp only [List.cons_append, List.nil_append]
  refine ex_seq_k fun K4 hK4 => ?_
  refine ex_seq_k fun K5 hK5 => ?_
  refine ex_region ttOK (by rfl) ?_
  refine rl_move rfl ?_
  refine rl_move rfl ?_
  refine rl_lenr (n := l.length) rfl tt_26 rfl rfl (by rw [List.length_append, List.length_map, List.length_map, List.length_take, List.length_drop]; omega) ?_
  refine rl_bin rfl rfl rfl ?_
  refine hK5 _ _ ?_
  clear hK5 K5
  refine ex_cond rfl (fun hc6 => ?_) (fun hc6 => ?_)
  · try simp at hc6
    obtain ⟨p, hp⟩ : ∃ p, l[i]? = some p := ⟨_, List.getElem?_eq_getElem (by omega)⟩
    have hmk := mks_get zEv kEv (k := k) hp
    have hat := szs_at zEv hp
    have hzp : zEv p = 7 := rfl
    have hAl : (((mks zEv kEv k l).take i).map encEv).length = i := by rw [List.length_map, List.length_take]; omega
    rw [drop_cons hp, List.map_cons]
    rw [show encEv p = [pI p.time, pI p.to, pI p.from', pI p.count, pI p.n, pI p.kind, pI p.arg] from rfl]
    obtain ⟨q, hq⟩ : ∃ q, q = k + szs zEv (l.take i) := ⟨_, rfl⟩
    rw [← hq] at hmk ⊢
    refine ex_skip ?_
    refine hK4 _ _ ?_
    clear hK4 K4
    refine ex_seq_k fun K7 hK7 => ?_
    refine ex_block ?_
    refine ex_seq_k fun K8 hK8 => ?_
    refine ex_region ttOK (by rfl) ?_
    refine rl_move rfl ?_
    refine rl_move rfl ?_
    refine rl_move rfl ?_
    refine rl_idxM rfl rfl tt_26 rfl tt_60 rfl rfl hAl ?_
    refine rl_fieldAddr rfl tt_60 rfl rfl tt_3 rfl rfl ?_
    refine rl_storeM hAl rfl rfl tt_3 rfl rfl rfl rfl rfl rfl rfl (by simp only [List.set_cons_zero, List.set_cons_succ]; rfl) ?_
    refine hK8 _ _ ?_
    clear hK8 K8
    refine ex_seq_k fun K9 hK9 => ?_
    refine ex_region ttOK (by rfl) ?_
    refine rl_move rfl ?_
    refine rl_addN (b := 1) rfl rfl (by omega) ?_
    refine rl_assign rfl ?_
    refine hK9 _ _ ?_
    clear hK9 K9
    refine ex_seq_k fun K10 hK10 => ?_
    refine ex_region ttOK (by rfl) ?_
    refine rl_move rfl ?_
    refine rl_move rfl ?_
    refine rl_move rfl ?_
    refine rl_idxM rfl rfl tt_26 rfl tt_60 rfl rfl hAl ?_
    refine rl_fieldAddr rfl tt_60 rfl rfl tt_3 rfl rfl ?_
    refine rl_storeM hAl rfl rfl tt_3 rfl rfl rfl rfl rfl rfl rfl (by simp only [List.set_cons_zero, List.set_cons_succ]; rfl) ?_
    refine hK10 _ _ ?_
    clear hK10 K10
    refine ex_seq_k fun K11 hK11 => ?_
    refine ex_region ttOK (by rfl) ?_
    refine rl_move rfl ?_
    refine rl_addN (b := 1) rfl rfl (by omega) ?_
    refine rl_assign rfl ?_
    refine hK11 _ _ ?_
    clear hK11 K11
    refine ex_seq_k fun K12 hK12 => ?_
    refine ex_region ttOK (by rfl) ?_
    refine rl_move rfl ?_
    refine rl_move rfl ?_
    refine rl_move rfl ?_
    refine rl_idxM rfl rfl tt_26 rfl tt_60 rfl rfl hAl ?_
    refine rl_fieldAddr rfl tt_60 rfl rfl tt_3 rfl rfl ?_
    refine rl_storeM hAl rfl rfl tt_3 rfl rfl rfl rfl rfl rfl rfl (by simp only [List.set_cons_zero, List.set_cons_succ]; rfl) ?_
    refine hK12 _ _ ?_
    clear hK12 K12
    refine ex_seq_k fun K13 hK13 => ?_
    refine ex_region ttOK (by rfl) ?_
    refine rl_move rfl ?_
    refine rl_addN (b := 1) rfl rfl (by omega) ?_
    refine rl_assign rfl ?_
    refine hK13 _ _ ?_
    clear hK13 K13
    refine ex_seq_k fun K14 hK14 => ?_
    refine ex_region ttOK (by rfl) ?_
    refine rl_move rfl ?_
    refine rl_move rfl ?_
    refine rl_move rfl ?_
    refine rl_idxM rfl rfl tt_26 rfl tt_60 rfl rfl hAl ?_
    refine rl_fieldAddr rfl tt_60 rfl rfl tt_3 rfl rfl ?_
    refine rl_storeM hAl rfl rfl tt_3 rfl rfl rfl rfl rfl rfl rfl (by simp only [List.set_cons_zero, List.set_cons_succ]; rfl) ?_
    refine hK14 _ _ ?_
    clear hK14 K14
    refine ex_seq_k fun K15 hK15 => ?_
    refine ex_region ttOK (by rfl) ?_
    refine rl_move rfl ?_
    refine rl_addN (b := 1) rfl rfl (by omega) ?_
    refine rl_assign rfl ?_
    refine hK15 _ _ ?_
    clear hK15 K15
    refine ex_seq_k fun K16 hK16 => ?_
    refine ex_region ttOK (by rfl) ?_
    refine rl_move rfl ?_
    refine rl_move rfl ?_
    refine rl_move rfl ?_
    refine rl_idxM rfl rfl tt_26 rfl tt_60 rfl rfl hAl ?_
    refine rl_fieldAddr rfl tt_60 rfl rfl tt_3 rfl rfl ?_
    refine rl_storeM hAl rfl rfl tt_3 rfl rfl rfl rfl rfl rfl rfl (by simp only [List.set_cons_zero, List.set_cons_succ]; rfl) ?_
    refine hK16 _ _ ?_
    clear hK16 K16
    refine ex_seq_k fun K17 hK17 => ?_
    refine ex_region ttOK (by rfl) ?_
    refine rl_move rfl ?_
    refine rl_addN (b := 1) rfl rfl (by omega) ?_
    refine rl_assign rfl ?_
    refine hK17 _ _ ?_
    clear hK17 K17
    refine ex_seq_k fun K18 hK18 => ?_
    refine ex_region ttOK (by rfl) ?_
    refine rl_move rfl ?_
    refine rl_move rfl ?_
    refine rl_move rfl ?_
    refine rl_idxM rfl rfl tt_26 rfl tt_60 rfl rfl hAl ?_
    refine rl_fieldAddr rfl tt_60 rfl rfl tt_3 rfl rfl ?_
    refine rl_storeM hAl rfl rfl tt_3 rfl rfl rfl rfl rfl rfl rfl (by simp only [List.set_cons_zero, List.set_cons_succ]; rfl) ?_
    refine hK18 _ _ ?_
    clear hK18 K18
    refine ex_seq_k fun K19 hK19 => ?_
    refine ex_region ttOK (by rfl) ?_
    refine rl_move rfl ?_
    refine rl_addN (b := 1) rfl rfl (by omega) ?_
    refine rl_assign rfl ?_
    refine hK19 _ _ ?_
    clear hK19 K19
    refine ex_seq_k fun K20 hK20 => ?_
    refine ex_region ttOK (by rfl) ?_
    refine rl_move rfl ?_
    refine rl_move rfl ?_
    refine rl_move rfl ?_
    refine rl_idxM rfl rfl tt_26 rfl tt_60 rfl rfl hAl ?_
    refine rl_fieldAddr rfl tt_60 rfl rfl tt_3 rfl rfl ?_
    refine rl_storeM hAl rfl rfl tt_3 rfl rfl rfl rfl rfl rfl rfl (by simp only [List.set_cons_zero, List.set_cons_succ]; rfl) ?_
    refine hK20 _ _ ?_
    clear hK20 K20
    refine ex_region ttOK (by rfl) ?_
    refine rl_move rfl ?_
    refine rl_addN (b := 1) rfl rfl (by omega) ?_
    refine rl_assign rfl ?_
    refine hK7 _ _ ?_
    clear hK7 K7
    refine ex_region ttOK (by rfl) ?_
    refine rl_move rfl ?_
    refine rl_addN (b := 1) rfl rfl (by omega) ?_
    refine rl_assign rfl ?_
    exact ⟨i + 1, ⟨by omega, by omega⟩, [], (Cov.cons' (t := 1) rfl (by rw [szs_take zEv hp]; exact congrArg (fun v : Nat => AV.pv (.int .i64 (v : Int))) (by omega)) (Cov.cons (t := 5) rfl Cov.nil)), (Cov.cons (t := 0) rfl Cov.nil), (HE.row rfl (by rw [take_snoc hmk, List.map_append, List.append_assoc]; rfl) HE.nil), HE.nil, rfl⟩
  · try simp at hc6
    obtain rfl : i = l.length := by omega
    refine ex_exit ?_
    refine hK2 _ _ ?_
    clear hK4 K4 hK2 K2
    refine ex_seq_k fun K21 hK21 => ?_
    refine ex_region ttOK (by rfl) ?_
    refine rl_move rfl ?_
    refine rl_assign rfl ?_
    refine hK21 _ _ ?_
    clear hK21 K21
    refine ex_ret ?_
    exact ⟨.inr rfl, [γ 0], rfl, congrArg (fun v : Nat => some [AV.pv (.int .i64 (v : Int))]) (by rw [List.take_length]), HE.row rfl (by rw [List.take_of_length_le (by omega), List.drop_length, List.map_nil, List.append_nil]) HE.nil⟩

theorem F_laws_markOutS (l : List Ou) (k : Nat) (hk : k + szs zOu l ≤ 1000000000) : Meth Try.prog 72 1 [0] [.ref 0 0, .pv (.int .i64 (k : Int))] [(0, (0, .row 131 5 (l.map encOu)))] (.pv (.int .i64 ((k + szs zOu l : Nat) : Int))) [(0, (0, .row 131 5 ((mks zOu kOu k l).map encOu)))] := by
  refine meth_of_ex ttOK (fn := Try.f72) (by kernel_rfl) (by kernel_rfl) rfl (O0 := [.pv (.int .i64 ((k + szs zOu l : Nat) : Int))]) 1 0 (Nat.le_of_ble_eq_true rfl) (by rfl) (by repeat (first | exact BndH.nil | refine BndH.dead ?_ | refine BndH.box rfl ?_ | refine BndH.box (by assumption) ?_ | refine BndH.row (flatR_map fun _ => rfl) ?_ | refine BndH.row flatR_nil ?_ | refine BndH.map (by intro p hp; cases hp; done) ?_ | refine BndH.map (by intro p hp; simp only [List.mem_map, List.not_mem_nil] at hp; first | (obtain ⟨a, _, rfl⟩ := hp; rfl) | exact hp.elim) ?_ | refine BndH.chn ?_)) (by repeat (first | exact BndH.nil | refine BndH.dead ?_ | refine BndH.box rfl ?_ | refine BndH.box (by assumption) ?_ | refine BndH.row (flatR_map fun _ => rfl) ?_ | refine BndH.row flatR_nil ?_ | refine BndH.map (by intro p hp; cases hp; done) ?_ | refine BndH.map (by intro p hp; simp only [List.mem_map, List.not_mem_nil] at hp; first | (obtain ⟨a, _, rfl⟩ := hp; rfl) | exact hp.elim) ?_ | refine BndH.chn ?_)) (by rfl) fun γ => ?_
  show Ex Try.prog _ _ [(0, .ref 0 (γ 0)), (1, .pv (.int .i64 (k : Int)))] [(0, ((γ 0), .row 131 5 (l.map encOu)))] _
  have hml := mks_len zOu kOu k l
  have hll := szs_len zOu (fun p => by unfold zOu; omega) l
  refine ex_seq_k fun K1 hK1 => ?_
  refine ex_region ttOK (by rfl) ?_
  refine rl_assign rfl ?_
  refine hK1 _ _ ?_
  clear hK1 K1
  refine ex_seq_k fun K2 hK2 => ?_
  refine ex_seq_k fun K3 hK3 => ?_
  refine ex_region ttOK (by rfl) ?_
  refine rl_assign rfl ?_
  refine hK3 _ _ ?_
  clear hK3 K3
  refine ex_block ?_
  refine ex_loopK (ι := Nat) (fun i γ1 => [(1, .pv (.int .i64 ((k + szs zOu (l.take i) : Nat) : Int))), (5, .pv (.int .i64 (i : Int)))]) (fun i γ1 => [(0, ((γ 0), .row 131 5 (((mks zOu kOu k l).take i).map encOu ++ (l.drop i).map encOu)))]) (fun i => i ≤ l.length) (fun i => l.length - i) (Cov.cons (t := 0) rfl Cov.nil) HE.nil 0 (by omega) [] (Cov.cons' (t := 1) rfl (by rw [List.take_zero]; rfl) (Cov.cons (t := 5) rfl Cov.nil)) (HE.row rfl (by rw [List.take_zero, List.drop_zero]; rfl) HE.nil) rfl fun i γ1 hi => ?_
  try dsimp only [List.cons_append, List.nil_append]
  refine ex_seq_k fun K4 hK4 => ?_
  refine ex_seq_k fun K5 hK5 => ?_
  refine ex_region ttOK (by rfl) ?_
  refine rl_move rfl ?_
  refine rl_move rfl ?_
  refine rl_lenr (n := l.length) rfl tt_27 rfl rfl (by rw [List.length_append, List.length_map, List.length_map, List.length_take, List.length_drop]; omega) ?_
  refine rl_bin rfl rfl rfl ?_
  refine hK5 _ _ ?_
  clear hK5 K5
  refine ex_cond rfl (fun hc6 => ?_) (fun hc6 => ?_)
  · try simp at hc6
    obtain ⟨p, hp⟩ : ∃ p, l[i]? = some p := ⟨_, List.getElem?_eq_getElem (by omega)⟩
    have hmk := mks_get zOu kOu (k := k) hp
    have hat := szs_at zOu hp
    have hzp : zOu p = 5 := rfl
    have hAl : (((mks zOu kOu k l).take i).map encOu).length = i := by rw [List.length_map, List.length_take]; omega
    rw [drop_cons hp, List.map_cons]
    rw [show encOu p = [pI p.time, pI p.proc, pI p.count, pI p.n, pI p.value] from rfl]
    obtain ⟨q, hq⟩ : ∃ q, q = k + szs zOu (l.take i) := ⟨_, rfl⟩
    rw [← hq] at hmk ⊢
    refine ex_skip ?_
    refine hK4 _ _ ?_
    clear hK4 K4
    refine ex_seq_k fun K7 hK7 => ?_
    refine ex_block ?_
    refine ex_seq_k fun K8 hK8 => ?_
    refine ex_region ttOK (by rfl) ?_
    refine rl_move rfl ?_
    refine rl_move rfl ?_
    refine rl_move rfl ?_
    refine rl_idxM rfl rfl tt_27 rfl tt_131 rfl rfl hAl ?_
    refine rl_fieldAddr rfl tt_131 rfl rfl tt_3 rfl rfl ?_
    refine rl_storeM hAl rfl rfl tt_3 rfl rfl rfl rfl rfl rfl rfl (by simp only [List.set_cons_zero, List.set_cons_succ]; rfl) ?_
    refine hK8 _ _ ?_
    clear hK8 K8
    refine ex_seq_k fun K9 hK9 => ?_
    refine ex_region ttOK (by rfl) ?_
    refine rl_move rfl ?_
    refine rl_addN (b := 1) rfl rfl (by omega) ?_
    refine rl_assign rfl ?_
    refine hK9 _ _ ?_
    clear hK9 K9
    refine ex_seq_k fun K10 hK10 => ?_
    refine ex_region ttOK (by rfl) ?_
    refine rl_move rfl ?_
    refine rl_move rfl ?_
    refine rl_move rfl ?_
    refine rl_idxM rfl rfl tt_27 rfl tt_131 rfl rfl hAl ?_
    refine rl_fieldAddr rfl tt_131 rfl rfl tt_3 rfl rfl ?_
    refine rl_storeM hAl rfl rfl tt_3 rfl rfl rfl rfl rfl rfl rfl (by simp only [List.set_cons_zero, List.set_cons_succ]; rfl) ?_
    refine hK10 _ _ ?_
    clear hK10 K10
    refine ex_seq_k fun K11 hK11 => ?_
    refine ex_region ttOK (by rfl) ?_
    refine rl_move rfl ?_
    refine rl_addN (b := 1) rfl rfl (by omega) ?_
    refine rl_assign rfl ?_
    refine hK11 _ _ ?_
    clear hK11 K11
    refine ex_seq_k fun K12 hK12 => ?_
    refine ex_region ttOK (by rfl) ?_
    refine rl_move rfl ?_
    refine rl_move rfl ?_
    refine rl_move rfl ?_
    refine rl_idxM rfl rfl tt_27 rfl tt_131 rfl rfl hAl ?_
    refine rl_fieldAddr rfl tt_131 rfl rfl tt_3 rfl rfl ?_
    refine rl_storeM hAl rfl rfl tt_3 rfl rfl rfl rfl rfl rfl rfl (by simp only [List.set_cons_zero, List.set_cons_succ]; rfl) ?_
    refine hK12 _ _ ?_
    clear hK12 K12
    refine ex_seq_k fun K13 hK13 => ?_
    refine ex_region ttOK (by rfl) ?_
    refine rl_move rfl ?_
    refine rl_addN (b := 1) rfl rfl (by omega) ?_
    refine rl_assign rfl ?_
    refine hK13 _ _ ?_
    clear hK13 K13
    refine ex_seq_k fun K14 hK14 => ?_
    refine ex_region ttOK (by rfl) ?_
    refine rl_move rfl ?_
    refine rl_move rfl ?_
    refine rl_move rfl ?_
    refine rl_idxM rfl rfl tt_27 rfl tt_131 rfl rfl hAl ?_
    refine rl_fieldAddr rfl tt_131 rfl rfl tt_3 rfl rfl ?_
    refine rl_storeM hAl rfl rfl tt_3 rfl rfl rfl rfl rfl rfl rfl (by simp only [List.set_cons_zero, List.set_cons_succ]; rfl) ?_
    refine hK14 _ _ ?_
    clear hK14 K14
    refine ex_seq_k fun K15 hK15 => ?_
    refine ex_region ttOK (by rfl) ?_
    refine rl_move rfl ?_
    refine rl_addN (b := 1) rfl rfl (by omega) ?_
    refine rl_assign rfl ?_
    refine hK15 _ _ ?_
    clear hK15 K15
    refine ex_seq_k fun K16 hK16 => ?_
    refine ex_region ttOK (by rfl) ?_
    refine rl_move rfl ?_
    refine rl_move rfl ?_
    refine rl_move rfl ?_
    refine rl_idxM rfl rfl tt_27 rfl tt_131 rfl rfl hAl ?_
    refine rl_fieldAddr rfl tt_131 rfl rfl tt_3 rfl rfl ?_
    refine rl_storeM hAl rfl rfl tt_3 rfl rfl rfl rfl rfl rfl rfl (by simp only [List.set_cons_zero, List.set_cons_succ]; rfl) ?_
    refine hK16 _ _ ?_
    clear hK16 K16
    refine ex_region ttOK (by rfl) ?_
    refine rl_move rfl ?_
    refine rl_addN (b := 1) rfl rfl (by omega) ?_
    refine rl_assign rfl ?_
    refine hK7 _ _ ?_
    clear hK7 K7
    refine ex_region ttOK (by rfl) ?_
    refine rl_move rfl ?_
    refine rl_addN (b := 1) rfl rfl (by omega) ?_
    refine rl_assign rfl ?_
    exact ⟨i + 1, ⟨by omega, by omega⟩, [], (Cov.cons' (t := 1) rfl (by rw [szs_take zOu hp]; exact congrArg (fun v : Nat => AV.pv (.int .i64 (v : Int))) (by omega)) (Cov.cons (t := 5) rfl Cov.nil)), (Cov.cons (t := 0) rfl Cov.nil), (HE.row rfl (by rw [take_snoc hmk, List.map_append, List.append_assoc]; rfl) HE.nil), HE.nil, rfl⟩
  · try simp at hc6
    obtain rfl : i = l.length := by omega
    refine ex_exit ?_
    refine hK2 _ _ ?_
    clear hK4 K4 hK2 K2
    refine ex_seq_k fun K17 hK17 => ?_
    refine ex_region ttOK (by rfl) ?_
    refine rl_move rfl ?_
    refine rl_assign rfl ?_
    refine hK17 _ _ ?_
    clear hK17 K17
    refine ex_ret ?_
    exact ⟨.inr rfl, [γ 0], rfl, congrArg (fun v : Nat => some [AV.pv (.int .i64 (v : Int))]) (by rw [List.take_length]), HE.row rfl (by rw [List.take_of_length_le (by omega), List.drop_length, List.map_nil, List.append_nil]) HE.nil⟩

theorem F_laws_markPastS (l : List Pa) (k : Nat) (hk : k + szs zPa l ≤ 1000000000) : Meth Try.prog 112 1 [0] [.ref 0 0, .pv (.int .i64 (k : Int))] [(0, (0, .row 154 12 (l.map encPaO)))] (.pv (.int .i64 ((k + szs zPa l : Nat) : Int))) [(0, (0, .row 154 12 ((mks zPa kPa k l).map encPaO)))] := by
  refine meth_of_ex ttOK (fn := Try.f112) (by kernel_rfl) (by kernel_rfl) rfl (O0 := [.pv (.int .i64 ((k + szs zPa l : Nat) : Int))]) 1 1 (Nat.le_of_ble_eq_true rfl) (by rfl) (by repeat (first | exact BndH.nil | refine BndH.dead ?_ | refine BndH.box rfl ?_ | refine BndH.box (by assumption) ?_ | refine BndH.row (flatR_map fun _ => rfl) ?_ | refine BndH.row flatR_nil ?_ | refine BndH.map (by intro p hp; cases hp; done) ?_ | refine BndH.map (by intro p hp; simp only [List.mem_map, List.not_mem_nil] at hp; first | (obtain ⟨a, _, rfl⟩ := hp; rfl) | exact hp.elim) ?_ | refine BndH.chn ?_)) (by repeat (first | exact BndH.nil | refine BndH.dead ?_ | refine BndH.box rfl ?_ | refine BndH.box (by assumption) ?_ | refine BndH.row (flatR_map fun _ => rfl) ?_ | refine BndH.row flatR_nil ?_ | refine BndH.map (by intro p hp; cases hp; done) ?_ | refine BndH.map (by intro p hp; simp only [List.mem_map, List.not_mem_nil] at hp; first | (obtain ⟨a, _, rfl⟩ := hp; rfl) | exact hp.elim) ?_ | refine BndH.chn ?_)) (by rfl) fun γ => ?_
  show Ex Try.prog _ _ [(0, .ref 0 (γ 0)), (1, .pv (.int .i64 (k : Int)))] [(0, ((γ 0), .row 154 12 (l.map encPaO))), (1, (0, .dead))] _
  have hml := mks_len zPa kPa k l
  have hll := szs_len zPa (fun p => by unfold zPa; omega) l
  refine ex_seq_k fun K1 hK1 => ?_
  refine ex_region ttOK (by rfl) ?_
  refine rl_assign rfl ?_
  refine hK1 _ _ ?_
  clear hK1 K1
  refine ex_seq_k fun K2 hK2 => ?_
  refine ex_seq_k fun K3 hK3 => ?_
  refine ex_region ttOK (by rfl) ?_
  refine rl_assign rfl ?_
  refine hK3 _ _ ?_
  clear hK3 K3
  refine ex_block ?_
  refine ex_loopK (ι := Nat) (fun i γ1 => [(1, .pv (.int .i64 ((k + szs zPa (l.take i) : Nat) : Int))), (5, .pv (.int .i64 (i : Int)))]) (fun i γ1 => [(1, ((γ1 1), .dead)), (0, ((γ 0), .row 154 12 (((mks zPa kPa k l).take i).map encPaO ++ (l.drop i).map encPaO)))]) (fun i => i ≤ l.length) (fun i => l.length - i) (Cov.cons (t := 0) rfl Cov.nil) HE.nil 0 (by omega) [0, _] (Cov.cons' (t := 1) rfl (by rw [List.take_zero]; rfl) (Cov.cons (t := 5) rfl Cov.nil)) (HE.kill rfl (HE.row rfl (by rw [List.take_zero, List.drop_zero]; rfl) HE.nil)) rfl fun i γ1 hi => ?_
  try dsimp only [List.cons_append, List.nil_append]
  refine ex_seq_k fun K4 hK4 => ?_
  refine ex_seq_k fun K5 hK5 => ?_
  refine ex_region ttOK (by rfl) ?_
  refine rl_move rfl ?_
  refine rl_move rfl ?_
  refine rl_lenr (n := l.length) rfl tt_35 rfl rfl (by rw [List.length_append, List.length_map, List.length_map, List.length_take, List.length_drop]; omega) ?_
  refine rl_bin rfl rfl rfl ?_
  refine hK5 _ _ ?_
  clear hK5 K5
  refine ex_cond rfl (fun hc6 => ?_) (fun hc6 => ?_)
  · try simp at hc6
    obtain ⟨p, hp⟩ : ∃ p, l[i]? = some p := ⟨_, List.getElem?_eq_getElem (by omega)⟩
    have hmk := mks_get zPa kPa (k := k) hp
    have hat := szs_at zPa hp
    have hzp : zPa p = 10 + szs zEv p.sends + szs zOu p.outs := rfl
    have hAl : (((mks zPa kPa k l).take i).map encPaO).length = i := by rw [List.length_map, List.length_take]; omega
    rw [drop_cons hp, List.map_cons]
    rw [show encPaO p = [pI p.ev.time, pI p.ev.to, pI p.ev.from', pI p.ev.count, pI p.ev.n, pI p.ev.kind, pI p.ev.arg, pI p.after.x, pI p.after.y, pI p.after.count, .row .ow 60 7 (p.sends.map encEv), .row .ow 131 5 (p.outs.map encOu)] from rfl]
    obtain ⟨q, hq⟩ : ∃ q, q = k + szs zPa (l.take i) := ⟨_, rfl⟩
    rw [← hq] at hmk ⊢
    refine ex_skip ?_
    refine hK4 _ _ ?_
    clear hK4 K4
    refine ex_seq_k fun K7 hK7 => ?_
    refine ex_block ?_
    refine ex_seq_k fun K8 hK8 => ?_
    refine ex_region ttOK (by rfl) ?_
    refine rl_move rfl ?_
    refine rl_move rfl ?_
    refine rl_move rfl ?_
    refine rl_idxM rfl rfl tt_35 rfl tt_154 rfl rfl hAl ?_
    refine rl_fieldAddr rfl tt_154 rfl rfl tt_60 rfl rfl ?_
    refine rl_fieldAddr rfl tt_60 rfl rfl tt_3 rfl rfl ?_
    refine rl_storeM hAl rfl rfl tt_3 rfl rfl rfl rfl rfl rfl rfl (by simp only [List.set_cons_zero, List.set_cons_succ]; rfl) ?_
    refine hK8 _ _ ?_
    clear hK8 K8
    refine ex_seq_k fun K9 hK9 => ?_
    refine ex_region ttOK (by rfl) ?_
    refine rl_move rfl ?_
    refine rl_addN (b := 1) rfl rfl (by omega) ?_
    refine rl_assign rfl ?_
    refine hK9 _ _ ?_
    clear hK9 K9
    refine ex_seq_k fun K10 hK10 => ?_
    refine ex_region ttOK (by rfl) ?_
    refine rl_move rfl ?_
    refine rl_move rfl ?_
    refine rl_move rfl ?_
    refine rl_idxM rfl rfl tt_35 rfl tt_154 rfl rfl hAl ?_
    refine rl_fieldAddr rfl tt_154 rfl rfl tt_60 rfl rfl ?_
    refine rl_fieldAddr rfl tt_60 rfl rfl tt_3 rfl rfl ?_
    refine rl_storeM hAl rfl rfl tt_3 rfl rfl rfl rfl rfl rfl rfl (by simp only [List.set_cons_zero, List.set_cons_succ]; rfl) ?_
    refine hK10 _ _ ?_
    clear hK10 K10
    refine ex_seq_k fun K11 hK11 => ?_
    refine ex_region ttOK (by rfl) ?_
    refine rl_move rfl ?_
    refine rl_addN (b := 1) rfl rfl (by omega) ?_
    refine rl_assign rfl ?_
    refine hK11 _ _ ?_
    clear hK11 K11
    refine ex_seq_k fun K12 hK12 => ?_
    refine ex_region ttOK (by rfl) ?_
    refine rl_move rfl ?_
    refine rl_move rfl ?_
    refine rl_move rfl ?_
    refine rl_idxM rfl rfl tt_35 rfl tt_154 rfl rfl hAl ?_
    refine rl_fieldAddr rfl tt_154 rfl rfl tt_60 rfl rfl ?_
    refine rl_fieldAddr rfl tt_60 rfl rfl tt_3 rfl rfl ?_
    refine rl_storeM hAl rfl rfl tt_3 rfl rfl rfl rfl rfl rfl rfl (by simp only [List.set_cons_zero, List.set_cons_succ]; rfl) ?_
    refine hK12 _ _ ?_
    clear hK12 K12
    refine ex_seq_k fun K13 hK13 => ?_
    refine ex_region ttOK (by rfl) ?_
    refine rl_move rfl ?_
    refine rl_addN (b := 1) rfl rfl (by omega) ?_
    refine rl_assign rfl ?_
    refine hK13 _ _ ?_
    clear hK13 K13
    refine ex_seq_k fun K14 hK14 => ?_
    refine ex_region ttOK (by rfl) ?_
    refine rl_move rfl ?_
    refine rl_move rfl ?_
    refine rl_move rfl ?_
    refine rl_idxM rfl rfl tt_35 rfl tt_154 rfl rfl hAl ?_
    refine rl_fieldAddr rfl tt_154 rfl rfl tt_60 rfl rfl ?_
    refine rl_fieldAddr rfl tt_60 rfl rfl tt_3 rfl rfl ?_
    refine rl_storeM hAl rfl rfl tt_3 rfl rfl rfl rfl rfl rfl rfl (by simp only [List.set_cons_zero, List.set_cons_succ]; rfl) ?_
    refine hK14 _ _ ?_
    clear hK14 K14
    refine ex_seq_k fun K15 hK15 => ?_
    refine ex_region ttOK (by rfl) ?_
    refine rl_move rfl ?_
    refine rl_addN (b := 1) rfl rfl (by omega) ?_
    refine rl_assign rfl ?_
    refine hK15 _ _ ?_
    clear hK15 K15
    refine ex_seq_k fun K16 hK16 => ?_
    refine ex_region ttOK (by rfl) ?_
    refine rl_move rfl ?_
    refine rl_move rfl ?_
    refine rl_move rfl ?_
    refine rl_idxM rfl rfl tt_35 rfl tt_154 rfl rfl hAl ?_
    refine rl_fieldAddr rfl tt_154 rfl rfl tt_60 rfl rfl ?_
    refine rl_fieldAddr rfl tt_60 rfl rfl tt_3 rfl rfl ?_
    refine rl_storeM hAl rfl rfl tt_3 rfl rfl rfl rfl rfl rfl rfl (by simp only [List.set_cons_zero, List.set_cons_succ]; rfl) ?_
    refine hK16 _ _ ?_
    clear hK16 K16
    refine ex_seq_k fun K17 hK17 => ?_
    refine ex_region ttOK (by rfl) ?_
    refine rl_move rfl ?_
    refine rl_addN (b := 1) rfl rfl (by omega) ?_
    refine rl_assign rfl ?_
    refine hK17 _ _ ?_
    clear hK17 K17
    refine ex_seq_k fun K18 hK18 => ?_
    refine ex_region ttOK (by rfl) ?_
    refine rl_move rfl ?_
    refine rl_move rfl ?_
    refine rl_move rfl ?_
    refine rl_idxM rfl rfl tt_35 rfl tt_154 rfl rfl hAl ?_
    refine rl_fieldAddr rfl tt_154 rfl rfl tt_60 rfl rfl ?_
    refine rl_fieldAddr rfl tt_60 rfl rfl tt_3 rfl rfl ?_
    refine rl_storeM hAl rfl rfl tt_3 rfl rfl rfl rfl rfl rfl rfl (by simp only [List.set_cons_zero, List.set_cons_succ]; rfl) ?_
    refine hK18 _ _ ?_
    clear hK18 K18
    refine ex_seq_k fun K19 hK19 => ?_
    refine ex_region ttOK (by rfl) ?_
    refine rl_move rfl ?_
    refine rl_addN (b := 1) rfl rfl (by omega) ?_
    refine rl_assign rfl ?_
    refine hK19 _ _ ?_
    clear hK19 K19
    refine ex_seq_k fun K20 hK20 => ?_
    refine ex_region ttOK (by rfl) ?_
    refine rl_move rfl ?_
    refine rl_move rfl ?_
    refine rl_move rfl ?_
    refine rl_idxM rfl rfl tt_35 rfl tt_154 rfl rfl hAl ?_
    refine rl_fieldAddr rfl tt_154 rfl rfl tt_60 rfl rfl ?_
    refine rl_fieldAddr rfl tt_60 rfl rfl tt_3 rfl rfl ?_
    refine rl_storeM hAl rfl rfl tt_3 rfl rfl rfl rfl rfl rfl rfl (by simp only [List.set_cons_zero, List.set_cons_succ]; rfl) ?_
    refine hK20 _ _ ?_
    clear hK20 K20
    refine ex_seq_k fun K21 hK21 => ?_
    refine ex_region ttOK (by rfl) ?_
    refine rl_move rfl ?_
    refine rl_addN (b := 1) rfl rfl (by omega) ?_
    refine rl_assign rfl ?_
    refine hK21 _ _ ?_
    clear hK21 K21
    refine ex_seq_k fun K22 hK22 => ?_
    refine ex_region ttOK (by rfl) ?_
    refine rl_move rfl ?_
    refine rl_move rfl ?_
    refine rl_move rfl ?_
    refine rl_idxM rfl rfl tt_35 rfl tt_154 rfl rfl hAl ?_
    refine rl_fieldAddr rfl tt_154 rfl rfl tt_34 rfl rfl ?_
    refine rl_fieldAddr rfl tt_34 rfl rfl tt_3 rfl rfl ?_
    refine rl_storeM hAl rfl rfl tt_3 rfl rfl rfl rfl rfl rfl rfl (by simp only [List.set_cons_zero, List.set_cons_succ]; rfl) ?_
    refine hK22 _ _ ?_
    clear hK22 K22
    refine ex_seq_k fun K23 hK23 => ?_
    refine ex_region ttOK (by rfl) ?_
    refine rl_move rfl ?_
    refine rl_addN (b := 1) rfl rfl (by omega) ?_
    refine rl_assign rfl ?_
    refine hK23 _ _ ?_
    clear hK23 K23
    refine ex_seq_k fun K24 hK24 => ?_
    refine ex_region ttOK (by rfl) ?_
    refine rl_move rfl ?_
    refine rl_move rfl ?_
    refine rl_move rfl ?_
    refine rl_idxM rfl rfl tt_35 rfl tt_154 rfl rfl hAl ?_
    refine rl_fieldAddr rfl tt_154 rfl rfl tt_34 rfl rfl ?_
    refine rl_fieldAddr rfl tt_34 rfl rfl tt_3 rfl rfl ?_
    refine rl_storeM hAl rfl rfl tt_3 rfl rfl rfl rfl rfl rfl rfl (by simp only [List.set_cons_zero, List.set_cons_succ]; rfl) ?_
    refine hK24 _ _ ?_
    clear hK24 K24
    refine ex_seq_k fun K25 hK25 => ?_
    refine ex_region ttOK (by rfl) ?_
    refine rl_move rfl ?_
    refine rl_addN (b := 1) rfl rfl (by omega) ?_
    refine rl_assign rfl ?_
    refine hK25 _ _ ?_
    clear hK25 K25
    refine ex_seq_k fun K26 hK26 => ?_
    refine ex_region ttOK (by rfl) ?_
    refine rl_move rfl ?_
    refine rl_move rfl ?_
    refine rl_move rfl ?_
    refine rl_idxM rfl rfl tt_35 rfl tt_154 rfl rfl hAl ?_
    refine rl_fieldAddr rfl tt_154 rfl rfl tt_34 rfl rfl ?_
    refine rl_fieldAddr rfl tt_34 rfl rfl tt_3 rfl rfl ?_
    refine rl_storeM hAl rfl rfl tt_3 rfl rfl rfl rfl rfl rfl rfl (by simp only [List.set_cons_zero, List.set_cons_succ]; rfl) ?_
    refine hK26 _ _ ?_
    clear hK26 K26
    refine ex_seq_k fun K27 hK27 => ?_
    refine ex_region ttOK (by rfl) ?_
    refine rl_move rfl ?_
    refine rl_addN (b := 1) rfl rfl (by omega) ?_
    refine rl_assign rfl ?_
    refine hK27 _ _ ?_
    clear hK27 K27
    refine ex_seq_k fun K28 hK28 => ?_
    refine ex_splitM 0 10 1 hAl rfl rfl rfl rfl rfl ?_
    refine ex_region ttOK (by rfl) ?_
    refine rl_move rfl ?_
    refine rl_move rfl ?_
    refine rl_idxM rfl rfl tt_35 rfl tt_154 rfl rfl hAl ?_
    refine rl_fieldAddr rfl tt_154 rfl rfl tt_26 rfl rfl ?_
    refine rl_loadM hAl rfl tt_26 rfl rfl ?_
    refine rl_move rfl ?_
    refine rl_meth [1] [_] (F_laws_markEventS p.sends (q + 10) (by omega)) rfl rfl rfl (by decide) rfl rfl (by repeat (first | exact InH.nil | refine InH.cons rfl ?_)) (by first | (simp only [pI, List.map_cons, List.map_nil, insH, inE, inT, inA, inC, inD, inB, gl, nx, memN, Nat.beq, Nat.add_eq, List.getD_cons_zero, List.getD_cons_succ, List.getD_nil, Bool.or_false, Bool.false_or, Bool.true_or, Bool.or_true, Nat.add_zero, Nat.zero_add]; rfl) | rfl) (by first | (simp only [pI, List.map_cons, List.map_nil, insH, inE, inT, inA, inC, inD, inB, gl, nx, memN, Nat.beq, Nat.add_eq, List.getD_cons_zero, List.getD_cons_succ, List.getD_nil, Bool.or_false, Bool.false_or, Bool.true_or, Bool.or_true, Nat.add_zero, Nat.zero_add]; rfl) | rfl) ?_
    refine rl_assign rfl ?_
    refine hK28 _ _ ?_
    clear hK28 K28
    refine ex_joinM 0 10 1 hAl rfl rfl rfl (flatR_map fun _ => rfl) rfl rfl ?_
    refine ex_splitM 0 11 1 hAl rfl rfl rfl rfl rfl ?_
    refine ex_region ttOK (by rfl) ?_
    refine rl_move rfl ?_
    refine rl_move rfl ?_
    refine rl_idxM rfl rfl tt_35 rfl tt_154 rfl rfl hAl ?_
    refine rl_fieldAddr rfl tt_154 rfl rfl tt_27 rfl rfl ?_
    refine rl_loadM hAl rfl tt_27 rfl rfl ?_
    refine rl_move rfl ?_
    refine rl_meth [1] [_] (F_laws_markOutS p.outs (q + 10 + szs zEv p.sends) (by omega)) rfl rfl rfl (by decide) rfl rfl (by repeat (first | exact InH.nil | refine InH.cons rfl ?_)) (by first | (simp only [pI, List.map_cons, List.map_nil, insH, inE, inT, inA, inC, inD, inB, gl, nx, memN, Nat.beq, Nat.add_eq, List.getD_cons_zero, List.getD_cons_succ, List.getD_nil, Bool.or_false, Bool.false_or, Bool.true_or, Bool.or_true, Nat.add_zero, Nat.zero_add]; rfl) | rfl) (by first | (simp only [pI, List.map_cons, List.map_nil, insH, inE, inT, inA, inC, inD, inB, gl, nx, memN, Nat.beq, Nat.add_eq, List.getD_cons_zero, List.getD_cons_succ, List.getD_nil, Bool.or_false, Bool.false_or, Bool.true_or, Bool.or_true, Nat.add_zero, Nat.zero_add]; rfl) | rfl) ?_
    refine rl_assign rfl ?_
    refine hK7 _ _ ?_
    clear hK7 K7
    refine ex_joinM 0 11 1 hAl rfl rfl rfl (flatR_map fun _ => rfl) rfl rfl ?_
    refine ex_region ttOK (by rfl) ?_
    refine rl_move rfl ?_
    refine rl_addN (b := 1) rfl rfl (by omega) ?_
    refine rl_assign rfl ?_
    exact ⟨i + 1, ⟨by omega, by omega⟩, [0, _], (Cov.cons' (t := 1) rfl (by rw [szs_take zPa hp]; exact congrArg (fun v : Nat => AV.pv (.int .i64 (v : Int))) (by omega)) (Cov.cons (t := 5) rfl Cov.nil)), (Cov.cons (t := 0) rfl Cov.nil), (HE.kill rfl (HE.row rfl (by rw [take_snoc hmk, List.map_append, List.append_assoc]; rfl) HE.nil)), HE.nil, rfl⟩
  · try simp at hc6
    obtain rfl : i = l.length := by omega
    refine ex_exit ?_
    refine hK2 _ _ ?_
    clear hK4 K4 hK2 K2
    refine ex_seq_k fun K29 hK29 => ?_
    refine ex_region ttOK (by rfl) ?_
    refine rl_move rfl ?_
    refine rl_assign rfl ?_
    refine hK29 _ _ ?_
    clear hK29 K29
    refine ex_ret ?_
    exact ⟨.inr rfl, [γ 0], rfl, congrArg (fun v : Nat => some [AV.pv (.int .i64 (v : Int))]) (by rw [List.take_length]), HE.row rfl (by rw [List.take_of_length_le (by omega), List.drop_length, List.map_nil, List.append_nil]) HE.nil⟩

theorem F_laws_markLaneS (l : List La) (k : Nat) (hk : k + szs zLa l ≤ 1000000000) : Meth Try.prog 70 1 [0] [.ref 0 0, .pv (.int .i64 (k : Int))] [(0, (0, .row 37 5 (l.map encLaO)))] (.pv (.int .i64 ((k + szs zLa l : Nat) : Int))) [(0, (0, .row 37 5 ((mks zLa kLa k l).map encLaO)))] := by
  refine meth_of_ex ttOK (fn := Try.f70) (by kernel_rfl) (by kernel_rfl) rfl (O0 := [.pv (.int .i64 ((k + szs zLa l : Nat) : Int))]) 1 1 (Nat.le_of_ble_eq_true rfl) (by rfl) (by repeat (first | exact BndH.nil | refine BndH.dead ?_ | refine BndH.box rfl ?_ | refine BndH.box (by assumption) ?_ | refine BndH.row (flatR_map fun _ => rfl) ?_ | refine BndH.row flatR_nil ?_ | refine BndH.map (by intro p hp; cases hp; done) ?_ | refine BndH.map (by intro p hp; simp only [List.mem_map, List.not_mem_nil] at hp; first | (obtain ⟨a, _, rfl⟩ := hp; rfl) | exact hp.elim) ?_ | refine BndH.chn ?_)) (by repeat (first | exact BndH.nil | refine BndH.dead ?_ | refine BndH.box rfl ?_ | refine BndH.box (by assumption) ?_ | refine BndH.row (flatR_map fun _ => rfl) ?_ | refine BndH.row flatR_nil ?_ | refine BndH.map (by intro p hp; cases hp; done) ?_ | refine BndH.map (by intro p hp; simp only [List.mem_map, List.not_mem_nil] at hp; first | (obtain ⟨a, _, rfl⟩ := hp; rfl) | exact hp.elim) ?_ | refine BndH.chn ?_)) (by rfl) fun γ => ?_
  show Ex Try.prog _ _ [(0, .ref 0 (γ 0)), (1, .pv (.int .i64 (k : Int)))] [(0, ((γ 0), .row 37 5 (l.map encLaO))), (1, (0, .dead))] _
  have hml := mks_len zLa kLa k l
  have hll := szs_len zLa (fun p => by unfold zLa; omega) l
  refine ex_seq_k fun K1 hK1 => ?_
  refine ex_region ttOK (by rfl) ?_
  refine rl_assign rfl ?_
  refine hK1 _ _ ?_
  clear hK1 K1
  refine ex_seq_k fun K2 hK2 => ?_
  refine ex_seq_k fun K3 hK3 => ?_
  refine ex_region ttOK (by rfl) ?_
  refine rl_assign rfl ?_
  refine hK3 _ _ ?_
  clear hK3 K3
  refine ex_block ?_
  refine ex_loopK (ι := Nat) (fun i γ1 => [(1, .pv (.int .i64 ((k + szs zLa (l.take i) : Nat) : Int))), (5, .pv (.int .i64 (i : Int)))]) (fun i γ1 => [(1, ((γ1 1), .dead)), (0, ((γ 0), .row 37 5 (((mks zLa kLa k l).take i).map encLaO ++ (l.drop i).map encLaO)))]) (fun i => i ≤ l.length) (fun i => l.length - i) (Cov.cons (t := 0) rfl Cov.nil) HE.nil 0 (by omega) [0, _] (Cov.cons' (t := 1) rfl (by rw [List.take_zero]; rfl) (Cov.cons (t := 5) rfl Cov.nil)) (HE.kill rfl (HE.row rfl (by rw [List.take_zero, List.drop_zero]; rfl) HE.nil)) rfl fun i γ1 hi => ?_
  try dsimp only [List.cons_append, List.nil_append]
  refine ex_seq_k fun K4 hK4 => ?_
  refine ex_seq_k fun K5 hK5 => ?_
  refine ex_region ttOK (by rfl) ?_
  refine rl_move rfl ?_
  refine rl_move rfl ?_
  refine rl_lenr (n := l.length) rfl tt_25 rfl rfl (by rw [List.length_append, List.length_map, List.length_map, List.length_take, List.length_drop]; omega) ?_
  refine rl_bin rfl rfl rfl ?_
  refine hK5 _ _ ?_
  clear hK5 K5
  refine ex_cond rfl (fun hc6 => ?_) (fun hc6 => ?_)
  · try simp at hc6
    obtain ⟨p, hp⟩ : ∃ p, l[i]? = some p := ⟨_, List.getElem?_eq_getElem (by omega)⟩
    have hmk := mks_get zLa kLa (k := k) hp
    have hat := szs_at zLa hp
    have hzp : zLa p = 4 + szs zPa p.done := rfl
    have hAl : (((mks zLa kLa k l).take i).map encLaO).length = i := by rw [List.length_map, List.length_take]; omega
    rw [drop_cons hp, List.map_cons]
    rw [show encLaO p = [pI p.proc, pI p.base.x, pI p.base.y, pI p.base.count, .row .ow 154 12 (p.done.map encPaO)] from rfl]
    obtain ⟨q, hq⟩ : ∃ q, q = k + szs zLa (l.take i) := ⟨_, rfl⟩
    rw [← hq] at hmk ⊢
    refine ex_skip ?_
    refine hK4 _ _ ?_
    clear hK4 K4
    refine ex_seq_k fun K7 hK7 => ?_
    refine ex_block ?_
    refine ex_seq_k fun K8 hK8 => ?_
    refine ex_region ttOK (by rfl) ?_
    refine rl_move rfl ?_
    refine rl_move rfl ?_
    refine rl_move rfl ?_
    refine rl_idxM rfl rfl tt_25 rfl tt_37 rfl rfl hAl ?_
    refine rl_fieldAddr rfl tt_37 rfl rfl tt_3 rfl rfl ?_
    refine rl_storeM hAl rfl rfl tt_3 rfl rfl rfl rfl rfl rfl rfl (by simp only [List.set_cons_zero, List.set_cons_succ]; rfl) ?_
    refine hK8 _ _ ?_
    clear hK8 K8
    refine ex_seq_k fun K9 hK9 => ?_
    refine ex_region ttOK (by rfl) ?_
    refine rl_move rfl ?_
    refine rl_addN (b := 1) rfl rfl (by omega) ?_
    refine rl_assign rfl ?_
    refine hK9 _ _ ?_
    clear hK9 K9
    refine ex_seq_k fun K10 hK10 => ?_
    refine ex_region ttOK (by rfl) ?_
    refine rl_move rfl ?_
    refine rl_move rfl ?_
    refine rl_move rfl ?_
    refine rl_idxM rfl rfl tt_25 rfl tt_37 rfl rfl hAl ?_
    refine rl_fieldAddr rfl tt_37 rfl rfl tt_34 rfl rfl ?_
    refine rl_fieldAddr rfl tt_34 rfl rfl tt_3 rfl rfl ?_
    refine rl_storeM hAl rfl rfl tt_3 rfl rfl rfl rfl rfl rfl rfl (by simp only [List.set_cons_zero, List.set_cons_succ]; rfl) ?_
    refine hK10 _ _ ?_
    clear hK10 K10
    refine ex_seq_k fun K11 hK11 => ?_
    refine ex_region ttOK (by rfl) ?_
    refine rl_move rfl ?_
    refine rl_addN (b := 1) rfl rfl (by omega) ?_
    refine rl_assign rfl ?_
    refine hK11 _ _ ?_
    clear hK11 K11
    refine ex_seq_k fun K12 hK12 => ?_
    refine ex_region ttOK (by rfl) ?_
    refine rl_move rfl ?_
    refine rl_move rfl ?_
    refine rl_move rfl ?_
    refine rl_idxM rfl rfl tt_25 rfl tt_37 rfl rfl hAl ?_
    refine rl_fieldAddr rfl tt_37 rfl rfl tt_34 rfl rfl ?_
    refine rl_fieldAddr rfl tt_34 rfl rfl tt_3 rfl rfl ?_
    refine rl_storeM hAl rfl rfl tt_3 rfl rfl rfl rfl rfl rfl rfl (by simp only [List.set_cons_zero, List.set_cons_succ]; rfl) ?_
    refine hK12 _ _ ?_
    clear hK12 K12
    refine ex_seq_k fun K13 hK13 => ?_
    refine ex_region ttOK (by rfl) ?_
    refine rl_move rfl ?_
    refine rl_addN (b := 1) rfl rfl (by omega) ?_
    refine rl_assign rfl ?_
    refine hK13 _ _ ?_
    clear hK13 K13
    refine ex_seq_k fun K14 hK14 => ?_
    refine ex_region ttOK (by rfl) ?_
    refine rl_move rfl ?_
    refine rl_move rfl ?_
    refine rl_move rfl ?_
    refine rl_idxM rfl rfl tt_25 rfl tt_37 rfl rfl hAl ?_
    refine rl_fieldAddr rfl tt_37 rfl rfl tt_34 rfl rfl ?_
    refine rl_fieldAddr rfl tt_34 rfl rfl tt_3 rfl rfl ?_
    refine rl_storeM hAl rfl rfl tt_3 rfl rfl rfl rfl rfl rfl rfl (by simp only [List.set_cons_zero, List.set_cons_succ]; rfl) ?_
    refine hK14 _ _ ?_
    clear hK14 K14
    refine ex_seq_k fun K15 hK15 => ?_
    refine ex_region ttOK (by rfl) ?_
    refine rl_move rfl ?_
    refine rl_addN (b := 1) rfl rfl (by omega) ?_
    refine rl_assign rfl ?_
    refine hK15 _ _ ?_
    clear hK15 K15
    refine ex_splitM 0 4 1 hAl rfl rfl rfl rfl rfl ?_
    refine ex_region ttOK (by rfl) ?_
    refine rl_move rfl ?_
    refine rl_move rfl ?_
    refine rl_idxM rfl rfl tt_25 rfl tt_37 rfl rfl hAl ?_
    refine rl_fieldAddr rfl tt_37 rfl rfl tt_35 rfl rfl ?_
    refine rl_loadM hAl rfl tt_35 rfl rfl ?_
    refine rl_move rfl ?_
    refine rl_meth [1] [_] (F_laws_markPastS p.done (q + 4) (by omega)) rfl rfl rfl (by decide) rfl rfl (by repeat (first | exact InH.nil | refine InH.cons rfl ?_)) (by first | (simp only [pI, List.map_cons, List.map_nil, insH, inE, inT, inA, inC, inD, inB, gl, nx, memN, Nat.beq, Nat.add_eq, List.getD_cons_zero, List.getD_cons_succ, List.getD_nil, Bool.or_false, Bool.false_or, Bool.true_or, Bool.or_true, Nat.add_zero, Nat.zero_add]; rfl) | rfl) (by first | (simp only [pI, List.map_cons, List.map_nil, insH, inE, inT, inA, inC, inD, inB, gl, nx, memN, Nat.beq, Nat.add_eq, List.getD_cons_zero, List.getD_cons_succ, List.getD_nil, Bool.or_false, Bool.false_or, Bool.true_or, Bool.or_true, Nat.add_zero, Nat.zero_add]; rfl) | rfl) ?_
    refine rl_assign rfl ?_
    refine hK7 _ _ ?_
    clear hK7 K7
    refine ex_joinM 0 4 1 hAl rfl rfl rfl (flatR_map fun _ => rfl) rfl rfl ?_
    refine ex_region ttOK (by rfl) ?_
    refine rl_move rfl ?_
    refine rl_addN (b := 1) rfl rfl (by omega) ?_
    refine rl_assign rfl ?_
    exact ⟨i + 1, ⟨by omega, by omega⟩, [0, _], (Cov.cons' (t := 1) rfl (by rw [szs_take zLa hp]; exact congrArg (fun v : Nat => AV.pv (.int .i64 (v : Int))) (by omega)) (Cov.cons (t := 5) rfl Cov.nil)), (Cov.cons (t := 0) rfl Cov.nil), (HE.kill rfl (HE.row rfl (by rw [take_snoc hmk, List.map_append, List.append_assoc]; rfl) HE.nil)), HE.nil, rfl⟩
  · try simp at hc6
    obtain rfl : i = l.length := by omega
    refine ex_exit ?_
    refine hK2 _ _ ?_
    clear hK4 K4 hK2 K2
    refine ex_seq_k fun K16 hK16 => ?_
    refine ex_region ttOK (by rfl) ?_
    refine rl_move rfl ?_
    refine rl_assign rfl ?_
    refine hK16 _ _ ?_
    clear hK16 K16
    refine ex_ret ?_
    exact ⟨.inr rfl, [γ 0], rfl, congrArg (fun v : Nat => some [AV.pv (.int .i64 (v : Int))]) (by rw [List.take_length]), HE.row rfl (by rw [List.take_of_length_le (by omega), List.drop_length, List.map_nil, List.append_nil]) HE.nil⟩

theorem F_laws_markViewS (l : List Vi) (k : Nat) (hk : k + szs zVi l ≤ 1000000000) : Meth Try.prog 73 1 [0] [.ref 0 0, .pv (.int .i64 (k : Int))] [(0, (0, .row 123 3 (l.map encViO)))] (.pv (.int .i64 ((k + szs zVi l : Nat) : Int))) [(0, (0, .row 123 3 ((mks zVi kVi k l).map encViO)))] := by
  refine meth_of_ex ttOK (fn := Try.f73) (by kernel_rfl) (by kernel_rfl) rfl (O0 := [.pv (.int .i64 ((k + szs zVi l : Nat) : Int))]) 1 1 (Nat.le_of_ble_eq_true rfl) (by rfl) (by repeat (first | exact BndH.nil | refine BndH.dead ?_ | refine BndH.box rfl ?_ | refine BndH.box (by assumption) ?_ | refine BndH.row (flatR_map fun _ => rfl) ?_ | refine BndH.row flatR_nil ?_ | refine BndH.map (by intro p hp; cases hp; done) ?_ | refine BndH.map (by intro p hp; simp only [List.mem_map, List.not_mem_nil] at hp; first | (obtain ⟨a, _, rfl⟩ := hp; rfl) | exact hp.elim) ?_ | refine BndH.chn ?_)) (by repeat (first | exact BndH.nil | refine BndH.dead ?_ | refine BndH.box rfl ?_ | refine BndH.box (by assumption) ?_ | refine BndH.row (flatR_map fun _ => rfl) ?_ | refine BndH.row flatR_nil ?_ | refine BndH.map (by intro p hp; cases hp; done) ?_ | refine BndH.map (by intro p hp; simp only [List.mem_map, List.not_mem_nil] at hp; first | (obtain ⟨a, _, rfl⟩ := hp; rfl) | exact hp.elim) ?_ | refine BndH.chn ?_)) (by rfl) fun γ => ?_
  show Ex Try.prog _ _ [(0, .ref 0 (γ 0)), (1, .pv (.int .i64 (k : Int)))] [(0, ((γ 0), .row 123 3 (l.map encViO))), (1, (0, .dead))] _
  have hml := mks_len zVi kVi k l
  have hll := szs_len zVi (fun p => by unfold zVi; omega) l
  refine ex_seq_k fun K1 hK1 => ?_
  refine ex_region ttOK (by rfl) ?_
  refine rl_assign rfl ?_
  refine hK1 _ _ ?_
  clear hK1 K1
  refine ex_seq_k fun K2 hK2 => ?_
  refine ex_seq_k fun K3 hK3 => ?_
  refine ex_region ttOK (by rfl) ?_
  refine rl_assign rfl ?_
  refine hK3 _ _ ?_
  clear hK3 K3
  refine ex_block ?_
  refine ex_loopK (ι := Nat) (fun i γ1 => [(1, .pv (.int .i64 ((k + szs zVi (l.take i) : Nat) : Int))), (5, .pv (.int .i64 (i : Int)))]) (fun i γ1 => [(1, ((γ1 1), .dead)), (0, ((γ 0), .row 123 3 (((mks zVi kVi k l).take i).map encViO ++ (l.drop i).map encViO)))]) (fun i => i ≤ l.length) (fun i => l.length - i) (Cov.cons (t := 0) rfl Cov.nil) HE.nil 0 (by omega) [0, _] (Cov.cons' (t := 1) rfl (by rw [List.take_zero]; rfl) (Cov.cons (t := 5) rfl Cov.nil)) (HE.kill rfl (HE.row rfl (by rw [List.take_zero, List.drop_zero]; rfl) HE.nil)) rfl fun i γ1 hi => ?_
  try dsimp only [List.cons_append, List.nil_append]
  refine ex_seq_k fun K4 hK4 => ?_
  refine ex_seq_k fun K5 hK5 => ?_
  refine ex_region ttOK (by rfl) ?_
  refine rl_move rfl ?_
  refine rl_move rfl ?_
  refine rl_lenr (n := l.length) rfl tt_28 rfl rfl (by rw [List.length_append, List.length_map, List.length_map, List.length_take, List.length_drop]; omega) ?_
  refine rl_bin rfl rfl rfl ?_
  refine hK5 _ _ ?_
  clear hK5 K5
  refine ex_cond rfl (fun hc6 => ?_) (fun hc6 => ?_)
  · try simp at hc6
    obtain ⟨p, hp⟩ : ∃ p, l[i]? = some p := ⟨_, List.getElem?_eq_getElem (by omega)⟩
    have hmk := mks_get zVi kVi (k := k) hp
    have hat := szs_at zVi hp
    have hzp : zVi p = 2 + szs zEv p.events := rfl
    have hAl : (((mks zVi kVi k l).take i).map encViO).length = i := by rw [List.length_map, List.length_take]; omega
    rw [drop_cons hp, List.map_cons]
    rw [show encViO p = [pI p.inc, pI p.version, .row .ow 60 7 (p.events.map encEv)] from rfl]
    obtain ⟨q, hq⟩ : ∃ q, q = k + szs zVi (l.take i) := ⟨_, rfl⟩
    rw [← hq] at hmk ⊢
    refine ex_skip ?_
    refine hK4 _ _ ?_
    clear hK4 K4
    refine ex_seq_k fun K7 hK7 => ?_
    refine ex_block ?_
    refine ex_seq_k fun K8 hK8 => ?_
    refine ex_region ttOK (by rfl) ?_
    refine rl_move rfl ?_
    refine rl_move rfl ?_
    refine rl_move rfl ?_
    refine rl_idxM rfl rfl tt_28 rfl tt_123 rfl rfl hAl ?_
    refine rl_fieldAddr rfl tt_123 rfl rfl tt_3 rfl rfl ?_
    refine rl_storeM hAl rfl rfl tt_3 rfl rfl rfl rfl rfl rfl rfl (by simp only [List.set_cons_zero, List.set_cons_succ]; rfl) ?_
    refine hK8 _ _ ?_
    clear hK8 K8
    refine ex_seq_k fun K9 hK9 => ?_
    refine ex_region ttOK (by rfl) ?_
    refine rl_move rfl ?_
    refine rl_addN (b := 1) rfl rfl (by omega) ?_
    refine rl_assign rfl ?_
    refine hK9 _ _ ?_
    clear hK9 K9
    refine ex_seq_k fun K10 hK10 => ?_
    refine ex_region ttOK (by rfl) ?_
    refine rl_move rfl ?_
    refine rl_move rfl ?_
    refine rl_move rfl ?_
    refine rl_idxM rfl rfl tt_28 rfl tt_123 rfl rfl hAl ?_
    refine rl_fieldAddr rfl tt_123 rfl rfl tt_3 rfl rfl ?_
    refine rl_storeM hAl rfl rfl tt_3 rfl rfl rfl rfl rfl rfl rfl (by simp only [List.set_cons_zero, List.set_cons_succ]; rfl) ?_
    refine hK10 _ _ ?_
    clear hK10 K10
    refine ex_seq_k fun K11 hK11 => ?_
    refine ex_region ttOK (by rfl) ?_
    refine rl_move rfl ?_
    refine rl_addN (b := 1) rfl rfl (by omega) ?_
    refine rl_assign rfl ?_
    refine hK11 _ _ ?_
    clear hK11 K11
    refine ex_splitM 0 2 1 hAl rfl rfl rfl rfl rfl ?_
    refine ex_region ttOK (by rfl) ?_
    refine rl_move rfl ?_
    refine rl_move rfl ?_
    refine rl_idxM rfl rfl tt_28 rfl tt_123 rfl rfl hAl ?_
    refine rl_fieldAddr rfl tt_123 rfl rfl tt_26 rfl rfl ?_
    refine rl_loadM hAl rfl tt_26 rfl rfl ?_
    refine rl_move rfl ?_
    refine rl_meth [1] [_] (F_laws_markEventS p.events (q + 2) (by omega)) rfl rfl rfl (by decide) rfl rfl (by repeat (first | exact InH.nil | refine InH.cons rfl ?_)) (by first | (simp only [pI, List.map_cons, List.map_nil, insH, inE, inT, inA, inC, inD, inB, gl, nx, memN, Nat.beq, Nat.add_eq, List.getD_cons_zero, List.getD_cons_succ, List.getD_nil, Bool.or_false, Bool.false_or, Bool.true_or, Bool.or_true, Nat.add_zero, Nat.zero_add]; rfl) | rfl) (by first | (simp only [pI, List.map_cons, List.map_nil, insH, inE, inT, inA, inC, inD, inB, gl, nx, memN, Nat.beq, Nat.add_eq, List.getD_cons_zero, List.getD_cons_succ, List.getD_nil, Bool.or_false, Bool.false_or, Bool.true_or, Bool.or_true, Nat.add_zero, Nat.zero_add]; rfl) | rfl) ?_
    refine rl_assign rfl ?_
    refine hK7 _ _ ?_
    clear hK7 K7
    refine ex_joinM 0 2 1 hAl rfl rfl rfl (flatR_map fun _ => rfl) rfl rfl ?_
    refine ex_region ttOK (by rfl) ?_
    refine rl_move rfl ?_
    refine rl_addN (b := 1) rfl rfl (by omega) ?_
    refine rl_assign rfl ?_
    exact ⟨i + 1, ⟨by omega, by omega⟩, [0, _], (Cov.cons' (t := 1) rfl (by rw [szs_take zVi hp]; exact congrArg (fun v : Nat => AV.pv (.int .i64 (v : Int))) (by omega)) (Cov.cons (t := 5) rfl Cov.nil)), (Cov.cons (t := 0) rfl Cov.nil), (HE.kill rfl (HE.row rfl (by rw [take_snoc hmk, List.map_append, List.append_assoc]; rfl) HE.nil)), HE.nil, rfl⟩
  · try simp at hc6
    obtain rfl : i = l.length := by omega
    refine ex_exit ?_
    refine hK2 _ _ ?_
    clear hK4 K4 hK2 K2
    refine ex_seq_k fun K12 hK12 => ?_
    refine ex_region ttOK (by rfl) ?_
    refine rl_move rfl ?_
    refine rl_assign rfl ?_
    refine hK12 _ _ ?_
    clear hK12 K12
    refine ex_ret ?_
    exact ⟨.inr rfl, [γ 0], rfl, congrArg (fun v : Nat => some [AV.pv (.int .i64 (v : Int))]) (by rw [List.take_length]), HE.row rfl (by rw [List.take_of_length_le (by omega), List.drop_length, List.map_nil, List.append_nil]) HE.nil⟩

theorem F_laws_markNode (n : Nd) (k : Nat) (hk : k + zNd n ≤ 1000000000) : Meth Try.prog 20 5 [0, 1, 2, 3, 4] [.agg [pI n.id, .pv (.bool n.up), pI n.inc, pI n.g, .ref 0 0, .ref 1 0, .ref 2 0, pI n.led, pI n.version, .ref 3 0, .ref 4 0, pI n.round, pI n.low], .pv (.int .i64 (k : Int))] [(0, (0, .row 37 5 (n.lanes.map encLaO))), (1, (0, .row 60 7 (n.kept.map encEv))), (2, (0, .row 131 5 (n.outs.map encOu))), (3, (0, .row 123 3 (n.views.map encViO))), (4, (0, .row 3 1 (n.known.map encI)))] (.pv (.int .i64 ((k + zNd n : Nat) : Int))) [(0, (0, .row 37 5 ((kNd k n).lanes.map encLaO))), (1, (0, .row 60 7 ((kNd k n).kept.map encEv))), (2, (0, .row 131 5 ((kNd k n).outs.map encOu))), (3, (0, .row 123 3 ((kNd k n).views.map encViO))), (4, (0, .row 3 1 ((kNd k n).known.map encI)))] := by
  refine meth_of_ex ttOK (fn := Try.f20) (by kernel_rfl) (by kernel_rfl) rfl (O0 := [.pv (.int .i64 ((k + zNd n : Nat) : Int))]) 5 1 (Nat.le_of_ble_eq_true rfl) (by rfl) (by repeat (first | exact BndH.nil | refine BndH.dead ?_ | refine BndH.box rfl ?_ | refine BndH.box (by assumption) ?_ | refine BndH.row (flatR_map fun _ => rfl) ?_ | refine BndH.row flatR_nil ?_ | refine BndH.map (by intro p hp; cases hp; done) ?_ | refine BndH.map (by intro p hp; simp only [List.mem_map, List.not_mem_nil] at hp; first | (obtain ⟨a, _, rfl⟩ := hp; rfl) | exact hp.elim) ?_ | refine BndH.chn ?_)) (by repeat (first | exact BndH.nil | refine BndH.dead ?_ | refine BndH.box rfl ?_ | refine BndH.box (by assumption) ?_ | refine BndH.row (flatR_map fun _ => rfl) ?_ | refine BndH.row flatR_nil ?_ | refine BndH.map (by intro p hp; cases hp; done) ?_ | refine BndH.map (by intro p hp; simp only [List.mem_map, List.not_mem_nil] at hp; first | (obtain ⟨a, _, rfl⟩ := hp; rfl) | exact hp.elim) ?_ | refine BndH.chn ?_)) (by rfl) fun γ => ?_
  show Ex Try.prog _ _ [(0, .agg [pI n.id, .pv (.bool n.up), pI n.inc, pI n.g, .ref 0 (γ 0), .ref 1 (γ 1), .ref 2 (γ 2), pI n.led, pI n.version, .ref 3 (γ 3), .ref 4 (γ 4), pI n.round, pI n.low]), (1, .pv (.int .i64 (k : Int)))] [(0, ((γ 0), .row 37 5 (n.lanes.map encLaO))), (1, ((γ 1), .row 60 7 (n.kept.map encEv))), (2, ((γ 2), .row 131 5 (n.outs.map encOu))), (3, ((γ 3), .row 123 3 (n.views.map encViO))), (4, ((γ 4), .row 3 1 (n.known.map encI))), (5, (0, .dead))] _
  have hz : zNd n = szs zLa n.lanes + szs zEv n.kept + szs zOu n.outs + szs zVi n.views + szs zI n.known := rfl
  refine ex_seq_k fun K1 hK1 => ?_
  refine ex_region ttOK (by rfl) ?_
  refine rl_boxA (id := 5) rfl rfl rfl ?_
  refine rl_assign rfl ?_
  refine hK1 _ _ ?_
  clear hK1 K1
  refine ex_seq_k fun K2 hK2 => ?_
  refine ex_region ttOK (by rfl) ?_
  refine rl_fieldAddr rfl tt_31 rfl rfl tt_25 rfl rfl ?_
  first | refine rl_load_ptr rfl tt_25 rfl rfl ?_ | refine rl_load_iel rfl tt_25 rfl ?_
  refine rl_move rfl ?_
  refine rl_meth [0] [_] (F_laws_markLaneS n.lanes k (by omega)) rfl rfl rfl (by decide) rfl rfl (by repeat (first | exact InH.nil | refine InH.cons rfl ?_)) (by first | (simp only [pI, List.map_cons, List.map_nil, insH, inE, inT, inA, inC, inD, inB, gl, nx, memN, Nat.beq, Nat.add_eq, List.getD_cons_zero, List.getD_cons_succ, List.getD_nil, Bool.or_false, Bool.false_or, Bool.true_or, Bool.or_true, Nat.add_zero, Nat.zero_add]; rfl) | rfl) (by first | (simp only [pI, List.map_cons, List.map_nil, insH, inE, inT, inA, inC, inD, inB, gl, nx, memN, Nat.beq, Nat.add_eq, List.getD_cons_zero, List.getD_cons_succ, List.getD_nil, Bool.or_false, Bool.false_or, Bool.true_or, Bool.or_true, Nat.add_zero, Nat.zero_add]; rfl) | rfl) ?_
  refine rl_assign rfl ?_
  refine hK2 _ _ ?_
  clear hK2 K2
  refine ex_seq_k fun K3 hK3 => ?_
  refine ex_region ttOK (by rfl) ?_
  refine rl_fieldAddr rfl tt_31 rfl rfl tt_26 rfl rfl ?_
  first | refine rl_load_ptr rfl tt_26 rfl rfl ?_ | refine rl_load_iel rfl tt_26 rfl ?_
  refine rl_move rfl ?_
  refine rl_meth [1] [_] (F_laws_markEventS n.kept (k + szs zLa n.lanes) (by omega)) rfl rfl rfl (by decide) rfl rfl (by repeat (first | exact InH.nil | refine InH.cons rfl ?_)) (by first | (simp only [pI, List.map_cons, List.map_nil, insH, inE, inT, inA, inC, inD, inB, gl, nx, memN, Nat.beq, Nat.add_eq, List.getD_cons_zero, List.getD_cons_succ, List.getD_nil, Bool.or_false, Bool.false_or, Bool.true_or, Bool.or_true, Nat.add_zero, Nat.zero_add]; rfl) | rfl) (by first | (simp only [pI, List.map_cons, List.map_nil, insH, inE, inT, inA, inC, inD, inB, gl, nx, memN, Nat.beq, Nat.add_eq, List.getD_cons_zero, List.getD_cons_succ, List.getD_nil, Bool.or_false, Bool.false_or, Bool.true_or, Bool.or_true, Nat.add_zero, Nat.zero_add]; rfl) | rfl) ?_
  refine rl_assign rfl ?_
  refine hK3 _ _ ?_
  clear hK3 K3
  refine ex_seq_k fun K4 hK4 => ?_
  refine ex_region ttOK (by rfl) ?_
  refine rl_fieldAddr rfl tt_31 rfl rfl tt_27 rfl rfl ?_
  first | refine rl_load_ptr rfl tt_27 rfl rfl ?_ | refine rl_load_iel rfl tt_27 rfl ?_
  refine rl_move rfl ?_
  refine rl_meth [2] [_] (F_laws_markOutS n.outs (k + szs zLa n.lanes + szs zEv n.kept) (by omega)) rfl rfl rfl (by decide) rfl rfl (by repeat (first | exact InH.nil | refine InH.cons rfl ?_)) (by first | (simp only [pI, List.map_cons, List.map_nil, insH, inE, inT, inA, inC, inD, inB, gl, nx, memN, Nat.beq, Nat.add_eq, List.getD_cons_zero, List.getD_cons_succ, List.getD_nil, Bool.or_false, Bool.false_or, Bool.true_or, Bool.or_true, Nat.add_zero, Nat.zero_add]; rfl) | rfl) (by first | (simp only [pI, List.map_cons, List.map_nil, insH, inE, inT, inA, inC, inD, inB, gl, nx, memN, Nat.beq, Nat.add_eq, List.getD_cons_zero, List.getD_cons_succ, List.getD_nil, Bool.or_false, Bool.false_or, Bool.true_or, Bool.or_true, Nat.add_zero, Nat.zero_add]; rfl) | rfl) ?_
  refine rl_assign rfl ?_
  refine hK4 _ _ ?_
  clear hK4 K4
  refine ex_seq_k fun K5 hK5 => ?_
  refine ex_region ttOK (by rfl) ?_
  refine rl_fieldAddr rfl tt_31 rfl rfl tt_28 rfl rfl ?_
  first | refine rl_load_ptr rfl tt_28 rfl rfl ?_ | refine rl_load_iel rfl tt_28 rfl ?_
  refine rl_move rfl ?_
  refine rl_meth [3] [_] (F_laws_markViewS n.views (k + szs zLa n.lanes + szs zEv n.kept + szs zOu n.outs) (by omega)) rfl rfl rfl (by decide) rfl rfl (by repeat (first | exact InH.nil | refine InH.cons rfl ?_)) (by first | (simp only [pI, List.map_cons, List.map_nil, insH, inE, inT, inA, inC, inD, inB, gl, nx, memN, Nat.beq, Nat.add_eq, List.getD_cons_zero, List.getD_cons_succ, List.getD_nil, Bool.or_false, Bool.false_or, Bool.true_or, Bool.or_true, Nat.add_zero, Nat.zero_add]; rfl) | rfl) (by first | (simp only [pI, List.map_cons, List.map_nil, insH, inE, inT, inA, inC, inD, inB, gl, nx, memN, Nat.beq, Nat.add_eq, List.getD_cons_zero, List.getD_cons_succ, List.getD_nil, Bool.or_false, Bool.false_or, Bool.true_or, Bool.or_true, Nat.add_zero, Nat.zero_add]; rfl) | rfl) ?_
  refine rl_assign rfl ?_
  refine hK5 _ _ ?_
  clear hK5 K5
  refine ex_seq_k fun K6 hK6 => ?_
  refine ex_region ttOK (by rfl) ?_
  refine rl_fieldAddr rfl tt_31 rfl rfl tt_29 rfl rfl ?_
  first | refine rl_load_ptr rfl tt_29 rfl rfl ?_ | refine rl_load_iel rfl tt_29 rfl ?_
  refine rl_move rfl ?_
  refine rl_meth [4] [_] (F_laws_markIntS n.known (k + szs zLa n.lanes + szs zEv n.kept + szs zOu n.outs + szs zVi n.views) (by omega)) rfl rfl rfl (by decide) rfl rfl (by repeat (first | exact InH.nil | refine InH.cons rfl ?_)) (by first | (simp only [pI, List.map_cons, List.map_nil, insH, inE, inT, inA, inC, inD, inB, gl, nx, memN, Nat.beq, Nat.add_eq, List.getD_cons_zero, List.getD_cons_succ, List.getD_nil, Bool.or_false, Bool.false_or, Bool.true_or, Bool.or_true, Nat.add_zero, Nat.zero_add]; rfl) | rfl) (by first | (simp only [pI, List.map_cons, List.map_nil, insH, inE, inT, inA, inC, inD, inB, gl, nx, memN, Nat.beq, Nat.add_eq, List.getD_cons_zero, List.getD_cons_succ, List.getD_nil, Bool.or_false, Bool.false_or, Bool.true_or, Bool.or_true, Nat.add_zero, Nat.zero_add]; rfl) | rfl) ?_
  refine rl_assign rfl ?_
  refine hK6 _ _ ?_
  clear hK6 K6
  refine ex_seq_k fun K7 hK7 => ?_
  refine ex_region ttOK (by rfl) ?_
  refine rl_move rfl ?_
  refine rl_assign rfl ?_
  refine hK7 _ _ ?_
  clear hK7 K7
  refine ex_ret ?_
  exact ⟨.inr rfl, [γ 0, γ 1, γ 2, γ 3, γ 4], rfl, congrArg (fun v : Nat => some [AV.pv (.int .i64 (v : Int))]) (by omega), HE.row rfl rfl (HE.row rfl rfl (HE.row rfl rfl (HE.row rfl rfl (HE.row rfl rfl HE.nil))))⟩

end Go.Proofs.Ytcleiaibcfocdaa.Am
