/- Part 4 of the texts that the proof of LawFnExactNodeTend leans on, merged by program. -/
import Derived.Test.YtpadkogpeobboaaGreatKh3
set_option linter.unusedVariables false
set_option linter.unusedSimpArgs false
namespace Go.Proofs.YtpadkogpeobboaaGreat.Am
open Go Go.RowKit
theorem F_laws_toEvent (e : Ev) : Pure Tryz.prog 136 [.agg (encEv e)] (.agg (encEv e)) := by
  refine pure_of_ex ttOK (fn := Tryz.f136) (by kernel_rfl) (by kernel_rfl) rfl (outs := [.agg (encEv e)]) (by rfl) (Nat.le_of_ble_eq_true rfl) 3 ?_
  refine ex_rs ttOK (by rfl) ?_
  refine rl_boxA (id := 0) rfl rfl rfl ?_
  refine rl_alloc (id := 1) tt_76 za_76 rfl ?_
  refine ex_rs ttOK (by rfl) ?_
  refine rl_alloc (id := 2) tt_76 za_76 rfl ?_
  refine ex_rs ttOK (by rfl) ?_
  refine rl_fieldAddr rfl tt_163 rfl rfl tt_3 rfl rfl ?_
  refine rl_load_ptr rfl tt_3 rfl rfl ?_
  refine rl_fieldAddr rfl tt_76 rfl rfl tt_3 rfl rfl ?_
  refine rl_store1 rfl rfl tt_3 rfl rfl rfl rfl rfl (by simp only [List.set_cons_zero, List.set_cons_succ]; rfl) ?_
  refine ex_rs ttOK (by rfl) ?_
  refine rl_fieldAddr rfl tt_163 rfl rfl tt_3 rfl rfl ?_
  refine rl_load_ptr rfl tt_3 rfl rfl ?_
  refine rl_fieldAddr rfl tt_76 rfl rfl tt_3 rfl rfl ?_
  refine rl_store1 rfl rfl tt_3 rfl rfl rfl rfl rfl (by simp only [List.set_cons_zero, List.set_cons_succ]; rfl) ?_
  refine ex_rs ttOK (by rfl) ?_
  refine rl_fieldAddr rfl tt_163 rfl rfl tt_3 rfl rfl ?_
  refine rl_load_ptr rfl tt_3 rfl rfl ?_
  refine rl_fieldAddr rfl tt_76 rfl rfl tt_3 rfl rfl ?_
  refine rl_store1 rfl rfl tt_3 rfl rfl rfl rfl rfl (by simp only [List.set_cons_zero, List.set_cons_succ]; rfl) ?_
  refine ex_rs ttOK (by rfl) ?_
  refine rl_fieldAddr rfl tt_163 rfl rfl tt_3 rfl rfl ?_
  refine rl_load_ptr rfl tt_3 rfl rfl ?_
  refine rl_fieldAddr rfl tt_76 rfl rfl tt_3 rfl rfl ?_
  refine rl_store1 rfl rfl tt_3 rfl rfl rfl rfl rfl (by simp only [List.set_cons_zero, List.set_cons_succ]; rfl) ?_
  refine ex_rs ttOK (by rfl) ?_
  refine rl_fieldAddr rfl tt_163 rfl rfl tt_3 rfl rfl ?_
  refine rl_load_ptr rfl tt_3 rfl rfl ?_
  refine rl_fieldAddr rfl tt_76 rfl rfl tt_3 rfl rfl ?_
  refine rl_store1 rfl rfl tt_3 rfl rfl rfl rfl rfl (by simp only [List.set_cons_zero, List.set_cons_succ]; rfl) ?_
  refine ex_rs ttOK (by rfl) ?_
  refine rl_fieldAddr rfl tt_163 rfl rfl tt_3 rfl rfl ?_
  refine rl_load_ptr rfl tt_3 rfl rfl ?_
  refine rl_fieldAddr rfl tt_76 rfl rfl tt_3 rfl rfl ?_
  refine rl_store1 rfl rfl tt_3 rfl rfl rfl rfl rfl (by simp only [List.set_cons_zero, List.set_cons_succ]; rfl) ?_
  refine ex_rs ttOK (by rfl) ?_
  refine rl_fieldAddr rfl tt_163 rfl rfl tt_3 rfl rfl ?_
  refine rl_load_ptr rfl tt_3 rfl rfl ?_
  refine rl_fieldAddr rfl tt_76 rfl rfl tt_3 rfl rfl ?_
  refine rl_store1 rfl rfl tt_3 rfl rfl rfl rfl rfl (by simp only [List.set_cons_zero, List.set_cons_succ]; rfl) ?_
  refine ex_rs ttOK (by rfl) ?_
  refine rl_loadA_ptr rfl tt_76 rfl rfl rfl ?_
  refine rl_storeA rfl rfl tt_76 rfl rfl rfl rfl ?_
  refine ex_ret ⟨.inr rfl, ?_⟩
  exact ret_agg rfl rfl rfl rfl
theorem F_laws_toOut (e : Ou) : Pure Tryz.prog 185 [.agg (encOu e)] (.agg (encOu e)) := by
  refine pure_of_ex ttOK (fn := Tryz.f185) (by kernel_rfl) (by kernel_rfl) rfl (outs := [.agg (encOu e)]) (by rfl) (Nat.le_of_ble_eq_true rfl) 3 ?_
  refine ex_rs ttOK (by rfl) ?_
  refine rl_boxA (id := 0) rfl rfl rfl ?_
  refine rl_alloc (id := 1) tt_104 za_104 rfl ?_
  refine ex_rs ttOK (by rfl) ?_
  refine rl_alloc (id := 2) tt_104 za_104 rfl ?_
  refine ex_rs ttOK (by rfl) ?_
  refine rl_fieldAddr rfl tt_220 rfl rfl tt_3 rfl rfl ?_
  refine rl_load_ptr rfl tt_3 rfl rfl ?_
  refine rl_fieldAddr rfl tt_104 rfl rfl tt_3 rfl rfl ?_
  refine rl_store1 rfl rfl tt_3 rfl rfl rfl rfl rfl (by simp only [List.set_cons_zero, List.set_cons_succ]; rfl) ?_
  refine ex_rs ttOK (by rfl) ?_
  refine rl_fieldAddr rfl tt_220 rfl rfl tt_3 rfl rfl ?_
  refine rl_load_ptr rfl tt_3 rfl rfl ?_
  refine rl_fieldAddr rfl tt_104 rfl rfl tt_3 rfl rfl ?_
  refine rl_store1 rfl rfl tt_3 rfl rfl rfl rfl rfl (by simp only [List.set_cons_zero, List.set_cons_succ]; rfl) ?_
  refine ex_rs ttOK (by rfl) ?_
  refine rl_fieldAddr rfl tt_220 rfl rfl tt_3 rfl rfl ?_
  refine rl_load_ptr rfl tt_3 rfl rfl ?_
  refine rl_fieldAddr rfl tt_104 rfl rfl tt_3 rfl rfl ?_
  refine rl_store1 rfl rfl tt_3 rfl rfl rfl rfl rfl (by simp only [List.set_cons_zero, List.set_cons_succ]; rfl) ?_
  refine ex_rs ttOK (by rfl) ?_
  refine rl_fieldAddr rfl tt_220 rfl rfl tt_3 rfl rfl ?_
  refine rl_load_ptr rfl tt_3 rfl rfl ?_
  refine rl_fieldAddr rfl tt_104 rfl rfl tt_3 rfl rfl ?_
  refine rl_store1 rfl rfl tt_3 rfl rfl rfl rfl rfl (by simp only [List.set_cons_zero, List.set_cons_succ]; rfl) ?_
  refine ex_rs ttOK (by rfl) ?_
  refine rl_fieldAddr rfl tt_220 rfl rfl tt_3 rfl rfl ?_
  refine rl_load_ptr rfl tt_3 rfl rfl ?_
  refine rl_fieldAddr rfl tt_104 rfl rfl tt_3 rfl rfl ?_
  refine rl_store1 rfl rfl tt_3 rfl rfl rfl rfl rfl (by simp only [List.set_cons_zero, List.set_cons_succ]; rfl) ?_
  refine ex_rs ttOK (by rfl) ?_
  refine rl_loadA_ptr rfl tt_104 rfl rfl rfl ?_
  refine rl_storeA rfl rfl tt_104 rfl rfl rfl rfl ?_
  refine ex_ret ⟨.inr rfl, ?_⟩
  exact ret_agg rfl rfl rfl rfl
theorem F_laws_toState (e : St) : Pure Tryz.prog 227 [.agg (encSt e)] (.agg (encSt e)) := by
  refine pure_of_ex ttOK (fn := Tryz.f227) (by kernel_rfl) (by kernel_rfl) rfl (outs := [.agg (encSt e)]) (by rfl) (Nat.le_of_ble_eq_true rfl) 3 ?_
  refine ex_rs ttOK (by rfl) ?_
  refine rl_boxA (id := 0) rfl rfl rfl ?_
  refine rl_alloc (id := 1) tt_62 za_62 rfl ?_
  refine ex_rs ttOK (by rfl) ?_
  refine rl_alloc (id := 2) tt_62 za_62 rfl ?_
  refine ex_rs ttOK (by rfl) ?_
  refine rl_fieldAddr rfl tt_210 rfl rfl tt_3 rfl rfl ?_
  refine rl_load_ptr rfl tt_3 rfl rfl ?_
  refine rl_fieldAddr rfl tt_62 rfl rfl tt_3 rfl rfl ?_
  refine rl_store1 rfl rfl tt_3 rfl rfl rfl rfl rfl (by simp only [List.set_cons_zero, List.set_cons_succ]; rfl) ?_
  refine ex_rs ttOK (by rfl) ?_
  refine rl_fieldAddr rfl tt_210 rfl rfl tt_3 rfl rfl ?_
  refine rl_load_ptr rfl tt_3 rfl rfl ?_
  refine rl_fieldAddr rfl tt_62 rfl rfl tt_3 rfl rfl ?_
  refine rl_store1 rfl rfl tt_3 rfl rfl rfl rfl rfl (by simp only [List.set_cons_zero, List.set_cons_succ]; rfl) ?_
  refine ex_rs ttOK (by rfl) ?_
  refine rl_fieldAddr rfl tt_210 rfl rfl tt_3 rfl rfl ?_
  refine rl_load_ptr rfl tt_3 rfl rfl ?_
  refine rl_fieldAddr rfl tt_62 rfl rfl tt_3 rfl rfl ?_
  refine rl_store1 rfl rfl tt_3 rfl rfl rfl rfl rfl (by simp only [List.set_cons_zero, List.set_cons_succ]; rfl) ?_
  refine ex_rs ttOK (by rfl) ?_
  refine rl_loadA_ptr rfl tt_62 rfl rfl rfl ?_
  refine rl_storeA rfl rfl tt_62 rfl rfl rfl rfl ?_
  refine ex_ret ⟨.inr rfl, ?_⟩
  exact ret_agg rfl rfl rfl rfl
theorem F_laws_toEventS (c : Bool) (l : List Ev) (hl : l.length ≤ 1048576) : Meth Tryz.prog 53 1 [] [rEvs c l] [(0, (0, .dead))] (.ref 0 0) [(0, (0, .row 76 7 (l.map encEv)))] := by
  refine meth_of_ex ttOK (fn := Tryz.f53) (by kernel_rfl) (by kernel_rfl) rfl (O0 := [.ref 0 0]) 1 0 (Nat.le_of_ble_eq_true rfl) (by rfl) (by repeat (first | exact BndH.nil | refine BndH.dead ?_)) (by repeat (first | exact BndH.nil | refine BndH.row (flatR_map fun _ => rfl) ?_)) (by rfl) fun γ => ?_
  show Ex Tryz.prog _ _ [(0, rEvs c l)] [(0, ((γ 0), .dead))] _
  refine ex_rs ttOK (by rfl) ?_
  refine rl_assign rfl ?_
  refine ex_rs ttOK (by rfl) ?_
  refine rl_move rfl ?_
  refine rl_lenm rfl tt_38 rfl ?_
  refine rl_make (id := 0) tt_24 rfl tt_76 za_76 rfl rfl rfl rfl (by (simp only [List.length_map, List.length_append, List.length_cons, List.length_nil, List.length_take, T76]; omega)) rfl ?_
  refine rl_assign rfl ?_
  refine ex_seq_k fun K1 hK1 => ?_
  refine ex_rs ttOK (by rfl) ?_
  refine rl_assign rfl ?_
  refine ex_block ?_
  refine ex_loopK (ι := Nat) (fun i γ1 => [(4, .pv (.int .i64 (i : Int)))]) (fun i γ1 => [(0, ((γ 0 + 1), .row 76 7 ((l.take i).map encEv ++ (l.drop i).map fun _ => [pI 0, pI 0, pI 0, pI 0, pI 0, pI 0, pI 0])))]) (fun i => i ≤ l.length) (fun i => l.length - i) (Cov.cons (t := 0) rfl (Cov.cons (t := 3) rfl Cov.nil)) HE.nil 0 (by omega) [] (Cov.cons (t := 4) rfl Cov.nil) (HE.row rfl (by rw [List.take_zero, List.drop_zero, List.map_const']; rfl) HE.nil) rfl fun i γ1 hi => ?_
  try dsimp only [List.cons_append, List.nil_append]
  refine ex_seq_k fun K2 hK2 => ?_
  refine ex_rs ttOK (by rfl) ?_
  refine rl_move rfl ?_
  refine rl_move rfl ?_
  refine rl_lenm rfl tt_38 rfl ?_
  refine rl_bin rfl rfl rfl ?_
  refine ex_cond rfl (fun hc3 => ?_) (fun hc3 => ?_)
  rotate_left
  · try simp at hc3
    obtain rfl : i = l.length := by omega
    refine ex_exit ?_
    refine hK1 _ _ ?_
    clear hK2 K2 hK1 K1
    refine ex_rs ttOK (by rfl) ?_
    refine rl_move rfl ?_
    refine rl_assign rfl ?_
    refine ex_ret ?_
    exact ⟨.inr rfl, [_], rfl, rfl, HE.row rfl (by rw [List.take_length, List.drop_length, List.map_nil, List.append_nil]) HE.nil⟩
  try simp at hc3
  obtain ⟨p, hp⟩ : ∃ p, l[i]? = some p := ⟨_, List.getElem?_eq_getElem (by omega)⟩
  have hAl : ((l.take i).map encEv).length = i := by rw [List.length_map, List.length_take]; omega
  rw [drop_cons hp, List.map_cons]
  refine ex_skip ?_
  refine hK2 _ _ ?_
  clear hK2 K2
  refine ex_seq_k fun K4 hK4 => ?_
  refine ex_block ?_
  refine ex_region ttOK (by rfl) ?_
  refine rl_move rfl ?_
  refine rl_move rfl ?_
  refine rl_move rfl ?_
  refine rl_move rfl ?_
  refine rl_idxm rfl rfl tt_38 rfl tt_163 rfl (by assumption) ?_
  refine rl_loadA_iel rfl tt_163 rfl rfl ?_
  refine rl_call rfl rfl rfl (F_laws_toEvent p) ?_
  refine rl_idxM rfl rfl tt_24 rfl tt_76 rfl rfl hAl ?_
  refine rl_storeMA hAl rfl rfl tt_76 rfl rfl rfl rfl (abs_ints _) rfl ?_
  refine hK4 _ _ ?_
  clear hK4 K4
  refine ex_region ttOK (by rfl) ?_
  refine rl_move rfl ?_
  refine rl_bin rfl rfl rfl ?_
  refine rl_assign rfl ?_
  exact ⟨i + 1, ⟨by omega, by omega⟩, [], (Cov.cons' (t := 4) rfl (by rw [wrap_small (by omega) (by omega)]; rfl) Cov.nil), (Cov.cons (t := 0) rfl (Cov.cons (t := 3) rfl Cov.nil)), (HE.row rfl (by rw [take_snoc hp, List.map_append, List.append_assoc]; rfl) HE.nil), HE.nil, rfl⟩
theorem F_laws_toOutS (c : Bool) (l : List Ou) (hl : l.length ≤ 1048576) : Meth Tryz.prog 101 1 [] [rOus c l] [(0, (0, .dead))] (.ref 0 0) [(0, (0, .row 104 5 (l.map encOu)))] := by
  refine meth_of_ex ttOK (fn := Tryz.f101) (by kernel_rfl) (by kernel_rfl) rfl (O0 := [.ref 0 0]) 1 0 (Nat.le_of_ble_eq_true rfl) (by rfl) (by repeat (first | exact BndH.nil | refine BndH.dead ?_)) (by repeat (first | exact BndH.nil | refine BndH.row (flatR_map fun _ => rfl) ?_)) (by rfl) fun γ => ?_
  show Ex Tryz.prog _ _ [(0, rOus c l)] [(0, ((γ 0), .dead))] _
  refine ex_rs ttOK (by rfl) ?_
  refine rl_assign rfl ?_
  refine ex_rs ttOK (by rfl) ?_
  refine rl_move rfl ?_
  refine rl_lenm rfl tt_39 rfl ?_
  refine rl_make (id := 0) tt_25 rfl tt_104 za_104 rfl rfl rfl rfl (by (simp only [List.length_map, List.length_append, List.length_cons, List.length_nil, List.length_take, T104]; omega)) rfl ?_
  refine rl_assign rfl ?_
  refine ex_seq_k fun K1 hK1 => ?_
  refine ex_rs ttOK (by rfl) ?_
  refine rl_assign rfl ?_
  refine ex_block ?_
  refine ex_loopK (ι := Nat) (fun i γ1 => [(4, .pv (.int .i64 (i : Int)))]) (fun i γ1 => [(0, ((γ 0 + 1), .row 104 5 ((l.take i).map encOu ++ (l.drop i).map fun _ => [pI 0, pI 0, pI 0, pI 0, pI 0])))]) (fun i => i ≤ l.length) (fun i => l.length - i) (Cov.cons (t := 0) rfl (Cov.cons (t := 3) rfl Cov.nil)) HE.nil 0 (by omega) [] (Cov.cons (t := 4) rfl Cov.nil) (HE.row rfl (by rw [List.take_zero, List.drop_zero, List.map_const']; rfl) HE.nil) rfl fun i γ1 hi => ?_
  try dsimp only [List.cons_append, List.nil_append]
  refine ex_seq_k fun K2 hK2 => ?_
  refine ex_rs ttOK (by rfl) ?_
  refine rl_move rfl ?_
  refine rl_move rfl ?_
  refine rl_lenm rfl tt_39 rfl ?_
  refine rl_bin rfl rfl rfl ?_
  refine ex_cond rfl (fun hc3 => ?_) (fun hc3 => ?_)
  rotate_left
  · try simp at hc3
    obtain rfl : i = l.length := by omega
    refine ex_exit ?_
    refine hK1 _ _ ?_
    clear hK2 K2 hK1 K1
    refine ex_rs ttOK (by rfl) ?_
    refine rl_move rfl ?_
    refine rl_assign rfl ?_
    refine ex_ret ?_
    exact ⟨.inr rfl, [_], rfl, rfl, HE.row rfl (by rw [List.take_length, List.drop_length, List.map_nil, List.append_nil]) HE.nil⟩
  try simp at hc3
  obtain ⟨p, hp⟩ : ∃ p, l[i]? = some p := ⟨_, List.getElem?_eq_getElem (by omega)⟩
  have hAl : ((l.take i).map encOu).length = i := by rw [List.length_map, List.length_take]; omega
  rw [drop_cons hp, List.map_cons]
  refine ex_skip ?_
  refine hK2 _ _ ?_
  clear hK2 K2
  refine ex_seq_k fun K4 hK4 => ?_
  refine ex_block ?_
  refine ex_region ttOK (by rfl) ?_
  refine rl_move rfl ?_
  refine rl_move rfl ?_
  refine rl_move rfl ?_
  refine rl_move rfl ?_
  refine rl_idxm rfl rfl tt_39 rfl tt_220 rfl (by assumption) ?_
  refine rl_loadA_iel rfl tt_220 rfl rfl ?_
  refine rl_call rfl rfl rfl (F_laws_toOut p) ?_
  refine rl_idxM rfl rfl tt_25 rfl tt_104 rfl rfl hAl ?_
  refine rl_storeMA hAl rfl rfl tt_104 rfl rfl rfl rfl (abs_ints _) rfl ?_
  refine hK4 _ _ ?_
  clear hK4 K4
  refine ex_region ttOK (by rfl) ?_
  refine rl_move rfl ?_
  refine rl_bin rfl rfl rfl ?_
  refine rl_assign rfl ?_
  exact ⟨i + 1, ⟨by omega, by omega⟩, [], (Cov.cons' (t := 4) rfl (by rw [wrap_small (by omega) (by omega)]; rfl) Cov.nil), (Cov.cons (t := 0) rfl (Cov.cons (t := 3) rfl Cov.nil)), (HE.row rfl (by rw [take_snoc hp, List.map_append, List.append_assoc]; rfl) HE.nil), HE.nil, rfl⟩
theorem F_laws_toPast (c : Bool) (p : Pa) (hs : p.sends.length ≤ 1048576) (ho : p.outs.length ≤ 1048576) : Meth Tryz.prog 253 2 [] [.agg (encPa c p)] [(0, (0, .dead)), (1, (0, .dead))] (.agg [pI p.ev.time, pI p.ev.to, pI p.ev.from', pI p.ev.count, pI p.ev.n, pI p.ev.kind, pI p.ev.arg, pI p.after.x, pI p.after.y, pI p.after.count, .ref 0 0, .ref 1 0]) [(0, (0, .row 76 7 (p.sends.map encEv))), (1, (0, .row 104 5 (p.outs.map encOu)))] := by
  refine meth_of_ex ttOK (fn := Tryz.f253) (by kernel_rfl) (by kernel_rfl) rfl (O0 := [.agg [pI p.ev.time, pI p.ev.to, pI p.ev.from', pI p.ev.count, pI p.ev.n, pI p.ev.kind, pI p.ev.arg, pI p.after.x, pI p.after.y, pI p.after.count, .ref 0 0, .ref 1 0]]) 2 3 (Nat.le_of_ble_eq_true rfl) (by rfl) (by repeat (first | exact BndH.nil | refine BndH.dead ?_)) (by repeat (first | exact BndH.nil | refine BndH.row (flatR_map fun _ => rfl) ?_)) (by rfl) fun γ => ?_
  show Ex Tryz.prog _ _ [(0, .agg (encPa c p))] [(0, ((γ 0), .dead)), (1, ((γ 1), .dead)), (4, (0, .dead)), (3, (0, .dead)), (2, (0, .dead))] _
  refine ex_rs ttOK (by rfl) ?_
  refine rl_boxA (id := 2) rfl rfl rfl ?_
  refine rl_alloc (id := 3) tt_78 za_78 rfl ?_
  refine ex_rs ttOK (by rfl) ?_
  refine rl_alloc (id := 4) tt_78 za_78 rfl ?_
  refine ex_rs ttOK (by rfl) ?_
  refine rl_fieldAddr rfl tt_282 rfl rfl tt_163 rfl rfl ?_
  refine rl_load_ptr (out := .agg (encEv p.ev)) rfl tt_163 rfl rfl ?_
  refine rl_call rfl rfl rfl (F_laws_toEvent ..) ?_
  refine rl_fieldAddr rfl tt_78 rfl rfl tt_76 rfl rfl ?_
  refine rl_store_ptr (cs' := [pI p.ev.time, pI p.ev.to, pI p.ev.from', pI p.ev.count, pI p.ev.n, pI p.ev.kind, pI p.ev.arg, pI 0, pI 0, pI 0, .pv (.slice none 0 0), .pv (.slice none 0 0)]) rfl rfl tt_76 rfl rfl rfl rfl (Nat.le_of_ble_eq_true rfl) rfl ?_
  refine ex_rs ttOK (by rfl) ?_
  refine rl_fieldAddr rfl tt_282 rfl rfl tt_210 rfl rfl ?_
  refine rl_load_ptr (out := .agg (encSt p.after)) rfl tt_210 rfl rfl ?_
  refine rl_call rfl rfl rfl (F_laws_toState ..) ?_
  refine rl_fieldAddr rfl tt_78 rfl rfl tt_62 rfl rfl ?_
  refine rl_store_ptr (cs' := [pI p.ev.time, pI p.ev.to, pI p.ev.from', pI p.ev.count, pI p.ev.n, pI p.ev.kind, pI p.ev.arg, pI p.after.x, pI p.after.y, pI p.after.count, .pv (.slice none 0 0), .pv (.slice none 0 0)]) rfl rfl tt_62 rfl rfl rfl rfl (Nat.le_of_ble_eq_true rfl) rfl ?_
  refine ex_rs ttOK (by rfl) ?_
  refine rl_fieldAddr rfl tt_282 rfl rfl tt_38 rfl rfl ?_
  refine rl_load_ptr rfl tt_38 rfl rfl ?_
  refine rl_meth [0] [_] (F_laws_toEventS c p.sends hs) rfl rfl rfl (by decide) rfl rfl (by repeat (first | exact InH.nil | refine InH.cons rfl ?_)) (by (simp only [pI, List.map_cons, List.map_nil, insAll, insEnc, gl, nx, memN, Nat.beq, Nat.add_eq, List.getD_cons_zero, List.getD_cons_succ, List.getD_nil, Bool.or_false, Bool.false_or, Bool.true_or, Bool.or_true, Nat.add_zero, Nat.zero_add]; rfl)) (by (simp only [pI, List.map_cons, List.map_nil, insAll, insEnc, gl, nx, memN, Nat.beq, Nat.add_eq, List.getD_cons_zero, List.getD_cons_succ, List.getD_nil, Bool.or_false, Bool.false_or, Bool.true_or, Bool.or_true, Nat.add_zero, Nat.zero_add]; rfl)) ?_
  refine rl_fieldAddr rfl tt_78 rfl rfl tt_24 rfl rfl ?_
  refine rl_store1 rfl rfl tt_24 rfl rfl rfl rfl rfl (by simp only [List.set_cons_zero, List.set_cons_succ]; rfl) ?_
  refine ex_rs ttOK (by rfl) ?_
  refine rl_fieldAddr rfl tt_282 rfl rfl tt_39 rfl rfl ?_
  refine rl_load_ptr rfl tt_39 rfl rfl ?_
  refine rl_meth [1] [_] (F_laws_toOutS c p.outs ho) rfl rfl rfl (by decide) rfl rfl (by repeat (first | exact InH.nil | refine InH.cons rfl ?_)) (by (simp only [pI, List.map_cons, List.map_nil, insAll, insEnc, gl, nx, memN, Nat.beq, Nat.add_eq, List.getD_cons_zero, List.getD_cons_succ, List.getD_nil, Bool.or_false, Bool.false_or, Bool.true_or, Bool.or_true, Nat.add_zero, Nat.zero_add]; rfl)) (by (simp only [pI, List.map_cons, List.map_nil, insAll, insEnc, gl, nx, memN, Nat.beq, Nat.add_eq, List.getD_cons_zero, List.getD_cons_succ, List.getD_nil, Bool.or_false, Bool.false_or, Bool.true_or, Bool.or_true, Nat.add_zero, Nat.zero_add]; rfl)) ?_
  refine rl_fieldAddr rfl tt_78 rfl rfl tt_25 rfl rfl ?_
  refine rl_store1 rfl rfl tt_25 rfl rfl rfl rfl rfl (by simp only [List.set_cons_zero, List.set_cons_succ]; rfl) ?_
  refine ex_rs ttOK (by rfl) ?_
  refine rl_loadA_ptr rfl tt_78 rfl rfl rfl ?_
  refine rl_storeA rfl rfl tt_78 rfl rfl rfl rfl ?_
  refine ex_ret ?_
  exact ⟨.inr rfl, [_, _], rfl, rfl, HE.row rfl rfl (HE.row rfl rfl HE.nil)⟩
theorem F_laws_toPastS (c : Bool) (l : List Pa) (hl : cPas l ≤ 1048576) : Meth Tryz.prog 228 1 [] [rPas c l] [(0, (0, .dead))] (.ref 0 0) [(0, (0, .row 78 12 (l.map encPaO)))] := by
  refine meth_of_ex ttOK (fn := Tryz.f228) (by kernel_rfl) (by kernel_rfl) rfl (O0 := [.ref 0 0]) 1 2 (Nat.le_of_ble_eq_true rfl) (by rfl) (by repeat (first | exact BndH.nil | refine BndH.dead ?_)) (by repeat (first | exact BndH.nil | refine BndH.row (flatR_map fun _ => rfl) ?_)) (by rfl) fun γ => ?_
  show Ex Tryz.prog _ _ [(0, rPas c l)] [(0, ((γ 0), .dead)), (2, (0, .dead)), (1, (0, .dead))] _
  have hc : cPas l = l.length + szs cPa l := rfl
  refine ex_rs ttOK (by rfl) ?_
  refine rl_assign rfl ?_
  refine ex_rs ttOK (by rfl) ?_
  refine rl_move rfl ?_
  refine rl_lenm rfl tt_211 rfl ?_
  refine rl_make (id := 0) tt_63 rfl tt_78 za_78 rfl rfl rfl rfl (by (simp only [List.length_map, List.length_append, List.length_cons, List.length_nil, List.length_take, T78]; omega)) rfl ?_
  refine rl_assign rfl ?_
  refine ex_seq_k fun K1 hK1 => ?_
  refine ex_rs ttOK (by rfl) ?_
  refine rl_assign rfl ?_
  refine ex_block ?_
  refine ex_loopK (ι := Nat) (fun i γ1 => [(4, .pv (.int .i64 (i : Int)))]) (fun i γ1 => [(1, ((γ1 1), .dead)), (2, ((γ1 2), .dead)), (0, ((γ 0 + 1), .row 78 12 ((l.take i).map encPaO ++ (l.drop i).map fun _ => [pI 0, pI 0, pI 0, pI 0, pI 0, pI 0, pI 0, pI 0, pI 0, pI 0, .pv (.slice none 0 0), .pv (.slice none 0 0)])))]) (fun i => i ≤ l.length) (fun i => l.length - i) (Cov.cons (t := 0) rfl (Cov.cons (t := 3) rfl Cov.nil)) HE.nil 0 (by omega) [0, _, _] (Cov.cons (t := 4) rfl Cov.nil) (HE.kill rfl (HE.kill rfl (HE.row rfl (by rw [List.take_zero, List.drop_zero, List.map_const']; rfl) HE.nil))) rfl fun i γ1 hi => ?_
  try dsimp only [List.cons_append, List.nil_append]
  refine ex_seq_k fun K2 hK2 => ?_
  refine ex_rs ttOK (by rfl) ?_
  refine rl_move rfl ?_
  refine rl_move rfl ?_
  refine rl_lenm rfl tt_211 rfl ?_
  refine rl_bin rfl rfl rfl ?_
  refine ex_cond rfl (fun hc3 => ?_) (fun hc3 => ?_)
  rotate_left
  · try simp at hc3
    obtain rfl : i = l.length := by omega
    refine ex_exit ?_
    refine hK1 _ _ ?_
    clear hK2 K2 hK1 K1
    refine ex_rs ttOK (by rfl) ?_
    refine rl_move rfl ?_
    refine rl_assign rfl ?_
    refine ex_ret ?_
    exact ⟨.inr rfl, [_], rfl, rfl, HE.row rfl (by rw [List.take_length, List.drop_length, List.map_nil, List.append_nil]) HE.nil⟩
  try simp at hc3
  obtain ⟨p, hp⟩ : ∃ p, l[i]? = some p := ⟨_, List.getElem?_eq_getElem (by omega)⟩
  have hAl : ((l.take i).map encPaO).length = i := by rw [List.length_map, List.length_take]; omega
  rw [drop_cons hp, List.map_cons]
  have hat := szs_at cPa hp
  have hcp : cPa p = p.sends.length + p.outs.length := rfl
  refine ex_skip ?_
  refine hK2 _ _ ?_
  clear hK2 K2
  refine ex_seq_k fun K4 hK4 => ?_
  refine ex_block ?_
  refine ex_region ttOK (by rfl) ?_
  refine rl_move rfl ?_
  refine rl_move rfl ?_
  refine rl_move rfl ?_
  refine rl_move rfl ?_
  refine rl_idxm rfl rfl tt_211 rfl tt_282 rfl (by assumption) ?_
  refine rl_loadA_iel rfl tt_282 rfl rfl ?_
  refine rl_meth [1, 2] [_, _] (F_laws_toPast c p (by omega) (by omega)) rfl rfl rfl (by decide) rfl rfl (by repeat (first | exact InH.nil | refine InH.cons rfl ?_)) (by (simp only [pI, List.map_cons, List.map_nil, insAll, insEnc, gl, nx, memN, Nat.beq, Nat.add_eq, List.getD_cons_zero, List.getD_cons_succ, List.getD_nil, Bool.or_false, Bool.false_or, Bool.true_or, Bool.or_true, Nat.add_zero, Nat.zero_add]; rfl)) (by (simp only [pI, List.map_cons, List.map_nil, insAll, insEnc, gl, nx, memN, Nat.beq, Nat.add_eq, List.getD_cons_zero, List.getD_cons_succ, List.getD_nil, Bool.or_false, Bool.false_or, Bool.true_or, Bool.or_true, Nat.add_zero, Nat.zero_add]; rfl)) ?_
  refine rl_idxM rfl rfl tt_63 rfl tt_78 rfl rfl hAl ?_
  refine rl_storeMA hAl rfl rfl tt_78 rfl rfl rfl rfl (abs_pa rfl rfl rfl) rfl ?_
  refine hK4 _ _ ?_
  clear hK4 K4
  refine ex_region ttOK (by rfl) ?_
  refine rl_move rfl ?_
  refine rl_bin rfl rfl rfl ?_
  refine rl_assign rfl ?_
  exact ⟨i + 1, ⟨by omega, by omega⟩, [0, _, _], (Cov.cons' (t := 4) rfl (by rw [wrap_small (by omega) (by omega)]; rfl) Cov.nil), (Cov.cons (t := 0) rfl (Cov.cons (t := 3) rfl Cov.nil)), (HE.kill rfl (HE.kill rfl (HE.row rfl (by rw [take_snoc hp, List.map_append, List.append_assoc]; rfl) HE.nil))), HE.nil, rfl⟩
theorem F_laws_toLane (c : Bool) (p : La) (hs : cPas p.done ≤ 1048576) : Meth Tryz.prog 184 1 [] [.agg (encLa c p)] [(0, (0, .dead))] (.agg [pI p.proc, pI p.base.x, pI p.base.y, pI p.base.count, .ref 0 0]) [(0, (0, .row 78 12 (p.done.map encPaO)))] := by
  refine meth_of_ex ttOK (fn := Tryz.f184) (by kernel_rfl) (by kernel_rfl) rfl (O0 := [.agg [pI p.proc, pI p.base.x, pI p.base.y, pI p.base.count, .ref 0 0]]) 1 3 (Nat.le_of_ble_eq_true rfl) (by rfl) (by repeat (first | exact BndH.nil | refine BndH.dead ?_)) (by repeat (first | exact BndH.nil | refine BndH.row (flatR_map fun _ => rfl) ?_)) (by rfl) fun γ => ?_
  show Ex Tryz.prog _ _ [(0, .agg (encLa c p))] [(0, ((γ 0), .dead)), (3, (0, .dead)), (2, (0, .dead)), (1, (0, .dead))] _
  refine ex_rs ttOK (by rfl) ?_
  refine rl_boxA (id := 1) rfl rfl rfl ?_
  refine rl_alloc (id := 2) tt_65 za_65 rfl ?_
  refine ex_rs ttOK (by rfl) ?_
  refine rl_alloc (id := 3) tt_65 za_65 rfl ?_
  refine ex_rs ttOK (by rfl) ?_
  refine rl_fieldAddr rfl tt_213 rfl rfl tt_3 rfl rfl ?_
  refine rl_load_ptr rfl tt_3 rfl rfl ?_
  refine rl_fieldAddr rfl tt_65 rfl rfl tt_3 rfl rfl ?_
  refine rl_store1 rfl rfl tt_3 rfl rfl rfl rfl rfl (by simp only [List.set_cons_zero, List.set_cons_succ]; rfl) ?_
  refine ex_rs ttOK (by rfl) ?_
  refine rl_fieldAddr rfl tt_213 rfl rfl tt_210 rfl rfl ?_
  refine rl_load_ptr (out := .agg (encSt p.base)) rfl tt_210 rfl rfl ?_
  refine rl_call rfl rfl rfl (F_laws_toState ..) ?_
  refine rl_fieldAddr rfl tt_65 rfl rfl tt_62 rfl rfl ?_
  refine rl_store_ptr (cs' := [pI p.proc, pI p.base.x, pI p.base.y, pI p.base.count, .pv (.slice none 0 0)]) rfl rfl tt_62 rfl rfl rfl rfl (Nat.le_of_ble_eq_true rfl) rfl ?_
  refine ex_rs ttOK (by rfl) ?_
  refine rl_fieldAddr rfl tt_213 rfl rfl tt_211 rfl rfl ?_
  refine rl_load_ptr rfl tt_211 rfl rfl ?_
  refine rl_meth [0] [_] (F_laws_toPastS c p.done hs) rfl rfl rfl (by decide) rfl rfl (by repeat (first | exact InH.nil | refine InH.cons rfl ?_)) (by (simp only [pI, List.map_cons, List.map_nil, insAll, insEnc, gl, nx, memN, Nat.beq, Nat.add_eq, List.getD_cons_zero, List.getD_cons_succ, List.getD_nil, Bool.or_false, Bool.false_or, Bool.true_or, Bool.or_true, Nat.add_zero, Nat.zero_add]; rfl)) (by (simp only [pI, List.map_cons, List.map_nil, insAll, insEnc, gl, nx, memN, Nat.beq, Nat.add_eq, List.getD_cons_zero, List.getD_cons_succ, List.getD_nil, Bool.or_false, Bool.false_or, Bool.true_or, Bool.or_true, Nat.add_zero, Nat.zero_add]; rfl)) ?_
  refine rl_fieldAddr rfl tt_65 rfl rfl tt_63 rfl rfl ?_
  refine rl_store1 rfl rfl tt_63 rfl rfl rfl rfl rfl (by simp only [List.set_cons_zero, List.set_cons_succ]; rfl) ?_
  refine ex_rs ttOK (by rfl) ?_
  refine rl_loadA_ptr rfl tt_65 rfl rfl rfl ?_
  refine rl_storeA rfl rfl tt_65 rfl rfl rfl rfl ?_
  refine ex_ret ?_
  exact ⟨.inr rfl, [_], rfl, rfl, HE.row rfl rfl HE.nil⟩
theorem F_laws_toLaneS (c : Bool) (l : List La) (hl : cLas l ≤ 1048576) : Meth Tryz.prog 100 1 [] [rLas c l] [(0, (0, .dead))] (.ref 0 0) [(0, (0, .row 65 5 (l.map encLaO)))] := by
  refine meth_of_ex ttOK (fn := Tryz.f100) (by kernel_rfl) (by kernel_rfl) rfl (O0 := [.ref 0 0]) 1 1 (Nat.le_of_ble_eq_true rfl) (by rfl) (by repeat (first | exact BndH.nil | refine BndH.dead ?_)) (by repeat (first | exact BndH.nil | refine BndH.row (flatR_map fun _ => rfl) ?_)) (by rfl) fun γ => ?_
  show Ex Tryz.prog _ _ [(0, rLas c l)] [(0, ((γ 0), .dead)), (1, (0, .dead))] _
  have hc : cLas l = l.length + szs cLa l := rfl
  refine ex_rs ttOK (by rfl) ?_
  refine rl_assign rfl ?_
  refine ex_rs ttOK (by rfl) ?_
  refine rl_move rfl ?_
  refine rl_lenm rfl tt_37 rfl ?_
  refine rl_make (id := 0) tt_23 rfl tt_65 za_65 rfl rfl rfl rfl (by (simp only [List.length_map, List.length_append, List.length_cons, List.length_nil, List.length_take, T65]; omega)) rfl ?_
  refine rl_assign rfl ?_
  refine ex_seq_k fun K1 hK1 => ?_
  refine ex_rs ttOK (by rfl) ?_
  refine rl_assign rfl ?_
  refine ex_block ?_
  refine ex_loopK (ι := Nat) (fun i γ1 => [(4, .pv (.int .i64 (i : Int)))]) (fun i γ1 => [(1, ((γ1 1), .dead)), (0, ((γ 0 + 1), .row 65 5 ((l.take i).map encLaO ++ (l.drop i).map fun _ => [pI 0, pI 0, pI 0, pI 0, .pv (.slice none 0 0)])))]) (fun i => i ≤ l.length) (fun i => l.length - i) (Cov.cons (t := 0) rfl (Cov.cons (t := 3) rfl Cov.nil)) HE.nil 0 (by omega) [0, _] (Cov.cons (t := 4) rfl Cov.nil) (HE.kill rfl (HE.row rfl (by rw [List.take_zero, List.drop_zero, List.map_const']; rfl) HE.nil)) rfl fun i γ1 hi => ?_
  try dsimp only [List.cons_append, List.nil_append]
  refine ex_seq_k fun K2 hK2 => ?_
  refine ex_rs ttOK (by rfl) ?_
  refine rl_move rfl ?_
  refine rl_move rfl ?_
  refine rl_lenm rfl tt_37 rfl ?_
  refine rl_bin rfl rfl rfl ?_
  refine ex_cond rfl (fun hc3 => ?_) (fun hc3 => ?_)
  rotate_left
  · try simp at hc3
    obtain rfl : i = l.length := by omega
    refine ex_exit ?_
    refine hK1 _ _ ?_
    clear hK2 K2 hK1 K1
    refine ex_rs ttOK (by rfl) ?_
    refine rl_move rfl ?_
    refine rl_assign rfl ?_
    refine ex_ret ?_
    exact ⟨.inr rfl, [_], rfl, rfl, HE.row rfl (by rw [List.take_length, List.drop_length, List.map_nil, List.append_nil]) HE.nil⟩
  try simp at hc3
  obtain ⟨p, hp⟩ : ∃ p, l[i]? = some p := ⟨_, List.getElem?_eq_getElem (by omega)⟩
  have hAl : ((l.take i).map encLaO).length = i := by rw [List.length_map, List.length_take]; omega
  rw [drop_cons hp, List.map_cons]
  have hat := szs_at cLa hp
  have hcp : cLa p = cPas p.done := rfl
  refine ex_skip ?_
  refine hK2 _ _ ?_
  clear hK2 K2
  refine ex_seq_k fun K4 hK4 => ?_
  refine ex_block ?_
  refine ex_region ttOK (by rfl) ?_
  refine rl_move rfl ?_
  refine rl_move rfl ?_
  refine rl_move rfl ?_
  refine rl_move rfl ?_
  refine rl_idxm rfl rfl tt_37 rfl tt_213 rfl (by assumption) ?_
  refine rl_loadA_iel rfl tt_213 rfl rfl ?_
  refine rl_meth [1] [_] (F_laws_toLane c p (by omega)) rfl rfl rfl (by decide) rfl rfl (by repeat (first | exact InH.nil | refine InH.cons rfl ?_)) (by (simp only [pI, List.map_cons, List.map_nil, insAll, insEnc, gl, nx, memN, Nat.beq, Nat.add_eq, List.getD_cons_zero, List.getD_cons_succ, List.getD_nil, Bool.or_false, Bool.false_or, Bool.true_or, Bool.or_true, Nat.add_zero, Nat.zero_add]; rfl)) (by (simp only [pI, List.map_cons, List.map_nil, insAll, insEnc, gl, nx, memN, Nat.beq, Nat.add_eq, List.getD_cons_zero, List.getD_cons_succ, List.getD_nil, Bool.or_false, Bool.false_or, Bool.true_or, Bool.or_true, Nat.add_zero, Nat.zero_add]; rfl)) ?_
  refine rl_idxM rfl rfl tt_23 rfl tt_65 rfl rfl hAl ?_
  refine rl_storeMA hAl rfl rfl tt_65 rfl rfl rfl rfl (abs_la rfl) rfl ?_
  refine hK4 _ _ ?_
  clear hK4 K4
  refine ex_region ttOK (by rfl) ?_
  refine rl_move rfl ?_
  refine rl_bin rfl rfl rfl ?_
  refine rl_assign rfl ?_
  exact ⟨i + 1, ⟨by omega, by omega⟩, [0, _], (Cov.cons' (t := 4) rfl (by rw [wrap_small (by omega) (by omega)]; rfl) Cov.nil), (Cov.cons (t := 0) rfl (Cov.cons (t := 3) rfl Cov.nil)), (HE.kill rfl (HE.row rfl (by rw [take_snoc hp, List.map_append, List.append_assoc]; rfl) HE.nil)), HE.nil, rfl⟩
theorem F_laws_toView (c : Bool) (p : Vi) (hs : p.events.length ≤ 1048576) : Meth Tryz.prog 186 1 [] [.agg (encVi c p)] [(0, (0, .dead))] (.agg [pI p.inc, pI p.version, .ref 0 0]) [(0, (0, .row 76 7 (p.events.map encEv)))] := by
  refine meth_of_ex ttOK (fn := Tryz.f186) (by kernel_rfl) (by kernel_rfl) rfl (O0 := [.agg [pI p.inc, pI p.version, .ref 0 0]]) 1 3 (Nat.le_of_ble_eq_true rfl) (by rfl) (by repeat (first | exact BndH.nil | refine BndH.dead ?_)) (by repeat (first | exact BndH.nil | refine BndH.row (flatR_map fun _ => rfl) ?_)) (by rfl) fun γ => ?_
  show Ex Tryz.prog _ _ [(0, .agg (encVi c p))] [(0, ((γ 0), .dead)), (3, (0, .dead)), (2, (0, .dead)), (1, (0, .dead))] _
  refine ex_rs ttOK (by rfl) ?_
  refine rl_boxA (id := 1) rfl rfl rfl ?_
  refine rl_alloc (id := 2) tt_141 za_141 rfl ?_
  refine ex_rs ttOK (by rfl) ?_
  refine rl_alloc (id := 3) tt_141 za_141 rfl ?_
  refine ex_rs ttOK (by rfl) ?_
  refine rl_fieldAddr rfl tt_216 rfl rfl tt_3 rfl rfl ?_
  refine rl_load_ptr rfl tt_3 rfl rfl ?_
  refine rl_fieldAddr rfl tt_141 rfl rfl tt_3 rfl rfl ?_
  refine rl_store1 rfl rfl tt_3 rfl rfl rfl rfl rfl (by simp only [List.set_cons_zero, List.set_cons_succ]; rfl) ?_
  refine ex_rs ttOK (by rfl) ?_
  refine rl_fieldAddr rfl tt_216 rfl rfl tt_3 rfl rfl ?_
  refine rl_load_ptr rfl tt_3 rfl rfl ?_
  refine rl_fieldAddr rfl tt_141 rfl rfl tt_3 rfl rfl ?_
  refine rl_store1 rfl rfl tt_3 rfl rfl rfl rfl rfl (by simp only [List.set_cons_zero, List.set_cons_succ]; rfl) ?_
  refine ex_rs ttOK (by rfl) ?_
  refine rl_fieldAddr rfl tt_216 rfl rfl tt_38 rfl rfl ?_
  refine rl_load_ptr rfl tt_38 rfl rfl ?_
  refine rl_meth [0] [_] (F_laws_toEventS c p.events hs) rfl rfl rfl (by decide) rfl rfl (by repeat (first | exact InH.nil | refine InH.cons rfl ?_)) (by (simp only [pI, List.map_cons, List.map_nil, insAll, insEnc, gl, nx, memN, Nat.beq, Nat.add_eq, List.getD_cons_zero, List.getD_cons_succ, List.getD_nil, Bool.or_false, Bool.false_or, Bool.true_or, Bool.or_true, Nat.add_zero, Nat.zero_add]; rfl)) (by (simp only [pI, List.map_cons, List.map_nil, insAll, insEnc, gl, nx, memN, Nat.beq, Nat.add_eq, List.getD_cons_zero, List.getD_cons_succ, List.getD_nil, Bool.or_false, Bool.false_or, Bool.true_or, Bool.or_true, Nat.add_zero, Nat.zero_add]; rfl)) ?_
  refine rl_fieldAddr rfl tt_141 rfl rfl tt_24 rfl rfl ?_
  refine rl_store1 rfl rfl tt_24 rfl rfl rfl rfl rfl (by simp only [List.set_cons_zero, List.set_cons_succ]; rfl) ?_
  refine ex_rs ttOK (by rfl) ?_
  refine rl_loadA_ptr rfl tt_141 rfl rfl rfl ?_
  refine rl_storeA rfl rfl tt_141 rfl rfl rfl rfl ?_
  refine ex_ret ?_
  exact ⟨.inr rfl, [_], rfl, rfl, HE.row rfl rfl HE.nil⟩
theorem F_laws_toViewS (c : Bool) (l : List Vi) (hl : cVis l ≤ 1048576) : Meth Tryz.prog 102 1 [] [rVis c l] [(0, (0, .dead))] (.ref 0 0) [(0, (0, .row 141 3 (l.map encViO)))] := by
  refine meth_of_ex ttOK (fn := Tryz.f102) (by kernel_rfl) (by kernel_rfl) rfl (O0 := [.ref 0 0]) 1 1 (Nat.le_of_ble_eq_true rfl) (by rfl) (by repeat (first | exact BndH.nil | refine BndH.dead ?_)) (by repeat (first | exact BndH.nil | refine BndH.row (flatR_map fun _ => rfl) ?_)) (by rfl) fun γ => ?_
  show Ex Tryz.prog _ _ [(0, rVis c l)] [(0, ((γ 0), .dead)), (1, (0, .dead))] _
  have hc : cVis l = l.length + szs cVi l := rfl
  refine ex_rs ttOK (by rfl) ?_
  refine rl_assign rfl ?_
  refine ex_rs ttOK (by rfl) ?_
  refine rl_move rfl ?_
  refine rl_lenm rfl tt_40 rfl ?_
  refine rl_make (id := 0) tt_26 rfl tt_141 za_141 rfl rfl rfl rfl (by (simp only [List.length_map, List.length_append, List.length_cons, List.length_nil, List.length_take, T141]; omega)) rfl ?_
  refine rl_assign rfl ?_
  refine ex_seq_k fun K1 hK1 => ?_
  refine ex_rs ttOK (by rfl) ?_
  refine rl_assign rfl ?_
  refine ex_block ?_
  refine ex_loopK (ι := Nat) (fun i γ1 => [(4, .pv (.int .i64 (i : Int)))]) (fun i γ1 => [(1, ((γ1 1), .dead)), (0, ((γ 0 + 1), .row 141 3 ((l.take i).map encViO ++ (l.drop i).map fun _ => [pI 0, pI 0, .pv (.slice none 0 0)])))]) (fun i => i ≤ l.length) (fun i => l.length - i) (Cov.cons (t := 0) rfl (Cov.cons (t := 3) rfl Cov.nil)) HE.nil 0 (by omega) [0, _] (Cov.cons (t := 4) rfl Cov.nil) (HE.kill rfl (HE.row rfl (by rw [List.take_zero, List.drop_zero, List.map_const']; rfl) HE.nil)) rfl fun i γ1 hi => ?_
  try dsimp only [List.cons_append, List.nil_append]
  refine ex_seq_k fun K2 hK2 => ?_
  refine ex_rs ttOK (by rfl) ?_
  refine rl_move rfl ?_
  refine rl_move rfl ?_
  refine rl_lenm rfl tt_40 rfl ?_
  refine rl_bin rfl rfl rfl ?_
  refine ex_cond rfl (fun hc3 => ?_) (fun hc3 => ?_)
  rotate_left
  · try simp at hc3
    obtain rfl : i = l.length := by omega
    refine ex_exit ?_
    refine hK1 _ _ ?_
    clear hK2 K2 hK1 K1
    refine ex_rs ttOK (by rfl) ?_
    refine rl_move rfl ?_
    refine rl_assign rfl ?_
    refine ex_ret ?_
    exact ⟨.inr rfl, [_], rfl, rfl, HE.row rfl (by rw [List.take_length, List.drop_length, List.map_nil, List.append_nil]) HE.nil⟩
  try simp at hc3
  obtain ⟨p, hp⟩ : ∃ p, l[i]? = some p := ⟨_, List.getElem?_eq_getElem (by omega)⟩
  have hAl : ((l.take i).map encViO).length = i := by rw [List.length_map, List.length_take]; omega
  rw [drop_cons hp, List.map_cons]
  have hat := szs_at cVi hp
  have hcp : cVi p = p.events.length := rfl
  refine ex_skip ?_
  refine hK2 _ _ ?_
  clear hK2 K2
  refine ex_seq_k fun K4 hK4 => ?_
  refine ex_block ?_
  refine ex_region ttOK (by rfl) ?_
  refine rl_move rfl ?_
  refine rl_move rfl ?_
  refine rl_move rfl ?_
  refine rl_move rfl ?_
  refine rl_idxm rfl rfl tt_40 rfl tt_216 rfl (by assumption) ?_
  refine rl_loadA_iel rfl tt_216 rfl rfl ?_
  refine rl_meth [1] [_] (F_laws_toView c p (by omega)) rfl rfl rfl (by decide) rfl rfl (by repeat (first | exact InH.nil | refine InH.cons rfl ?_)) (by (simp only [pI, List.map_cons, List.map_nil, insAll, insEnc, gl, nx, memN, Nat.beq, Nat.add_eq, List.getD_cons_zero, List.getD_cons_succ, List.getD_nil, Bool.or_false, Bool.false_or, Bool.true_or, Bool.or_true, Nat.add_zero, Nat.zero_add]; rfl)) (by (simp only [pI, List.map_cons, List.map_nil, insAll, insEnc, gl, nx, memN, Nat.beq, Nat.add_eq, List.getD_cons_zero, List.getD_cons_succ, List.getD_nil, Bool.or_false, Bool.false_or, Bool.true_or, Bool.or_true, Nat.add_zero, Nat.zero_add]; rfl)) ?_
  refine rl_idxM rfl rfl tt_26 rfl tt_141 rfl rfl hAl ?_
  refine rl_storeMA hAl rfl rfl tt_141 rfl rfl rfl rfl (abs_vi rfl) rfl ?_
  refine hK4 _ _ ?_
  clear hK4 K4
  refine ex_region ttOK (by rfl) ?_
  refine rl_move rfl ?_
  refine rl_bin rfl rfl rfl ?_
  refine rl_assign rfl ?_
  exact ⟨i + 1, ⟨by omega, by omega⟩, [0, _], (Cov.cons' (t := 4) rfl (by rw [wrap_small (by omega) (by omega)]; rfl) Cov.nil), (Cov.cons (t := 0) rfl (Cov.cons (t := 3) rfl Cov.nil)), (HE.kill rfl (HE.row rfl (by rw [take_snoc hp, List.map_append, List.append_assoc]; rfl) HE.nil)), HE.nil, rfl⟩
theorem F_laws_toIntS (c : Bool) (l : List Int) (hl : l.length ≤ 1048576) : Meth Tryz.prog 16 1 [] [rInts c l] [(0, (0, .dead))] (.ref 0 0) [(0, (0, .row 3 1 (l.map encI)))] := by
  refine meth_of_ex ttOK (fn := Tryz.f16) (by kernel_rfl) (by kernel_rfl) rfl (O0 := [.ref 0 0]) 1 0 (Nat.le_of_ble_eq_true rfl) (by rfl) (by repeat (first | exact BndH.nil | refine BndH.dead ?_)) (by repeat (first | exact BndH.nil | refine BndH.row (flatR_map fun _ => rfl) ?_)) (by rfl) fun γ => ?_
  show Ex Tryz.prog _ _ [(0, rInts c l)] [(0, ((γ 0), .dead))] _
  refine ex_rs ttOK (by rfl) ?_
  refine rl_assign rfl ?_
  refine ex_rs ttOK (by rfl) ?_
  refine rl_move rfl ?_
  refine rl_lenm rfl tt_22 rfl ?_
  refine rl_make (id := 0) tt_22 rfl tt_3 za_3 rfl rfl rfl rfl (by (simp only [List.length_map, List.length_append, List.length_cons, List.length_nil, List.length_take, T3]; omega)) rfl ?_
  refine rl_assign rfl ?_
  refine ex_seq_k fun K1 hK1 => ?_
  refine ex_rs ttOK (by rfl) ?_
  refine rl_assign rfl ?_
  refine ex_block ?_
  refine ex_loopK (ι := Nat) (fun i γ1 => [(4, .pv (.int .i64 (i : Int)))]) (fun i γ1 => [(0, ((γ 0 + 1), .row 3 1 ((l.take i).map encI ++ (l.drop i).map fun _ => [pI 0])))]) (fun i => i ≤ l.length) (fun i => l.length - i) (Cov.cons (t := 0) rfl (Cov.cons (t := 3) rfl Cov.nil)) HE.nil 0 (by omega) [] (Cov.cons (t := 4) rfl Cov.nil) (HE.row rfl (by rw [List.take_zero, List.drop_zero, List.map_const']; rfl) HE.nil) rfl fun i γ1 hi => ?_
  try dsimp only [List.cons_append, List.nil_append]
  refine ex_seq_k fun K2 hK2 => ?_
  refine ex_rs ttOK (by rfl) ?_
  refine rl_move rfl ?_
  refine rl_move rfl ?_
  refine rl_lenm rfl tt_22 rfl ?_
  refine rl_bin rfl rfl rfl ?_
  refine ex_cond rfl (fun hc3 => ?_) (fun hc3 => ?_)
  rotate_left
  · try simp at hc3
    obtain rfl : i = l.length := by omega
    refine ex_exit ?_
    refine hK1 _ _ ?_
    clear hK2 K2 hK1 K1
    refine ex_rs ttOK (by rfl) ?_
    refine rl_move rfl ?_
    refine rl_assign rfl ?_
    refine ex_ret ?_
    exact ⟨.inr rfl, [_], rfl, rfl, HE.row rfl (by rw [List.take_length, List.drop_length, List.map_nil, List.append_nil]) HE.nil⟩
  try simp at hc3
  obtain ⟨p, hp⟩ : ∃ p, l[i]? = some p := ⟨_, List.getElem?_eq_getElem (by omega)⟩
  have hAl : ((l.take i).map encI).length = i := by rw [List.length_map, List.length_take]; omega
  rw [drop_cons hp, List.map_cons]
  refine ex_skip ?_
  refine hK2 _ _ ?_
  clear hK2 K2
  refine ex_seq_k fun K4 hK4 => ?_
  refine ex_block ?_
  refine ex_region ttOK (by rfl) ?_
  refine rl_move rfl ?_
  refine rl_move rfl ?_
  refine rl_move rfl ?_
  refine rl_move rfl ?_
  refine rl_idxm rfl rfl tt_22 rfl tt_3 rfl (by assumption) ?_
  refine rl_load_iel rfl tt_3 rfl ?_
  refine rl_idxM rfl rfl tt_22 rfl tt_3 rfl rfl hAl ?_
  refine rl_storeM hAl rfl rfl tt_3 rfl rfl rfl rfl rfl rfl rfl rfl ?_
  refine hK4 _ _ ?_
  clear hK4 K4
  refine ex_region ttOK (by rfl) ?_
  refine rl_move rfl ?_
  refine rl_bin rfl rfl rfl ?_
  refine rl_assign rfl ?_
  exact ⟨i + 1, ⟨by omega, by omega⟩, [], (Cov.cons' (t := 4) rfl (by rw [wrap_small (by omega) (by omega)]; rfl) Cov.nil), (Cov.cons (t := 0) rfl (Cov.cons (t := 3) rfl Cov.nil)), (HE.row rfl (by rw [take_snoc hp, List.map_append, List.append_assoc]; rfl) HE.nil), HE.nil, rfl⟩
theorem F_laws_toNode (c : Bool) (n : Nd) (hl : cNd n ≤ 1048576) : Meth Tryz.prog 25 5 [] [.agg (encNd c n)] [(0, (0, .dead)), (1, (0, .dead)), (2, (0, .dead)), (3, (0, .dead)), (4, (0, .dead))] (.agg [pI n.id, .pv (.bool n.up), pI n.inc, pI n.g, .ref 0 0, .ref 1 0, .ref 2 0, pI n.led, pI n.version, .ref 3 0, .ref 4 0, pI n.round, pI n.low]) [(0, (0, .row 65 5 (n.lanes.map encLaO))), (1, (0, .row 76 7 (n.kept.map encEv))), (2, (0, .row 104 5 (n.outs.map encOu))), (3, (0, .row 141 3 (n.views.map encViO))), (4, (0, .row 3 1 (n.known.map encI)))] := by
  refine meth_of_ex ttOK (fn := Tryz.f25) (by kernel_rfl) (by kernel_rfl) rfl (O0 := [.agg [pI n.id, .pv (.bool n.up), pI n.inc, pI n.g, .ref 0 0, .ref 1 0, .ref 2 0, pI n.led, pI n.version, .ref 3 0, .ref 4 0, pI n.round, pI n.low]]) 5 3 (Nat.le_of_ble_eq_true rfl) (by rfl) (by repeat (first | exact BndH.nil | refine BndH.dead ?_)) (by repeat (first | exact BndH.nil | refine BndH.row (flatR_map fun _ => rfl) ?_)) (by rfl) fun γ => ?_
  show Ex Tryz.prog _ _ [(0, .agg (encNd c n))] [(0, ((γ 0), .dead)), (1, ((γ 1), .dead)), (2, ((γ 2), .dead)), (3, ((γ 3), .dead)), (4, ((γ 4), .dead)), (7, (0, .dead)), (6, (0, .dead)), (5, (0, .dead))] _
  have hc : cNd n = cLas n.lanes + n.kept.length + n.outs.length + cVis n.views + n.known.length := rfl
  refine ex_rs ttOK (by rfl) ?_
  refine rl_boxA (id := 5) rfl rfl rfl ?_
  refine rl_alloc (id := 6) tt_28 za_28 rfl ?_
  refine ex_rs ttOK (by rfl) ?_
  refine rl_alloc (id := 7) tt_28 za_28 rfl ?_
  refine ex_rs ttOK (by rfl) ?_
  refine rl_fieldAddr rfl tt_42 rfl rfl tt_3 rfl rfl ?_
  refine rl_load_ptr rfl tt_3 rfl rfl ?_
  refine rl_fieldAddr rfl tt_28 rfl rfl tt_3 rfl rfl ?_
  refine rl_store1 rfl rfl tt_3 rfl rfl rfl rfl rfl (by simp only [List.set_cons_zero, List.set_cons_succ]; rfl) ?_
  refine ex_rs ttOK (by rfl) ?_
  refine rl_fieldAddr rfl tt_42 rfl rfl tt_4 rfl rfl ?_
  refine rl_load_ptr rfl tt_4 rfl rfl ?_
  refine rl_fieldAddr rfl tt_28 rfl rfl tt_4 rfl rfl ?_
  refine rl_store1 rfl rfl tt_4 rfl rfl rfl rfl rfl (by simp only [List.set_cons_zero, List.set_cons_succ]; rfl) ?_
  refine ex_rs ttOK (by rfl) ?_
  refine rl_fieldAddr rfl tt_42 rfl rfl tt_3 rfl rfl ?_
  refine rl_load_ptr rfl tt_3 rfl rfl ?_
  refine rl_fieldAddr rfl tt_28 rfl rfl tt_3 rfl rfl ?_
  refine rl_store1 rfl rfl tt_3 rfl rfl rfl rfl rfl (by simp only [List.set_cons_zero, List.set_cons_succ]; rfl) ?_
  refine ex_rs ttOK (by rfl) ?_
  refine rl_fieldAddr rfl tt_42 rfl rfl tt_3 rfl rfl ?_
  refine rl_load_ptr rfl tt_3 rfl rfl ?_
  refine rl_fieldAddr rfl tt_28 rfl rfl tt_3 rfl rfl ?_
  refine rl_store1 rfl rfl tt_3 rfl rfl rfl rfl rfl (by simp only [List.set_cons_zero, List.set_cons_succ]; rfl) ?_
  refine ex_rs ttOK (by rfl) ?_
  refine rl_fieldAddr rfl tt_42 rfl rfl tt_37 rfl rfl ?_
  refine rl_load_ptr rfl tt_37 rfl rfl ?_
  refine rl_meth [0] [_] (F_laws_toLaneS c n.lanes (by omega)) rfl rfl rfl (by decide) rfl rfl (by repeat (first | exact InH.nil | refine InH.cons rfl ?_)) (by (simp only [pI, List.map_cons, List.map_nil, insAll, insEnc, gl, nx, memN, Nat.beq, Nat.add_eq, List.getD_cons_zero, List.getD_cons_succ, List.getD_nil, Bool.or_false, Bool.false_or, Bool.true_or, Bool.or_true, Nat.add_zero, Nat.zero_add]; rfl)) (by (simp only [pI, List.map_cons, List.map_nil, insAll, insEnc, gl, nx, memN, Nat.beq, Nat.add_eq, List.getD_cons_zero, List.getD_cons_succ, List.getD_nil, Bool.or_false, Bool.false_or, Bool.true_or, Bool.or_true, Nat.add_zero, Nat.zero_add]; rfl)) ?_
  refine rl_fieldAddr rfl tt_28 rfl rfl tt_23 rfl rfl ?_
  refine rl_store1 rfl rfl tt_23 rfl rfl rfl rfl rfl (by simp only [List.set_cons_zero, List.set_cons_succ]; rfl) ?_
  refine ex_rs ttOK (by rfl) ?_
  refine rl_fieldAddr rfl tt_42 rfl rfl tt_38 rfl rfl ?_
  refine rl_load_ptr rfl tt_38 rfl rfl ?_
  refine rl_meth [1] [_] (F_laws_toEventS c n.kept (by omega)) rfl rfl rfl (by decide) rfl rfl (by repeat (first | exact InH.nil | refine InH.cons rfl ?_)) (by (simp only [pI, List.map_cons, List.map_nil, insAll, insEnc, gl, nx, memN, Nat.beq, Nat.add_eq, List.getD_cons_zero, List.getD_cons_succ, List.getD_nil, Bool.or_false, Bool.false_or, Bool.true_or, Bool.or_true, Nat.add_zero, Nat.zero_add]; rfl)) (by (simp only [pI, List.map_cons, List.map_nil, insAll, insEnc, gl, nx, memN, Nat.beq, Nat.add_eq, List.getD_cons_zero, List.getD_cons_succ, List.getD_nil, Bool.or_false, Bool.false_or, Bool.true_or, Bool.or_true, Nat.add_zero, Nat.zero_add]; rfl)) ?_
  refine rl_fieldAddr rfl tt_28 rfl rfl tt_24 rfl rfl ?_
  refine rl_store1 rfl rfl tt_24 rfl rfl rfl rfl rfl (by simp only [List.set_cons_zero, List.set_cons_succ]; rfl) ?_
  refine ex_rs ttOK (by rfl) ?_
  refine rl_fieldAddr rfl tt_42 rfl rfl tt_39 rfl rfl ?_
  refine rl_load_ptr rfl tt_39 rfl rfl ?_
  refine rl_meth [2] [_] (F_laws_toOutS c n.outs (by omega)) rfl rfl rfl (by decide) rfl rfl (by repeat (first | exact InH.nil | refine InH.cons rfl ?_)) (by (simp only [pI, List.map_cons, List.map_nil, insAll, insEnc, gl, nx, memN, Nat.beq, Nat.add_eq, List.getD_cons_zero, List.getD_cons_succ, List.getD_nil, Bool.or_false, Bool.false_or, Bool.true_or, Bool.or_true, Nat.add_zero, Nat.zero_add]; rfl)) (by (simp only [pI, List.map_cons, List.map_nil, insAll, insEnc, gl, nx, memN, Nat.beq, Nat.add_eq, List.getD_cons_zero, List.getD_cons_succ, List.getD_nil, Bool.or_false, Bool.false_or, Bool.true_or, Bool.or_true, Nat.add_zero, Nat.zero_add]; rfl)) ?_
  refine rl_fieldAddr rfl tt_28 rfl rfl tt_25 rfl rfl ?_
  refine rl_store1 rfl rfl tt_25 rfl rfl rfl rfl rfl (by simp only [List.set_cons_zero, List.set_cons_succ]; rfl) ?_
  refine ex_rs ttOK (by rfl) ?_
  refine rl_fieldAddr rfl tt_42 rfl rfl tt_3 rfl rfl ?_
  refine rl_load_ptr rfl tt_3 rfl rfl ?_
  refine rl_fieldAddr rfl tt_28 rfl rfl tt_3 rfl rfl ?_
  refine rl_store1 rfl rfl tt_3 rfl rfl rfl rfl rfl (by simp only [List.set_cons_zero, List.set_cons_succ]; rfl) ?_
  refine ex_rs ttOK (by rfl) ?_
  refine rl_fieldAddr rfl tt_42 rfl rfl tt_3 rfl rfl ?_
  refine rl_load_ptr rfl tt_3 rfl rfl ?_
  refine rl_fieldAddr rfl tt_28 rfl rfl tt_3 rfl rfl ?_
  refine rl_store1 rfl rfl tt_3 rfl rfl rfl rfl rfl (by simp only [List.set_cons_zero, List.set_cons_succ]; rfl) ?_
  refine ex_rs ttOK (by rfl) ?_
  refine rl_fieldAddr rfl tt_42 rfl rfl tt_40 rfl rfl ?_
  refine rl_load_ptr rfl tt_40 rfl rfl ?_
  refine rl_meth [3] [_] (F_laws_toViewS c n.views (by omega)) rfl rfl rfl (by decide) rfl rfl (by repeat (first | exact InH.nil | refine InH.cons rfl ?_)) (by (simp only [pI, List.map_cons, List.map_nil, insAll, insEnc, gl, nx, memN, Nat.beq, Nat.add_eq, List.getD_cons_zero, List.getD_cons_succ, List.getD_nil, Bool.or_false, Bool.false_or, Bool.true_or, Bool.or_true, Nat.add_zero, Nat.zero_add]; rfl)) (by (simp only [pI, List.map_cons, List.map_nil, insAll, insEnc, gl, nx, memN, Nat.beq, Nat.add_eq, List.getD_cons_zero, List.getD_cons_succ, List.getD_nil, Bool.or_false, Bool.false_or, Bool.true_or, Bool.or_true, Nat.add_zero, Nat.zero_add]; rfl)) ?_
  refine rl_fieldAddr rfl tt_28 rfl rfl tt_26 rfl rfl ?_
  refine rl_store1 rfl rfl tt_26 rfl rfl rfl rfl rfl (by simp only [List.set_cons_zero, List.set_cons_succ]; rfl) ?_
  refine ex_rs ttOK (by rfl) ?_
  refine rl_fieldAddr rfl tt_42 rfl rfl tt_22 rfl rfl ?_
  refine rl_load_ptr rfl tt_22 rfl rfl ?_
  refine rl_meth [4] [_] (F_laws_toIntS c n.known (by omega)) rfl rfl rfl (by decide) rfl rfl (by repeat (first | exact InH.nil | refine InH.cons rfl ?_)) (by (simp only [pI, List.map_cons, List.map_nil, insAll, insEnc, gl, nx, memN, Nat.beq, Nat.add_eq, List.getD_cons_zero, List.getD_cons_succ, List.getD_nil, Bool.or_false, Bool.false_or, Bool.true_or, Bool.or_true, Nat.add_zero, Nat.zero_add]; rfl)) (by (simp only [pI, List.map_cons, List.map_nil, insAll, insEnc, gl, nx, memN, Nat.beq, Nat.add_eq, List.getD_cons_zero, List.getD_cons_succ, List.getD_nil, Bool.or_false, Bool.false_or, Bool.true_or, Bool.or_true, Nat.add_zero, Nat.zero_add]; rfl)) ?_
  refine rl_fieldAddr rfl tt_28 rfl rfl tt_22 rfl rfl ?_
  refine rl_store1 rfl rfl tt_22 rfl rfl rfl rfl rfl (by simp only [List.set_cons_zero, List.set_cons_succ]; rfl) ?_
  refine ex_rs ttOK (by rfl) ?_
  refine rl_fieldAddr rfl tt_42 rfl rfl tt_3 rfl rfl ?_
  refine rl_load_ptr rfl tt_3 rfl rfl ?_
  refine rl_fieldAddr rfl tt_28 rfl rfl tt_3 rfl rfl ?_
  refine rl_store1 rfl rfl tt_3 rfl rfl rfl rfl rfl (by simp only [List.set_cons_zero, List.set_cons_succ]; rfl) ?_
  refine ex_rs ttOK (by rfl) ?_
  refine rl_fieldAddr rfl tt_42 rfl rfl tt_3 rfl rfl ?_
  refine rl_load_ptr rfl tt_3 rfl rfl ?_
  refine rl_fieldAddr rfl tt_28 rfl rfl tt_3 rfl rfl ?_
  refine rl_store1 rfl rfl tt_3 rfl rfl rfl rfl rfl (by simp only [List.set_cons_zero, List.set_cons_succ]; rfl) ?_
  refine ex_rs ttOK (by rfl) ?_
  refine rl_loadA_ptr rfl tt_28 rfl rfl rfl ?_
  refine rl_storeA rfl rfl tt_28 rfl rfl rfl rfl ?_
  refine ex_ret ?_
  exact ⟨.inr rfl, [_, _, _, _, _], rfl, rfl, HE.row rfl rfl (HE.row rfl rfl (HE.row rfl rfl (HE.row rfl rfl (HE.row rfl rfl HE.nil))))⟩
end Go.Proofs.YtpadkogpeobboaaGreat.Am
namespace Go.Proofs.YtpadkogpeobboaaGreat.Am
open Go Go.RowKit
theorem F_laws_eqWord (c c' : Bool) (a b : Wo) : Pure Tryz.prog 36 [.agg (encWo c a), .agg (encWo c' b)] (.pv (.bool (decide (a = b)))) := by
  refine pure_of_ex ttOK (fn := Tryz.f36) (by kernel_rfl) (by kernel_rfl) rfl (outs := [.pv (.bool (decide (a = b)))]) (by rfl) (Nat.le_of_ble_eq_true rfl) 2 ?_
  refine ex_rs ttOK (by rfl) ?_
  refine rl_boxA (id := 0) rfl rfl rfl ?_
  refine rl_boxA (id := 1) rfl rfl rfl ?_
  refine rl_assign rfl ?_
  refine ex_seq_k fun K1 hK1 => ?_
  refine ex_rs ttOK (by rfl) ?_
  refine rl_fieldAddr rfl tt_52 rfl rfl tt_3 rfl rfl ?_
  refine rl_load_ptr rfl tt_3 rfl rfl ?_
  refine rl_fieldAddr rfl tt_52 rfl rfl tt_3 rfl rfl ?_
  refine rl_load_ptr rfl tt_3 rfl rfl ?_
  refine rl_bin rfl rfl rfl ?_
  refine ex_cond rfl (fun hc2 => ?_) (fun hc2 => ?_)
  · try simp at hc2
    refine ex_rs ttOK (by rfl) ?_
    refine rl_assign rfl ?_
    refine ex_ret ⟨.inr rfl, ?_⟩
    clear hK1 K1
    refine ret_pv rfl ?_ rfl
    exact kF (by intro h; subst h; simp_all)
  try simp at hc2
  refine ex_skip ?_
  refine hK1 _ _ ?_
  clear hK1 K1
  refine ex_seq_k fun K3 hK3 => ?_
  refine ex_rs ttOK (by rfl) ?_
  refine rl_fieldAddr rfl tt_52 rfl rfl tt_3 rfl rfl ?_
  refine rl_load_ptr rfl tt_3 rfl rfl ?_
  refine rl_fieldAddr rfl tt_52 rfl rfl tt_3 rfl rfl ?_
  refine rl_load_ptr rfl tt_3 rfl rfl ?_
  refine rl_bin rfl rfl rfl ?_
  refine ex_cond rfl (fun hc4 => ?_) (fun hc4 => ?_)
  · try simp at hc4
    refine ex_rs ttOK (by rfl) ?_
    refine rl_assign rfl ?_
    refine ex_ret ⟨.inr rfl, ?_⟩
    clear hK3 K3
    refine ret_pv rfl ?_ rfl
    exact kF (by intro h; subst h; simp_all)
  try simp at hc4
  refine ex_skip ?_
  refine hK3 _ _ ?_
  clear hK3 K3
  refine ex_seq_k fun K5 hK5 => ?_
  refine ex_rs ttOK (by rfl) ?_
  refine rl_fieldAddr rfl tt_52 rfl rfl tt_3 rfl rfl ?_
  refine rl_load_ptr rfl tt_3 rfl rfl ?_
  refine rl_fieldAddr rfl tt_52 rfl rfl tt_3 rfl rfl ?_
  refine rl_load_ptr rfl tt_3 rfl rfl ?_
  refine rl_bin rfl rfl rfl ?_
  refine ex_cond rfl (fun hc6 => ?_) (fun hc6 => ?_)
  · try simp at hc6
    refine ex_rs ttOK (by rfl) ?_
    refine rl_assign rfl ?_
    refine ex_ret ⟨.inr rfl, ?_⟩
    clear hK5 K5
    refine ret_pv rfl ?_ rfl
    exact kF (by intro h; subst h; simp_all)
  try simp at hc6
  refine ex_skip ?_
  refine hK5 _ _ ?_
  clear hK5 K5
  refine ex_seq_k fun K7 hK7 => ?_
  refine ex_rs ttOK (by rfl) ?_
  refine rl_fieldAddr rfl tt_52 rfl rfl tt_3 rfl rfl ?_
  refine rl_load_ptr rfl tt_3 rfl rfl ?_
  refine rl_fieldAddr rfl tt_52 rfl rfl tt_3 rfl rfl ?_
  refine rl_load_ptr rfl tt_3 rfl rfl ?_
  refine rl_bin rfl rfl rfl ?_
  refine ex_cond rfl (fun hc8 => ?_) (fun hc8 => ?_)
  · try simp at hc8
    refine ex_rs ttOK (by rfl) ?_
    refine rl_assign rfl ?_
    refine ex_ret ⟨.inr rfl, ?_⟩
    clear hK7 K7
    refine ret_pv rfl ?_ rfl
    exact kF (by intro h; subst h; simp_all)
  try simp at hc8
  refine ex_skip ?_
  refine hK7 _ _ ?_
  clear hK7 K7
  refine ex_seq_k fun K9 hK9 => ?_
  refine ex_rs ttOK (by rfl) ?_
  refine rl_fieldAddr rfl tt_52 rfl rfl tt_3 rfl rfl ?_
  refine rl_load_ptr rfl tt_3 rfl rfl ?_
  refine rl_fieldAddr rfl tt_52 rfl rfl tt_3 rfl rfl ?_
  refine rl_load_ptr rfl tt_3 rfl rfl ?_
  refine rl_bin rfl rfl rfl ?_
  refine ex_cond rfl (fun hc10 => ?_) (fun hc10 => ?_)
  · try simp at hc10
    refine ex_rs ttOK (by rfl) ?_
    refine rl_assign rfl ?_
    refine ex_ret ⟨.inr rfl, ?_⟩
    clear hK9 K9
    refine ret_pv rfl ?_ rfl
    exact kF (by intro h; subst h; simp_all)
  try simp at hc10
  refine ex_skip ?_
  refine hK9 _ _ ?_
  clear hK9 K9
  refine ex_seq_k fun K11 hK11 => ?_
  refine ex_rs ttOK (by rfl) ?_
  refine rl_fieldAddr rfl tt_52 rfl rfl tt_3 rfl rfl ?_
  refine rl_load_ptr rfl tt_3 rfl rfl ?_
  refine rl_fieldAddr rfl tt_52 rfl rfl tt_3 rfl rfl ?_
  refine rl_load_ptr rfl tt_3 rfl rfl ?_
  refine rl_bin rfl rfl rfl ?_
  refine ex_cond rfl (fun hc12 => ?_) (fun hc12 => ?_)
  · try simp at hc12
    refine ex_rs ttOK (by rfl) ?_
    refine rl_assign rfl ?_
    refine ex_ret ⟨.inr rfl, ?_⟩
    clear hK11 K11
    refine ret_pv rfl ?_ rfl
    exact kF (by intro h; subst h; simp_all)
  try simp at hc12
  refine ex_skip ?_
  refine hK11 _ _ ?_
  clear hK11 K11
  refine ex_seq_k fun K13 hK13 => ?_
  refine ex_rs ttOK (by rfl) ?_
  refine rl_fieldAddr rfl tt_52 rfl rfl tt_3 rfl rfl ?_
  refine rl_load_ptr rfl tt_3 rfl rfl ?_
  refine rl_fieldAddr rfl tt_52 rfl rfl tt_3 rfl rfl ?_
  refine rl_load_ptr rfl tt_3 rfl rfl ?_
  refine rl_bin rfl rfl rfl ?_
  refine ex_cond rfl (fun hc14 => ?_) (fun hc14 => ?_)
  · try simp at hc14
    refine ex_rs ttOK (by rfl) ?_
    refine rl_assign rfl ?_
    refine ex_ret ⟨.inr rfl, ?_⟩
    clear hK13 K13
    refine ret_pv rfl ?_ rfl
    exact kF (by intro h; subst h; simp_all)
  try simp at hc14
  refine ex_skip ?_
  refine hK13 _ _ ?_
  clear hK13 K13
  refine ex_seq_k fun K15 hK15 => ?_
  refine ex_rs ttOK (by rfl) ?_
  refine rl_fieldAddr rfl tt_52 rfl rfl tt_22 rfl rfl ?_
  refine rl_load_ptr rfl tt_22 rfl rfl ?_
  refine rl_fieldAddr rfl tt_52 rfl rfl tt_22 rfl rfl ?_
  refine rl_load_ptr rfl tt_22 rfl rfl ?_
  refine rl_call rfl rfl rfl (F_laws_eqIntS ..) ?_
  refine rl_not rfl ?_
  refine ex_cond rfl (fun hc16 => ?_) (fun hc16 => ?_)
  · try simp at hc16
    refine ex_rs ttOK (by rfl) ?_
    refine rl_assign rfl ?_
    refine ex_ret ⟨.inr rfl, ?_⟩
    clear hK15 K15
    refine ret_pv rfl ?_ rfl
    exact kF (by intro h; subst h; simp_all)
  try simp at hc16
  refine ex_skip ?_
  refine hK15 _ _ ?_
  clear hK15 K15
  refine ex_seq_k fun K17 hK17 => ?_
  refine ex_rs ttOK (by rfl) ?_
  refine rl_fieldAddr rfl tt_52 rfl rfl tt_22 rfl rfl ?_
  refine rl_load_ptr rfl tt_22 rfl rfl ?_
  refine rl_fieldAddr rfl tt_52 rfl rfl tt_22 rfl rfl ?_
  refine rl_load_ptr rfl tt_22 rfl rfl ?_
  refine rl_call rfl rfl rfl (F_laws_eqIntS ..) ?_
  refine rl_not rfl ?_
  refine ex_cond rfl (fun hc18 => ?_) (fun hc18 => ?_)
  · try simp at hc18
    refine ex_rs ttOK (by rfl) ?_
    refine rl_assign rfl ?_
    refine ex_ret ⟨.inr rfl, ?_⟩
    clear hK17 K17
    refine ret_pv rfl ?_ rfl
    exact kF (by intro h; subst h; simp_all)
  try simp at hc18
  refine ex_skip ?_
  refine hK17 _ _ ?_
  clear hK17 K17
  refine ex_seq_k fun K19 hK19 => ?_
  refine ex_rs ttOK (by rfl) ?_
  refine rl_fieldAddr rfl tt_52 rfl rfl tt_24 rfl rfl ?_
  refine rl_load_ptr rfl tt_24 rfl rfl ?_
  refine rl_fieldAddr rfl tt_52 rfl rfl tt_24 rfl rfl ?_
  refine rl_load_ptr rfl tt_24 rfl rfl ?_
  refine rl_call rfl rfl rfl (F_laws_eqEventS ..) ?_
  refine rl_not rfl ?_
  refine ex_cond rfl (fun hc20 => ?_) (fun hc20 => ?_)
  · try simp at hc20
    refine ex_rs ttOK (by rfl) ?_
    refine rl_assign rfl ?_
    refine ex_ret ⟨.inr rfl, ?_⟩
    clear hK19 K19
    refine ret_pv rfl ?_ rfl
    exact kF (by intro h; subst h; simp_all)
  try simp at hc20
  refine ex_skip ?_
  refine hK19 _ _ ?_
  clear hK19 K19
  refine ex_seq_k fun K21 hK21 => ?_
  refine ex_rs ttOK (by rfl) ?_
  refine rl_fieldAddr rfl tt_52 rfl rfl tt_25 rfl rfl ?_
  refine rl_load_ptr rfl tt_25 rfl rfl ?_
  refine rl_fieldAddr rfl tt_52 rfl rfl tt_25 rfl rfl ?_
  refine rl_load_ptr rfl tt_25 rfl rfl ?_
  refine rl_call rfl rfl rfl (F_laws_eqOutS ..) ?_
  refine rl_not rfl ?_
  refine ex_cond rfl (fun hc22 => ?_) (fun hc22 => ?_)
  · try simp at hc22
    refine ex_rs ttOK (by rfl) ?_
    refine rl_assign rfl ?_
    refine ex_ret ⟨.inr rfl, ?_⟩
    clear hK21 K21
    refine ret_pv rfl ?_ rfl
    exact kF (by intro h; subst h; simp_all)
  try simp at hc22
  refine ex_skip ?_
  refine hK21 _ _ ?_
  clear hK21 K21
  refine ex_rs ttOK (by rfl) ?_
  refine rl_assign rfl ?_
  refine ex_ret ⟨.inr rfl, ?_⟩
  refine ret_pv rfl ?_ rfl
  exact kT (by cases a; cases b; simp_all)
theorem F_laws_eqWordS (c c' : Bool) (l l' : List Wo) : Pure Tryz.prog 27 [rWos c l, rWos c' l'] (.pv (.bool (decide (l = l')))) := by
  refine pure_of_ex ttOK (fn := Tryz.f27) (by kernel_rfl) (by kernel_rfl) rfl (outs := [.pv (.bool (decide (l = l')))]) (by rfl) (Nat.le_of_ble_eq_true rfl) 0 ?_
  refine ex_rowlenm 0 rfl fun hlen => ?_
  refine ex_rs ttOK (by rfl) ?_
  refine rl_assign rfl ?_
  refine ex_seq_k fun K1 hK1 => ?_
  refine ex_rs ttOK (by rfl) ?_
  refine rl_move rfl ?_
  refine rl_lenm rfl tt_44 rfl ?_
  refine rl_move rfl ?_
  refine rl_lenm rfl tt_44 rfl ?_
  refine rl_bin rfl rfl rfl ?_
  refine ex_cond rfl (fun hc2 => ?_) (fun hc2 => ?_)
  · try simp at hc2
    refine ex_rs ttOK (by rfl) ?_
    refine rl_assign rfl ?_
    refine ex_ret ⟨.inr rfl, ?_⟩
    clear hK1 K1
    refine ret_pv rfl ?_ rfl
    exact eqF1 (by omega)
  try simp at hc2
  refine ex_skip ?_
  refine hK1 _ _ ?_
  clear hK1 K1
  refine ex_seq_k fun K3 hK3 => ?_
  refine ex_rs ttOK (by rfl) ?_
  refine rl_assign rfl ?_
  refine ex_block ?_
  refine ex_loopK (ι := Nat) (fun i γ1 => [(5, .pv (.int .i64 (i : Int)))]) (fun i γ1 => []) (fun i => i ≤ l.length ∧ l.length = l'.length ∧ l.take i = l'.take i) (fun i => l.length - i) (Cov.cons (t := 0) rfl (Cov.cons (t := 1) rfl Cov.nil)) HE.nil 0 ⟨by omega, by omega, rfl⟩ [] (Cov.cons (t := 5) rfl Cov.nil) HE.nil rfl fun i γ1 hi => ?_
  try dsimp only [List.cons_append, List.nil_append]
  obtain ⟨h1, h2, h3⟩ := hi
  refine ex_seq_k fun K4 hK4 => ?_
  refine ex_rs ttOK (by rfl) ?_
  refine rl_move rfl ?_
  refine rl_move rfl ?_
  refine rl_lenm rfl tt_44 rfl ?_
  refine rl_bin rfl rfl rfl ?_
  refine ex_cond rfl (fun hc5 => ?_) (fun hc5 => ?_)
  rotate_left
  · try simp at hc5
    refine ex_exit ?_
    refine hK3 _ _ ?_
    clear hK4 K4 hK3 K3
    refine ex_rs ttOK (by rfl) ?_
    refine rl_assign rfl ?_
    refine ex_ret ⟨.inr rfl, ?_⟩
    refine ret_pv rfl ?_ rfl
    exact eqT h3 (by omega) (by omega)
  try simp at hc5
  refine ex_skip ?_
  refine hK4 _ _ ?_
  clear hK4 K4
  refine ex_seq_k fun K6 hK6 => ?_
  refine ex_block ?_
  refine ex_rsD ttOK mixed (by rfl) ?_
  refine rl_move rfl ?_
  refine rl_move rfl ?_
  obtain ⟨x, hx⟩ : ∃ x, l[i]? = some x := ⟨_, List.getElem?_eq_getElem (by omega)⟩
  refine rl_idxm rfl rfl tt_44 rfl tt_52 rfl hx ?_
  refine rl_loadA_iel rfl tt_52 rfl rfl ?_
  refine rl_move rfl ?_
  refine rl_move rfl ?_
  obtain ⟨y, hy⟩ : ∃ y, l'[i]? = some y := ⟨_, List.getElem?_eq_getElem (by omega)⟩
  refine rl_idxm rfl rfl tt_44 rfl tt_52 rfl hy ?_
  refine rl_loadA_iel rfl tt_52 rfl rfl ?_
  refine rl_call rfl rfl rfl (F_laws_eqWord ..) ?_
  refine rl_not rfl ?_
  refine ⟨by kernel_rfl, ?_⟩
  refine ex_cond rfl (fun hc7 => ?_) (fun hc7 => ?_)
  rotate_left
  · try simp at hc7
    refine ex_skip ?_
    refine hK6 _ _ ?_
    clear hK6 K6
    refine ex_region ttOK (by rfl) ?_
    refine rl_move rfl ?_
    refine rl_binE (.int .i64 ((i + 1 : Nat) : Int)) rfl rfl rfl (wrapE rfl (by omega) (by omega) (by have := hlen; omega)) ?_
    refine rl_assign rfl ?_
    exact ⟨i + 1, ⟨⟨by omega, h2, take_step h3 hx hy (by assumption)⟩, by omega⟩, [], (Cov.cons (t := 5) rfl Cov.nil), (Cov.cons (t := 0) rfl (Cov.cons (t := 1) rfl Cov.nil)), HE.nil, HE.nil, rfl⟩
  try simp at hc7
  refine ex_rs ttOK (by rfl) ?_
  refine rl_assign rfl ?_
  refine ex_ret ⟨.inr rfl, ?_⟩
  clear hK6 K6 hK3 K3
  refine ret_pv rfl ?_ rfl
  exact eqF2 hx hy (by assumption)
end Go.Proofs.YtpadkogpeobboaaGreat.Am
namespace Go.Proofs.YtpadkogpeobboaaGreat.Am
open Go Go.RowKit
theorem F_laws_markWordS (l : List Wo) (k : Nat) (hk : k + szs zWo l ≤ 1000000000) : Meth Tryz.prog 28 1 [0] [.ref 0 0, .pv (.int .i64 (k : Int))] [(0, (0, .row 52 11 (l.map encWoO)))] (.pv (.int .i64 ((k + szs zWo l : Nat) : Int))) [(0, (0, .row 52 11 ((mks zWo kWo k l).map encWoO)))] := by
  refine meth_of_ex ttOK (fn := Tryz.f28) (by kernel_rfl) (by kernel_rfl) rfl (O0 := [.pv (.int .i64 ((k + szs zWo l : Nat) : Int))]) 1 1 (Nat.le_of_ble_eq_true rfl) (by rfl) (by repeat (first | exact BndH.nil | refine BndH.row (flatR_map fun _ => rfl) ?_)) (by repeat (first | exact BndH.nil | refine BndH.row (flatR_map fun _ => rfl) ?_)) (by rfl) fun γ => ?_
  show Ex Tryz.prog _ _ [(0, .ref 0 (γ 0)), (1, .pv (.int .i64 (k : Int)))] [(0, ((γ 0), .row 52 11 (l.map encWoO))), (1, (0, .dead))] _
  have hml := mks_len zWo kWo k l
  have hll := szs_len zWo (fun p => by unfold zWo; omega) l
  refine ex_rs ttOK (by rfl) ?_
  refine rl_assign rfl ?_
  refine ex_seq_k fun K1 hK1 => ?_
  refine ex_rs ttOK (by rfl) ?_
  refine rl_assign rfl ?_
  refine ex_block ?_
  refine ex_loopK (ι := Nat) (fun i γ1 => [(1, .pv (.int .i64 ((k + szs zWo (l.take i) : Nat) : Int))), (5, .pv (.int .i64 (i : Int)))]) (fun i γ1 => [(1, ((γ1 1), .dead)), (0, ((γ 0), .row 52 11 (((mks zWo kWo k l).take i).map encWoO ++ (l.drop i).map encWoO)))]) (fun i => i ≤ l.length) (fun i => l.length - i) (Cov.cons (t := 0) rfl Cov.nil) HE.nil 0 (by omega) [0, _] (Cov.cons' (t := 1) rfl (by rw [List.take_zero]; rfl) (Cov.cons (t := 5) rfl Cov.nil)) (HE.kill rfl (HE.row rfl (by rw [List.take_zero, List.drop_zero]; rfl) HE.nil)) rfl fun i γ1 hi => ?_
  try dsimp only [List.cons_append, List.nil_append]
  refine ex_seq_k fun K2 hK2 => ?_
  refine ex_rs ttOK (by rfl) ?_
  refine rl_move rfl ?_
  refine rl_move rfl ?_
  refine rl_lenr (n := l.length) rfl tt_44 rfl rfl (by rw [List.length_append, List.length_map, List.length_map, List.length_take, List.length_drop]; omega) ?_
  refine rl_bin rfl rfl rfl ?_
  refine ex_cond rfl (fun hc3 => ?_) (fun hc3 => ?_)
  rotate_left
  · try simp at hc3
    obtain rfl : i = l.length := by omega
    refine ex_exit ?_
    refine hK1 _ _ ?_
    clear hK2 K2 hK1 K1
    refine ex_rs ttOK (by rfl) ?_
    refine rl_move rfl ?_
    refine rl_assign rfl ?_
    refine ex_ret ?_
    exact ⟨.inr rfl, [γ 0], rfl, congrArg (fun v : Nat => some [AV.pv (.int .i64 (v : Int))]) (by rw [List.take_length]), HE.row rfl (by rw [List.take_of_length_le (by omega), List.drop_length, List.map_nil, List.append_nil]) HE.nil⟩
  try simp at hc3
  obtain ⟨p, hp⟩ : ∃ p, l[i]? = some p := ⟨_, List.getElem?_eq_getElem (by omega)⟩
  have hmk := mks_get zWo kWo (k := k) hp
  have hat := szs_at zWo hp
  have hzp : zWo p = 7 + szs zI p.incs + szs zI p.versions + szs zEv p.events + szs zOu p.outs := rfl
  have hAl : (((mks zWo kWo k l).take i).map encWoO).length = i := by rw [List.length_map, List.length_take]; omega
  rw [drop_cons hp, List.map_cons]
  rw [show encWoO p = [pI p.kind, pI p.from', pI p.to, pI p.inc, pI p.version, pI p.round, pI p.g, .row .ow 3 1 (p.incs.map encI), .row .ow 3 1 (p.versions.map encI), .row .ow 76 7 (p.events.map encEv), .row .ow 104 5 (p.outs.map encOu)] from rfl]
  obtain ⟨q, hq⟩ : ∃ q, q = k + szs zWo (l.take i) := ⟨_, rfl⟩
  rw [← hq] at hmk ⊢
  refine ex_skip ?_
  refine hK2 _ _ ?_
  clear hK2 K2
  refine ex_seq_k fun K4 hK4 => ?_
  refine ex_block ?_
  refine ex_rs ttOK (by rfl) ?_
  refine rl_move rfl ?_
  refine rl_move rfl ?_
  refine rl_move rfl ?_
  refine rl_idxM rfl rfl tt_44 rfl tt_52 rfl rfl hAl ?_
  refine rl_fieldAddr rfl tt_52 rfl rfl tt_3 rfl rfl ?_
  refine rl_storeM hAl rfl rfl tt_3 rfl rfl rfl rfl rfl rfl rfl (by simp only [List.set_cons_zero, List.set_cons_succ]; rfl) ?_
  refine ex_rs ttOK (by rfl) ?_
  refine rl_move rfl ?_
  refine rl_addN (b := 1) rfl rfl (by omega) ?_
  refine rl_assign rfl ?_
  refine ex_rs ttOK (by rfl) ?_
  refine rl_move rfl ?_
  refine rl_move rfl ?_
  refine rl_move rfl ?_
  refine rl_idxM rfl rfl tt_44 rfl tt_52 rfl rfl hAl ?_
  refine rl_fieldAddr rfl tt_52 rfl rfl tt_3 rfl rfl ?_
  refine rl_storeM hAl rfl rfl tt_3 rfl rfl rfl rfl rfl rfl rfl (by simp only [List.set_cons_zero, List.set_cons_succ]; rfl) ?_
  refine ex_rs ttOK (by rfl) ?_
  refine rl_move rfl ?_
  refine rl_addN (b := 1) rfl rfl (by omega) ?_
  refine rl_assign rfl ?_
  refine ex_rs ttOK (by rfl) ?_
  refine rl_move rfl ?_
  refine rl_move rfl ?_
  refine rl_move rfl ?_
  refine rl_idxM rfl rfl tt_44 rfl tt_52 rfl rfl hAl ?_
  refine rl_fieldAddr rfl tt_52 rfl rfl tt_3 rfl rfl ?_
  refine rl_storeM hAl rfl rfl tt_3 rfl rfl rfl rfl rfl rfl rfl (by simp only [List.set_cons_zero, List.set_cons_succ]; rfl) ?_
  refine ex_rs ttOK (by rfl) ?_
  refine rl_move rfl ?_
  refine rl_addN (b := 1) rfl rfl (by omega) ?_
  refine rl_assign rfl ?_
  refine ex_rs ttOK (by rfl) ?_
  refine rl_move rfl ?_
  refine rl_move rfl ?_
  refine rl_move rfl ?_
  refine rl_idxM rfl rfl tt_44 rfl tt_52 rfl rfl hAl ?_
  refine rl_fieldAddr rfl tt_52 rfl rfl tt_3 rfl rfl ?_
  refine rl_storeM hAl rfl rfl tt_3 rfl rfl rfl rfl rfl rfl rfl (by simp only [List.set_cons_zero, List.set_cons_succ]; rfl) ?_
  refine ex_rs ttOK (by rfl) ?_
  refine rl_move rfl ?_
  refine rl_addN (b := 1) rfl rfl (by omega) ?_
  refine rl_assign rfl ?_
  refine ex_rs ttOK (by rfl) ?_
  refine rl_move rfl ?_
  refine rl_move rfl ?_
  refine rl_move rfl ?_
  refine rl_idxM rfl rfl tt_44 rfl tt_52 rfl rfl hAl ?_
  refine rl_fieldAddr rfl tt_52 rfl rfl tt_3 rfl rfl ?_
  refine rl_storeM hAl rfl rfl tt_3 rfl rfl rfl rfl rfl rfl rfl (by simp only [List.set_cons_zero, List.set_cons_succ]; rfl) ?_
  refine ex_rs ttOK (by rfl) ?_
  refine rl_move rfl ?_
  refine rl_addN (b := 1) rfl rfl (by omega) ?_
  refine rl_assign rfl ?_
  refine ex_rs ttOK (by rfl) ?_
  refine rl_move rfl ?_
  refine rl_move rfl ?_
  refine rl_move rfl ?_
  refine rl_idxM rfl rfl tt_44 rfl tt_52 rfl rfl hAl ?_
  refine rl_fieldAddr rfl tt_52 rfl rfl tt_3 rfl rfl ?_
  refine rl_storeM hAl rfl rfl tt_3 rfl rfl rfl rfl rfl rfl rfl (by simp only [List.set_cons_zero, List.set_cons_succ]; rfl) ?_
  refine ex_rs ttOK (by rfl) ?_
  refine rl_move rfl ?_
  refine rl_addN (b := 1) rfl rfl (by omega) ?_
  refine rl_assign rfl ?_
  refine ex_rs ttOK (by rfl) ?_
  refine rl_move rfl ?_
  refine rl_move rfl ?_
  refine rl_move rfl ?_
  refine rl_idxM rfl rfl tt_44 rfl tt_52 rfl rfl hAl ?_
  refine rl_fieldAddr rfl tt_52 rfl rfl tt_3 rfl rfl ?_
  refine rl_storeM hAl rfl rfl tt_3 rfl rfl rfl rfl rfl rfl rfl (by simp only [List.set_cons_zero, List.set_cons_succ]; rfl) ?_
  refine ex_rs ttOK (by rfl) ?_
  refine rl_move rfl ?_
  refine rl_addN (b := 1) rfl rfl (by omega) ?_
  refine rl_assign rfl ?_
  refine ex_splitM 0 7 1 hAl rfl rfl rfl rfl rfl ?_
  refine ex_rs ttOK (by rfl) ?_
  refine rl_move rfl ?_
  refine rl_move rfl ?_
  refine rl_idxM rfl rfl tt_44 rfl tt_52 rfl rfl hAl ?_
  refine rl_fieldAddr rfl tt_52 rfl rfl tt_22 rfl rfl ?_
  refine rl_loadM hAl rfl tt_22 rfl rfl ?_
  refine rl_move rfl ?_
  refine rl_meth [1] [_] (F_laws_markIntS p.incs (q + 7) (by omega)) rfl rfl rfl (by decide) rfl rfl (by repeat (first | exact InH.nil | refine InH.cons rfl ?_)) (by (simp only [pI, List.map_cons, List.map_nil, insAll, insEnc, gl, nx, memN, Nat.beq, Nat.add_eq, List.getD_cons_zero, List.getD_cons_succ, List.getD_nil, Bool.or_false, Bool.false_or, Bool.true_or, Bool.or_true, Nat.add_zero, Nat.zero_add]; rfl)) (by (simp only [pI, List.map_cons, List.map_nil, insAll, insEnc, gl, nx, memN, Nat.beq, Nat.add_eq, List.getD_cons_zero, List.getD_cons_succ, List.getD_nil, Bool.or_false, Bool.false_or, Bool.true_or, Bool.or_true, Nat.add_zero, Nat.zero_add]; rfl)) ?_
  refine rl_assign rfl ?_
  refine ex_joinM 0 7 1 hAl rfl rfl rfl (flatR_map fun _ => rfl) rfl rfl ?_
  refine ex_splitM 0 8 1 hAl rfl rfl rfl rfl rfl ?_
  refine ex_rs ttOK (by rfl) ?_
  refine rl_move rfl ?_
  refine rl_move rfl ?_
  refine rl_idxM rfl rfl tt_44 rfl tt_52 rfl rfl hAl ?_
  refine rl_fieldAddr rfl tt_52 rfl rfl tt_22 rfl rfl ?_
  refine rl_loadM hAl rfl tt_22 rfl rfl ?_
  refine rl_move rfl ?_
  refine rl_meth [1] [_] (F_laws_markIntS p.versions (q + 7 + szs zI p.incs) (by omega)) rfl rfl rfl (by decide) rfl rfl (by repeat (first | exact InH.nil | refine InH.cons rfl ?_)) (by (simp only [pI, List.map_cons, List.map_nil, insAll, insEnc, gl, nx, memN, Nat.beq, Nat.add_eq, List.getD_cons_zero, List.getD_cons_succ, List.getD_nil, Bool.or_false, Bool.false_or, Bool.true_or, Bool.or_true, Nat.add_zero, Nat.zero_add]; rfl)) (by (simp only [pI, List.map_cons, List.map_nil, insAll, insEnc, gl, nx, memN, Nat.beq, Nat.add_eq, List.getD_cons_zero, List.getD_cons_succ, List.getD_nil, Bool.or_false, Bool.false_or, Bool.true_or, Bool.or_true, Nat.add_zero, Nat.zero_add]; rfl)) ?_
  refine rl_assign rfl ?_
  refine ex_joinM 0 8 1 hAl rfl rfl rfl (flatR_map fun _ => rfl) rfl rfl ?_
  refine ex_splitM 0 9 1 hAl rfl rfl rfl rfl rfl ?_
  refine ex_rs ttOK (by rfl) ?_
  refine rl_move rfl ?_
  refine rl_move rfl ?_
  refine rl_idxM rfl rfl tt_44 rfl tt_52 rfl rfl hAl ?_
  refine rl_fieldAddr rfl tt_52 rfl rfl tt_24 rfl rfl ?_
  refine rl_loadM hAl rfl tt_24 rfl rfl ?_
  refine rl_move rfl ?_
  refine rl_meth [1] [_] (F_laws_markEventS p.events (q + 7 + szs zI p.incs + szs zI p.versions) (by omega)) rfl rfl rfl (by decide) rfl rfl (by repeat (first | exact InH.nil | refine InH.cons rfl ?_)) (by (simp only [pI, List.map_cons, List.map_nil, insAll, insEnc, gl, nx, memN, Nat.beq, Nat.add_eq, List.getD_cons_zero, List.getD_cons_succ, List.getD_nil, Bool.or_false, Bool.false_or, Bool.true_or, Bool.or_true, Nat.add_zero, Nat.zero_add]; rfl)) (by (simp only [pI, List.map_cons, List.map_nil, insAll, insEnc, gl, nx, memN, Nat.beq, Nat.add_eq, List.getD_cons_zero, List.getD_cons_succ, List.getD_nil, Bool.or_false, Bool.false_or, Bool.true_or, Bool.or_true, Nat.add_zero, Nat.zero_add]; rfl)) ?_
  refine rl_assign rfl ?_
  refine ex_joinM 0 9 1 hAl rfl rfl rfl (flatR_map fun _ => rfl) rfl rfl ?_
  refine ex_splitM 0 10 1 hAl rfl rfl rfl rfl rfl ?_
  refine ex_region ttOK (by rfl) ?_
  refine rl_move rfl ?_
  refine rl_move rfl ?_
  refine rl_idxM rfl rfl tt_44 rfl tt_52 rfl rfl hAl ?_
  refine rl_fieldAddr rfl tt_52 rfl rfl tt_25 rfl rfl ?_
  refine rl_loadM hAl rfl tt_25 rfl rfl ?_
  refine rl_move rfl ?_
  refine rl_meth [1] [_] (F_laws_markOutS p.outs (q + 7 + szs zI p.incs + szs zI p.versions + szs zEv p.events) (by omega)) rfl rfl rfl (by decide) rfl rfl (by repeat (first | exact InH.nil | refine InH.cons rfl ?_)) (by (simp only [pI, List.map_cons, List.map_nil, insAll, insEnc, gl, nx, memN, Nat.beq, Nat.add_eq, List.getD_cons_zero, List.getD_cons_succ, List.getD_nil, Bool.or_false, Bool.false_or, Bool.true_or, Bool.or_true, Nat.add_zero, Nat.zero_add]; rfl)) (by (simp only [pI, List.map_cons, List.map_nil, insAll, insEnc, gl, nx, memN, Nat.beq, Nat.add_eq, List.getD_cons_zero, List.getD_cons_succ, List.getD_nil, Bool.or_false, Bool.false_or, Bool.true_or, Bool.or_true, Nat.add_zero, Nat.zero_add]; rfl)) ?_
  refine rl_assign rfl ?_
  refine hK4 _ _ ?_
  clear hK4 K4
  refine ex_joinM 0 10 1 hAl rfl rfl rfl (flatR_map fun _ => rfl) rfl rfl ?_
  refine ex_region ttOK (by rfl) ?_
  refine rl_move rfl ?_
  refine rl_addN (b := 1) rfl rfl (by omega) ?_
  refine rl_assign rfl ?_
  exact ⟨i + 1, ⟨by omega, by omega⟩, [0, _], (Cov.cons' (t := 1) rfl (by rw [szs_take zWo hp]; exact congrArg (fun v : Nat => AV.pv (.int .i64 (v : Int))) (by omega)) (Cov.cons (t := 5) rfl Cov.nil)), (Cov.cons (t := 0) rfl Cov.nil), (HE.kill rfl (HE.row rfl (by rw [take_snoc hmk, List.map_append, List.append_assoc]; rfl) HE.nil)), HE.nil, rfl⟩
theorem F_laws_heldWordS (c : Bool) (l : List Wo) (k : Nat) (hk : k + szs zWo l ≤ 1000000000) : Pure Tryz.prog 29 [rWos c (mks zWo kWo k l), .pv (.int .i64 (k : Int))] (.pv (.int .i64 ((k + szs zWo l : Nat) : Int))) := by
  refine pure_of_ex ttOK (fn := Tryz.f29) (by kernel_rfl) (by kernel_rfl) rfl (outs := [.pv (.int .i64 ((k + szs zWo l : Nat) : Int))]) (by rfl) (Nat.le_of_ble_eq_true rfl) 0 ?_
  have hml := mks_len zWo kWo k l
  have hll := szs_len zWo (fun p => by unfold zWo; omega) l
  refine ex_rs ttOK (by rfl) ?_
  refine rl_assign rfl ?_
  refine ex_seq_k fun K1 hK1 => ?_
  refine ex_rs ttOK (by rfl) ?_
  refine rl_assign rfl ?_
  refine ex_block ?_
  refine ex_loopK (ι := Nat) (fun i γ1 => [(1, .pv (.int .i64 ((k + szs zWo (l.take i) : Nat) : Int))), (5, .pv (.int .i64 (i : Int)))]) (fun i γ1 => []) (fun i => i ≤ l.length) (fun i => l.length - i) (Cov.cons (t := 0) rfl Cov.nil) HE.nil 0 (by omega) [] (Cov.cons' (t := 1) rfl (by rw [List.take_zero]; rfl) (Cov.cons (t := 5) rfl Cov.nil)) HE.nil rfl fun i γ1 hi => ?_
  try dsimp only [List.cons_append, List.nil_append]
  refine ex_seq_k fun K2 hK2 => ?_
  refine ex_rs ttOK (by rfl) ?_
  refine rl_move rfl ?_
  refine rl_move rfl ?_
  refine rl_lenm rfl tt_44 rfl ?_
  refine rl_bin rfl rfl rfl ?_
  refine ex_cond rfl (fun hc3 => ?_) (fun hc3 => ?_)
  rotate_left
  · try simp at hc3
    obtain rfl : i = l.length := by omega
    refine ex_exit ?_
    refine hK1 _ _ ?_
    clear hK2 K2 hK1 K1
    refine ex_rs ttOK (by rfl) ?_
    refine rl_move rfl ?_
    refine rl_assign rfl ?_
    refine ex_ret ⟨.inr rfl, ?_⟩
    refine ret_pv rfl ?_ rfl
    rw [List.take_length]
  try simp at hc3
  obtain ⟨p, hp⟩ : ∃ p, l[i]? = some p := ⟨_, List.getElem?_eq_getElem (by omega)⟩
  have hmk := mks_get zWo kWo (k := k) hp
  have hat := szs_at zWo hp
  have hzp : zWo p = 7 + szs zI p.incs + szs zI p.versions + szs zEv p.events + szs zOu p.outs := rfl
  obtain ⟨q, hq⟩ : ∃ q, q = k + szs zWo (l.take i) := ⟨_, rfl⟩
  rw [← hq] at hmk ⊢
  refine ex_skip ?_
  refine hK2 _ _ ?_
  clear hK2 K2
  refine ex_seq_k fun K4 hK4 => ?_
  refine ex_block ?_
  refine ex_seq_k fun K5 hK5 => ?_
  refine ex_rs ttOK (by rfl) ?_
  refine rl_move rfl ?_
  refine rl_move rfl ?_
  refine rl_idxm rfl rfl tt_44 rfl tt_52 rfl (by assumption) ?_
  refine rl_fieldAddr rfl tt_52 rfl rfl tt_3 rfl rfl ?_
  refine rl_load_iel rfl tt_3 rfl ?_
  refine rl_move rfl ?_
  refine rl_bin rfl rfl rfl ?_
  refine ex_cond rfl (fun hc6 => ?_) (fun hc6 => ?_)
  · (simp [kI, kEv, kOu, kPa, kLa, kVi, kWo, mEv, mOu, mSt] at hc6; done)
  try simp at hc6
  refine ex_skip ?_
  refine hK5 _ _ ?_
  clear hK5 K5
  refine ex_rs ttOK (by rfl) ?_
  refine rl_move rfl ?_
  refine rl_addN (b := 1) rfl rfl (by omega) ?_
  refine rl_assign rfl ?_
  refine ex_seq_k fun K7 hK7 => ?_
  refine ex_rs ttOK (by rfl) ?_
  refine rl_move rfl ?_
  refine rl_move rfl ?_
  refine rl_idxm rfl rfl tt_44 rfl tt_52 rfl (by assumption) ?_
  refine rl_fieldAddr rfl tt_52 rfl rfl tt_3 rfl rfl ?_
  refine rl_load_iel rfl tt_3 rfl ?_
  refine rl_move rfl ?_
  refine rl_bin rfl rfl rfl ?_
  refine ex_cond rfl (fun hc8 => ?_) (fun hc8 => ?_)
  · (simp [kI, kEv, kOu, kPa, kLa, kVi, kWo, mEv, mOu, mSt] at hc8; done)
  try simp at hc8
  refine ex_skip ?_
  refine hK7 _ _ ?_
  clear hK7 K7
  refine ex_rs ttOK (by rfl) ?_
  refine rl_move rfl ?_
  refine rl_addN (b := 1) rfl rfl (by omega) ?_
  refine rl_assign rfl ?_
  refine ex_seq_k fun K9 hK9 => ?_
  refine ex_rs ttOK (by rfl) ?_
  refine rl_move rfl ?_
  refine rl_move rfl ?_
  refine rl_idxm rfl rfl tt_44 rfl tt_52 rfl (by assumption) ?_
  refine rl_fieldAddr rfl tt_52 rfl rfl tt_3 rfl rfl ?_
  refine rl_load_iel rfl tt_3 rfl ?_
  refine rl_move rfl ?_
  refine rl_bin rfl rfl rfl ?_
  refine ex_cond rfl (fun hc10 => ?_) (fun hc10 => ?_)
  · (simp [kI, kEv, kOu, kPa, kLa, kVi, kWo, mEv, mOu, mSt] at hc10; done)
  try simp at hc10
  refine ex_skip ?_
  refine hK9 _ _ ?_
  clear hK9 K9
  refine ex_rs ttOK (by rfl) ?_
  refine rl_move rfl ?_
  refine rl_addN (b := 1) rfl rfl (by omega) ?_
  refine rl_assign rfl ?_
  refine ex_seq_k fun K11 hK11 => ?_
  refine ex_rs ttOK (by rfl) ?_
  refine rl_move rfl ?_
  refine rl_move rfl ?_
  refine rl_idxm rfl rfl tt_44 rfl tt_52 rfl (by assumption) ?_
  refine rl_fieldAddr rfl tt_52 rfl rfl tt_3 rfl rfl ?_
  refine rl_load_iel rfl tt_3 rfl ?_
  refine rl_move rfl ?_
  refine rl_bin rfl rfl rfl ?_
  refine ex_cond rfl (fun hc12 => ?_) (fun hc12 => ?_)
  · (simp [kI, kEv, kOu, kPa, kLa, kVi, kWo, mEv, mOu, mSt] at hc12; done)
  try simp at hc12
  refine ex_skip ?_
  refine hK11 _ _ ?_
  clear hK11 K11
  refine ex_rs ttOK (by rfl) ?_
  refine rl_move rfl ?_
  refine rl_addN (b := 1) rfl rfl (by omega) ?_
  refine rl_assign rfl ?_
  refine ex_seq_k fun K13 hK13 => ?_
  refine ex_rs ttOK (by rfl) ?_
  refine rl_move rfl ?_
  refine rl_move rfl ?_
  refine rl_idxm rfl rfl tt_44 rfl tt_52 rfl (by assumption) ?_
  refine rl_fieldAddr rfl tt_52 rfl rfl tt_3 rfl rfl ?_
  refine rl_load_iel rfl tt_3 rfl ?_
  refine rl_move rfl ?_
  refine rl_bin rfl rfl rfl ?_
  refine ex_cond rfl (fun hc14 => ?_) (fun hc14 => ?_)
  · (simp [kI, kEv, kOu, kPa, kLa, kVi, kWo, mEv, mOu, mSt] at hc14; done)
  try simp at hc14
  refine ex_skip ?_
  refine hK13 _ _ ?_
  clear hK13 K13
  refine ex_rs ttOK (by rfl) ?_
  refine rl_move rfl ?_
  refine rl_addN (b := 1) rfl rfl (by omega) ?_
  refine rl_assign rfl ?_
  refine ex_seq_k fun K15 hK15 => ?_
  refine ex_rs ttOK (by rfl) ?_
  refine rl_move rfl ?_
  refine rl_move rfl ?_
  refine rl_idxm rfl rfl tt_44 rfl tt_52 rfl (by assumption) ?_
  refine rl_fieldAddr rfl tt_52 rfl rfl tt_3 rfl rfl ?_
  refine rl_load_iel rfl tt_3 rfl ?_
  refine rl_move rfl ?_
  refine rl_bin rfl rfl rfl ?_
  refine ex_cond rfl (fun hc16 => ?_) (fun hc16 => ?_)
  · (simp [kI, kEv, kOu, kPa, kLa, kVi, kWo, mEv, mOu, mSt] at hc16; done)
  try simp at hc16
  refine ex_skip ?_
  refine hK15 _ _ ?_
  clear hK15 K15
  refine ex_rs ttOK (by rfl) ?_
  refine rl_move rfl ?_
  refine rl_addN (b := 1) rfl rfl (by omega) ?_
  refine rl_assign rfl ?_
  refine ex_seq_k fun K17 hK17 => ?_
  refine ex_rs ttOK (by rfl) ?_
  refine rl_move rfl ?_
  refine rl_move rfl ?_
  refine rl_idxm rfl rfl tt_44 rfl tt_52 rfl (by assumption) ?_
  refine rl_fieldAddr rfl tt_52 rfl rfl tt_3 rfl rfl ?_
  refine rl_load_iel rfl tt_3 rfl ?_
  refine rl_move rfl ?_
  refine rl_bin rfl rfl rfl ?_
  refine ex_cond rfl (fun hc18 => ?_) (fun hc18 => ?_)
  · (simp [kI, kEv, kOu, kPa, kLa, kVi, kWo, mEv, mOu, mSt] at hc18; done)
  try simp at hc18
  refine ex_skip ?_
  refine hK17 _ _ ?_
  clear hK17 K17
  refine ex_rs ttOK (by rfl) ?_
  refine rl_move rfl ?_
  refine rl_addN (b := 1) rfl rfl (by omega) ?_
  refine rl_assign rfl ?_
  refine ex_rs ttOK (by rfl) ?_
  refine rl_move rfl ?_
  refine rl_move rfl ?_
  refine rl_idxm rfl rfl tt_44 rfl tt_52 rfl (by assumption) ?_
  refine rl_fieldAddr rfl tt_52 rfl rfl tt_22 rfl rfl ?_
  refine rl_load_iel rfl tt_22 rfl ?_
  refine rl_move rfl ?_
  refine rl_call rfl rfl rfl (F_laws_heldIntS c p.incs (q + 7) (by omega)) ?_
  refine rl_assign rfl ?_
  refine ex_seq_k fun K19 hK19 => ?_
  refine ex_rs ttOK (by rfl) ?_
  refine rl_move rfl ?_
  refine rl_bin rfl rfl rfl ?_
  refine ex_cond rfl (fun hc20 => ?_) (fun hc20 => ?_)
  · (simp [kI, kEv, kOu, kPa, kLa, kVi, kWo, mEv, mOu, mSt] at hc20; omega)
  try simp at hc20
  refine ex_skip ?_
  refine hK19 _ _ ?_
  clear hK19 K19
  refine ex_rs ttOK (by rfl) ?_
  refine rl_move rfl ?_
  refine rl_move rfl ?_
  refine rl_idxm rfl rfl tt_44 rfl tt_52 rfl (by assumption) ?_
  refine rl_fieldAddr rfl tt_52 rfl rfl tt_22 rfl rfl ?_
  refine rl_load_iel rfl tt_22 rfl ?_
  refine rl_move rfl ?_
  refine rl_call rfl rfl rfl (F_laws_heldIntS c p.versions (q + 7 + szs zI p.incs) (by omega)) ?_
  refine rl_assign rfl ?_
  refine ex_seq_k fun K21 hK21 => ?_
  refine ex_rs ttOK (by rfl) ?_
  refine rl_move rfl ?_
  refine rl_bin rfl rfl rfl ?_
  refine ex_cond rfl (fun hc22 => ?_) (fun hc22 => ?_)
  · (simp [kI, kEv, kOu, kPa, kLa, kVi, kWo, mEv, mOu, mSt] at hc22; omega)
  try simp at hc22
  refine ex_skip ?_
  refine hK21 _ _ ?_
  clear hK21 K21
  refine ex_rs ttOK (by rfl) ?_
  refine rl_move rfl ?_
  refine rl_move rfl ?_
  refine rl_idxm rfl rfl tt_44 rfl tt_52 rfl (by assumption) ?_
  refine rl_fieldAddr rfl tt_52 rfl rfl tt_24 rfl rfl ?_
  refine rl_load_iel rfl tt_24 rfl ?_
  refine rl_move rfl ?_
  refine rl_call rfl rfl rfl (F_laws_heldEventS c p.events (q + 7 + szs zI p.incs + szs zI p.versions) (by omega)) ?_
  refine rl_assign rfl ?_
  refine ex_seq_k fun K23 hK23 => ?_
  refine ex_rs ttOK (by rfl) ?_
  refine rl_move rfl ?_
  refine rl_bin rfl rfl rfl ?_
  refine ex_cond rfl (fun hc24 => ?_) (fun hc24 => ?_)
  · (simp [kI, kEv, kOu, kPa, kLa, kVi, kWo, mEv, mOu, mSt] at hc24; omega)
  try simp at hc24
  refine ex_skip ?_
  refine hK23 _ _ ?_
  clear hK23 K23
  refine ex_rs ttOK (by rfl) ?_
  refine rl_move rfl ?_
  refine rl_move rfl ?_
  refine rl_idxm rfl rfl tt_44 rfl tt_52 rfl (by assumption) ?_
  refine rl_fieldAddr rfl tt_52 rfl rfl tt_25 rfl rfl ?_
  refine rl_load_iel rfl tt_25 rfl ?_
  refine rl_move rfl ?_
  refine rl_call rfl rfl rfl (F_laws_heldOutS c p.outs (q + 7 + szs zI p.incs + szs zI p.versions + szs zEv p.events) (by omega)) ?_
  refine rl_assign rfl ?_
  refine ex_rs ttOK (by rfl) ?_
  refine rl_move rfl ?_
  refine rl_bin rfl rfl rfl ?_
  refine ex_cond rfl (fun hc25 => ?_) (fun hc25 => ?_)
  · (simp [kI, kEv, kOu, kPa, kLa, kVi, kWo, mEv, mOu, mSt] at hc25; omega)
  try simp at hc25
  refine ex_skip ?_
  refine hK4 _ _ ?_
  clear hK4 K4
  refine ex_region ttOK (by rfl) ?_
  refine rl_move rfl ?_
  refine rl_addN (b := 1) rfl rfl (by omega) ?_
  refine rl_assign rfl ?_
  exact ⟨i + 1, ⟨by omega, by omega⟩, [], (Cov.cons' (t := 1) rfl (by rw [szs_take zWo hp]; exact congrArg (fun v : Nat => AV.pv (.int .i64 (v : Int))) (by omega)) (Cov.cons (t := 5) rfl Cov.nil)), (Cov.cons (t := 0) rfl Cov.nil), HE.nil, HE.nil, rfl⟩
end Go.Proofs.YtpadkogpeobboaaGreat.Am
namespace Go.Proofs.YtpadkogpeobboaaGreat.Am
open Go Go.RowKit
theorem F_impl_within (v lo hi : Int) : Pure Tryz.prog 111 [.pv (.int .i64 v), .pv (.int .i64 lo), .pv (.int .i64 hi)] (.pv (.bool (decide (lo ≤ v ∧ v ≤ hi)))) := by
  refine pure_of_ex ttOK (fn := Tryz.f111) (by kernel_rfl) (by kernel_rfl) rfl (outs := [.pv (.bool (decide (lo ≤ v ∧ v ≤ hi)))]) (by rfl) (Nat.le_of_ble_eq_true rfl) 0 ?_
  refine ex_rs ttOK (by rfl) ?_
  refine rl_assign rfl ?_
  refine ex_rs ttOK (by rfl) ?_
  refine rl_move rfl ?_
  refine rl_move rfl ?_
  refine rl_bin rfl rfl rfl ?_
  refine rl_move rfl ?_
  refine rl_g rfl rfl (fun hg1 => ?_) (fun hg1 => ?_)
  rotate_left
  · try simp at hg1
    refine rl_gF rfl rfl ?_
    refine rl_gF rfl rfl ?_
    refine rl_pickF rfl rfl ?_
    refine rl_assign rfl ?_
    refine ex_ret ⟨.inr rfl, ?_⟩
    refine ret_pv rfl ?_ rfl
    simp; omega
  try simp at hg1
  refine rl_move rfl ?_
  refine rl_gT rfl rfl ?_
  refine rl_move rfl ?_
  refine rl_gT rfl rfl ?_
  refine rl_bin rfl rfl rfl ?_
  refine rl_pickT rfl rfl ?_
  refine rl_assign rfl ?_
  refine ex_ret ⟨.inr rfl, ?_⟩
  refine ret_pv rfl ?_ rfl
  simp; omega
theorem F_spec_l6In (v lo hi : Int) : Pure Tryz.prog 75 [.pv (.int .i64 v), .pv (.int .i64 lo), .pv (.int .i64 hi)] (.pv (.bool (decide (lo ≤ v ∧ v ≤ hi)))) := by
  refine pure_of_ex ttOK (fn := Tryz.f75) (by kernel_rfl) (by kernel_rfl) rfl (outs := [.pv (.bool (decide (lo ≤ v ∧ v ≤ hi)))]) (by rfl) (Nat.le_of_ble_eq_true rfl) 0 ?_
  refine ex_rs ttOK (by rfl) ?_
  refine rl_assign rfl ?_
  refine ex_rs ttOK (by rfl) ?_
  refine rl_move rfl ?_
  refine rl_move rfl ?_
  refine rl_bin rfl rfl rfl ?_
  refine rl_move rfl ?_
  refine rl_g rfl rfl (fun hg1 => ?_) (fun hg1 => ?_)
  rotate_left
  · try simp at hg1
    refine rl_gF rfl rfl ?_
    refine rl_gF rfl rfl ?_
    refine rl_pickF rfl rfl ?_
    refine rl_assign rfl ?_
    refine ex_ret ⟨.inr rfl, ?_⟩
    refine ret_pv rfl ?_ rfl
    simp; omega
  try simp at hg1
  refine rl_move rfl ?_
  refine rl_gT rfl rfl ?_
  refine rl_move rfl ?_
  refine rl_gT rfl rfl ?_
  refine rl_bin rfl rfl rfl ?_
  refine rl_pickT rfl rfl ?_
  refine rl_assign rfl ?_
  refine ex_ret ⟨.inr rfl, ?_⟩
  refine ret_pv rfl ?_ rfl
  simp; omega
theorem F_impl_isProc (p : Int) : Pure Tryz.prog 155 [.pv (.int .i64 p)] (.pv (.bool (decide (0 ≤ p ∧ p ≤ 3)))) := by
  refine pure_of_ex ttOK (fn := Tryz.f155) (by kernel_rfl) (by kernel_rfl) rfl (outs := [.pv (.bool (decide (0 ≤ p ∧ p ≤ 3)))]) (by rfl) (Nat.le_of_ble_eq_true rfl) 0 ?_
  refine ex_rs ttOK (by rfl) ?_
  refine rl_assign rfl ?_
  refine ex_rs ttOK (by rfl) ?_
  refine rl_move rfl ?_
  refine rl_call rfl rfl rfl (F_impl_within ..) ?_
  refine rl_assign rfl ?_
  refine ex_ret ⟨.inr rfl, ?_⟩
  exact ret_pv rfl rfl rfl
theorem F_spec_l1Proc (p : Int) : Pure Tryz.prog 127 [.pv (.int .i64 p)] (.pv (.bool (decide (0 ≤ p ∧ p ≤ 3)))) := by
  refine pure_of_ex ttOK (fn := Tryz.f127) (by kernel_rfl) (by kernel_rfl) rfl (outs := [.pv (.bool (decide (0 ≤ p ∧ p ≤ 3)))]) (by rfl) (Nat.le_of_ble_eq_true rfl) 0 ?_
  refine ex_rs ttOK (by rfl) ?_
  refine rl_assign rfl ?_
  refine ex_rs ttOK (by rfl) ?_
  refine rl_move rfl ?_
  refine rl_call rfl rfl rfl (F_spec_l6In ..) ?_
  refine rl_assign rfl ?_
  refine ex_ret ⟨.inr rfl, ?_⟩
  exact ret_pv rfl rfl rfl
theorem F_impl_isNode (p : Int) : Pure Tryz.prog 154 [.pv (.int .i64 p)] (.pv (.bool (decide (0 ≤ p ∧ p ≤ 2)))) := by
  refine pure_of_ex ttOK (fn := Tryz.f154) (by kernel_rfl) (by kernel_rfl) rfl (outs := [.pv (.bool (decide (0 ≤ p ∧ p ≤ 2)))]) (by rfl) (Nat.le_of_ble_eq_true rfl) 0 ?_
  refine ex_rs ttOK (by rfl) ?_
  refine rl_assign rfl ?_
  refine ex_rs ttOK (by rfl) ?_
  refine rl_move rfl ?_
  refine rl_call rfl rfl rfl (F_impl_within ..) ?_
  refine rl_assign rfl ?_
  refine ex_ret ⟨.inr rfl, ?_⟩
  exact ret_pv rfl rfl rfl
theorem F_impl_NodeOf (p : Int) : Pure Tryz.prog 65 [.pv (.int .i64 p)] (.pv (.int .i64 (nodeOf p))) := by
  refine pure_of_ex ttOK (fn := Tryz.f65) (by kernel_rfl) (by kernel_rfl) rfl (outs := [.pv (.int .i64 (nodeOf p))]) (by rfl) (Nat.le_of_ble_eq_true rfl) 0 ?_
  refine ex_rs ttOK (by rfl) ?_
  refine rl_assign rfl ?_
  refine ex_seq_k fun K1 hK1 => ?_
  refine ex_rs ttOK (by rfl) ?_
  refine rl_move rfl ?_
  refine rl_call rfl rfl rfl (F_impl_isProc ..) ?_
  refine rl_not rfl ?_
  refine ex_cond rfl (fun hc2 => ?_) (fun hc2 => ?_)
  · try simp at hc2
    refine ex_rs ttOK (by rfl) ?_
    refine rl_assign rfl ?_
    refine ex_ret ⟨.inr rfl, ?_⟩
    clear hK1 K1
    refine ret_pv rfl ?_ rfl
    simp [nodeOf]; omega
  try simp at hc2
  refine ex_skip ?_
  refine hK1 _ _ ?_
  clear hK1 K1
  refine ex_rs ttOK (by rfl) ?_
  refine rl_move rfl ?_
  refine rl_bin rfl rfl rfl ?_
  refine rl_assign rfl ?_
  refine ex_ret ⟨.inr rfl, ?_⟩
  refine ret_pv rfl ?_ rfl
  simp [nodeOf]; omega
theorem F_spec_NodeOf (p : Int) : Pure Tryz.prog 115 [.pv (.int .i64 p)] (.pv (.int .i64 (nodeOf p))) := by
  refine pure_of_ex ttOK (fn := Tryz.f115) (by kernel_rfl) (by kernel_rfl) rfl (outs := [.pv (.int .i64 (nodeOf p))]) (by rfl) (Nat.le_of_ble_eq_true rfl) 0 ?_
  refine ex_rs ttOK (by rfl) ?_
  refine rl_assign rfl ?_
  refine ex_seq_k fun K1 hK1 => ?_
  refine ex_rs ttOK (by rfl) ?_
  refine rl_move rfl ?_
  refine rl_call rfl rfl rfl (F_spec_l1Proc ..) ?_
  refine rl_not rfl ?_
  refine ex_cond rfl (fun hc2 => ?_) (fun hc2 => ?_)
  · try simp at hc2
    refine ex_rs ttOK (by rfl) ?_
    refine rl_assign rfl ?_
    refine ex_ret ⟨.inr rfl, ?_⟩
    clear hK1 K1
    refine ret_pv rfl ?_ rfl
    simp [nodeOf]; omega
  try simp at hc2
  refine ex_skip ?_
  refine hK1 _ _ ?_
  clear hK1 K1
  refine ex_rs ttOK (by rfl) ?_
  refine rl_move rfl ?_
  refine rl_bin rfl rfl rfl ?_
  refine rl_assign rfl ?_
  refine ex_ret ⟨.inr rfl, ?_⟩
  refine ret_pv rfl ?_ rfl
  simp [nodeOf]; omega
theorem F_impl_procsOf (id : Int) : Pure Tryz.prog 149 [.pv (.int .i64 id)] (rInts true (procs id 4)) := by
  refine pure_of_ex ttOK (fn := Tryz.f149) (by kernel_rfl) (by kernel_rfl) rfl (outs := [rInts true (procs id 4)]) (by rfl) (Nat.le_of_ble_eq_true rfl) 2 ?_
  refine ex_rs ttOK (by rfl) ?_
  refine rl_assign rfl ?_
  refine ex_rs ttOK (by rfl) ?_
  refine rl_assign rfl ?_
  refine ex_seq_k fun K1 hK1 => ?_
  refine ex_rs ttOK (by rfl) ?_
  refine rl_move rfl ?_
  refine ex_block ?_
  refine ex_nilref 3 1 3 1 rfl rfl ?_
  refine ex_loopK (ι := Nat) (fun i γ1 => [(3, .ref 1 (γ1 1)), (5, .pv (.int .i64 (i : Int)))]) (fun i γ1 => [(1, ((γ1 1), .row 3 1 ((procs id i).map encI))), (0, ((γ1 0), .dead))]) (fun i => i ≤ 4) (fun i => 4 - i) (Cov.cons (t := 0) rfl Cov.nil) HE.nil 0 (by omega) [_, _] (Cov.cons (t := 3) rfl (Cov.cons (t := 5) rfl Cov.nil)) (HE.row rfl rfl (HE.kill rfl HE.nil)) rfl fun i γ1 hi => ?_
  try dsimp only [List.cons_append, List.nil_append]
  refine ex_rs ttOK (by rfl) ?_
  refine rl_bin rfl rfl rfl ?_
  refine ex_seq_k fun K2 hK2 => ?_
  refine ex_cond rfl (fun hc3 => ?_) (fun hc3 => ?_)
  rotate_left
  · try simp at hc3
    refine ex_exit ?_
    refine hK1 _ _ ?_
    clear hK2 K2 hK1 K1
    refine ex_rs ttOK (by rfl) ?_
    refine rl_move rfl ?_
    refine rl_assign rfl ?_
    refine ex_ret ⟨.inr rfl, ?_⟩
    refine ret_row rfl rfl (fun _ => rfl) ?_
    have : i = 4 := by omega
    rw [this]
  try simp at hc3
  refine ex_skip ?_
  refine hK2 _ _ ?_
  clear hK2 K2
  refine ex_seq_k fun K4 hK4 => ?_
  refine ex_block ?_
  refine ex_rs ttOK (by rfl) ?_
  refine rl_move rfl ?_
  refine rl_assign rfl ?_
  refine ex_rs ttOK (by rfl) ?_
  refine rl_move rfl ?_
  refine rl_call rfl rfl rfl (F_impl_NodeOf ..) ?_
  refine rl_move rfl ?_
  refine rl_bin rfl rfl rfl ?_
  refine ex_cond rfl (fun hc5 => ?_) (fun hc5 => ?_)
  rotate_left
  · try simp at hc5
    refine ex_skip ?_
    refine hK4 _ _ ?_
    clear hK4 K4
    refine ex_region ttOK (by rfl) ?_
    refine rl_bin rfl rfl rfl ?_
    refine rl_move rfl ?_
    exact ⟨i + 1, ⟨by omega, by omega⟩, [_, _], (Cov.cons (t := 3) rfl (Cov.cons' (t := 5) rfl (by rw [wrap_small (by omega) (by omega)]; rfl) Cov.nil)), (Cov.cons (t := 0) rfl Cov.nil), (HE.row rfl (by simp only [procs_succ]; rw [if_neg (by assumption)]) (HE.kill rfl HE.nil)), HE.nil, rfl⟩
  try simp at hc5
  refine ex_region ttOK (by rfl) ?_
  refine rl_move rfl ?_
  refine rl_move rfl ?_
  refine rl_slice1 (id := 0) tt_22 rfl tt_3 rfl rfl rfl rfl rfl ?_
  refine rl_app_rr rfl rfl tt_22 rfl tt_3 rfl rfl rfl rfl (by rfl) (by exact map_snoc _ _ _) (by simp only [List.length_map, List.length_append, List.length_cons, List.length_nil, T3]; have := procs_len id i; omega) ?_
  refine rl_assign rfl ?_
  refine hK4 _ _ ?_
  clear hK4 K4
  refine ex_region ttOK (by rfl) ?_
  refine rl_bin rfl rfl rfl ?_
  refine rl_move rfl ?_
  exact ⟨i + 1, ⟨by omega, by omega⟩, [_, _], (Cov.cons (t := 3) rfl (Cov.cons' (t := 5) rfl (by rw [wrap_small (by omega) (by omega)]; rfl) Cov.nil)), (Cov.cons (t := 0) rfl Cov.nil), (HE.row rfl (by simp only [procs_succ]; rw [if_pos (by assumption)]) (HE.kill rfl HE.nil)), HE.nil, rfl⟩
end Go.Proofs.YtpadkogpeobboaaGreat.Am
namespace Go.Proofs.YtpadkogpeobboaaGreat.Am
open Go Go.RowKit
theorem F_cmp_isNaN_int (x : Int) : Pure Tryz.prog 258 [.pv (.int .i64 x)] (.pv (.bool (false))) := by
  refine pure_of_ex ttOK (fn := Tryz.f258) (by kernel_rfl) (by kernel_rfl) rfl (outs := [.pv (.bool (false))]) (by rfl) (Nat.le_of_ble_eq_true rfl) 0 ?_
  refine ex_rs ttOK (by rfl) ?_
  refine rl_assign rfl ?_
  refine ex_rs ttOK (by rfl) ?_
  refine rl_move rfl ?_
  refine rl_move rfl ?_
  refine rl_bin rfl rfl rfl ?_
  refine rl_assign rfl ?_
  refine ex_ret ⟨.inr rfl, ?_⟩
  refine ret_pv rfl ?_ rfl
  simp
theorem F_cmp_Compare_int (x y : Int) : Pure Tryz.prog 240 [.pv (.int .i64 x), .pv (.int .i64 y)] (.pv (.int .i64 (if x < y then -1 else if y < x then 1 else 0))) := by
  refine pure_of_ex ttOK (fn := Tryz.f240) (by kernel_rfl) (by kernel_rfl) rfl (outs := [.pv (.int .i64 (if x < y then -1 else if y < x then 1 else 0))]) (by rfl) (Nat.le_of_ble_eq_true rfl) 0 ?_
  refine ex_rs ttOK (by rfl) ?_
  refine rl_assign rfl ?_
  refine ex_rs ttOK (by rfl) ?_
  refine rl_move rfl ?_
  refine rl_call rfl rfl rfl (F_cmp_isNaN_int ..) ?_
  refine rl_assign rfl ?_
  refine ex_rs ttOK (by rfl) ?_
  refine rl_move rfl ?_
  refine rl_call rfl rfl rfl (F_cmp_isNaN_int ..) ?_
  refine rl_assign rfl ?_
  refine ex_seq_k fun K1 hK1 => ?_
  refine ex_rs ttOK (by rfl) ?_
  refine rl_move rfl ?_
  refine ex_cond rfl (fun hc2 => ?_) (fun hc2 => ?_)
  · simp at hc2
  try simp at hc2
  refine ex_skip ?_
  refine hK1 _ _ ?_
  clear hK1 K1
  refine ex_seq_k fun K3 hK3 => ?_
  refine ex_rs ttOK (by rfl) ?_
  refine rl_move rfl ?_
  refine ex_cond rfl (fun hc4 => ?_) (fun hc4 => ?_)
  · simp at hc4
  try simp at hc4
  refine ex_skip ?_
  refine hK3 _ _ ?_
  clear hK3 K3
  refine ex_seq_k fun K5 hK5 => ?_
  refine ex_rs ttOK (by rfl) ?_
  refine rl_move rfl ?_
  refine rl_move rfl ?_
  refine rl_bin rfl rfl rfl ?_
  refine ex_cond rfl (fun hc6 => ?_) (fun hc6 => ?_)
  · try simp at hc6
    refine ex_rs ttOK (by rfl) ?_
    refine rl_assign rfl ?_
    refine ex_ret ⟨.inr rfl, ?_⟩
    clear hK5 K5
    refine ret_pv rfl ?_ rfl
    simp only [List.cons.injEq, and_true, AV.pv.injEq, Value.int.injEq, true_and]
    split <;> (try split) <;> omega
  try simp at hc6
  refine ex_skip ?_
  refine hK5 _ _ ?_
  clear hK5 K5
  refine ex_seq_k fun K7 hK7 => ?_
  refine ex_rs ttOK (by rfl) ?_
  refine rl_move rfl ?_
  refine rl_move rfl ?_
  refine rl_bin rfl rfl rfl ?_
  refine ex_cond rfl (fun hc8 => ?_) (fun hc8 => ?_)
  · try simp at hc8
    refine ex_rs ttOK (by rfl) ?_
    refine rl_assign rfl ?_
    refine ex_ret ⟨.inr rfl, ?_⟩
    clear hK7 K7
    refine ret_pv rfl ?_ rfl
    simp only [List.cons.injEq, and_true, AV.pv.injEq, Value.int.injEq, true_and]
    split <;> (try split) <;> omega
  try simp at hc8
  refine ex_skip ?_
  refine hK7 _ _ ?_
  clear hK7 K7
  refine ex_rs ttOK (by rfl) ?_
  refine rl_assign rfl ?_
  refine ex_ret ⟨.inr rfl, ?_⟩
  refine ret_pv rfl ?_ rfl
  simp only [List.cons.injEq, and_true, AV.pv.injEq, Value.int.injEq, true_and]
  split <;> (try split) <;> omega
theorem F_slices_Compare_int_int (u v : List Int) (hab : u.length = v.length) (hn : u.length ≤ 1000000) (ty : Nat) : Meth Tryz.prog 213 2 [0, 1] [.bsl 0 0 0 u.length, .bsl 1 0 0 u.length] [(0, (0, .box ty (u.map pI))), (1, (0, .box ty (v.map pI)))] (.pv (.int .i64 (cmpL u v))) [] := by
  refine meth_of_ex ttOK (fn := Tryz.f213) (by kernel_rfl) (by kernel_rfl) rfl (O0 := [.pv (.int .i64 (cmpL u v))]) 2 0 (Nat.le_of_ble_eq_true rfl) (by rfl) (by exact .box (bndC_ints _ _) (.box (bndC_ints _ _) .nil)) (by exact .nil) (by rfl) fun γ => ?_
  have hI : List.map (insH idf γ) [(0, (0, .box ty (u.map pI))), (1, (0, .box ty (v.map pI)))] = [(0, ((γ 0), .box ty (u.map pI))), (1, ((γ 1), .box ty (v.map pI)))] := by simp only [List.map_cons, List.map_nil, insH, inE, inC_ints]; rfl
  rw [hI]
  show Ex Tryz.prog _ _ [(0, .bsl 0 (γ 0) 0 u.length), (1, .bsl 1 (γ 1) 0 u.length)] [(0, ((γ 0), .box ty (u.map pI))), (1, ((γ 1), .box ty (v.map pI)))] _
  refine ex_rs ttOK (by rfl) ?_
  refine rl_assign rfl ?_
  refine ex_seq_k fun K1 hK1 => ?_
  refine ex_rs ttOK (by rfl) ?_
  refine rl_move rfl ?_
  refine rl_len rfl tt_22 rfl rfl (by intro s hs; cases hs) rfl ?_
  refine rl_move rfl ?_
  refine ex_block ?_
  refine ex_loopK (ι := Nat) (fun i γ1 => [(11, .pv (.int .i64 (i : Int)))]) (fun i γ1 => []) (fun i => i ≤ u.length ∧ cmpL u v = cmpL (u.drop i) (v.drop i)) (fun i => u.length - i) (Cov.cons (t := 0) rfl (Cov.cons (t := 1) rfl (Cov.cons (t := 9) rfl (Cov.cons (t := 10) rfl Cov.nil)))) (HE.same (id := 0) rfl (HE.same (id := 1) rfl HE.nil)) 0 ⟨by omega, rfl⟩ [] (Cov.cons (t := 11) rfl Cov.nil) HE.nil rfl fun i γ1 hi => ?_
  try dsimp only [List.cons_append, List.nil_append]
  obtain ⟨h1, h2⟩ := hi
  refine ex_rs ttOK (by rfl) ?_
  refine rl_bin rfl rfl rfl ?_
  refine ex_seq_k fun K2 hK2 => ?_
  refine ex_cond rfl (fun hc3 => ?_) (fun hc3 => ?_)
  rotate_left
  · try simp at hc3
    refine ex_exit ?_
    refine hK1 _ _ ?_
    clear hK2 K2 hK1 K1
    refine ex_seq_k fun K8 hK8 => ?_
    refine ex_rs ttOK (by rfl) ?_
    refine rl_move rfl ?_
    refine rl_len rfl tt_22 rfl rfl (by intro s hs; cases hs) rfl ?_
    refine rl_move rfl ?_
    refine rl_len rfl tt_22 rfl rfl (by intro s hs; cases hs) rfl ?_
    refine rl_bin rfl rfl rfl ?_
    refine ex_cond rfl (fun hc9 => ?_) (fun hc9 => ?_)
    · simp at hc9
    try simp at hc9
    refine ex_skip ?_
    refine hK8 _ _ ?_
    clear hK8 K8
    refine ex_rs ttOK (by rfl) ?_
    refine rl_assign rfl ?_
    refine ex_ret ?_
    exact ⟨.inr rfl, [γ 0, γ 1], rfl, congrArg (fun z => some [AV.pv (.int .i64 z)]) (by rw [h2, List.drop_of_length_le (by omega), List.drop_of_length_le (by omega)]; rfl), HE.cast hI (HE.same rfl (HE.same rfl HE.nil))⟩
  try simp at hc3
  obtain ⟨a, ha1⟩ : ∃ a, u[i]? = some a := ⟨_, List.getElem?_eq_getElem (by omega)⟩
  obtain ⟨b, hb1⟩ : ∃ b, v[i]? = some b := ⟨_, List.getElem?_eq_getElem (by omega)⟩
  refine ex_skip ?_
  refine hK2 _ _ ?_
  clear hK2 K2
  refine ex_seq_k fun K4 hK4 => ?_
  refine ex_block ?_
  refine ex_rs ttOK (by rfl) ?_
  refine rl_move rfl ?_
  refine rl_idxb ttOK rfl rfl tt_22 rfl tt_3 rfl (by omega) ?_
  refine rl_load_ptr rfl tt_3 rfl (ldv_ints rfl ha1) ?_
  refine rl_assign rfl ?_
  refine rl_assign rfl ?_
  refine ex_seq_k fun K5 hK5 => ?_
  refine ex_rs ttOK (by rfl) ?_
  refine rl_move rfl ?_
  refine rl_move rfl ?_
  refine rl_len rfl tt_22 rfl rfl (by intro s hs; cases hs) rfl ?_
  refine rl_bin rfl rfl rfl ?_
  refine ex_cond rfl (fun hc6 => ?_) (fun hc6 => ?_)
  · try simp at hc6
    omega
  try simp at hc6
  refine ex_skip ?_
  refine hK5 _ _ ?_
  clear hK5 K5
  refine ex_rs ttOK (by rfl) ?_
  refine rl_move rfl ?_
  refine rl_move rfl ?_
  refine rl_idxb ttOK rfl rfl tt_22 rfl tt_3 rfl (by omega) ?_
  refine rl_load_ptr rfl tt_3 rfl (ldv_ints rfl hb1) ?_
  refine rl_assign rfl ?_
  refine ex_rs ttOK (by rfl) ?_
  refine rl_move rfl ?_
  refine rl_move rfl ?_
  refine rl_call rfl rfl rfl (F_cmp_Compare_int ..) ?_
  refine rl_assign rfl ?_
  refine ex_rs ttOK (by rfl) ?_
  refine rl_move rfl ?_
  refine rl_bin rfl rfl rfl ?_
  refine ex_cond rfl (fun hc7 => ?_) (fun hc7 => ?_)
  · try simp at hc7
    have hz := hc7
    refine ex_rs ttOK (by rfl) ?_
    refine rl_move rfl ?_
    refine rl_assign rfl ?_
    refine ex_ret ?_
    exact ⟨.inr rfl, [γ 0, γ 1], rfl, congrArg (fun z => some [AV.pv (.int .i64 z)]) (by rw [h2, cmpL_drop ha1 hb1]; exact (cmp_ne hz).symm), HE.cast hI (HE.same rfl (HE.same rfl HE.nil))⟩
  try simp at hc7
  have hz := hc7
  refine ex_skip ?_
  refine hK4 _ _ ?_
  clear hK4 K4
  refine ex_region ttOK (by rfl) ?_
  refine rl_bin rfl rfl rfl ?_
  refine rl_move rfl ?_
  exact ⟨i + 1, ⟨⟨by omega, by rw [h2, cmpL_drop ha1 hb1, cmp_eq hz]⟩, by omega⟩, [], (Cov.cons' (t := 11) rfl (by rw [wrap_small (by omega) (by omega)]; rfl) Cov.nil), (Cov.cons (t := 0) rfl (Cov.cons (t := 1) rfl (Cov.cons (t := 9) rfl (Cov.cons (t := 10) rfl Cov.nil)))), HE.nil, (HE.same (id := 0) rfl (HE.same (id := 1) rfl HE.nil)), rfl⟩
theorem F_impl_keyOf (e : Ev) : Pure Tryz.prog 147 [.agg (encEv e)] (.agg (encEv e)) := by
  refine pure_of_ex ttOK (fn := Tryz.f147) (by kernel_rfl) (by kernel_rfl) rfl (outs := [.agg (encEv e)]) (by rfl) (Nat.le_of_ble_eq_true rfl) 2 ?_
  refine ex_rs ttOK (by rfl) ?_
  refine rl_boxA (id := 0) rfl rfl rfl ?_
  refine rl_alloc (id := 1) tt_179 za_179 rfl ?_
  refine ex_rs ttOK (by rfl) ?_
  refine rl_fieldAddr rfl tt_76 rfl rfl tt_3 rfl rfl ?_
  refine rl_load_ptr rfl tt_3 rfl rfl ?_
  refine rl_fieldAddr rfl tt_76 rfl rfl tt_3 rfl rfl ?_
  refine rl_load_ptr rfl tt_3 rfl rfl ?_
  refine rl_fieldAddr rfl tt_76 rfl rfl tt_3 rfl rfl ?_
  refine rl_load_ptr rfl tt_3 rfl rfl ?_
  refine rl_fieldAddr rfl tt_76 rfl rfl tt_3 rfl rfl ?_
  refine rl_load_ptr rfl tt_3 rfl rfl ?_
  refine rl_fieldAddr rfl tt_76 rfl rfl tt_3 rfl rfl ?_
  refine rl_load_ptr rfl tt_3 rfl rfl ?_
  refine rl_fieldAddr rfl tt_76 rfl rfl tt_3 rfl rfl ?_
  refine rl_load_ptr rfl tt_3 rfl rfl ?_
  refine rl_fieldAddr rfl tt_76 rfl rfl tt_3 rfl rfl ?_
  refine rl_load_ptr rfl tt_3 rfl rfl ?_
  refine rl_buildArr ttOK tt_179 rfl tt_3 za_179 rfl (by simp only [pI, tt_3, arrFlds, List.range, List.range.loop, List.map_cons, List.map_nil, fillA, cellsA, AV.okc, AV.one, Value.oneCell', T3, T4, List.getElem?_cons_zero, List.getElem?_cons_succ, List.take_succ_cons, List.take_zero, List.drop_succ_cons, List.drop_zero, List.cons_append, List.nil_append, List.length_cons, List.length_nil, if_true, and_self, Nat.reduceAdd, Nat.reduceMul, Nat.reduceLeDiff]; rfl) ?_
  refine rl_storeA rfl rfl tt_179 rfl rfl rfl rfl ?_
  refine ex_ret ⟨.inr rfl, ?_⟩
  exact ret_agg rfl rfl rfl rfl
theorem F_impl_eventKey_event (e : Ev) : Pure Tryz.prog 169 [.agg (encEv e)] (.agg (encEv e)) := by
  refine pure_of_ex ttOK (fn := Tryz.f169) (by kernel_rfl) (by kernel_rfl) rfl (outs := [.agg (encEv e)]) (by rfl) (Nat.le_of_ble_eq_true rfl) 2 ?_
  refine ex_rs ttOK (by rfl) ?_
  refine rl_boxA (id := 0) rfl rfl rfl ?_
  refine rl_alloc (id := 1) tt_76 za_76 rfl ?_
  refine ex_rs ttOK (by rfl) ?_
  refine rl_idxa ttOK (j := 0) rfl rfl tt_179 rfl tt_3 (by decide) rfl ?_
  refine rl_load_ptr rfl tt_3 rfl rfl ?_
  refine rl_idxa ttOK (j := 1) rfl rfl tt_179 rfl tt_3 (by decide) rfl ?_
  refine rl_load_ptr rfl tt_3 rfl rfl ?_
  refine rl_idxa ttOK (j := 2) rfl rfl tt_179 rfl tt_3 (by decide) rfl ?_
  refine rl_load_ptr rfl tt_3 rfl rfl ?_
  refine rl_idxa ttOK (j := 3) rfl rfl tt_179 rfl tt_3 (by decide) rfl ?_
  refine rl_load_ptr rfl tt_3 rfl rfl ?_
  refine rl_idxa ttOK (j := 4) rfl rfl tt_179 rfl tt_3 (by decide) rfl ?_
  refine rl_load_ptr rfl tt_3 rfl rfl ?_
  refine rl_idxa ttOK (j := 5) rfl rfl tt_179 rfl tt_3 (by decide) rfl ?_
  refine rl_load_ptr rfl tt_3 rfl rfl ?_
  refine rl_idxa ttOK (j := 6) rfl rfl tt_179 rfl tt_3 (by decide) rfl ?_
  refine rl_load_ptr rfl tt_3 rfl rfl ?_
  refine rl_build tt_76 rfl za_76 rfl (by simp only [pI, fillA, cellsA, AV.okc, AV.one, T3, T4, List.getElem?_cons_zero, List.getElem?_cons_succ, List.take_succ_cons, List.take_zero, List.drop_succ_cons, List.drop_zero, List.cons_append, List.nil_append, List.length_cons, List.length_nil, if_true, and_self, Nat.reduceAdd, Nat.reduceLeDiff]; rfl) ?_
  refine rl_storeA rfl rfl tt_76 rfl rfl rfl rfl ?_
  refine ex_ret ⟨.inr rfl, ?_⟩
  exact ret_agg rfl rfl rfl rfl
theorem F_impl_keyLess (a b : Ev) : Pure Tryz.prog 146 [.agg (encEv a), .agg (encEv b)] (.pv (.bool (evLt a b))) := by
  refine pure_of_ex ttOK (fn := Tryz.f146) (by kernel_rfl) (by kernel_rfl) rfl (outs := [.pv (.bool (evLt a b))]) (by rfl) (Nat.le_of_ble_eq_true rfl) 2 ?_
  refine ex_rs ttOK (by rfl) ?_
  refine rl_boxA (id := 0) rfl rfl rfl ?_
  refine rl_boxA (id := 1) rfl rfl rfl ?_
  refine rl_assign rfl ?_
  refine ex_rsD ttOK mixed (by rfl) ?_
  refine rl_asl ttOK rfl tt_179 rfl tt_3 rfl ?_
  refine rl_asl ttOK rfl tt_179 rfl tt_3 rfl ?_
  refine rl_meth [0, 1] [_, _] (F_slices_Compare_int_int (evN a) (evN b) rfl (Nat.le_of_ble_eq_true rfl) 179) rfl rfl rfl (by decide) rfl rfl (by repeat (first | exact InH.nil | refine InH.cons rfl ?_)) (by (simp only [pI, List.map_cons, List.map_nil, insAll, insEnc, gl, nx, memN, Nat.beq, Nat.add_eq, List.getD_cons_zero, List.getD_cons_succ, List.getD_nil, Bool.or_false, Bool.false_or, Bool.true_or, Bool.or_true, Nat.add_zero, Nat.zero_add]; rfl)) (by (simp only [pI, List.map_cons, List.map_nil, insAll, insEnc, gl, nx, memN, Nat.beq, Nat.add_eq, List.getD_cons_zero, List.getD_cons_succ, List.getD_nil, Bool.or_false, Bool.false_or, Bool.true_or, Bool.or_true, Nat.add_zero, Nat.zero_add]; rfl)) ?_
  refine rl_bin rfl rfl rfl ?_
  refine rl_assign rfl ?_
  refine ⟨by kernel_rfl, ?_⟩
  refine ex_ret ⟨.inr rfl, ?_⟩
  refine ret_pv rfl ?_ rfl
  simp only [evLt, ← cmpL_lex (evN a) (evN b) rfl]
theorem F_impl_EventLess (a b : Ev) : Pure Tryz.prog 60 [.agg (encEv a), .agg (encEv b)] (.pv (.bool (evLt a b))) := by
  refine pure_of_ex ttOK (fn := Tryz.f60) (by kernel_rfl) (by kernel_rfl) rfl (outs := [.pv (.bool (evLt a b))]) (by rfl) (Nat.le_of_ble_eq_true rfl) 2 ?_
  refine ex_rs ttOK (by rfl) ?_
  refine rl_boxA (id := 0) rfl rfl rfl ?_
  refine rl_boxA (id := 1) rfl rfl rfl ?_
  refine rl_assign rfl ?_
  refine ex_rsD ttOK mixed (by rfl) ?_
  refine rl_loadA_ptr rfl tt_76 rfl rfl rfl ?_
  refine rl_call rfl rfl rfl (F_impl_keyOf ..) ?_
  refine rl_loadA_ptr rfl tt_76 rfl rfl rfl ?_
  refine rl_call rfl rfl rfl (F_impl_keyOf ..) ?_
  refine rl_call rfl rfl rfl (F_impl_keyLess ..) ?_
  refine rl_assign rfl ?_
  refine ⟨by kernel_rfl, ?_⟩
  refine ex_ret ⟨.inr rfl, ?_⟩
  exact ret_pv rfl rfl rfl
end Go.Proofs.YtpadkogpeobboaaGreat.Am
namespace Go.Proofs.YtpadkogpeobboaaGreat.Am
open Go Go.RowKit
theorem F_impl_isNum (v : Int) : Pure Tryz.prog 235 [.pv (.int .i64 v)] (.pv (.bool (decide (0 ≤ v ∧ v ≤ 999)))) := by
  refine pure_of_ex ttOK (fn := Tryz.f235) (by kernel_rfl) (by kernel_rfl) rfl (outs := [.pv (.bool (decide (0 ≤ v ∧ v ≤ 999)))]) (by rfl) (Nat.le_of_ble_eq_true rfl) 0 ?_
  refine ex_rs ttOK (by rfl) ?_
  refine rl_assign rfl ?_
  refine ex_rs ttOK (by rfl) ?_
  refine rl_move rfl ?_
  refine rl_call rfl rfl rfl (F_impl_within ..) ?_
  refine rl_assign rfl ?_
  refine ex_ret ⟨.inr rfl, ?_⟩
  exact ret_pv rfl rfl rfl
theorem F_spec_l1Num (v : Int) : Pure Tryz.prog 200 [.pv (.int .i64 v)] (.pv (.bool (decide (0 ≤ v ∧ v ≤ 999)))) := by
  refine pure_of_ex ttOK (fn := Tryz.f200) (by kernel_rfl) (by kernel_rfl) rfl (outs := [.pv (.bool (decide (0 ≤ v ∧ v ≤ 999)))]) (by rfl) (Nat.le_of_ble_eq_true rfl) 0 ?_
  refine ex_rs ttOK (by rfl) ?_
  refine rl_assign rfl ?_
  refine ex_rs ttOK (by rfl) ?_
  refine rl_move rfl ?_
  refine rl_call rfl rfl rfl (F_spec_l6In ..) ?_
  refine rl_assign rfl ?_
  refine ex_ret ⟨.inr rfl, ?_⟩
  exact ret_pv rfl rfl rfl
theorem F_impl_isKind (v : Int) : Pure Tryz.prog 256 [.pv (.int .i64 v)] (.pv (.bool (decide (0 ≤ v ∧ v ≤ 3)))) := by
  refine pure_of_ex ttOK (fn := Tryz.f256) (by kernel_rfl) (by kernel_rfl) rfl (outs := [.pv (.bool (decide (0 ≤ v ∧ v ≤ 3)))]) (by rfl) (Nat.le_of_ble_eq_true rfl) 0 ?_
  refine ex_rs ttOK (by rfl) ?_
  refine rl_assign rfl ?_
  refine ex_rs ttOK (by rfl) ?_
  refine rl_move rfl ?_
  refine rl_call rfl rfl rfl (F_impl_within ..) ?_
  refine rl_assign rfl ?_
  refine ex_ret ⟨.inr rfl, ?_⟩
  exact ret_pv rfl rfl rfl
theorem F_impl_stateOk (s : St) : Pure Tryz.prog 196 [.agg (encSt s)] (.pv (.bool (decide (stOk s)))) := by
  refine pure_of_ex ttOK (fn := Tryz.f196) (by kernel_rfl) (by kernel_rfl) rfl (outs := [.pv (.bool (decide (stOk s)))]) (by rfl) (Nat.le_of_ble_eq_true rfl) 1 ?_
  refine ex_rs ttOK (by rfl) ?_
  refine rl_boxA (id := 0) rfl rfl rfl ?_
  refine rl_assign rfl ?_
  refine ex_rs ttOK (by rfl) ?_
  refine rl_fieldAddr rfl tt_62 rfl rfl tt_3 rfl rfl ?_
  refine rl_load_ptr rfl tt_3 rfl rfl ?_
  refine rl_call rfl rfl rfl (F_impl_isNum ..) ?_
  refine rl_move rfl ?_
  refine rl_g rfl rfl (fun hg1 => ?_) (fun hg1 => ?_)
  rotate_left
  · try simp at hg1
    refine rl_gF rfl rfl ?_
    refine rl_gF rfl rfl ?_
    refine rl_pickF rfl rfl ?_
    refine rl_move rfl ?_
    refine rl_gF rfl rfl ?_
    refine rl_gF rfl rfl ?_
    refine rl_gF rfl rfl ?_
    refine rl_pickF rfl rfl ?_
    refine rl_assign rfl ?_
    refine ex_ret ⟨.inr rfl, ?_⟩
    refine ret_pv rfl ?_ rfl
    exact kF (by unfold stOk; omega)
  try simp at hg1
  refine rl_fieldAddr rfl tt_62 rfl rfl tt_3 rfl rfl ?_
  refine rl_gT rfl rfl ?_
  refine rl_load_ptr rfl tt_3 rfl rfl ?_
  refine rl_gT rfl rfl ?_
  refine rl_call rfl rfl rfl (F_impl_isNum ..) ?_
  refine rl_pickT rfl rfl ?_
  refine rl_move rfl ?_
  refine rl_g rfl rfl (fun hg2 => ?_) (fun hg2 => ?_)
  rotate_left
  · try simp at hg2
    refine rl_gF rfl rfl ?_
    refine rl_gF rfl rfl ?_
    refine rl_pickF rfl rfl ?_
    refine rl_assign rfl ?_
    refine ex_ret ⟨.inr rfl, ?_⟩
    refine ret_pv rfl ?_ rfl
    exact kF (by unfold stOk; omega)
  try simp at hg2
  refine rl_fieldAddr rfl tt_62 rfl rfl tt_3 rfl rfl ?_
  refine rl_gT rfl rfl ?_
  refine rl_load_ptr rfl tt_3 rfl rfl ?_
  refine rl_gT rfl rfl ?_
  refine rl_call rfl rfl rfl (F_impl_within ..) ?_
  refine rl_pickT rfl rfl ?_
  refine rl_assign rfl ?_
  refine ex_ret ⟨.inr rfl, ?_⟩
  refine ret_pv rfl ?_ rfl
  exact congrArg (fun b : Bool => [AV.pv (.bool b)]) (decide_eq_decide.2 (by unfold stOk; omega))
theorem F_spec_l1StateOk (s : St) : Pure Tryz.prog 128 [.agg (encSt s)] (.pv (.bool (decide (stOk s)))) := by
  refine pure_of_ex ttOK (fn := Tryz.f128) (by kernel_rfl) (by kernel_rfl) rfl (outs := [.pv (.bool (decide (stOk s)))]) (by rfl) (Nat.le_of_ble_eq_true rfl) 1 ?_
  refine ex_rs ttOK (by rfl) ?_
  refine rl_boxA (id := 0) rfl rfl rfl ?_
  refine rl_assign rfl ?_
  refine ex_rs ttOK (by rfl) ?_
  refine rl_fieldAddr rfl tt_62 rfl rfl tt_3 rfl rfl ?_
  refine rl_load_ptr rfl tt_3 rfl rfl ?_
  refine rl_call rfl rfl rfl (F_spec_l1Num ..) ?_
  refine rl_move rfl ?_
  refine rl_g rfl rfl (fun hg1 => ?_) (fun hg1 => ?_)
  rotate_left
  · try simp at hg1
    refine rl_gF rfl rfl ?_
    refine rl_gF rfl rfl ?_
    refine rl_pickF rfl rfl ?_
    refine rl_move rfl ?_
    refine rl_gF rfl rfl ?_
    refine rl_gF rfl rfl ?_
    refine rl_gF rfl rfl ?_
    refine rl_pickF rfl rfl ?_
    refine rl_assign rfl ?_
    refine ex_ret ⟨.inr rfl, ?_⟩
    refine ret_pv rfl ?_ rfl
    exact kF (by unfold stOk; omega)
  try simp at hg1
  refine rl_fieldAddr rfl tt_62 rfl rfl tt_3 rfl rfl ?_
  refine rl_gT rfl rfl ?_
  refine rl_load_ptr rfl tt_3 rfl rfl ?_
  refine rl_gT rfl rfl ?_
  refine rl_call rfl rfl rfl (F_spec_l1Num ..) ?_
  refine rl_pickT rfl rfl ?_
  refine rl_move rfl ?_
  refine rl_g rfl rfl (fun hg2 => ?_) (fun hg2 => ?_)
  rotate_left
  · try simp at hg2
    refine rl_gF rfl rfl ?_
    refine rl_gF rfl rfl ?_
    refine rl_pickF rfl rfl ?_
    refine rl_assign rfl ?_
    refine ex_ret ⟨.inr rfl, ?_⟩
    refine ret_pv rfl ?_ rfl
    exact kF (by unfold stOk; omega)
  try simp at hg2
  refine rl_fieldAddr rfl tt_62 rfl rfl tt_3 rfl rfl ?_
  refine rl_gT rfl rfl ?_
  refine rl_load_ptr rfl tt_3 rfl rfl ?_
  refine rl_gT rfl rfl ?_
  refine rl_call rfl rfl rfl (F_spec_l6In ..) ?_
  refine rl_pickT rfl rfl ?_
  refine rl_assign rfl ?_
  refine ex_ret ⟨.inr rfl, ?_⟩
  refine ret_pv rfl ?_ rfl
  exact congrArg (fun b : Bool => [AV.pv (.bool b)]) (decide_eq_decide.2 (by unfold stOk; omega))
theorem F_impl_eventOk (e : Ev) : Pure Tryz.prog 236 [.agg (encEv e)] (.pv (.bool (decide (evOk e)))) := by
  refine pure_of_ex ttOK (fn := Tryz.f236) (by kernel_rfl) (by kernel_rfl) rfl (outs := [.pv (.bool (decide (evOk e)))]) (by rfl) (Nat.le_of_ble_eq_true rfl) 1 ?_
  refine ex_rs ttOK (by rfl) ?_
  refine rl_boxA (id := 0) rfl rfl rfl ?_
  refine rl_assign rfl ?_
  refine ex_rs ttOK (by rfl) ?_
  refine rl_fieldAddr rfl tt_76 rfl rfl tt_3 rfl rfl ?_
  refine rl_load_ptr rfl tt_3 rfl rfl ?_
  refine rl_call rfl rfl rfl (F_impl_within ..) ?_
  refine rl_move rfl ?_
  refine rl_g rfl rfl (fun hg1 => ?_) (fun hg1 => ?_)
  rotate_left
  · try simp at hg1
    refine rl_gF rfl rfl ?_
    refine rl_gF rfl rfl ?_
    refine rl_pickF rfl rfl ?_
    refine rl_move rfl ?_
    refine rl_gF rfl rfl ?_
    refine rl_gF rfl rfl ?_
    refine rl_gF rfl rfl ?_
    refine rl_pickF rfl rfl ?_
    refine rl_move rfl ?_
    refine rl_gF rfl rfl ?_
    refine rl_gF rfl rfl ?_
    refine rl_gF rfl rfl ?_
    refine rl_pickF rfl rfl ?_
    refine rl_move rfl ?_
    refine rl_gF rfl rfl ?_
    refine rl_gF rfl rfl ?_
    refine rl_gF rfl rfl ?_
    refine rl_pickF rfl rfl ?_
    refine rl_move rfl ?_
    refine rl_gF rfl rfl ?_
    refine rl_gF rfl rfl ?_
    refine rl_gF rfl rfl ?_
    refine rl_pickF rfl rfl ?_
    refine rl_move rfl ?_
    refine rl_gF rfl rfl ?_
    refine rl_gF rfl rfl ?_
    refine rl_gF rfl rfl ?_
    refine rl_pickF rfl rfl ?_
    refine rl_assign rfl ?_
    refine ex_ret ⟨.inr rfl, ?_⟩
    refine ret_pv rfl ?_ rfl
    exact kF (by unfold evOk; omega)
  try simp at hg1
  refine rl_fieldAddr rfl tt_76 rfl rfl tt_3 rfl rfl ?_
  refine rl_gT rfl rfl ?_
  refine rl_load_ptr rfl tt_3 rfl rfl ?_
  refine rl_gT rfl rfl ?_
  refine rl_call rfl rfl rfl (F_impl_isProc ..) ?_
  refine rl_pickT rfl rfl ?_
  refine rl_move rfl ?_
  refine rl_g rfl rfl (fun hg2 => ?_) (fun hg2 => ?_)
  rotate_left
  · try simp at hg2
    refine rl_gF rfl rfl ?_
    refine rl_gF rfl rfl ?_
    refine rl_pickF rfl rfl ?_
    refine rl_move rfl ?_
    refine rl_gF rfl rfl ?_
    refine rl_gF rfl rfl ?_
    refine rl_gF rfl rfl ?_
    refine rl_pickF rfl rfl ?_
    refine rl_move rfl ?_
    refine rl_gF rfl rfl ?_
    refine rl_gF rfl rfl ?_
    refine rl_gF rfl rfl ?_
    refine rl_pickF rfl rfl ?_
    refine rl_move rfl ?_
    refine rl_gF rfl rfl ?_
    refine rl_gF rfl rfl ?_
    refine rl_gF rfl rfl ?_
    refine rl_pickF rfl rfl ?_
    refine rl_move rfl ?_
    refine rl_gF rfl rfl ?_
    refine rl_gF rfl rfl ?_
    refine rl_gF rfl rfl ?_
    refine rl_pickF rfl rfl ?_
    refine rl_assign rfl ?_
    refine ex_ret ⟨.inr rfl, ?_⟩
    refine ret_pv rfl ?_ rfl
    exact kF (by unfold evOk; omega)
  try simp at hg2
  refine rl_fieldAddr rfl tt_76 rfl rfl tt_3 rfl rfl ?_
  refine rl_gT rfl rfl ?_
  refine rl_load_ptr rfl tt_3 rfl rfl ?_
  refine rl_gT rfl rfl ?_
  refine rl_call rfl rfl rfl (F_impl_within ..) ?_
  refine rl_pickT rfl rfl ?_
  refine rl_move rfl ?_
  refine rl_g rfl rfl (fun hg3 => ?_) (fun hg3 => ?_)
  rotate_left
  · try simp at hg3
    refine rl_gF rfl rfl ?_
    refine rl_gF rfl rfl ?_
    refine rl_pickF rfl rfl ?_
    refine rl_move rfl ?_
    refine rl_gF rfl rfl ?_
    refine rl_gF rfl rfl ?_
    refine rl_gF rfl rfl ?_
    refine rl_pickF rfl rfl ?_
    refine rl_move rfl ?_
    refine rl_gF rfl rfl ?_
    refine rl_gF rfl rfl ?_
    refine rl_gF rfl rfl ?_
    refine rl_pickF rfl rfl ?_
    refine rl_move rfl ?_
    refine rl_gF rfl rfl ?_
    refine rl_gF rfl rfl ?_
    refine rl_gF rfl rfl ?_
    refine rl_pickF rfl rfl ?_
    refine rl_assign rfl ?_
    refine ex_ret ⟨.inr rfl, ?_⟩
    refine ret_pv rfl ?_ rfl
    exact kF (by unfold evOk; omega)
  try simp at hg3
  refine rl_fieldAddr rfl tt_76 rfl rfl tt_3 rfl rfl ?_
  refine rl_gT rfl rfl ?_
  refine rl_load_ptr rfl tt_3 rfl rfl ?_
  refine rl_gT rfl rfl ?_
  refine rl_call rfl rfl rfl (F_impl_within ..) ?_
  refine rl_pickT rfl rfl ?_
  refine rl_move rfl ?_
  refine rl_g rfl rfl (fun hg4 => ?_) (fun hg4 => ?_)
  rotate_left
  · try simp at hg4
    refine rl_gF rfl rfl ?_
    refine rl_gF rfl rfl ?_
    refine rl_pickF rfl rfl ?_
    refine rl_move rfl ?_
    refine rl_gF rfl rfl ?_
    refine rl_gF rfl rfl ?_
    refine rl_gF rfl rfl ?_
    refine rl_pickF rfl rfl ?_
    refine rl_move rfl ?_
    refine rl_gF rfl rfl ?_
    refine rl_gF rfl rfl ?_
    refine rl_gF rfl rfl ?_
    refine rl_pickF rfl rfl ?_
    refine rl_assign rfl ?_
    refine ex_ret ⟨.inr rfl, ?_⟩
    refine ret_pv rfl ?_ rfl
    exact kF (by unfold evOk; omega)
  try simp at hg4
  refine rl_fieldAddr rfl tt_76 rfl rfl tt_3 rfl rfl ?_
  refine rl_gT rfl rfl ?_
  refine rl_load_ptr rfl tt_3 rfl rfl ?_
  refine rl_gT rfl rfl ?_
  refine rl_call rfl rfl rfl (F_impl_within ..) ?_
  refine rl_pickT rfl rfl ?_
  refine rl_move rfl ?_
  refine rl_g rfl rfl (fun hg5 => ?_) (fun hg5 => ?_)
  rotate_left
  · try simp at hg5
    refine rl_gF rfl rfl ?_
    refine rl_gF rfl rfl ?_
    refine rl_pickF rfl rfl ?_
    refine rl_move rfl ?_
    refine rl_gF rfl rfl ?_
    refine rl_gF rfl rfl ?_
    refine rl_gF rfl rfl ?_
    refine rl_pickF rfl rfl ?_
    refine rl_assign rfl ?_
    refine ex_ret ⟨.inr rfl, ?_⟩
    refine ret_pv rfl ?_ rfl
    exact kF (by unfold evOk; omega)
  try simp at hg5
  refine rl_fieldAddr rfl tt_76 rfl rfl tt_3 rfl rfl ?_
  refine rl_gT rfl rfl ?_
  refine rl_load_ptr rfl tt_3 rfl rfl ?_
  refine rl_gT rfl rfl ?_
  refine rl_call rfl rfl rfl (F_impl_isKind ..) ?_
  refine rl_pickT rfl rfl ?_
  refine rl_move rfl ?_
  refine rl_g rfl rfl (fun hg6 => ?_) (fun hg6 => ?_)
  rotate_left
  · try simp at hg6
    refine rl_gF rfl rfl ?_
    refine rl_gF rfl rfl ?_
    refine rl_pickF rfl rfl ?_
    refine rl_assign rfl ?_
    refine ex_ret ⟨.inr rfl, ?_⟩
    refine ret_pv rfl ?_ rfl
    exact kF (by unfold evOk; omega)
  try simp at hg6
  refine rl_fieldAddr rfl tt_76 rfl rfl tt_3 rfl rfl ?_
  refine rl_gT rfl rfl ?_
  refine rl_load_ptr rfl tt_3 rfl rfl ?_
  refine rl_gT rfl rfl ?_
  refine rl_call rfl rfl rfl (F_impl_isNum ..) ?_
  refine rl_pickT rfl rfl ?_
  refine rl_assign rfl ?_
  refine ex_ret ⟨.inr rfl, ?_⟩
  refine ret_pv rfl ?_ rfl
  exact congrArg (fun b : Bool => [AV.pv (.bool b)]) (decide_eq_decide.2 (by unfold evOk; omega))
theorem F_spec_l1EventOk (e : Ev) : Pure Tryz.prog 201 [.agg (encEv e)] (.pv (.bool (decide (evOk e)))) := by
  refine pure_of_ex ttOK (fn := Tryz.f201) (by kernel_rfl) (by kernel_rfl) rfl (outs := [.pv (.bool (decide (evOk e)))]) (by rfl) (Nat.le_of_ble_eq_true rfl) 1 ?_
  refine ex_rs ttOK (by rfl) ?_
  refine rl_boxA (id := 0) rfl rfl rfl ?_
  refine rl_assign rfl ?_
  refine ex_rs ttOK (by rfl) ?_
  refine rl_fieldAddr rfl tt_76 rfl rfl tt_3 rfl rfl ?_
  refine rl_load_ptr rfl tt_3 rfl rfl ?_
  refine rl_call rfl rfl rfl (F_spec_l6In ..) ?_
  refine rl_move rfl ?_
  refine rl_g rfl rfl (fun hg1 => ?_) (fun hg1 => ?_)
  rotate_left
  · try simp at hg1
    refine rl_gF rfl rfl ?_
    refine rl_gF rfl rfl ?_
    refine rl_pickF rfl rfl ?_
    refine rl_move rfl ?_
    refine rl_gF rfl rfl ?_
    refine rl_gF rfl rfl ?_
    refine rl_gF rfl rfl ?_
    refine rl_pickF rfl rfl ?_
    refine rl_move rfl ?_
    refine rl_gF rfl rfl ?_
    refine rl_gF rfl rfl ?_
    refine rl_gF rfl rfl ?_
    refine rl_pickF rfl rfl ?_
    refine rl_move rfl ?_
    refine rl_gF rfl rfl ?_
    refine rl_gF rfl rfl ?_
    refine rl_gF rfl rfl ?_
    refine rl_pickF rfl rfl ?_
    refine rl_move rfl ?_
    refine rl_gF rfl rfl ?_
    refine rl_gF rfl rfl ?_
    refine rl_gF rfl rfl ?_
    refine rl_pickF rfl rfl ?_
    refine rl_move rfl ?_
    refine rl_gF rfl rfl ?_
    refine rl_gF rfl rfl ?_
    refine rl_gF rfl rfl ?_
    refine rl_pickF rfl rfl ?_
    refine rl_assign rfl ?_
    refine ex_ret ⟨.inr rfl, ?_⟩
    refine ret_pv rfl ?_ rfl
    exact kF (by unfold evOk; omega)
  try simp at hg1
  refine rl_fieldAddr rfl tt_76 rfl rfl tt_3 rfl rfl ?_
  refine rl_gT rfl rfl ?_
  refine rl_load_ptr rfl tt_3 rfl rfl ?_
  refine rl_gT rfl rfl ?_
  refine rl_call rfl rfl rfl (F_spec_l1Proc ..) ?_
  refine rl_pickT rfl rfl ?_
  refine rl_move rfl ?_
  refine rl_g rfl rfl (fun hg2 => ?_) (fun hg2 => ?_)
  rotate_left
  · try simp at hg2
    refine rl_gF rfl rfl ?_
    refine rl_gF rfl rfl ?_
    refine rl_pickF rfl rfl ?_
    refine rl_move rfl ?_
    refine rl_gF rfl rfl ?_
    refine rl_gF rfl rfl ?_
    refine rl_gF rfl rfl ?_
    refine rl_pickF rfl rfl ?_
    refine rl_move rfl ?_
    refine rl_gF rfl rfl ?_
    refine rl_gF rfl rfl ?_
    refine rl_gF rfl rfl ?_
    refine rl_pickF rfl rfl ?_
    refine rl_move rfl ?_
    refine rl_gF rfl rfl ?_
    refine rl_gF rfl rfl ?_
    refine rl_gF rfl rfl ?_
    refine rl_pickF rfl rfl ?_
    refine rl_move rfl ?_
    refine rl_gF rfl rfl ?_
    refine rl_gF rfl rfl ?_
    refine rl_gF rfl rfl ?_
    refine rl_pickF rfl rfl ?_
    refine rl_assign rfl ?_
    refine ex_ret ⟨.inr rfl, ?_⟩
    refine ret_pv rfl ?_ rfl
    exact kF (by unfold evOk; omega)
  try simp at hg2
  refine rl_fieldAddr rfl tt_76 rfl rfl tt_3 rfl rfl ?_
  refine rl_gT rfl rfl ?_
  refine rl_load_ptr rfl tt_3 rfl rfl ?_
  refine rl_gT rfl rfl ?_
  refine rl_call rfl rfl rfl (F_spec_l6In ..) ?_
  refine rl_pickT rfl rfl ?_
  refine rl_move rfl ?_
  refine rl_g rfl rfl (fun hg3 => ?_) (fun hg3 => ?_)
  rotate_left
  · try simp at hg3
    refine rl_gF rfl rfl ?_
    refine rl_gF rfl rfl ?_
    refine rl_pickF rfl rfl ?_
    refine rl_move rfl ?_
    refine rl_gF rfl rfl ?_
    refine rl_gF rfl rfl ?_
    refine rl_gF rfl rfl ?_
    refine rl_pickF rfl rfl ?_
    refine rl_move rfl ?_
    refine rl_gF rfl rfl ?_
    refine rl_gF rfl rfl ?_
    refine rl_gF rfl rfl ?_
    refine rl_pickF rfl rfl ?_
    refine rl_move rfl ?_
    refine rl_gF rfl rfl ?_
    refine rl_gF rfl rfl ?_
    refine rl_gF rfl rfl ?_
    refine rl_pickF rfl rfl ?_
    refine rl_assign rfl ?_
    refine ex_ret ⟨.inr rfl, ?_⟩
    refine ret_pv rfl ?_ rfl
    exact kF (by unfold evOk; omega)
  try simp at hg3
  refine rl_fieldAddr rfl tt_76 rfl rfl tt_3 rfl rfl ?_
  refine rl_gT rfl rfl ?_
  refine rl_load_ptr rfl tt_3 rfl rfl ?_
  refine rl_gT rfl rfl ?_
  refine rl_call rfl rfl rfl (F_spec_l6In ..) ?_
  refine rl_pickT rfl rfl ?_
  refine rl_move rfl ?_
  refine rl_g rfl rfl (fun hg4 => ?_) (fun hg4 => ?_)
  rotate_left
  · try simp at hg4
    refine rl_gF rfl rfl ?_
    refine rl_gF rfl rfl ?_
    refine rl_pickF rfl rfl ?_
    refine rl_move rfl ?_
    refine rl_gF rfl rfl ?_
    refine rl_gF rfl rfl ?_
    refine rl_gF rfl rfl ?_
    refine rl_pickF rfl rfl ?_
    refine rl_move rfl ?_
    refine rl_gF rfl rfl ?_
    refine rl_gF rfl rfl ?_
    refine rl_gF rfl rfl ?_
    refine rl_pickF rfl rfl ?_
    refine rl_assign rfl ?_
    refine ex_ret ⟨.inr rfl, ?_⟩
    refine ret_pv rfl ?_ rfl
    exact kF (by unfold evOk; omega)
  try simp at hg4
  refine rl_fieldAddr rfl tt_76 rfl rfl tt_3 rfl rfl ?_
  refine rl_gT rfl rfl ?_
  refine rl_load_ptr rfl tt_3 rfl rfl ?_
  refine rl_gT rfl rfl ?_
  refine rl_call rfl rfl rfl (F_spec_l6In ..) ?_
  refine rl_pickT rfl rfl ?_
  refine rl_move rfl ?_
  refine rl_g rfl rfl (fun hg5 => ?_) (fun hg5 => ?_)
  rotate_left
  · try simp at hg5
    refine rl_gF rfl rfl ?_
    refine rl_gF rfl rfl ?_
    refine rl_pickF rfl rfl ?_
    refine rl_move rfl ?_
    refine rl_gF rfl rfl ?_
    refine rl_gF rfl rfl ?_
    refine rl_gF rfl rfl ?_
    refine rl_pickF rfl rfl ?_
    refine rl_assign rfl ?_
    refine ex_ret ⟨.inr rfl, ?_⟩
    refine ret_pv rfl ?_ rfl
    exact kF (by unfold evOk; omega)
  try simp at hg5
  refine rl_fieldAddr rfl tt_76 rfl rfl tt_3 rfl rfl ?_
  refine rl_gT rfl rfl ?_
  refine rl_load_ptr rfl tt_3 rfl rfl ?_
  refine rl_gT rfl rfl ?_
  refine rl_call rfl rfl rfl (F_spec_l6In ..) ?_
  refine rl_pickT rfl rfl ?_
  refine rl_move rfl ?_
  refine rl_g rfl rfl (fun hg6 => ?_) (fun hg6 => ?_)
  rotate_left
  · try simp at hg6
    refine rl_gF rfl rfl ?_
    refine rl_gF rfl rfl ?_
    refine rl_pickF rfl rfl ?_
    refine rl_assign rfl ?_
    refine ex_ret ⟨.inr rfl, ?_⟩
    refine ret_pv rfl ?_ rfl
    exact kF (by unfold evOk; omega)
  try simp at hg6
  refine rl_fieldAddr rfl tt_76 rfl rfl tt_3 rfl rfl ?_
  refine rl_gT rfl rfl ?_
  refine rl_load_ptr rfl tt_3 rfl rfl ?_
  refine rl_gT rfl rfl ?_
  refine rl_call rfl rfl rfl (F_spec_l1Num ..) ?_
  refine rl_pickT rfl rfl ?_
  refine rl_assign rfl ?_
  refine ex_ret ⟨.inr rfl, ?_⟩
  refine ret_pv rfl ?_ rfl
  exact congrArg (fun b : Bool => [AV.pv (.bool b)]) (decide_eq_decide.2 (by unfold evOk; omega))
theorem F_spec_EventLess (a b : Ev) : Pure Tryz.prog 131 [.agg (encEv a), .agg (encEv b)] (.pv (.bool (evLt a b))) := by
  refine pure_of_ex ttOK (fn := Tryz.f131) (by kernel_rfl) (by kernel_rfl) rfl (outs := [.pv (.bool (evLt a b))]) (by rfl) (Nat.le_of_ble_eq_true rfl) 2 ?_
  refine ex_rs ttOK (by rfl) ?_
  refine rl_boxA (id := 0) rfl rfl rfl ?_
  refine rl_boxA (id := 1) rfl rfl rfl ?_
  refine rl_assign rfl ?_
  refine ex_seq_k fun K1 hK1 => ?_
  refine ex_block ?_
  refine ex_rs ttOK (by rfl) ?_
  refine rl_fieldAddr rfl tt_76 rfl rfl tt_3 rfl rfl ?_
  refine rl_load_ptr rfl tt_3 rfl rfl ?_
  refine rl_fieldAddr rfl tt_76 rfl rfl tt_3 rfl rfl ?_
  refine rl_load_ptr rfl tt_3 rfl rfl ?_
  refine rl_bin rfl rfl rfl ?_
  refine rl_assign rfl ?_
  refine ex_cond rfl (fun hc2 => ?_) (fun hc2 => ?_)
  · try simp at hc2
    refine ex_rs ttOK (by rfl) ?_
    refine rl_fieldAddr rfl tt_76 rfl rfl tt_3 rfl rfl ?_
    refine rl_load_ptr rfl tt_3 rfl rfl ?_
    refine rl_fieldAddr rfl tt_76 rfl rfl tt_3 rfl rfl ?_
    refine rl_load_ptr rfl tt_3 rfl rfl ?_
    refine rl_bin rfl rfl rfl ?_
    refine rl_assign rfl ?_
    refine ex_ret ⟨.inr rfl, ?_⟩
    clear hK1 K1
    refine ret_pv rfl ?_ rfl
    rw [evLt_dec]
    exact congrArg (fun b : Bool => [AV.pv (.bool b)]) (decide_eq_decide.2 (by unfold lexE; omega))
  try simp at hc2
  refine ex_rs ttOK (by rfl) ?_
  refine rl_fieldAddr rfl tt_76 rfl rfl tt_3 rfl rfl ?_
  refine rl_load_ptr rfl tt_3 rfl rfl ?_
  refine rl_fieldAddr rfl tt_76 rfl rfl tt_3 rfl rfl ?_
  refine rl_load_ptr rfl tt_3 rfl rfl ?_
  refine rl_bin rfl rfl rfl ?_
  refine rl_assign rfl ?_
  refine ex_cond rfl (fun hc3 => ?_) (fun hc3 => ?_)
  · try simp at hc3
    refine ex_rs ttOK (by rfl) ?_
    refine rl_fieldAddr rfl tt_76 rfl rfl tt_3 rfl rfl ?_
    refine rl_load_ptr rfl tt_3 rfl rfl ?_
    refine rl_fieldAddr rfl tt_76 rfl rfl tt_3 rfl rfl ?_
    refine rl_load_ptr rfl tt_3 rfl rfl ?_
    refine rl_bin rfl rfl rfl ?_
    refine rl_assign rfl ?_
    refine ex_ret ⟨.inr rfl, ?_⟩
    clear hK1 K1
    refine ret_pv rfl ?_ rfl
    rw [evLt_dec]
    exact congrArg (fun b : Bool => [AV.pv (.bool b)]) (decide_eq_decide.2 (by unfold lexE; omega))
  try simp at hc3
  refine ex_rs ttOK (by rfl) ?_
  refine rl_fieldAddr rfl tt_76 rfl rfl tt_3 rfl rfl ?_
  refine rl_load_ptr rfl tt_3 rfl rfl ?_
  refine rl_fieldAddr rfl tt_76 rfl rfl tt_3 rfl rfl ?_
  refine rl_load_ptr rfl tt_3 rfl rfl ?_
  refine rl_bin rfl rfl rfl ?_
  refine rl_assign rfl ?_
  refine ex_cond rfl (fun hc4 => ?_) (fun hc4 => ?_)
  · try simp at hc4
    refine ex_rs ttOK (by rfl) ?_
    refine rl_fieldAddr rfl tt_76 rfl rfl tt_3 rfl rfl ?_
    refine rl_load_ptr rfl tt_3 rfl rfl ?_
    refine rl_fieldAddr rfl tt_76 rfl rfl tt_3 rfl rfl ?_
    refine rl_load_ptr rfl tt_3 rfl rfl ?_
    refine rl_bin rfl rfl rfl ?_
    refine rl_assign rfl ?_
    refine ex_ret ⟨.inr rfl, ?_⟩
    clear hK1 K1
    refine ret_pv rfl ?_ rfl
    rw [evLt_dec]
    exact congrArg (fun b : Bool => [AV.pv (.bool b)]) (decide_eq_decide.2 (by unfold lexE; omega))
  try simp at hc4
  refine ex_rs ttOK (by rfl) ?_
  refine rl_fieldAddr rfl tt_76 rfl rfl tt_3 rfl rfl ?_
  refine rl_load_ptr rfl tt_3 rfl rfl ?_
  refine rl_fieldAddr rfl tt_76 rfl rfl tt_3 rfl rfl ?_
  refine rl_load_ptr rfl tt_3 rfl rfl ?_
  refine rl_bin rfl rfl rfl ?_
  refine rl_assign rfl ?_
  refine ex_cond rfl (fun hc5 => ?_) (fun hc5 => ?_)
  · try simp at hc5
    refine ex_rs ttOK (by rfl) ?_
    refine rl_fieldAddr rfl tt_76 rfl rfl tt_3 rfl rfl ?_
    refine rl_load_ptr rfl tt_3 rfl rfl ?_
    refine rl_fieldAddr rfl tt_76 rfl rfl tt_3 rfl rfl ?_
    refine rl_load_ptr rfl tt_3 rfl rfl ?_
    refine rl_bin rfl rfl rfl ?_
    refine rl_assign rfl ?_
    refine ex_ret ⟨.inr rfl, ?_⟩
    clear hK1 K1
    refine ret_pv rfl ?_ rfl
    rw [evLt_dec]
    exact congrArg (fun b : Bool => [AV.pv (.bool b)]) (decide_eq_decide.2 (by unfold lexE; omega))
  try simp at hc5
  refine ex_rs ttOK (by rfl) ?_
  refine rl_fieldAddr rfl tt_76 rfl rfl tt_3 rfl rfl ?_
  refine rl_load_ptr rfl tt_3 rfl rfl ?_
  refine rl_fieldAddr rfl tt_76 rfl rfl tt_3 rfl rfl ?_
  refine rl_load_ptr rfl tt_3 rfl rfl ?_
  refine rl_bin rfl rfl rfl ?_
  refine rl_assign rfl ?_
  refine ex_cond rfl (fun hc6 => ?_) (fun hc6 => ?_)
  · try simp at hc6
    refine ex_rs ttOK (by rfl) ?_
    refine rl_fieldAddr rfl tt_76 rfl rfl tt_3 rfl rfl ?_
    refine rl_load_ptr rfl tt_3 rfl rfl ?_
    refine rl_fieldAddr rfl tt_76 rfl rfl tt_3 rfl rfl ?_
    refine rl_load_ptr rfl tt_3 rfl rfl ?_
    refine rl_bin rfl rfl rfl ?_
    refine rl_assign rfl ?_
    refine ex_ret ⟨.inr rfl, ?_⟩
    clear hK1 K1
    refine ret_pv rfl ?_ rfl
    rw [evLt_dec]
    exact congrArg (fun b : Bool => [AV.pv (.bool b)]) (decide_eq_decide.2 (by unfold lexE; omega))
  try simp at hc6
  refine ex_rs ttOK (by rfl) ?_
  refine rl_fieldAddr rfl tt_76 rfl rfl tt_3 rfl rfl ?_
  refine rl_load_ptr rfl tt_3 rfl rfl ?_
  refine rl_fieldAddr rfl tt_76 rfl rfl tt_3 rfl rfl ?_
  refine rl_load_ptr rfl tt_3 rfl rfl ?_
  refine rl_bin rfl rfl rfl ?_
  refine rl_assign rfl ?_
  refine ex_cond rfl (fun hc7 => ?_) (fun hc7 => ?_)
  · try simp at hc7
    refine ex_rs ttOK (by rfl) ?_
    refine rl_fieldAddr rfl tt_76 rfl rfl tt_3 rfl rfl ?_
    refine rl_load_ptr rfl tt_3 rfl rfl ?_
    refine rl_fieldAddr rfl tt_76 rfl rfl tt_3 rfl rfl ?_
    refine rl_load_ptr rfl tt_3 rfl rfl ?_
    refine rl_bin rfl rfl rfl ?_
    refine rl_assign rfl ?_
    refine ex_ret ⟨.inr rfl, ?_⟩
    clear hK1 K1
    refine ret_pv rfl ?_ rfl
    rw [evLt_dec]
    exact congrArg (fun b : Bool => [AV.pv (.bool b)]) (decide_eq_decide.2 (by unfold lexE; omega))
  try simp at hc7
  refine ex_skip ?_
  refine hK1 _ _ ?_
  clear hK1 K1
  refine ex_rs ttOK (by rfl) ?_
  refine rl_fieldAddr rfl tt_76 rfl rfl tt_3 rfl rfl ?_
  refine rl_load_ptr rfl tt_3 rfl rfl ?_
  refine rl_fieldAddr rfl tt_76 rfl rfl tt_3 rfl rfl ?_
  refine rl_load_ptr rfl tt_3 rfl rfl ?_
  refine rl_bin rfl rfl rfl ?_
  refine rl_assign rfl ?_
  refine ex_ret ⟨.inr rfl, ?_⟩
  refine ret_pv rfl ?_ rfl
  rw [evLt_dec]
  exact congrArg (fun b : Bool => [AV.pv (.bool b)]) (decide_eq_decide.2 (by unfold lexE; omega))
theorem F_spec_OutLess (a b : Ou) : Pure Tryz.prog 191 [.agg (encOu a), .agg (encOu b)] (.pv (.bool (ouLt a b))) := by
  refine pure_of_ex ttOK (fn := Tryz.f191) (by kernel_rfl) (by kernel_rfl) rfl (outs := [.pv (.bool (ouLt a b))]) (by rfl) (Nat.le_of_ble_eq_true rfl) 2 ?_
  refine ex_rs ttOK (by rfl) ?_
  refine rl_boxA (id := 0) rfl rfl rfl ?_
  refine rl_boxA (id := 1) rfl rfl rfl ?_
  refine rl_assign rfl ?_
  refine ex_seq_k fun K1 hK1 => ?_
  refine ex_block ?_
  refine ex_rs ttOK (by rfl) ?_
  refine rl_fieldAddr rfl tt_104 rfl rfl tt_3 rfl rfl ?_
  refine rl_load_ptr rfl tt_3 rfl rfl ?_
  refine rl_fieldAddr rfl tt_104 rfl rfl tt_3 rfl rfl ?_
  refine rl_load_ptr rfl tt_3 rfl rfl ?_
  refine rl_bin rfl rfl rfl ?_
  refine rl_assign rfl ?_
  refine ex_cond rfl (fun hc2 => ?_) (fun hc2 => ?_)
  · try simp at hc2
    refine ex_rs ttOK (by rfl) ?_
    refine rl_fieldAddr rfl tt_104 rfl rfl tt_3 rfl rfl ?_
    refine rl_load_ptr rfl tt_3 rfl rfl ?_
    refine rl_fieldAddr rfl tt_104 rfl rfl tt_3 rfl rfl ?_
    refine rl_load_ptr rfl tt_3 rfl rfl ?_
    refine rl_bin rfl rfl rfl ?_
    refine rl_assign rfl ?_
    refine ex_ret ⟨.inr rfl, ?_⟩
    clear hK1 K1
    refine ret_pv rfl ?_ rfl
    rw [ouLt_dec]
    exact congrArg (fun b : Bool => [AV.pv (.bool b)]) (decide_eq_decide.2 (by unfold lexO; omega))
  try simp at hc2
  refine ex_rs ttOK (by rfl) ?_
  refine rl_fieldAddr rfl tt_104 rfl rfl tt_3 rfl rfl ?_
  refine rl_load_ptr rfl tt_3 rfl rfl ?_
  refine rl_fieldAddr rfl tt_104 rfl rfl tt_3 rfl rfl ?_
  refine rl_load_ptr rfl tt_3 rfl rfl ?_
  refine rl_bin rfl rfl rfl ?_
  refine rl_assign rfl ?_
  refine ex_cond rfl (fun hc3 => ?_) (fun hc3 => ?_)
  · try simp at hc3
    refine ex_rs ttOK (by rfl) ?_
    refine rl_fieldAddr rfl tt_104 rfl rfl tt_3 rfl rfl ?_
    refine rl_load_ptr rfl tt_3 rfl rfl ?_
    refine rl_fieldAddr rfl tt_104 rfl rfl tt_3 rfl rfl ?_
    refine rl_load_ptr rfl tt_3 rfl rfl ?_
    refine rl_bin rfl rfl rfl ?_
    refine rl_assign rfl ?_
    refine ex_ret ⟨.inr rfl, ?_⟩
    clear hK1 K1
    refine ret_pv rfl ?_ rfl
    rw [ouLt_dec]
    exact congrArg (fun b : Bool => [AV.pv (.bool b)]) (decide_eq_decide.2 (by unfold lexO; omega))
  try simp at hc3
  refine ex_rs ttOK (by rfl) ?_
  refine rl_fieldAddr rfl tt_104 rfl rfl tt_3 rfl rfl ?_
  refine rl_load_ptr rfl tt_3 rfl rfl ?_
  refine rl_fieldAddr rfl tt_104 rfl rfl tt_3 rfl rfl ?_
  refine rl_load_ptr rfl tt_3 rfl rfl ?_
  refine rl_bin rfl rfl rfl ?_
  refine rl_assign rfl ?_
  refine ex_cond rfl (fun hc4 => ?_) (fun hc4 => ?_)
  · try simp at hc4
    refine ex_rs ttOK (by rfl) ?_
    refine rl_fieldAddr rfl tt_104 rfl rfl tt_3 rfl rfl ?_
    refine rl_load_ptr rfl tt_3 rfl rfl ?_
    refine rl_fieldAddr rfl tt_104 rfl rfl tt_3 rfl rfl ?_
    refine rl_load_ptr rfl tt_3 rfl rfl ?_
    refine rl_bin rfl rfl rfl ?_
    refine rl_assign rfl ?_
    refine ex_ret ⟨.inr rfl, ?_⟩
    clear hK1 K1
    refine ret_pv rfl ?_ rfl
    rw [ouLt_dec]
    exact congrArg (fun b : Bool => [AV.pv (.bool b)]) (decide_eq_decide.2 (by unfold lexO; omega))
  try simp at hc4
  refine ex_rs ttOK (by rfl) ?_
  refine rl_fieldAddr rfl tt_104 rfl rfl tt_3 rfl rfl ?_
  refine rl_load_ptr rfl tt_3 rfl rfl ?_
  refine rl_fieldAddr rfl tt_104 rfl rfl tt_3 rfl rfl ?_
  refine rl_load_ptr rfl tt_3 rfl rfl ?_
  refine rl_bin rfl rfl rfl ?_
  refine rl_assign rfl ?_
  refine ex_cond rfl (fun hc5 => ?_) (fun hc5 => ?_)
  · try simp at hc5
    refine ex_rs ttOK (by rfl) ?_
    refine rl_fieldAddr rfl tt_104 rfl rfl tt_3 rfl rfl ?_
    refine rl_load_ptr rfl tt_3 rfl rfl ?_
    refine rl_fieldAddr rfl tt_104 rfl rfl tt_3 rfl rfl ?_
    refine rl_load_ptr rfl tt_3 rfl rfl ?_
    refine rl_bin rfl rfl rfl ?_
    refine rl_assign rfl ?_
    refine ex_ret ⟨.inr rfl, ?_⟩
    clear hK1 K1
    refine ret_pv rfl ?_ rfl
    rw [ouLt_dec]
    exact congrArg (fun b : Bool => [AV.pv (.bool b)]) (decide_eq_decide.2 (by unfold lexO; omega))
  try simp at hc5
  refine ex_skip ?_
  refine hK1 _ _ ?_
  clear hK1 K1
  refine ex_rs ttOK (by rfl) ?_
  refine rl_fieldAddr rfl tt_104 rfl rfl tt_3 rfl rfl ?_
  refine rl_load_ptr rfl tt_3 rfl rfl ?_
  refine rl_fieldAddr rfl tt_104 rfl rfl tt_3 rfl rfl ?_
  refine rl_load_ptr rfl tt_3 rfl rfl ?_
  refine rl_bin rfl rfl rfl ?_
  refine rl_assign rfl ?_
  refine ex_ret ⟨.inr rfl, ?_⟩
  refine ret_pv rfl ?_ rfl
  rw [ouLt_dec]
  exact congrArg (fun b : Bool => [AV.pv (.bool b)]) (decide_eq_decide.2 (by unfold lexO; omega))
theorem F_impl_OutLess (a b : Ou) : Pure Tryz.prog 231 [.agg (encOu a), .agg (encOu b)] (.pv (.bool (ouLt a b))) := by
  refine pure_of_ex ttOK (fn := Tryz.f231) (by kernel_rfl) (by kernel_rfl) rfl (outs := [.pv (.bool (ouLt a b))]) (by rfl) (Nat.le_of_ble_eq_true rfl) 4 ?_
  refine ex_rs ttOK (by rfl) ?_
  refine rl_boxA (id := 0) rfl rfl rfl ?_
  refine rl_boxA (id := 1) rfl rfl rfl ?_
  refine rl_assign rfl ?_
  refine ex_rs ttOK (by rfl) ?_
  refine rl_fieldAddr rfl tt_104 rfl rfl tt_3 rfl rfl ?_
  refine rl_load_ptr rfl tt_3 rfl rfl ?_
  refine rl_fieldAddr rfl tt_104 rfl rfl tt_3 rfl rfl ?_
  refine rl_load_ptr rfl tt_3 rfl rfl ?_
  refine rl_fieldAddr rfl tt_104 rfl rfl tt_3 rfl rfl ?_
  refine rl_load_ptr rfl tt_3 rfl rfl ?_
  refine rl_fieldAddr rfl tt_104 rfl rfl tt_3 rfl rfl ?_
  refine rl_load_ptr rfl tt_3 rfl rfl ?_
  refine rl_fieldAddr rfl tt_104 rfl rfl tt_3 rfl rfl ?_
  refine rl_load_ptr rfl tt_3 rfl rfl ?_
  refine rl_buildArr ttOK tt_286 rfl tt_3 za_286 rfl (by simp only [pI, tt_3, arrFlds, List.range, List.range.loop, List.map_cons, List.map_nil, fillA, cellsA, AV.okc, AV.one, Value.oneCell', T3, T4, List.getElem?_cons_zero, List.getElem?_cons_succ, List.take_succ_cons, List.take_zero, List.drop_succ_cons, List.drop_zero, List.cons_append, List.nil_append, List.length_cons, List.length_nil, if_true, and_self, Nat.reduceAdd, Nat.reduceMul, Nat.reduceLeDiff]; rfl) ?_
  refine rl_alloc (id := 2) tt_286 za_286 rfl ?_
  refine rl_storeA rfl rfl tt_286 rfl rfl rfl rfl ?_
  refine ex_rs ttOK (by rfl) ?_
  refine rl_fieldAddr rfl tt_104 rfl rfl tt_3 rfl rfl ?_
  refine rl_load_ptr rfl tt_3 rfl rfl ?_
  refine rl_fieldAddr rfl tt_104 rfl rfl tt_3 rfl rfl ?_
  refine rl_load_ptr rfl tt_3 rfl rfl ?_
  refine rl_fieldAddr rfl tt_104 rfl rfl tt_3 rfl rfl ?_
  refine rl_load_ptr rfl tt_3 rfl rfl ?_
  refine rl_fieldAddr rfl tt_104 rfl rfl tt_3 rfl rfl ?_
  refine rl_load_ptr rfl tt_3 rfl rfl ?_
  refine rl_fieldAddr rfl tt_104 rfl rfl tt_3 rfl rfl ?_
  refine rl_load_ptr rfl tt_3 rfl rfl ?_
  refine rl_buildArr ttOK tt_286 rfl tt_3 za_286 rfl (by simp only [pI, tt_3, arrFlds, List.range, List.range.loop, List.map_cons, List.map_nil, fillA, cellsA, AV.okc, AV.one, Value.oneCell', T3, T4, List.getElem?_cons_zero, List.getElem?_cons_succ, List.take_succ_cons, List.take_zero, List.drop_succ_cons, List.drop_zero, List.cons_append, List.nil_append, List.length_cons, List.length_nil, if_true, and_self, Nat.reduceAdd, Nat.reduceMul, Nat.reduceLeDiff]; rfl) ?_
  refine rl_alloc (id := 3) tt_286 za_286 rfl ?_
  refine rl_storeA rfl rfl tt_286 rfl rfl rfl rfl ?_
  refine ex_rsD ttOK mixed (by rfl) ?_
  refine rl_asl ttOK rfl tt_286 rfl tt_3 rfl ?_
  refine rl_asl ttOK rfl tt_286 rfl tt_3 rfl ?_
  refine rl_meth [2, 3] [_, _] (F_slices_Compare_int_int (ouL a) (ouL b) rfl (Nat.le_of_ble_eq_true rfl) 286) rfl rfl rfl (by decide) rfl rfl (by repeat (first | exact InH.nil | refine InH.cons rfl ?_)) (by (simp only [pI, List.map_cons, List.map_nil, insAll, insEnc, gl, nx, memN, Nat.beq, Nat.add_eq, List.getD_cons_zero, List.getD_cons_succ, List.getD_nil, Bool.or_false, Bool.false_or, Bool.true_or, Bool.or_true, Nat.add_zero, Nat.zero_add]; rfl)) (by (simp only [pI, List.map_cons, List.map_nil, insAll, insEnc, gl, nx, memN, Nat.beq, Nat.add_eq, List.getD_cons_zero, List.getD_cons_succ, List.getD_nil, Bool.or_false, Bool.false_or, Bool.true_or, Bool.or_true, Nat.add_zero, Nat.zero_add]; rfl)) ?_
  refine rl_bin rfl rfl rfl ?_
  refine rl_assign rfl ?_
  refine ⟨by kernel_rfl, ?_⟩
  refine ex_ret ⟨.inr rfl, ?_⟩
  refine ret_pv rfl ?_ rfl
  simp only [ouLt, ← cmpL_lex (ouL a) (ouL b) rfl]
theorem F_impl_eventsOk (c : Bool) (l : List Ev) (most : Int) : Pure Tryz.prog 203 [rEvs c l, .pv (.int .i64 most)] (.pv (.bool (lsOk okE evLt l most))) := by
  refine pure_of_ex ttOK (fn := Tryz.f203) (by kernel_rfl) (by kernel_rfl) rfl (outs := [.pv (.bool (lsOk okE evLt l most))]) (by rfl) (Nat.le_of_ble_eq_true rfl) 1 ?_
  refine ex_rowlenm 0 rfl fun hlen => ?_
  refine ex_rs ttOK (by rfl) ?_
  refine rl_assign rfl ?_
  refine ex_seq_k fun K1 hK1 => ?_
  refine ex_rs ttOK (by rfl) ?_
  refine rl_move rfl ?_
  refine rl_lenm rfl tt_24 rfl ?_
  refine rl_move rfl ?_
  refine rl_bin rfl rfl rfl ?_
  refine ex_cond rfl (fun hc2 => ?_) (fun hc2 => ?_)
  · try simp at hc2
    refine ex_rs ttOK (by rfl) ?_
    refine rl_assign rfl ?_
    refine ex_ret ⟨.inr rfl, ?_⟩
    clear hK1 K1
    refine ret_pv rfl ?_ rfl
    exact congrArg (fun b : Bool => [AV.pv (.bool b)]) (lsOk_long (by omega)).symm
  try simp at hc2
  refine ex_skip ?_
  refine hK1 _ _ ?_
  clear hK1 K1
  refine ex_seq_k fun K3 hK3 => ?_
  refine ex_rs ttOK (by rfl) ?_
  refine rl_move rfl ?_
  refine rl_lenm rfl tt_24 rfl ?_
  refine rl_move rfl ?_
  refine ex_block ?_
  refine ex_loopK (ι := Nat) (fun i γ1 => [(13, .pv (.int .i64 (i : Int)))]) (fun i γ1 => [(0, ((γ1 0), .dead))]) (fun i => i ≤ l.length ∧ lsOk okE evLt l most = chk2 okE evLt (last? l i) (l.drop i)) (fun i => l.length - i) (Cov.cons (t := 0) rfl (Cov.cons (t := 11) rfl (Cov.cons (t := 12) rfl Cov.nil))) HE.nil 0 ⟨by omega, lsOk_eq (by omega)⟩ [_] (Cov.cons (t := 13) rfl Cov.nil) (HE.kill rfl HE.nil) rfl fun i γ1 hi => ?_
  try dsimp only [List.cons_append, List.nil_append]
  obtain ⟨h1, h2⟩ := hi
  refine ex_rs ttOK (by rfl) ?_
  refine rl_bin rfl rfl rfl ?_
  refine ex_seq_k fun K4 hK4 => ?_
  refine ex_cond rfl (fun hc5 => ?_) (fun hc5 => ?_)
  rotate_left
  · try simp at hc5
    obtain rfl : i = l.length := by omega
    rw [List.drop_length] at h2
    refine ex_exit ?_
    refine hK3 _ _ ?_
    clear hK4 K4 hK3 K3
    refine ex_rs ttOK (by rfl) ?_
    refine rl_assign rfl ?_
    refine ex_ret ⟨.inr rfl, ?_⟩
    refine ret_pv rfl ?_ rfl
    exact congrArg (fun b : Bool => [AV.pv (.bool b)]) h2.symm
  try simp at hc5
  obtain ⟨p, hp⟩ : ∃ p, l[i]? = some p := ⟨_, List.getElem?_eq_getElem (by omega)⟩
  rw [drop_cons hp] at h2
  refine ex_skip ?_
  refine hK4 _ _ ?_
  clear hK4 K4
  refine ex_seq_k fun K6 hK6 => ?_
  refine ex_block ?_
  refine ex_rs ttOK (by rfl) ?_
  refine rl_move rfl ?_
  refine rl_idxm rfl rfl tt_24 rfl tt_76 rfl hp ?_
  refine rl_loadA_iel rfl tt_76 rfl rfl ?_
  refine rl_alloc (id := 0) tt_76 za_76 rfl ?_
  refine rl_assign rfl ?_
  refine rl_storeA rfl rfl tt_76 rfl rfl rfl rfl ?_
  refine ex_rsD ttOK mixed (by rfl) ?_
  refine rl_loadA_ptr rfl tt_76 rfl rfl rfl ?_
  refine rl_call rfl rfl rfl (F_impl_eventOk ..) ?_
  refine rl_not rfl ?_
  refine rl_move rfl ?_
  refine rl_g rfl rfl (fun hg7 => ?_) (fun hg7 => ?_)
  rotate_left
  · try simp at hg7
    have hbad : okE p = false := by simpa [okE] using hg7
    refine rl_gF rfl rfl ?_
    refine rl_gF rfl rfl ?_
    refine rl_gU rfl rfl ?_
    refine rl_gU rfl rfl ?_
    refine rl_gU rfl rfl ?_
    refine rl_gU rfl rfl ?_
    refine rl_gU rfl rfl ?_
    refine rl_gU rfl rfl ?_
    refine rl_gU rfl rfl ?_
    refine rl_gU rfl rfl ?_
    refine rl_gF rfl rfl ?_
    refine rl_pickT rfl rfl ?_
    refine ⟨by kernel_rfl, ?_⟩
    refine ex_cond rfl (fun hc11 => ?_) (fun hc11 => ?_)
    rotate_left
    · simp at hc11
    try simp at hc11
    try have hlt := hc11
    refine ex_rs ttOK (by rfl) ?_
    refine rl_assign rfl ?_
    refine ex_ret ⟨.inr rfl, ?_⟩
    clear hK6 K6 hK3 K3
    refine ret_pv rfl ?_ rfl
    exact congrArg (fun b : Bool => [AV.pv (.bool b)]) (h2.trans (chk2_bad _ _ hbad)).symm
  try simp at hg7
  have hok : okE p = true := by simpa [okE] using hg7
  refine rl_move rfl ?_
  refine rl_gT rfl rfl ?_
  refine rl_bin rfl rfl rfl ?_
  refine rl_gT rfl rfl ?_
  refine rl_move rfl ?_
  refine rl_g rfl rfl (fun hg8 => ?_) (fun hg8 => ?_)
  rotate_left
  · try simp at hg8
    have hi0 : i = 0 := by omega
    have hlast : last? l i = none := by rw [hi0]; rfl
    rw [hlast] at h2
    refine rl_gF rfl rfl ?_
    refine rl_gF rfl rfl ?_
    refine rl_gF rfl rfl ?_
    refine rl_gF rfl rfl ?_
    refine rl_gF rfl rfl ?_
    refine rl_gF rfl rfl ?_
    refine rl_gF rfl rfl ?_
    refine rl_gT rfl rfl ?_
    refine rl_pickF rfl rfl ?_
    refine rl_pickF rfl rfl ?_
    refine ⟨by kernel_rfl, ?_⟩
    refine ex_cond rfl (fun hc10 => ?_) (fun hc10 => ?_)
    · simp at hc10
    try simp at hc10
    try have hlt := hc10
    refine ex_skip ?_
    refine hK6 _ _ ?_
    clear hK6 K6
    refine ex_region ttOK (by rfl) ?_
    refine rl_addN (b := 1) rfl rfl (by omega) ?_
    refine rl_move rfl ?_
    exact ⟨i + 1, ⟨⟨by omega, by rw [h2]; show _ = chk2 okE evLt l[i]? _; rw [hp]; exact chk2_first _ _ hok⟩, by omega⟩, [_], (Cov.cons (t := 13) rfl Cov.nil), (Cov.cons (t := 0) rfl (Cov.cons (t := 11) rfl (Cov.cons (t := 12) rfl Cov.nil))), (HE.kill rfl HE.nil), HE.nil, rfl⟩
  try simp at hg8
  have hi0 : 0 < i := by omega
  obtain ⟨b, hb⟩ : ∃ b, l[i - 1]? = some b := ⟨_, List.getElem?_eq_getElem (by omega)⟩
  have hlast : last? l i = some b := by obtain ⟨j, rfl⟩ : ∃ j, i = j + 1 := ⟨i - 1, by omega⟩; exact hb
  rw [hlast] at h2
  refine rl_move rfl ?_
  refine rl_gT rfl rfl ?_
  refine rl_move rfl ?_
  refine rl_gT rfl rfl ?_
  refine rl_subN (b := 1) rfl rfl (by omega) (by omega) ?_
  refine rl_gT rfl rfl ?_
  refine rl_idxm rfl rfl tt_24 rfl tt_76 rfl hb ?_
  refine rl_gT rfl rfl ?_
  refine rl_loadA_iel rfl tt_76 rfl rfl ?_
  refine rl_gT rfl rfl ?_
  refine rl_loadA_ptr rfl tt_76 rfl rfl rfl ?_
  refine rl_gT rfl rfl ?_
  refine rl_call rfl rfl rfl (F_impl_EventLess ..) ?_
  refine rl_gT rfl rfl ?_
  refine rl_not rfl ?_
  refine rl_gT rfl rfl ?_
  refine rl_pickT rfl rfl ?_
  refine rl_pickF rfl rfl ?_
  refine ⟨by kernel_rfl, ?_⟩
  refine ex_cond rfl (fun hc9 => ?_) (fun hc9 => ?_)
  rotate_left
  · try simp at hc9
    try have hlt := hc9
    refine ex_skip ?_
    refine hK6 _ _ ?_
    clear hK6 K6
    refine ex_region ttOK (by rfl) ?_
    refine rl_addN (b := 1) rfl rfl (by omega) ?_
    refine rl_move rfl ?_
    exact ⟨i + 1, ⟨⟨by omega, by rw [h2]; show _ = chk2 okE evLt l[i]? _; rw [hp]; exact chk2_step _ _ hok hlt⟩, by omega⟩, [_], (Cov.cons (t := 13) rfl Cov.nil), (Cov.cons (t := 0) rfl (Cov.cons (t := 11) rfl (Cov.cons (t := 12) rfl Cov.nil))), (HE.kill rfl HE.nil), HE.nil, rfl⟩
  try simp at hc9
  try have hlt := hc9
  refine ex_rs ttOK (by rfl) ?_
  refine rl_assign rfl ?_
  refine ex_ret ⟨.inr rfl, ?_⟩
  clear hK6 K6 hK3 K3
  refine ret_pv rfl ?_ rfl
  exact congrArg (fun b : Bool => [AV.pv (.bool b)]) (h2.trans (chk2_lt _ _ hlt)).symm
theorem F_spec_l2Events (c : Bool) (l : List Ev) (most : Int) : Pure Tryz.prog 158 [rEvs c l, .pv (.int .i64 most)] (.pv (.bool (lsOk okE evLt l most))) := by
  refine pure_of_ex ttOK (fn := Tryz.f158) (by kernel_rfl) (by kernel_rfl) rfl (outs := [.pv (.bool (lsOk okE evLt l most))]) (by rfl) (Nat.le_of_ble_eq_true rfl) 0 ?_
  refine ex_rowlenm 0 rfl fun hlen => ?_
  refine ex_rs ttOK (by rfl) ?_
  refine rl_assign rfl ?_
  refine ex_seq_k fun K1 hK1 => ?_
  refine ex_rs ttOK (by rfl) ?_
  refine rl_move rfl ?_
  refine rl_lenm rfl tt_24 rfl ?_
  refine rl_move rfl ?_
  refine rl_bin rfl rfl rfl ?_
  refine ex_cond rfl (fun hc2 => ?_) (fun hc2 => ?_)
  · try simp at hc2
    refine ex_rs ttOK (by rfl) ?_
    refine rl_assign rfl ?_
    refine ex_ret ⟨.inr rfl, ?_⟩
    clear hK1 K1
    refine ret_pv rfl ?_ rfl
    exact congrArg (fun b : Bool => [AV.pv (.bool b)]) (lsOk_long (by omega)).symm
  try simp at hc2
  refine ex_skip ?_
  refine hK1 _ _ ?_
  clear hK1 K1
  refine ex_seq_k fun K3 hK3 => ?_
  refine ex_rs ttOK (by rfl) ?_
  refine rl_assign rfl ?_
  refine ex_block ?_
  refine ex_loopK (ι := Nat) (fun i γ1 => [(5, .pv (.int .i64 (i : Int)))]) (fun i γ1 => []) (fun i => i ≤ l.length ∧ lsOk okE evLt l most = chk2 okE evLt (last? l i) (l.drop i)) (fun i => l.length - i) (Cov.cons (t := 0) rfl Cov.nil) HE.nil 0 ⟨by omega, lsOk_eq (by omega)⟩ [] (Cov.cons (t := 5) rfl Cov.nil) HE.nil rfl fun i γ1 hi => ?_
  try dsimp only [List.cons_append, List.nil_append]
  obtain ⟨h1, h2⟩ := hi
  refine ex_seq_k fun K4 hK4 => ?_
  refine ex_rs ttOK (by rfl) ?_
  refine rl_move rfl ?_
  refine rl_move rfl ?_
  refine rl_lenm rfl tt_24 rfl ?_
  refine rl_bin rfl rfl rfl ?_
  refine ex_cond rfl (fun hc5 => ?_) (fun hc5 => ?_)
  rotate_left
  · try simp at hc5
    obtain rfl : i = l.length := by omega
    rw [List.drop_length] at h2
    refine ex_exit ?_
    refine hK3 _ _ ?_
    clear hK4 K4 hK3 K3
    refine ex_rs ttOK (by rfl) ?_
    refine rl_assign rfl ?_
    refine ex_ret ⟨.inr rfl, ?_⟩
    refine ret_pv rfl ?_ rfl
    exact congrArg (fun b : Bool => [AV.pv (.bool b)]) h2.symm
  try simp at hc5
  obtain ⟨p, hp⟩ : ∃ p, l[i]? = some p := ⟨_, List.getElem?_eq_getElem (by omega)⟩
  rw [drop_cons hp] at h2
  refine ex_skip ?_
  refine hK4 _ _ ?_
  clear hK4 K4
  refine ex_seq_k fun K6 hK6 => ?_
  refine ex_block ?_
  refine ex_rsD ttOK mixed (by rfl) ?_
  refine rl_move rfl ?_
  refine rl_move rfl ?_
  refine rl_idxm rfl rfl tt_24 rfl tt_76 rfl hp ?_
  refine rl_loadA_iel rfl tt_76 rfl rfl ?_
  refine rl_call rfl rfl rfl (F_spec_l1EventOk ..) ?_
  refine rl_not rfl ?_
  refine rl_move rfl ?_
  refine rl_g rfl rfl (fun hg7 => ?_) (fun hg7 => ?_)
  rotate_left
  · try simp at hg7
    have hbad : okE p = false := by simpa [okE] using hg7
    refine rl_gF rfl rfl ?_
    refine rl_gF rfl rfl ?_
    refine rl_gU rfl rfl ?_
    refine rl_gU rfl rfl ?_
    refine rl_gU rfl rfl ?_
    refine rl_gU rfl rfl ?_
    refine rl_gU rfl rfl ?_
    refine rl_gU rfl rfl ?_
    refine rl_gU rfl rfl ?_
    refine rl_gU rfl rfl ?_
    refine rl_gU rfl rfl ?_
    refine rl_gU rfl rfl ?_
    refine rl_gU rfl rfl ?_
    refine rl_gF rfl rfl ?_
    refine rl_pickT rfl rfl ?_
    refine ⟨by kernel_rfl, ?_⟩
    refine ex_cond rfl (fun hc11 => ?_) (fun hc11 => ?_)
    rotate_left
    · simp at hc11
    try simp at hc11
    try have hlt := hc11
    refine ex_rs ttOK (by rfl) ?_
    refine rl_assign rfl ?_
    refine ex_ret ⟨.inr rfl, ?_⟩
    clear hK6 K6 hK3 K3
    refine ret_pv rfl ?_ rfl
    exact congrArg (fun b : Bool => [AV.pv (.bool b)]) (h2.trans (chk2_bad _ _ hbad)).symm
  try simp at hg7
  have hok : okE p = true := by simpa [okE] using hg7
  refine rl_move rfl ?_
  refine rl_gT rfl rfl ?_
  refine rl_bin rfl rfl rfl ?_
  refine rl_gT rfl rfl ?_
  refine rl_move rfl ?_
  refine rl_g rfl rfl (fun hg8 => ?_) (fun hg8 => ?_)
  rotate_left
  · try simp at hg8
    have hi0 : i = 0 := by omega
    have hlast : last? l i = none := by rw [hi0]; rfl
    rw [hlast] at h2
    refine rl_gF rfl rfl ?_
    refine rl_gF rfl rfl ?_
    refine rl_gF rfl rfl ?_
    refine rl_gF rfl rfl ?_
    refine rl_gF rfl rfl ?_
    refine rl_gF rfl rfl ?_
    refine rl_gF rfl rfl ?_
    refine rl_gF rfl rfl ?_
    refine rl_gF rfl rfl ?_
    refine rl_gF rfl rfl ?_
    refine rl_gT rfl rfl ?_
    refine rl_pickF rfl rfl ?_
    refine rl_pickF rfl rfl ?_
    refine ⟨by kernel_rfl, ?_⟩
    refine ex_cond rfl (fun hc10 => ?_) (fun hc10 => ?_)
    · simp at hc10
    try simp at hc10
    try have hlt := hc10
    refine ex_skip ?_
    refine hK6 _ _ ?_
    clear hK6 K6
    refine ex_region ttOK (by rfl) ?_
    refine rl_move rfl ?_
    refine rl_addN (b := 1) rfl rfl (by omega) ?_
    refine rl_assign rfl ?_
    exact ⟨i + 1, ⟨⟨by omega, by rw [h2]; show _ = chk2 okE evLt l[i]? _; rw [hp]; exact chk2_first _ _ hok⟩, by omega⟩, [], (Cov.cons (t := 5) rfl Cov.nil), (Cov.cons (t := 0) rfl Cov.nil), HE.nil, HE.nil, rfl⟩
  try simp at hg8
  have hi0 : 0 < i := by omega
  obtain ⟨b, hb⟩ : ∃ b, l[i - 1]? = some b := ⟨_, List.getElem?_eq_getElem (by omega)⟩
  have hlast : last? l i = some b := by obtain ⟨j, rfl⟩ : ∃ j, i = j + 1 := ⟨i - 1, by omega⟩; exact hb
  rw [hlast] at h2
  refine rl_move rfl ?_
  refine rl_gT rfl rfl ?_
  refine rl_move rfl ?_
  refine rl_gT rfl rfl ?_
  refine rl_subN (b := 1) rfl rfl (by omega) (by omega) ?_
  refine rl_gT rfl rfl ?_
  refine rl_idxm rfl rfl tt_24 rfl tt_76 rfl hb ?_
  refine rl_gT rfl rfl ?_
  refine rl_loadA_iel rfl tt_76 rfl rfl ?_
  refine rl_gT rfl rfl ?_
  refine rl_move rfl ?_
  refine rl_gT rfl rfl ?_
  refine rl_move rfl ?_
  refine rl_gT rfl rfl ?_
  refine rl_idxm rfl rfl tt_24 rfl tt_76 rfl hp ?_
  refine rl_gT rfl rfl ?_
  refine rl_loadA_iel rfl tt_76 rfl rfl ?_
  refine rl_gT rfl rfl ?_
  refine rl_call rfl rfl rfl (F_spec_EventLess ..) ?_
  refine rl_gT rfl rfl ?_
  refine rl_not rfl ?_
  refine rl_gT rfl rfl ?_
  refine rl_pickT rfl rfl ?_
  refine rl_pickF rfl rfl ?_
  refine ⟨by kernel_rfl, ?_⟩
  refine ex_cond rfl (fun hc9 => ?_) (fun hc9 => ?_)
  rotate_left
  · try simp at hc9
    try have hlt := hc9
    refine ex_skip ?_
    refine hK6 _ _ ?_
    clear hK6 K6
    refine ex_region ttOK (by rfl) ?_
    refine rl_move rfl ?_
    refine rl_addN (b := 1) rfl rfl (by omega) ?_
    refine rl_assign rfl ?_
    exact ⟨i + 1, ⟨⟨by omega, by rw [h2]; show _ = chk2 okE evLt l[i]? _; rw [hp]; exact chk2_step _ _ hok hlt⟩, by omega⟩, [], (Cov.cons (t := 5) rfl Cov.nil), (Cov.cons (t := 0) rfl Cov.nil), HE.nil, HE.nil, rfl⟩
  try simp at hc9
  try have hlt := hc9
  refine ex_rs ttOK (by rfl) ?_
  refine rl_assign rfl ?_
  refine ex_ret ⟨.inr rfl, ?_⟩
  clear hK6 K6 hK3 K3
  refine ret_pv rfl ?_ rfl
  exact congrArg (fun b : Bool => [AV.pv (.bool b)]) (h2.trans (chk2_lt _ _ hlt)).symm
theorem F_impl_outsOk (c : Bool) (l : List Ou) (most : Int) : Pure Tryz.prog 215 [rOus c l, .pv (.int .i64 most)] (.pv (.bool (lsOk okO ouLt l most))) := by
  refine pure_of_ex ttOK (fn := Tryz.f215) (by kernel_rfl) (by kernel_rfl) rfl (outs := [.pv (.bool (lsOk okO ouLt l most))]) (by rfl) (Nat.le_of_ble_eq_true rfl) 1 ?_
  refine ex_rowlenm 0 rfl fun hlen => ?_
  refine ex_rs ttOK (by rfl) ?_
  refine rl_assign rfl ?_
  refine ex_seq_k fun K1 hK1 => ?_
  refine ex_rs ttOK (by rfl) ?_
  refine rl_move rfl ?_
  refine rl_lenm rfl tt_25 rfl ?_
  refine rl_move rfl ?_
  refine rl_bin rfl rfl rfl ?_
  refine ex_cond rfl (fun hc2 => ?_) (fun hc2 => ?_)
  · try simp at hc2
    refine ex_rs ttOK (by rfl) ?_
    refine rl_assign rfl ?_
    refine ex_ret ⟨.inr rfl, ?_⟩
    clear hK1 K1
    refine ret_pv rfl ?_ rfl
    exact congrArg (fun b : Bool => [AV.pv (.bool b)]) (lsOk_long (by omega)).symm
  try simp at hc2
  refine ex_skip ?_
  refine hK1 _ _ ?_
  clear hK1 K1
  refine ex_seq_k fun K3 hK3 => ?_
  refine ex_rs ttOK (by rfl) ?_
  refine rl_move rfl ?_
  refine rl_lenm rfl tt_25 rfl ?_
  refine rl_move rfl ?_
  refine ex_block ?_
  refine ex_loopK (ι := Nat) (fun i γ1 => [(14, .pv (.int .i64 (i : Int)))]) (fun i γ1 => [(0, ((γ1 0), .dead))]) (fun i => i ≤ l.length ∧ lsOk okO ouLt l most = chk2 okO ouLt (last? l i) (l.drop i)) (fun i => l.length - i) (Cov.cons (t := 0) rfl (Cov.cons (t := 12) rfl (Cov.cons (t := 13) rfl Cov.nil))) HE.nil 0 ⟨by omega, lsOk_eq (by omega)⟩ [_] (Cov.cons (t := 14) rfl Cov.nil) (HE.kill rfl HE.nil) rfl fun i γ1 hi => ?_
  try dsimp only [List.cons_append, List.nil_append]
  obtain ⟨h1, h2⟩ := hi
  refine ex_rs ttOK (by rfl) ?_
  refine rl_bin rfl rfl rfl ?_
  refine ex_seq_k fun K4 hK4 => ?_
  refine ex_cond rfl (fun hc5 => ?_) (fun hc5 => ?_)
  rotate_left
  · try simp at hc5
    obtain rfl : i = l.length := by omega
    rw [List.drop_length] at h2
    refine ex_exit ?_
    refine hK3 _ _ ?_
    clear hK4 K4 hK3 K3
    refine ex_rs ttOK (by rfl) ?_
    refine rl_assign rfl ?_
    refine ex_ret ⟨.inr rfl, ?_⟩
    refine ret_pv rfl ?_ rfl
    exact congrArg (fun b : Bool => [AV.pv (.bool b)]) h2.symm
  try simp at hc5
  obtain ⟨p, hp⟩ : ∃ p, l[i]? = some p := ⟨_, List.getElem?_eq_getElem (by omega)⟩
  rw [drop_cons hp] at h2
  refine ex_skip ?_
  refine hK4 _ _ ?_
  clear hK4 K4
  refine ex_seq_k fun K6 hK6 => ?_
  refine ex_block ?_
  refine ex_rs ttOK (by rfl) ?_
  refine rl_move rfl ?_
  refine rl_idxm rfl rfl tt_25 rfl tt_104 rfl hp ?_
  refine rl_loadA_iel rfl tt_104 rfl rfl ?_
  refine rl_alloc (id := 0) tt_104 za_104 rfl ?_
  refine rl_assign rfl ?_
  refine rl_storeA rfl rfl tt_104 rfl rfl rfl rfl ?_
  refine ex_cutK (ι := Unit) (fun _i γ2 => [(7, .pv (.bool (okO p)))]) (fun _i γ2 => []) (fun _i => True) (Cov.cons (t := 0) rfl (Cov.cons (t := 5) rfl (Cov.cons (t := 6) rfl (Cov.cons (t := 12) rfl (Cov.cons (t := 13) rfl (Cov.cons (t := 14) rfl Cov.nil)))))) (HE.same (id := 0) rfl HE.nil) ?_ fun _i γ2 hi => ?_
  · refine ex_region ttOK (by rfl) ?_
    refine rl_fieldAddr rfl tt_104 rfl rfl tt_3 rfl rfl ?_
    refine rl_load_ptr rfl tt_3 rfl rfl ?_
    refine rl_call rfl rfl rfl (F_impl_within ..) ?_
    refine rl_move rfl ?_
    refine rl_g rfl rfl (fun hg7 => ?_) (fun hg7 => ?_)
    rotate_left
    · try simp at hg7
      refine rl_gF rfl rfl ?_
      refine rl_gF rfl rfl ?_
      refine rl_pickF rfl rfl ?_
      refine rl_move rfl ?_
      refine rl_gF rfl rfl ?_
      refine rl_gF rfl rfl ?_
      refine rl_gF rfl rfl ?_
      refine rl_pickF rfl rfl ?_
      refine rl_move rfl ?_
      refine rl_gF rfl rfl ?_
      refine rl_gF rfl rfl ?_
      refine rl_gF rfl rfl ?_
      refine rl_pickF rfl rfl ?_
      refine rl_move rfl ?_
      refine rl_gF rfl rfl ?_
      refine rl_gF rfl rfl ?_
      refine rl_gF rfl rfl ?_
      refine rl_pickF rfl rfl ?_
      refine rl_assign rfl ?_
      exact ⟨(), trivial, [], (Cov.cons' (t := 7) rfl (by exact congrArg (fun b : Bool => AV.pv (.bool b)) (decide_eq_false (by unfold ouOk; omega)).symm) Cov.nil), (Cov.cons (t := 0) rfl (Cov.cons (t := 5) rfl (Cov.cons (t := 6) rfl (Cov.cons (t := 12) rfl (Cov.cons (t := 13) rfl (Cov.cons (t := 14) rfl Cov.nil)))))), HE.nil, (HE.same (id := 0) rfl HE.nil), rfl⟩
    try simp at hg7
    refine rl_fieldAddr rfl tt_104 rfl rfl tt_3 rfl rfl ?_
    refine rl_gT rfl rfl ?_
    refine rl_load_ptr rfl tt_3 rfl rfl ?_
    refine rl_gT rfl rfl ?_
    refine rl_call rfl rfl rfl (F_impl_isProc ..) ?_
    refine rl_pickT rfl rfl ?_
    refine rl_move rfl ?_
    refine rl_g rfl rfl (fun hg8 => ?_) (fun hg8 => ?_)
    rotate_left
    · try simp at hg8
      refine rl_gF rfl rfl ?_
      refine rl_gF rfl rfl ?_
      refine rl_pickF rfl rfl ?_
      refine rl_move rfl ?_
      refine rl_gF rfl rfl ?_
      refine rl_gF rfl rfl ?_
      refine rl_gF rfl rfl ?_
      refine rl_pickF rfl rfl ?_
      refine rl_move rfl ?_
      refine rl_gF rfl rfl ?_
      refine rl_gF rfl rfl ?_
      refine rl_gF rfl rfl ?_
      refine rl_pickF rfl rfl ?_
      refine rl_assign rfl ?_
      exact ⟨(), trivial, [], (Cov.cons' (t := 7) rfl (by exact congrArg (fun b : Bool => AV.pv (.bool b)) (decide_eq_false (by unfold ouOk; omega)).symm) Cov.nil), (Cov.cons (t := 0) rfl (Cov.cons (t := 5) rfl (Cov.cons (t := 6) rfl (Cov.cons (t := 12) rfl (Cov.cons (t := 13) rfl (Cov.cons (t := 14) rfl Cov.nil)))))), HE.nil, (HE.same (id := 0) rfl HE.nil), rfl⟩
    try simp at hg8
    refine rl_fieldAddr rfl tt_104 rfl rfl tt_3 rfl rfl ?_
    refine rl_gT rfl rfl ?_
    refine rl_load_ptr rfl tt_3 rfl rfl ?_
    refine rl_gT rfl rfl ?_
    refine rl_call rfl rfl rfl (F_impl_within ..) ?_
    refine rl_pickT rfl rfl ?_
    refine rl_move rfl ?_
    refine rl_g rfl rfl (fun hg9 => ?_) (fun hg9 => ?_)
    rotate_left
    · try simp at hg9
      refine rl_gF rfl rfl ?_
      refine rl_gF rfl rfl ?_
      refine rl_pickF rfl rfl ?_
      refine rl_move rfl ?_
      refine rl_gF rfl rfl ?_
      refine rl_gF rfl rfl ?_
      refine rl_gF rfl rfl ?_
      refine rl_pickF rfl rfl ?_
      refine rl_assign rfl ?_
      exact ⟨(), trivial, [], (Cov.cons' (t := 7) rfl (by exact congrArg (fun b : Bool => AV.pv (.bool b)) (decide_eq_false (by unfold ouOk; omega)).symm) Cov.nil), (Cov.cons (t := 0) rfl (Cov.cons (t := 5) rfl (Cov.cons (t := 6) rfl (Cov.cons (t := 12) rfl (Cov.cons (t := 13) rfl (Cov.cons (t := 14) rfl Cov.nil)))))), HE.nil, (HE.same (id := 0) rfl HE.nil), rfl⟩
    try simp at hg9
    refine rl_fieldAddr rfl tt_104 rfl rfl tt_3 rfl rfl ?_
    refine rl_gT rfl rfl ?_
    refine rl_load_ptr rfl tt_3 rfl rfl ?_
    refine rl_gT rfl rfl ?_
    refine rl_call rfl rfl rfl (F_impl_within ..) ?_
    refine rl_pickT rfl rfl ?_
    refine rl_move rfl ?_
    refine rl_g rfl rfl (fun hg10 => ?_) (fun hg10 => ?_)
    rotate_left
    · try simp at hg10
      refine rl_gF rfl rfl ?_
      refine rl_gF rfl rfl ?_
      refine rl_pickF rfl rfl ?_
      refine rl_assign rfl ?_
      exact ⟨(), trivial, [], (Cov.cons' (t := 7) rfl (by exact congrArg (fun b : Bool => AV.pv (.bool b)) (decide_eq_false (by unfold ouOk; omega)).symm) Cov.nil), (Cov.cons (t := 0) rfl (Cov.cons (t := 5) rfl (Cov.cons (t := 6) rfl (Cov.cons (t := 12) rfl (Cov.cons (t := 13) rfl (Cov.cons (t := 14) rfl Cov.nil)))))), HE.nil, (HE.same (id := 0) rfl HE.nil), rfl⟩
    try simp at hg10
    refine rl_fieldAddr rfl tt_104 rfl rfl tt_3 rfl rfl ?_
    refine rl_gT rfl rfl ?_
    refine rl_load_ptr rfl tt_3 rfl rfl ?_
    refine rl_gT rfl rfl ?_
    refine rl_call rfl rfl rfl (F_impl_isNum ..) ?_
    refine rl_pickT rfl rfl ?_
    refine rl_assign rfl ?_
    exact ⟨(), trivial, [], (Cov.cons' (t := 7) rfl (by exact congrArg (fun b : Bool => AV.pv (.bool b)) (decide_eq_decide.2 (by unfold ouOk; omega))) Cov.nil), (Cov.cons (t := 0) rfl (Cov.cons (t := 5) rfl (Cov.cons (t := 6) rfl (Cov.cons (t := 12) rfl (Cov.cons (t := 13) rfl (Cov.cons (t := 14) rfl Cov.nil)))))), HE.nil, (HE.same (id := 0) rfl HE.nil), rfl⟩
  · try dsimp only [List.cons_append, List.nil_append]
    refine ex_rsD ttOK mixed (by rfl) ?_
    refine rl_move rfl ?_
    refine rl_not rfl ?_
    refine rl_move rfl ?_
    refine rl_g rfl rfl (fun hg11 => ?_) (fun hg11 => ?_)
    rotate_left
    · try simp at hg11
      have hbad : okO p = false := by simpa [okO] using hg11
      refine rl_gF rfl rfl ?_
      refine rl_gF rfl rfl ?_
      refine rl_gU rfl rfl ?_
      refine rl_gU rfl rfl ?_
      refine rl_gU rfl rfl ?_
      refine rl_gU rfl rfl ?_
      refine rl_gU rfl rfl ?_
      refine rl_gU rfl rfl ?_
      refine rl_gU rfl rfl ?_
      refine rl_gU rfl rfl ?_
      refine rl_gF rfl rfl ?_
      refine rl_pickT rfl rfl ?_
      refine ⟨by kernel_rfl, ?_⟩
      refine ex_cond rfl (fun hc15 => ?_) (fun hc15 => ?_)
      rotate_left
      · simp at hc15
      try simp at hc15
      try have hlt := hc15
      refine ex_rs ttOK (by rfl) ?_
      refine rl_assign rfl ?_
      refine ex_ret ⟨.inr rfl, ?_⟩
      clear hK6 K6 hK3 K3
      refine ret_pv rfl ?_ rfl
      exact congrArg (fun b : Bool => [AV.pv (.bool b)]) (h2.trans (chk2_bad _ _ hbad)).symm
    try simp at hg11
    have hok : okO p = true := by simpa [okO] using hg11
    refine rl_move rfl ?_
    refine rl_gT rfl rfl ?_
    refine rl_bin rfl rfl rfl ?_
    refine rl_gT rfl rfl ?_
    refine rl_move rfl ?_
    refine rl_g rfl rfl (fun hg12 => ?_) (fun hg12 => ?_)
    rotate_left
    · try simp at hg12
      have hi0 : i = 0 := by omega
      have hlast : last? l i = none := by rw [hi0]; rfl
      rw [hlast] at h2
      refine rl_gF rfl rfl ?_
      refine rl_gF rfl rfl ?_
      refine rl_gF rfl rfl ?_
      refine rl_gF rfl rfl ?_
      refine rl_gF rfl rfl ?_
      refine rl_gF rfl rfl ?_
      refine rl_gF rfl rfl ?_
      refine rl_gT rfl rfl ?_
      refine rl_pickF rfl rfl ?_
      refine rl_pickF rfl rfl ?_
      refine ⟨by kernel_rfl, ?_⟩
      refine ex_cond rfl (fun hc14 => ?_) (fun hc14 => ?_)
      · simp at hc14
      try simp at hc14
      try have hlt := hc14
      refine ex_skip ?_
      refine hK6 _ _ ?_
      clear hK6 K6
      refine ex_region ttOK (by rfl) ?_
      refine rl_addN (b := 1) rfl rfl (by omega) ?_
      refine rl_move rfl ?_
      exact ⟨i + 1, ⟨⟨by omega, by rw [h2]; show _ = chk2 okO ouLt l[i]? _; rw [hp]; exact chk2_first _ _ hok⟩, by omega⟩, [_], (Cov.cons (t := 14) rfl Cov.nil), (Cov.cons (t := 0) rfl (Cov.cons (t := 12) rfl (Cov.cons (t := 13) rfl Cov.nil))), (HE.kill rfl HE.nil), HE.nil, rfl⟩
    try simp at hg12
    have hi0 : 0 < i := by omega
    obtain ⟨b, hb⟩ : ∃ b, l[i - 1]? = some b := ⟨_, List.getElem?_eq_getElem (by omega)⟩
    have hlast : last? l i = some b := by obtain ⟨j, rfl⟩ : ∃ j, i = j + 1 := ⟨i - 1, by omega⟩; exact hb
    rw [hlast] at h2
    refine rl_move rfl ?_
    refine rl_gT rfl rfl ?_
    refine rl_move rfl ?_
    refine rl_gT rfl rfl ?_
    refine rl_subN (b := 1) rfl rfl (by omega) (by omega) ?_
    refine rl_gT rfl rfl ?_
    refine rl_idxm rfl rfl tt_25 rfl tt_104 rfl hb ?_
    refine rl_gT rfl rfl ?_
    refine rl_loadA_iel rfl tt_104 rfl rfl ?_
    refine rl_gT rfl rfl ?_
    refine rl_loadA_ptr rfl tt_104 rfl rfl rfl ?_
    refine rl_gT rfl rfl ?_
    refine rl_call rfl rfl rfl (F_impl_OutLess ..) ?_
    refine rl_gT rfl rfl ?_
    refine rl_not rfl ?_
    refine rl_gT rfl rfl ?_
    refine rl_pickT rfl rfl ?_
    refine rl_pickF rfl rfl ?_
    refine ⟨by kernel_rfl, ?_⟩
    refine ex_cond rfl (fun hc13 => ?_) (fun hc13 => ?_)
    rotate_left
    · try simp at hc13
      try have hlt := hc13
      refine ex_skip ?_
      refine hK6 _ _ ?_
      clear hK6 K6
      refine ex_region ttOK (by rfl) ?_
      refine rl_addN (b := 1) rfl rfl (by omega) ?_
      refine rl_move rfl ?_
      exact ⟨i + 1, ⟨⟨by omega, by rw [h2]; show _ = chk2 okO ouLt l[i]? _; rw [hp]; exact chk2_step _ _ hok hlt⟩, by omega⟩, [_], (Cov.cons (t := 14) rfl Cov.nil), (Cov.cons (t := 0) rfl (Cov.cons (t := 12) rfl (Cov.cons (t := 13) rfl Cov.nil))), (HE.kill rfl HE.nil), HE.nil, rfl⟩
    try simp at hc13
    try have hlt := hc13
    refine ex_rs ttOK (by rfl) ?_
    refine rl_assign rfl ?_
    refine ex_ret ⟨.inr rfl, ?_⟩
    clear hK6 K6 hK3 K3
    refine ret_pv rfl ?_ rfl
    exact congrArg (fun b : Bool => [AV.pv (.bool b)]) (h2.trans (chk2_lt _ _ hlt)).symm
theorem F_spec_l2Outs (c : Bool) (l : List Ou) (most : Int) : Pure Tryz.prog 159 [rOus c l, .pv (.int .i64 most)] (.pv (.bool (lsOk okO ouLt l most))) := by
  refine pure_of_ex ttOK (fn := Tryz.f159) (by kernel_rfl) (by kernel_rfl) rfl (outs := [.pv (.bool (lsOk okO ouLt l most))]) (by rfl) (Nat.le_of_ble_eq_true rfl) 1 ?_
  refine ex_rowlenm 0 rfl fun hlen => ?_
  refine ex_rs ttOK (by rfl) ?_
  refine rl_assign rfl ?_
  refine ex_seq_k fun K1 hK1 => ?_
  refine ex_rs ttOK (by rfl) ?_
  refine rl_move rfl ?_
  refine rl_lenm rfl tt_25 rfl ?_
  refine rl_move rfl ?_
  refine rl_bin rfl rfl rfl ?_
  refine ex_cond rfl (fun hc2 => ?_) (fun hc2 => ?_)
  · try simp at hc2
    refine ex_rs ttOK (by rfl) ?_
    refine rl_assign rfl ?_
    refine ex_ret ⟨.inr rfl, ?_⟩
    clear hK1 K1
    refine ret_pv rfl ?_ rfl
    exact congrArg (fun b : Bool => [AV.pv (.bool b)]) (lsOk_long (by omega)).symm
  try simp at hc2
  refine ex_skip ?_
  refine hK1 _ _ ?_
  clear hK1 K1
  refine ex_seq_k fun K3 hK3 => ?_
  refine ex_rs ttOK (by rfl) ?_
  refine rl_assign rfl ?_
  refine ex_block ?_
  refine ex_loopK (ι := Nat) (fun i γ1 => [(5, .pv (.int .i64 (i : Int)))]) (fun i γ1 => [(0, ((γ1 0), .dead))]) (fun i => i ≤ l.length ∧ lsOk okO ouLt l most = chk2 okO ouLt (last? l i) (l.drop i)) (fun i => l.length - i) (Cov.cons (t := 0) rfl Cov.nil) HE.nil 0 ⟨by omega, lsOk_eq (by omega)⟩ [_] (Cov.cons (t := 5) rfl Cov.nil) (HE.kill rfl HE.nil) rfl fun i γ1 hi => ?_
  try dsimp only [List.cons_append, List.nil_append]
  obtain ⟨h1, h2⟩ := hi
  refine ex_seq_k fun K4 hK4 => ?_
  refine ex_rs ttOK (by rfl) ?_
  refine rl_move rfl ?_
  refine rl_move rfl ?_
  refine rl_lenm rfl tt_25 rfl ?_
  refine rl_bin rfl rfl rfl ?_
  refine ex_cond rfl (fun hc5 => ?_) (fun hc5 => ?_)
  rotate_left
  · try simp at hc5
    obtain rfl : i = l.length := by omega
    rw [List.drop_length] at h2
    refine ex_exit ?_
    refine hK3 _ _ ?_
    clear hK4 K4 hK3 K3
    refine ex_rs ttOK (by rfl) ?_
    refine rl_assign rfl ?_
    refine ex_ret ⟨.inr rfl, ?_⟩
    refine ret_pv rfl ?_ rfl
    exact congrArg (fun b : Bool => [AV.pv (.bool b)]) h2.symm
  try simp at hc5
  obtain ⟨p, hp⟩ : ∃ p, l[i]? = some p := ⟨_, List.getElem?_eq_getElem (by omega)⟩
  rw [drop_cons hp] at h2
  refine ex_skip ?_
  refine hK4 _ _ ?_
  clear hK4 K4
  refine ex_seq_k fun K6 hK6 => ?_
  refine ex_block ?_
  refine ex_rs ttOK (by rfl) ?_
  refine rl_move rfl ?_
  refine rl_move rfl ?_
  refine rl_idxm rfl rfl tt_25 rfl tt_104 rfl hp ?_
  refine rl_loadA_iel rfl tt_104 rfl rfl ?_
  refine rl_alloc (id := 0) tt_104 za_104 rfl ?_
  refine rl_storeA rfl rfl tt_104 rfl rfl rfl rfl ?_
  refine ex_rsD ttOK mixed (by rfl) ?_
  refine rl_fieldAddr rfl tt_104 rfl rfl tt_3 rfl rfl ?_
  refine rl_load_ptr rfl tt_3 rfl rfl ?_
  refine rl_call rfl rfl rfl (F_spec_l6In ..) ?_
  refine rl_not rfl ?_
  refine rl_move rfl ?_
  refine rl_g rfl rfl (fun hg7 => ?_) (fun hg7 => ?_)
  rotate_left
  · try simp at hg7
    refine rl_gF rfl rfl ?_
    refine rl_gF rfl rfl ?_
    refine rl_gF rfl rfl ?_
    refine rl_pickT rfl rfl ?_
    refine rl_move rfl ?_
    refine rl_gF rfl rfl ?_
    refine rl_gF rfl rfl ?_
    refine rl_gF rfl rfl ?_
    refine rl_gF rfl rfl ?_
    refine rl_pickT rfl rfl ?_
    refine rl_move rfl ?_
    refine rl_gF rfl rfl ?_
    refine rl_gF rfl rfl ?_
    refine rl_gF rfl rfl ?_
    refine rl_gF rfl rfl ?_
    refine rl_pickT rfl rfl ?_
    refine rl_move rfl ?_
    refine rl_gF rfl rfl ?_
    refine rl_gF rfl rfl ?_
    refine rl_gF rfl rfl ?_
    refine rl_gF rfl rfl ?_
    refine rl_pickT rfl rfl ?_
    refine rl_move rfl ?_
    refine rl_gF rfl rfl ?_
    refine rl_gF rfl rfl ?_
    refine rl_gF rfl rfl ?_
    refine rl_gU rfl rfl ?_
    refine rl_gU rfl rfl ?_
    refine rl_gU rfl rfl ?_
    refine rl_gU rfl rfl ?_
    refine rl_gU rfl rfl ?_
    refine rl_gU rfl rfl ?_
    refine rl_gU rfl rfl ?_
    refine rl_gU rfl rfl ?_
    refine rl_gF rfl rfl ?_
    refine rl_pickT rfl rfl ?_
    refine ⟨by kernel_rfl, ?_⟩
    refine ex_cond rfl (fun hc19 => ?_) (fun hc19 => ?_)
    rotate_left
    · simp at hc19
    try simp at hc19
    try have hlt := hc19
    refine ex_rs ttOK (by rfl) ?_
    refine rl_assign rfl ?_
    refine ex_ret ⟨.inr rfl, ?_⟩
    clear hK6 K6 hK3 K3
    refine ret_pv rfl ?_ rfl
    exact congrArg (fun b : Bool => [AV.pv (.bool b)]) (h2.trans (chk2_bad _ _ (decide_eq_false (by unfold ouOk; omega)))).symm
  try simp at hg7
  refine rl_fieldAddr rfl tt_104 rfl rfl tt_3 rfl rfl ?_
  refine rl_gT rfl rfl ?_
  refine rl_load_ptr rfl tt_3 rfl rfl ?_
  refine rl_gT rfl rfl ?_
  refine rl_call rfl rfl rfl (F_spec_l1Proc ..) ?_
  refine rl_gT rfl rfl ?_
  refine rl_not rfl ?_
  refine rl_pickF rfl rfl ?_
  refine rl_move rfl ?_
  refine rl_g rfl rfl (fun hg8 => ?_) (fun hg8 => ?_)
  rotate_left
  · try simp at hg8
    refine rl_gF rfl rfl ?_
    refine rl_gF rfl rfl ?_
    refine rl_gF rfl rfl ?_
    refine rl_pickT rfl rfl ?_
    refine rl_move rfl ?_
    refine rl_gF rfl rfl ?_
    refine rl_gF rfl rfl ?_
    refine rl_gF rfl rfl ?_
    refine rl_gF rfl rfl ?_
    refine rl_pickT rfl rfl ?_
    refine rl_move rfl ?_
    refine rl_gF rfl rfl ?_
    refine rl_gF rfl rfl ?_
    refine rl_gF rfl rfl ?_
    refine rl_gF rfl rfl ?_
    refine rl_pickT rfl rfl ?_
    refine rl_move rfl ?_
    refine rl_gF rfl rfl ?_
    refine rl_gF rfl rfl ?_
    refine rl_gF rfl rfl ?_
    refine rl_gU rfl rfl ?_
    refine rl_gU rfl rfl ?_
    refine rl_gU rfl rfl ?_
    refine rl_gU rfl rfl ?_
    refine rl_gU rfl rfl ?_
    refine rl_gU rfl rfl ?_
    refine rl_gU rfl rfl ?_
    refine rl_gU rfl rfl ?_
    refine rl_gF rfl rfl ?_
    refine rl_pickT rfl rfl ?_
    refine ⟨by kernel_rfl, ?_⟩
    refine ex_cond rfl (fun hc18 => ?_) (fun hc18 => ?_)
    rotate_left
    · simp at hc18
    try simp at hc18
    try have hlt := hc18
    refine ex_rs ttOK (by rfl) ?_
    refine rl_assign rfl ?_
    refine ex_ret ⟨.inr rfl, ?_⟩
    clear hK6 K6 hK3 K3
    refine ret_pv rfl ?_ rfl
    exact congrArg (fun b : Bool => [AV.pv (.bool b)]) (h2.trans (chk2_bad _ _ (decide_eq_false (by unfold ouOk; omega)))).symm
  try simp at hg8
  refine rl_fieldAddr rfl tt_104 rfl rfl tt_3 rfl rfl ?_
  refine rl_gT rfl rfl ?_
  refine rl_load_ptr rfl tt_3 rfl rfl ?_
  refine rl_gT rfl rfl ?_
  refine rl_call rfl rfl rfl (F_spec_l6In ..) ?_
  refine rl_gT rfl rfl ?_
  refine rl_not rfl ?_
  refine rl_pickF rfl rfl ?_
  refine rl_move rfl ?_
  refine rl_g rfl rfl (fun hg9 => ?_) (fun hg9 => ?_)
  rotate_left
  · try simp at hg9
    refine rl_gF rfl rfl ?_
    refine rl_gF rfl rfl ?_
    refine rl_gF rfl rfl ?_
    refine rl_pickT rfl rfl ?_
    refine rl_move rfl ?_
    refine rl_gF rfl rfl ?_
    refine rl_gF rfl rfl ?_
    refine rl_gF rfl rfl ?_
    refine rl_gF rfl rfl ?_
    refine rl_pickT rfl rfl ?_
    refine rl_move rfl ?_
    refine rl_gF rfl rfl ?_
    refine rl_gF rfl rfl ?_
    refine rl_gF rfl rfl ?_
    refine rl_gU rfl rfl ?_
    refine rl_gU rfl rfl ?_
    refine rl_gU rfl rfl ?_
    refine rl_gU rfl rfl ?_
    refine rl_gU rfl rfl ?_
    refine rl_gU rfl rfl ?_
    refine rl_gU rfl rfl ?_
    refine rl_gU rfl rfl ?_
    refine rl_gF rfl rfl ?_
    refine rl_pickT rfl rfl ?_
    refine ⟨by kernel_rfl, ?_⟩
    refine ex_cond rfl (fun hc17 => ?_) (fun hc17 => ?_)
    rotate_left
    · simp at hc17
    try simp at hc17
    try have hlt := hc17
    refine ex_rs ttOK (by rfl) ?_
    refine rl_assign rfl ?_
    refine ex_ret ⟨.inr rfl, ?_⟩
    clear hK6 K6 hK3 K3
    refine ret_pv rfl ?_ rfl
    exact congrArg (fun b : Bool => [AV.pv (.bool b)]) (h2.trans (chk2_bad _ _ (decide_eq_false (by unfold ouOk; omega)))).symm
  try simp at hg9
  refine rl_fieldAddr rfl tt_104 rfl rfl tt_3 rfl rfl ?_
  refine rl_gT rfl rfl ?_
  refine rl_load_ptr rfl tt_3 rfl rfl ?_
  refine rl_gT rfl rfl ?_
  refine rl_call rfl rfl rfl (F_spec_l6In ..) ?_
  refine rl_gT rfl rfl ?_
  refine rl_not rfl ?_
  refine rl_pickF rfl rfl ?_
  refine rl_move rfl ?_
  refine rl_g rfl rfl (fun hg10 => ?_) (fun hg10 => ?_)
  rotate_left
  · try simp at hg10
    refine rl_gF rfl rfl ?_
    refine rl_gF rfl rfl ?_
    refine rl_gF rfl rfl ?_
    refine rl_pickT rfl rfl ?_
    refine rl_move rfl ?_
    refine rl_gF rfl rfl ?_
    refine rl_gF rfl rfl ?_
    refine rl_gF rfl rfl ?_
    refine rl_gU rfl rfl ?_
    refine rl_gU rfl rfl ?_
    refine rl_gU rfl rfl ?_
    refine rl_gU rfl rfl ?_
    refine rl_gU rfl rfl ?_
    refine rl_gU rfl rfl ?_
    refine rl_gU rfl rfl ?_
    refine rl_gU rfl rfl ?_
    refine rl_gF rfl rfl ?_
    refine rl_pickT rfl rfl ?_
    refine ⟨by kernel_rfl, ?_⟩
    refine ex_cond rfl (fun hc16 => ?_) (fun hc16 => ?_)
    rotate_left
    · simp at hc16
    try simp at hc16
    try have hlt := hc16
    refine ex_rs ttOK (by rfl) ?_
    refine rl_assign rfl ?_
    refine ex_ret ⟨.inr rfl, ?_⟩
    clear hK6 K6 hK3 K3
    refine ret_pv rfl ?_ rfl
    exact congrArg (fun b : Bool => [AV.pv (.bool b)]) (h2.trans (chk2_bad _ _ (decide_eq_false (by unfold ouOk; omega)))).symm
  try simp at hg10
  refine rl_fieldAddr rfl tt_104 rfl rfl tt_3 rfl rfl ?_
  refine rl_gT rfl rfl ?_
  refine rl_load_ptr rfl tt_3 rfl rfl ?_
  refine rl_gT rfl rfl ?_
  refine rl_call rfl rfl rfl (F_spec_l1Num ..) ?_
  refine rl_gT rfl rfl ?_
  refine rl_not rfl ?_
  refine rl_pickF rfl rfl ?_
  refine rl_move rfl ?_
  refine rl_g rfl rfl (fun hg11 => ?_) (fun hg11 => ?_)
  rotate_left
  · try simp at hg11
    refine rl_gF rfl rfl ?_
    refine rl_gF rfl rfl ?_
    refine rl_gU rfl rfl ?_
    refine rl_gU rfl rfl ?_
    refine rl_gU rfl rfl ?_
    refine rl_gU rfl rfl ?_
    refine rl_gU rfl rfl ?_
    refine rl_gU rfl rfl ?_
    refine rl_gU rfl rfl ?_
    refine rl_gU rfl rfl ?_
    refine rl_gF rfl rfl ?_
    refine rl_pickT rfl rfl ?_
    refine ⟨by kernel_rfl, ?_⟩
    refine ex_cond rfl (fun hc15 => ?_) (fun hc15 => ?_)
    rotate_left
    · simp at hc15
    try simp at hc15
    try have hlt := hc15
    refine ex_rs ttOK (by rfl) ?_
    refine rl_assign rfl ?_
    refine ex_ret ⟨.inr rfl, ?_⟩
    clear hK6 K6 hK3 K3
    refine ret_pv rfl ?_ rfl
    exact congrArg (fun b : Bool => [AV.pv (.bool b)]) (h2.trans (chk2_bad _ _ (decide_eq_false (by unfold ouOk; omega)))).symm
  try simp at hg11
  have hok : okO p = true := decide_eq_true (by unfold ouOk; omega)
  refine rl_move rfl ?_
  refine rl_gT rfl rfl ?_
  refine rl_bin rfl rfl rfl ?_
  refine rl_gT rfl rfl ?_
  refine rl_move rfl ?_
  refine rl_g rfl rfl (fun hg12 => ?_) (fun hg12 => ?_)
  rotate_left
  · try simp at hg12
    have hi0 : i = 0 := by omega
    have hlast : last? l i = none := by rw [hi0]; rfl
    rw [hlast] at h2
    refine rl_gF rfl rfl ?_
    refine rl_gF rfl rfl ?_
    refine rl_gF rfl rfl ?_
    refine rl_gF rfl rfl ?_
    refine rl_gF rfl rfl ?_
    refine rl_gF rfl rfl ?_
    refine rl_gF rfl rfl ?_
    refine rl_gT rfl rfl ?_
    refine rl_pickF rfl rfl ?_
    refine rl_pickF rfl rfl ?_
    refine ⟨by kernel_rfl, ?_⟩
    refine ex_cond rfl (fun hc14 => ?_) (fun hc14 => ?_)
    · simp at hc14
    try simp at hc14
    try have hlt := hc14
    refine ex_skip ?_
    refine hK6 _ _ ?_
    clear hK6 K6
    refine ex_region ttOK (by rfl) ?_
    refine rl_move rfl ?_
    refine rl_addN (b := 1) rfl rfl (by omega) ?_
    refine rl_assign rfl ?_
    exact ⟨i + 1, ⟨⟨by omega, by rw [h2]; show _ = chk2 okO ouLt l[i]? _; rw [hp]; exact chk2_first _ _ hok⟩, by omega⟩, [_], (Cov.cons (t := 5) rfl Cov.nil), (Cov.cons (t := 0) rfl Cov.nil), (HE.kill rfl HE.nil), HE.nil, rfl⟩
  try simp at hg12
  have hi0 : 0 < i := by omega
  obtain ⟨b, hb⟩ : ∃ b, l[i - 1]? = some b := ⟨_, List.getElem?_eq_getElem (by omega)⟩
  have hlast : last? l i = some b := by obtain ⟨j, rfl⟩ : ∃ j, i = j + 1 := ⟨i - 1, by omega⟩; exact hb
  rw [hlast] at h2
  refine rl_move rfl ?_
  refine rl_gT rfl rfl ?_
  refine rl_move rfl ?_
  refine rl_gT rfl rfl ?_
  refine rl_subN (b := 1) rfl rfl (by omega) (by omega) ?_
  refine rl_gT rfl rfl ?_
  refine rl_idxm rfl rfl tt_25 rfl tt_104 rfl hb ?_
  refine rl_gT rfl rfl ?_
  refine rl_loadA_iel rfl tt_104 rfl rfl ?_
  refine rl_gT rfl rfl ?_
  refine rl_loadA_ptr rfl tt_104 rfl rfl rfl ?_
  refine rl_gT rfl rfl ?_
  refine rl_call rfl rfl rfl (F_spec_OutLess ..) ?_
  refine rl_gT rfl rfl ?_
  refine rl_not rfl ?_
  refine rl_gT rfl rfl ?_
  refine rl_pickT rfl rfl ?_
  refine rl_pickF rfl rfl ?_
  refine ⟨by kernel_rfl, ?_⟩
  refine ex_cond rfl (fun hc13 => ?_) (fun hc13 => ?_)
  rotate_left
  · try simp at hc13
    try have hlt := hc13
    refine ex_skip ?_
    refine hK6 _ _ ?_
    clear hK6 K6
    refine ex_region ttOK (by rfl) ?_
    refine rl_move rfl ?_
    refine rl_addN (b := 1) rfl rfl (by omega) ?_
    refine rl_assign rfl ?_
    exact ⟨i + 1, ⟨⟨by omega, by rw [h2]; show _ = chk2 okO ouLt l[i]? _; rw [hp]; exact chk2_step _ _ hok hlt⟩, by omega⟩, [_], (Cov.cons (t := 5) rfl Cov.nil), (Cov.cons (t := 0) rfl Cov.nil), (HE.kill rfl HE.nil), HE.nil, rfl⟩
  try simp at hc13
  try have hlt := hc13
  refine ex_rs ttOK (by rfl) ?_
  refine rl_assign rfl ?_
  refine ex_ret ⟨.inr rfl, ?_⟩
  clear hK6 K6 hK3 K3
  refine ret_pv rfl ?_ rfl
  exact congrArg (fun b : Bool => [AV.pv (.bool b)]) (h2.trans (chk2_lt _ _ hlt)).symm
end Go.Proofs.YtpadkogpeobboaaGreat.Am
namespace Go.Proofs.YtpadkogpeobboaaGreat.Am
open Go Go.RowKit
theorem F_impl_pastOk (c : Bool) (p : Pa) (proc : Int) : Pure Tryz.prog 197 [.agg (encPa c p), .pv (.int .i64 proc)] (.pv (.bool (paOk proc p))) := by
  refine pure_of_ex ttOK (fn := Tryz.f197) (by kernel_rfl) (by kernel_rfl) rfl (outs := [.pv (.bool (paOk proc p))]) (by rfl) (Nat.le_of_ble_eq_true rfl) 1 ?_
  refine ex_rs ttOK (by rfl) ?_
  refine rl_boxA (id := 0) rfl rfl rfl ?_
  refine rl_assign rfl ?_
  refine ex_rs ttOK (by rfl) ?_
  refine rl_fieldAddr rfl tt_78 rfl rfl tt_76 rfl rfl ?_
  refine rl_load_ptr (out := .agg (encEv p.ev)) rfl tt_76 rfl rfl ?_
  refine rl_call rfl rfl rfl (F_impl_eventOk ..) ?_
  refine rl_move rfl ?_
  refine rl_g rfl rfl (fun hg1 => ?_) (fun hg1 => ?_)
  rotate_left
  · try simp at hg1
    refine rl_gF rfl rfl ?_
    refine rl_gF rfl rfl ?_
    refine rl_gF rfl rfl ?_
    refine rl_gF rfl rfl ?_
    refine rl_pickF rfl rfl ?_
    refine rl_move rfl ?_
    refine rl_gF rfl rfl ?_
    refine rl_gF rfl rfl ?_
    refine rl_gF rfl rfl ?_
    refine rl_pickF rfl rfl ?_
    refine rl_move rfl ?_
    refine rl_gF rfl rfl ?_
    refine rl_gF rfl rfl ?_
    refine rl_gF rfl rfl ?_
    refine rl_pickF rfl rfl ?_
    refine rl_move rfl ?_
    refine rl_gF rfl rfl ?_
    refine rl_gF rfl rfl ?_
    refine rl_gF rfl rfl ?_
    refine rl_pickF rfl rfl ?_
    refine rl_assign rfl ?_
    refine ex_ret ⟨.inr rfl, ?_⟩
    refine ret_pv rfl ?_ rfl
    simp [paOk, *]
  try simp at hg1
  refine rl_fieldAddr rfl tt_78 rfl rfl tt_76 rfl rfl ?_
  refine rl_gT rfl rfl ?_
  refine rl_fieldAddr rfl tt_76 rfl rfl tt_3 rfl rfl ?_
  refine rl_gT rfl rfl ?_
  refine rl_load_ptr rfl tt_3 rfl rfl ?_
  refine rl_gT rfl rfl ?_
  refine rl_move rfl ?_
  refine rl_gT rfl rfl ?_
  refine rl_bin rfl rfl rfl ?_
  refine rl_pickT rfl rfl ?_
  refine rl_move rfl ?_
  refine rl_g rfl rfl (fun hg2 => ?_) (fun hg2 => ?_)
  rotate_left
  · try simp at hg2
    refine rl_gF rfl rfl ?_
    refine rl_gF rfl rfl ?_
    refine rl_pickF rfl rfl ?_
    refine rl_move rfl ?_
    refine rl_gF rfl rfl ?_
    refine rl_gF rfl rfl ?_
    refine rl_gF rfl rfl ?_
    refine rl_pickF rfl rfl ?_
    refine rl_move rfl ?_
    refine rl_gF rfl rfl ?_
    refine rl_gF rfl rfl ?_
    refine rl_gF rfl rfl ?_
    refine rl_pickF rfl rfl ?_
    refine rl_assign rfl ?_
    refine ex_ret ⟨.inr rfl, ?_⟩
    refine ret_pv rfl ?_ rfl
    simp [paOk, *]
  try simp at hg2
  refine rl_fieldAddr rfl tt_78 rfl rfl tt_62 rfl rfl ?_
  refine rl_gT rfl rfl ?_
  refine rl_load_ptr (out := .agg (encSt p.after)) rfl tt_62 rfl rfl ?_
  refine rl_gT rfl rfl ?_
  refine rl_call rfl rfl rfl (F_impl_stateOk ..) ?_
  refine rl_pickT rfl rfl ?_
  refine rl_move rfl ?_
  refine rl_g rfl rfl (fun hg3 => ?_) (fun hg3 => ?_)
  rotate_left
  · try simp at hg3
    refine rl_gF rfl rfl ?_
    refine rl_gF rfl rfl ?_
    refine rl_pickF rfl rfl ?_
    refine rl_move rfl ?_
    refine rl_gF rfl rfl ?_
    refine rl_gF rfl rfl ?_
    refine rl_gF rfl rfl ?_
    refine rl_pickF rfl rfl ?_
    refine rl_assign rfl ?_
    refine ex_ret ⟨.inr rfl, ?_⟩
    refine ret_pv rfl ?_ rfl
    simp [paOk, *]
  try simp at hg3
  refine rl_fieldAddr rfl tt_78 rfl rfl tt_24 rfl rfl ?_
  refine rl_gT rfl rfl ?_
  refine rl_load_ptr rfl tt_24 rfl rfl ?_
  refine rl_gT rfl rfl ?_
  refine rl_call rfl rfl rfl (F_impl_eventsOk ..) ?_
  refine rl_pickT rfl rfl ?_
  refine rl_move rfl ?_
  refine rl_g rfl rfl (fun hg4 => ?_) (fun hg4 => ?_)
  rotate_left
  · try simp at hg4
    refine rl_gF rfl rfl ?_
    refine rl_gF rfl rfl ?_
    refine rl_pickF rfl rfl ?_
    refine rl_assign rfl ?_
    refine ex_ret ⟨.inr rfl, ?_⟩
    refine ret_pv rfl ?_ rfl
    simp [paOk, *]
  try simp at hg4
  refine rl_fieldAddr rfl tt_78 rfl rfl tt_25 rfl rfl ?_
  refine rl_gT rfl rfl ?_
  refine rl_load_ptr rfl tt_25 rfl rfl ?_
  refine rl_gT rfl rfl ?_
  refine rl_call rfl rfl rfl (F_impl_outsOk ..) ?_
  refine rl_pickT rfl rfl ?_
  refine rl_assign rfl ?_
  refine ex_ret ⟨.inr rfl, ?_⟩
  refine ret_pv rfl ?_ rfl
  simp [paOk, *]
theorem F_spec_l21PastOk (c : Bool) (p : Pa) (proc : Int) : Pure Tryz.prog 130 [.agg (encPa c p), .pv (.int .i64 proc)] (.pv (.bool (paOk proc p))) := by
  refine pure_of_ex ttOK (fn := Tryz.f130) (by kernel_rfl) (by kernel_rfl) rfl (outs := [.pv (.bool (paOk proc p))]) (by rfl) (Nat.le_of_ble_eq_true rfl) 1 ?_
  refine ex_rs ttOK (by rfl) ?_
  refine rl_boxA (id := 0) rfl rfl rfl ?_
  refine rl_assign rfl ?_
  refine ex_rs ttOK (by rfl) ?_
  refine rl_fieldAddr rfl tt_78 rfl rfl tt_76 rfl rfl ?_
  refine rl_load_ptr (out := .agg (encEv p.ev)) rfl tt_76 rfl rfl ?_
  refine rl_call rfl rfl rfl (F_spec_l1EventOk ..) ?_
  refine rl_move rfl ?_
  refine rl_g rfl rfl (fun hg1 => ?_) (fun hg1 => ?_)
  rotate_left
  · try simp at hg1
    refine rl_gF rfl rfl ?_
    refine rl_gF rfl rfl ?_
    refine rl_gF rfl rfl ?_
    refine rl_gF rfl rfl ?_
    refine rl_pickF rfl rfl ?_
    refine rl_move rfl ?_
    refine rl_gF rfl rfl ?_
    refine rl_gF rfl rfl ?_
    refine rl_gF rfl rfl ?_
    refine rl_pickF rfl rfl ?_
    refine rl_move rfl ?_
    refine rl_gF rfl rfl ?_
    refine rl_gF rfl rfl ?_
    refine rl_gF rfl rfl ?_
    refine rl_pickF rfl rfl ?_
    refine rl_move rfl ?_
    refine rl_gF rfl rfl ?_
    refine rl_gF rfl rfl ?_
    refine rl_gF rfl rfl ?_
    refine rl_pickF rfl rfl ?_
    refine rl_assign rfl ?_
    refine ex_ret ⟨.inr rfl, ?_⟩
    refine ret_pv rfl ?_ rfl
    simp [paOk, *]
  try simp at hg1
  refine rl_fieldAddr rfl tt_78 rfl rfl tt_76 rfl rfl ?_
  refine rl_gT rfl rfl ?_
  refine rl_fieldAddr rfl tt_76 rfl rfl tt_3 rfl rfl ?_
  refine rl_gT rfl rfl ?_
  refine rl_load_ptr rfl tt_3 rfl rfl ?_
  refine rl_gT rfl rfl ?_
  refine rl_move rfl ?_
  refine rl_gT rfl rfl ?_
  refine rl_bin rfl rfl rfl ?_
  refine rl_pickT rfl rfl ?_
  refine rl_move rfl ?_
  refine rl_g rfl rfl (fun hg2 => ?_) (fun hg2 => ?_)
  rotate_left
  · try simp at hg2
    refine rl_gF rfl rfl ?_
    refine rl_gF rfl rfl ?_
    refine rl_pickF rfl rfl ?_
    refine rl_move rfl ?_
    refine rl_gF rfl rfl ?_
    refine rl_gF rfl rfl ?_
    refine rl_gF rfl rfl ?_
    refine rl_pickF rfl rfl ?_
    refine rl_move rfl ?_
    refine rl_gF rfl rfl ?_
    refine rl_gF rfl rfl ?_
    refine rl_gF rfl rfl ?_
    refine rl_pickF rfl rfl ?_
    refine rl_assign rfl ?_
    refine ex_ret ⟨.inr rfl, ?_⟩
    refine ret_pv rfl ?_ rfl
    simp [paOk, *]
  try simp at hg2
  refine rl_fieldAddr rfl tt_78 rfl rfl tt_62 rfl rfl ?_
  refine rl_gT rfl rfl ?_
  refine rl_load_ptr (out := .agg (encSt p.after)) rfl tt_62 rfl rfl ?_
  refine rl_gT rfl rfl ?_
  refine rl_call rfl rfl rfl (F_spec_l1StateOk ..) ?_
  refine rl_pickT rfl rfl ?_
  refine rl_move rfl ?_
  refine rl_g rfl rfl (fun hg3 => ?_) (fun hg3 => ?_)
  rotate_left
  · try simp at hg3
    refine rl_gF rfl rfl ?_
    refine rl_gF rfl rfl ?_
    refine rl_pickF rfl rfl ?_
    refine rl_move rfl ?_
    refine rl_gF rfl rfl ?_
    refine rl_gF rfl rfl ?_
    refine rl_gF rfl rfl ?_
    refine rl_pickF rfl rfl ?_
    refine rl_assign rfl ?_
    refine ex_ret ⟨.inr rfl, ?_⟩
    refine ret_pv rfl ?_ rfl
    simp [paOk, *]
  try simp at hg3
  refine rl_fieldAddr rfl tt_78 rfl rfl tt_24 rfl rfl ?_
  refine rl_gT rfl rfl ?_
  refine rl_load_ptr rfl tt_24 rfl rfl ?_
  refine rl_gT rfl rfl ?_
  refine rl_call rfl rfl rfl (F_spec_l2Events ..) ?_
  refine rl_pickT rfl rfl ?_
  refine rl_move rfl ?_
  refine rl_g rfl rfl (fun hg4 => ?_) (fun hg4 => ?_)
  rotate_left
  · try simp at hg4
    refine rl_gF rfl rfl ?_
    refine rl_gF rfl rfl ?_
    refine rl_pickF rfl rfl ?_
    refine rl_assign rfl ?_
    refine ex_ret ⟨.inr rfl, ?_⟩
    refine ret_pv rfl ?_ rfl
    simp [paOk, *]
  try simp at hg4
  refine rl_fieldAddr rfl tt_78 rfl rfl tt_25 rfl rfl ?_
  refine rl_gT rfl rfl ?_
  refine rl_load_ptr rfl tt_25 rfl rfl ?_
  refine rl_gT rfl rfl ?_
  refine rl_call rfl rfl rfl (F_spec_l2Outs ..) ?_
  refine rl_pickT rfl rfl ?_
  refine rl_assign rfl ?_
  refine ex_ret ⟨.inr rfl, ?_⟩
  refine ret_pv rfl ?_ rfl
  simp [paOk, *]
theorem F_spec_l2Most  : Pure Tryz.prog 129 [] (.pv (.int .i64 100)) := by
  refine pure_of_ex ttOK (fn := Tryz.f129) (by kernel_rfl) (by kernel_rfl) rfl (outs := [.pv (.int .i64 100)]) (by rfl) (Nat.le_of_ble_eq_true rfl) 0 ?_
  refine ex_rs ttOK (by rfl) ?_
  refine rl_assign rfl ?_
  refine ex_rs ttOK (by rfl) ?_
  refine rl_assign rfl ?_
  refine ex_ret ⟨.inr rfl, ?_⟩
  exact ret_pv rfl rfl rfl
theorem F_impl_LaneOk (c : Bool) (l : La) : Pure Tryz.prog 123 [.agg (encLa c l)] (.pv (.bool (laOk l))) := by
  refine pure_of_ex ttOK (fn := Tryz.f123) (by kernel_rfl) (by kernel_rfl) rfl (outs := [.pv (.bool (laOk l))]) (by rfl) (Nat.le_of_ble_eq_true rfl) 2 ?_
  refine ex_rs ttOK (by rfl) ?_
  refine rl_boxA (id := 0) rfl rfl rfl ?_
  refine rl_assign rfl ?_
  refine ex_seq_k fun K1 hK1 => ?_
  refine ex_rs ttOK (by rfl) ?_
  refine rl_fieldAddr rfl tt_65 rfl rfl tt_3 rfl rfl ?_
  refine rl_load_ptr rfl tt_3 rfl rfl ?_
  refine rl_call rfl rfl rfl (F_impl_isProc ..) ?_
  refine rl_not rfl ?_
  refine rl_move rfl ?_
  refine rl_g rfl rfl (fun hg2 => ?_) (fun hg2 => ?_)
  rotate_left
  · try simp at hg2
    have hn1 : ¬ (0 ≤ l.proc ∧ l.proc ≤ 3) := by omega
    refine rl_gF rfl rfl ?_
    refine rl_gF rfl rfl ?_
    refine rl_gF rfl rfl ?_
    refine rl_pickT rfl rfl ?_
    refine rl_move rfl ?_
    refine rl_gF rfl rfl ?_
    refine rl_gF rfl rfl ?_
    refine rl_gF rfl rfl ?_
    refine rl_gF rfl rfl ?_
    refine rl_pickT rfl rfl ?_
    refine ex_cond rfl (fun hc15 => ?_) (fun hc15 => ?_)
    rotate_left
    · simp at hc15
    try simp at hc15
    try have hn3 : ¬ l.done.length ≤ 100 := by omega
    refine ex_rs ttOK (by rfl) ?_
    refine rl_assign rfl ?_
    refine ex_ret ⟨.inr rfl, ?_⟩
    clear hK1 K1
    refine ret_pv rfl ?_ rfl
    exact congrArg (fun b : Bool => [AV.pv (.bool b)]) (laOk_1 hn1).symm
  try simp at hg2
  have hc1 : 0 ≤ l.proc ∧ l.proc ≤ 3 := by exact hg2
  refine rl_fieldAddr rfl tt_65 rfl rfl tt_62 rfl rfl ?_
  refine rl_gT rfl rfl ?_
  refine rl_load_ptr (out := .agg (encSt l.base)) rfl tt_62 rfl rfl ?_
  refine rl_gT rfl rfl ?_
  refine rl_call rfl rfl rfl (F_impl_stateOk ..) ?_
  refine rl_gT rfl rfl ?_
  refine rl_not rfl ?_
  refine rl_pickF rfl rfl ?_
  refine rl_move rfl ?_
  refine rl_g rfl rfl (fun hg3 => ?_) (fun hg3 => ?_)
  rotate_left
  · try simp at hg3
    have hn2 : ¬ stOk l.base := by exact hg3
    refine rl_gF rfl rfl ?_
    refine rl_gF rfl rfl ?_
    refine rl_gF rfl rfl ?_
    refine rl_pickT rfl rfl ?_
    refine ex_cond rfl (fun hc14 => ?_) (fun hc14 => ?_)
    rotate_left
    · simp at hc14
    try simp at hc14
    try have hn3 : ¬ l.done.length ≤ 100 := by omega
    refine ex_rs ttOK (by rfl) ?_
    refine rl_assign rfl ?_
    refine ex_ret ⟨.inr rfl, ?_⟩
    clear hK1 K1
    refine ret_pv rfl ?_ rfl
    exact congrArg (fun b : Bool => [AV.pv (.bool b)]) (laOk_2 hn2).symm
  try simp at hg3
  have hc2 : stOk l.base := by exact hg3
  refine rl_fieldAddr rfl tt_65 rfl rfl tt_63 rfl rfl ?_
  refine rl_gT rfl rfl ?_
  refine rl_load_ptr rfl tt_63 rfl rfl ?_
  refine rl_gT rfl rfl ?_
  refine rl_lenm rfl tt_63 rfl ?_
  refine rl_gT rfl rfl ?_
  refine rl_bin rfl rfl rfl ?_
  refine rl_pickF rfl rfl ?_
  refine ex_cond rfl (fun hc4 => ?_) (fun hc4 => ?_)
  · try simp at hc4
    try have hn3 : ¬ l.done.length ≤ 100 := by omega
    refine ex_rs ttOK (by rfl) ?_
    refine rl_assign rfl ?_
    refine ex_ret ⟨.inr rfl, ?_⟩
    clear hK1 K1
    refine ret_pv rfl ?_ rfl
    exact congrArg (fun b : Bool => [AV.pv (.bool b)]) (laOk_3 hn3).symm
  try simp at hc4
  have hc3 : l.done.length ≤ 100 := by omega
  refine ex_skip ?_
  refine hK1 _ _ ?_
  clear hK1 K1
  refine ex_seq_k fun K5 hK5 => ?_
  refine ex_rs ttOK (by rfl) ?_
  refine rl_fieldAddr rfl tt_65 rfl rfl tt_63 rfl rfl ?_
  refine rl_load_ptr rfl tt_63 rfl rfl ?_
  refine rl_lenm rfl tt_63 rfl ?_
  refine rl_move rfl ?_
  refine ex_block ?_
  refine ex_loopK (ι := Nat) (fun i γ1 => [(24, .pv (.int .i64 (i : Int)))]) (fun i γ1 => [(1, ((γ1 1), .dead))]) (fun i => i ≤ l.done.length ∧ laOk l = chk2 (paOk l.proc) paLt (last? l.done i) (l.done.drop i)) (fun i => l.done.length - i) (Cov.cons (t := 1) rfl (Cov.cons (t := 22) rfl (Cov.cons (t := 23) rfl Cov.nil))) (HE.same (id := 0) rfl HE.nil) 0 ⟨by omega, laOk_go hc1 hc2 hc3⟩ [0, _] (Cov.cons (t := 24) rfl Cov.nil) (HE.kill rfl HE.nil) rfl fun i γ1 hi => ?_
  try dsimp only [List.cons_append, List.nil_append]
  obtain ⟨h1, h2⟩ := hi
  refine ex_rs ttOK (by rfl) ?_
  refine rl_bin rfl rfl rfl ?_
  refine ex_seq_k fun K6 hK6 => ?_
  refine ex_cond rfl (fun hc7 => ?_) (fun hc7 => ?_)
  rotate_left
  · try simp at hc7
    obtain rfl : i = l.done.length := by omega
    rw [List.drop_length] at h2
    refine ex_exit ?_
    refine hK5 _ _ ?_
    clear hK6 K6 hK5 K5
    refine ex_rs ttOK (by rfl) ?_
    refine rl_assign rfl ?_
    refine ex_ret ⟨.inr rfl, ?_⟩
    refine ret_pv rfl ?_ rfl
    exact congrArg (fun b : Bool => [AV.pv (.bool b)]) h2.symm
  try simp at hc7
  obtain ⟨p, hp⟩ : ∃ p, l.done[i]? = some p := ⟨_, List.getElem?_eq_getElem (by omega)⟩
  rw [drop_cons hp] at h2
  refine ex_skip ?_
  refine hK6 _ _ ?_
  clear hK6 K6
  refine ex_seq_k fun K8 hK8 => ?_
  refine ex_block ?_
  refine ex_rs ttOK (by rfl) ?_
  refine rl_move rfl ?_
  refine rl_idxm rfl rfl tt_63 rfl tt_78 rfl hp ?_
  refine rl_loadA_iel rfl tt_78 rfl rfl ?_
  refine rl_alloc (id := 1) tt_78 za_78 rfl ?_
  refine rl_assign rfl ?_
  refine rl_storeA rfl rfl tt_78 rfl rfl rfl rfl ?_
  refine ex_rsD ttOK mixed (by rfl) ?_
  refine rl_loadA_ptr rfl tt_78 rfl rfl rfl ?_
  refine rl_fieldAddr rfl tt_65 rfl rfl tt_3 rfl rfl ?_
  refine rl_load_ptr rfl tt_3 rfl rfl ?_
  refine rl_call rfl rfl rfl (F_impl_pastOk ..) ?_
  refine rl_not rfl ?_
  refine rl_move rfl ?_
  refine rl_g rfl rfl (fun hg9 => ?_) (fun hg9 => ?_)
  rotate_left
  · try simp at hg9
    have hbad : paOk l.proc p = false := by simpa using hg9
    refine rl_gF rfl rfl ?_
    refine rl_gF rfl rfl ?_
    refine rl_gU rfl rfl ?_
    refine rl_gU rfl rfl ?_
    refine rl_gU rfl rfl ?_
    refine rl_gU rfl rfl ?_
    refine rl_gU rfl rfl ?_
    refine rl_gU rfl rfl ?_
    refine rl_gU rfl rfl ?_
    refine rl_gU rfl rfl ?_
    refine rl_gU rfl rfl ?_
    refine rl_gU rfl rfl ?_
    refine rl_gU rfl rfl ?_
    refine rl_gF rfl rfl ?_
    refine rl_pickT rfl rfl ?_
    refine ⟨by kernel_rfl, ?_⟩
    refine ex_cond rfl (fun hc13 => ?_) (fun hc13 => ?_)
    rotate_left
    · simp at hc13
    try simp at hc13
    try have hlt := hc13
    refine ex_rs ttOK (by rfl) ?_
    refine rl_assign rfl ?_
    refine ex_ret ⟨.inr rfl, ?_⟩
    clear hK8 K8 hK5 K5
    refine ret_pv rfl ?_ rfl
    exact congrArg (fun b : Bool => [AV.pv (.bool b)]) (h2.trans (chk2_bad _ _ hbad)).symm
  try simp at hg9
  have hok : paOk l.proc p = true := by simpa using hg9
  refine rl_move rfl ?_
  refine rl_gT rfl rfl ?_
  refine rl_bin rfl rfl rfl ?_
  refine rl_gT rfl rfl ?_
  refine rl_move rfl ?_
  refine rl_g rfl rfl (fun hg10 => ?_) (fun hg10 => ?_)
  rotate_left
  · try simp at hg10
    have hi0 : i = 0 := by omega
    have hlast : last? l.done i = none := by rw [hi0]; rfl
    rw [hlast] at h2
    refine rl_gF rfl rfl ?_
    refine rl_gF rfl rfl ?_
    refine rl_gF rfl rfl ?_
    refine rl_gF rfl rfl ?_
    refine rl_gF rfl rfl ?_
    refine rl_gF rfl rfl ?_
    refine rl_gF rfl rfl ?_
    refine rl_gF rfl rfl ?_
    refine rl_gF rfl rfl ?_
    refine rl_gF rfl rfl ?_
    refine rl_gT rfl rfl ?_
    refine rl_pickF rfl rfl ?_
    refine rl_pickF rfl rfl ?_
    refine ⟨by kernel_rfl, ?_⟩
    refine ex_cond rfl (fun hc12 => ?_) (fun hc12 => ?_)
    · simp at hc12
    try simp at hc12
    try have hlt := hc12
    refine ex_skip ?_
    refine hK8 _ _ ?_
    clear hK8 K8
    refine ex_region ttOK (by rfl) ?_
    refine rl_addN (b := 1) rfl rfl (by omega) ?_
    refine rl_move rfl ?_
    exact ⟨i + 1, ⟨⟨by omega, by rw [h2]; show _ = chk2 (paOk l.proc) paLt l.done[i]? _; rw [hp]; exact chk2_first _ _ hok⟩, by omega⟩, [0, _], (Cov.cons (t := 24) rfl Cov.nil), (Cov.cons (t := 1) rfl (Cov.cons (t := 22) rfl (Cov.cons (t := 23) rfl Cov.nil))), (HE.kill rfl HE.nil), (HE.same (id := 0) rfl HE.nil), rfl⟩
  try simp at hg10
  have hi0 : 0 < i := by omega
  obtain ⟨b, hb⟩ : ∃ b, l.done[i - 1]? = some b := ⟨_, List.getElem?_eq_getElem (by omega)⟩
  have hlast : last? l.done i = some b := by obtain ⟨j, rfl⟩ : ∃ j, i = j + 1 := ⟨i - 1, by omega⟩; exact hb
  rw [hlast] at h2
  refine rl_fieldAddr rfl tt_65 rfl rfl tt_63 rfl rfl ?_
  refine rl_gT rfl rfl ?_
  refine rl_load_ptr rfl tt_63 rfl rfl ?_
  refine rl_gT rfl rfl ?_
  refine rl_move rfl ?_
  refine rl_gT rfl rfl ?_
  refine rl_subN (b := 1) rfl rfl (by omega) (by omega) ?_
  refine rl_gT rfl rfl ?_
  refine rl_idxm rfl rfl tt_63 rfl tt_78 rfl hb ?_
  refine rl_gT rfl rfl ?_
  refine rl_fieldAddr rfl tt_78 rfl rfl tt_76 rfl rfl ?_
  refine rl_gT rfl rfl ?_
  refine rl_load_iel (out := .agg (encEv b.ev)) rfl tt_76 rfl ?_
  refine rl_gT rfl rfl ?_
  refine rl_fieldAddr rfl tt_78 rfl rfl tt_76 rfl rfl ?_
  refine rl_gT rfl rfl ?_
  refine rl_load_ptr (out := .agg (encEv p.ev)) rfl tt_76 rfl rfl ?_
  refine rl_gT rfl rfl ?_
  refine rl_call rfl rfl rfl (F_impl_EventLess ..) ?_
  refine rl_gT rfl rfl ?_
  refine rl_not rfl ?_
  refine rl_gT rfl rfl ?_
  refine rl_pickT rfl rfl ?_
  refine rl_pickF rfl rfl ?_
  refine ⟨by kernel_rfl, ?_⟩
  refine ex_cond rfl (fun hc11 => ?_) (fun hc11 => ?_)
  rotate_left
  · try simp at hc11
    try have hlt := hc11
    refine ex_skip ?_
    refine hK8 _ _ ?_
    clear hK8 K8
    refine ex_region ttOK (by rfl) ?_
    refine rl_addN (b := 1) rfl rfl (by omega) ?_
    refine rl_move rfl ?_
    exact ⟨i + 1, ⟨⟨by omega, by rw [h2]; show _ = chk2 (paOk l.proc) paLt l.done[i]? _; rw [hp]; exact chk2_step _ _ hok hlt⟩, by omega⟩, [0, _], (Cov.cons (t := 24) rfl Cov.nil), (Cov.cons (t := 1) rfl (Cov.cons (t := 22) rfl (Cov.cons (t := 23) rfl Cov.nil))), (HE.kill rfl HE.nil), (HE.same (id := 0) rfl HE.nil), rfl⟩
  try simp at hc11
  try have hlt := hc11
  refine ex_rs ttOK (by rfl) ?_
  refine rl_assign rfl ?_
  refine ex_ret ⟨.inr rfl, ?_⟩
  clear hK8 K8 hK5 K5
  refine ret_pv rfl ?_ rfl
  exact congrArg (fun b : Bool => [AV.pv (.bool b)]) (h2.trans (chk2_lt _ _ hlt)).symm
theorem F_spec_LaneOk (c : Bool) (l : La) : Pure Tryz.prog 49 [.agg (encLa c l)] (.pv (.bool (laOk l))) := by
  refine pure_of_ex ttOK (fn := Tryz.f49) (by kernel_rfl) (by kernel_rfl) rfl (outs := [.pv (.bool (laOk l))]) (by rfl) (Nat.le_of_ble_eq_true rfl) 1 ?_
  refine ex_rs ttOK (by rfl) ?_
  refine rl_boxA (id := 0) rfl rfl rfl ?_
  refine rl_assign rfl ?_
  refine ex_seq_k fun K1 hK1 => ?_
  refine ex_rsD ttOK mixed (by rfl) ?_
  refine rl_fieldAddr rfl tt_65 rfl rfl tt_3 rfl rfl ?_
  refine rl_load_ptr rfl tt_3 rfl rfl ?_
  refine rl_call rfl rfl rfl (F_spec_l1Proc ..) ?_
  refine rl_not rfl ?_
  refine rl_move rfl ?_
  refine rl_g rfl rfl (fun hg2 => ?_) (fun hg2 => ?_)
  rotate_left
  · try simp at hg2
    have hn1 : ¬ (0 ≤ l.proc ∧ l.proc ≤ 3) := by omega
    refine rl_gF rfl rfl ?_
    refine rl_gF rfl rfl ?_
    refine rl_gF rfl rfl ?_
    refine rl_pickT rfl rfl ?_
    refine rl_move rfl ?_
    refine rl_gF rfl rfl ?_
    refine rl_gF rfl rfl ?_
    refine rl_gF rfl rfl ?_
    refine rl_gF rfl rfl ?_
    refine rl_gF rfl rfl ?_
    refine rl_pickT rfl rfl ?_
    refine ⟨by kernel_rfl, ?_⟩
    refine ex_cond rfl (fun hc15 => ?_) (fun hc15 => ?_)
    rotate_left
    · simp at hc15
    try simp at hc15
    try have hn3 : ¬ l.done.length ≤ 100 := by omega
    refine ex_rs ttOK (by rfl) ?_
    refine rl_assign rfl ?_
    refine ex_ret ⟨.inr rfl, ?_⟩
    clear hK1 K1
    refine ret_pv rfl ?_ rfl
    exact congrArg (fun b : Bool => [AV.pv (.bool b)]) (laOk_1 hn1).symm
  try simp at hg2
  have hc1 : 0 ≤ l.proc ∧ l.proc ≤ 3 := by exact hg2
  refine rl_fieldAddr rfl tt_65 rfl rfl tt_62 rfl rfl ?_
  refine rl_gT rfl rfl ?_
  refine rl_load_ptr (out := .agg (encSt l.base)) rfl tt_62 rfl rfl ?_
  refine rl_gT rfl rfl ?_
  refine rl_call rfl rfl rfl (F_spec_l1StateOk ..) ?_
  refine rl_gT rfl rfl ?_
  refine rl_not rfl ?_
  refine rl_pickF rfl rfl ?_
  refine rl_move rfl ?_
  refine rl_g rfl rfl (fun hg3 => ?_) (fun hg3 => ?_)
  rotate_left
  · try simp at hg3
    have hn2 : ¬ stOk l.base := by exact hg3
    refine rl_gF rfl rfl ?_
    refine rl_gF rfl rfl ?_
    refine rl_gF rfl rfl ?_
    refine rl_gF rfl rfl ?_
    refine rl_pickT rfl rfl ?_
    refine ⟨by kernel_rfl, ?_⟩
    refine ex_cond rfl (fun hc14 => ?_) (fun hc14 => ?_)
    rotate_left
    · simp at hc14
    try simp at hc14
    try have hn3 : ¬ l.done.length ≤ 100 := by omega
    refine ex_rs ttOK (by rfl) ?_
    refine rl_assign rfl ?_
    refine ex_ret ⟨.inr rfl, ?_⟩
    clear hK1 K1
    refine ret_pv rfl ?_ rfl
    exact congrArg (fun b : Bool => [AV.pv (.bool b)]) (laOk_2 hn2).symm
  try simp at hg3
  have hc2 : stOk l.base := by exact hg3
  refine rl_fieldAddr rfl tt_65 rfl rfl tt_63 rfl rfl ?_
  refine rl_gT rfl rfl ?_
  refine rl_load_ptr rfl tt_63 rfl rfl ?_
  refine rl_gT rfl rfl ?_
  refine rl_lenm rfl tt_63 rfl ?_
  refine rl_gT rfl rfl ?_
  refine rl_call rfl rfl rfl (F_spec_l2Most ..) ?_
  refine rl_gT rfl rfl ?_
  refine rl_bin rfl rfl rfl ?_
  refine rl_pickF rfl rfl ?_
  refine ⟨by kernel_rfl, ?_⟩
  refine ex_cond rfl (fun hc4 => ?_) (fun hc4 => ?_)
  · try simp at hc4
    try have hn3 : ¬ l.done.length ≤ 100 := by omega
    refine ex_rs ttOK (by rfl) ?_
    refine rl_assign rfl ?_
    refine ex_ret ⟨.inr rfl, ?_⟩
    clear hK1 K1
    refine ret_pv rfl ?_ rfl
    exact congrArg (fun b : Bool => [AV.pv (.bool b)]) (laOk_3 hn3).symm
  try simp at hc4
  have hc3 : l.done.length ≤ 100 := by omega
  refine ex_skip ?_
  refine hK1 _ _ ?_
  clear hK1 K1
  refine ex_seq_k fun K5 hK5 => ?_
  refine ex_rs ttOK (by rfl) ?_
  refine rl_assign rfl ?_
  refine ex_block ?_
  refine ex_loopK (ι := Nat) (fun i γ1 => [(3, .pv (.int .i64 (i : Int)))]) (fun i γ1 => []) (fun i => i ≤ l.done.length ∧ laOk l = chk2 (paOk l.proc) paLt (last? l.done i) (l.done.drop i)) (fun i => l.done.length - i) (Cov.cons (t := 1) rfl Cov.nil) (HE.same (id := 0) rfl HE.nil) 0 ⟨by omega, laOk_go hc1 hc2 hc3⟩ [] (Cov.cons (t := 3) rfl Cov.nil) HE.nil rfl fun i γ1 hi => ?_
  try dsimp only [List.cons_append, List.nil_append]
  obtain ⟨h1, h2⟩ := hi
  refine ex_seq_k fun K6 hK6 => ?_
  refine ex_rs ttOK (by rfl) ?_
  refine rl_move rfl ?_
  refine rl_fieldAddr rfl tt_65 rfl rfl tt_63 rfl rfl ?_
  refine rl_load_ptr rfl tt_63 rfl rfl ?_
  refine rl_lenm rfl tt_63 rfl ?_
  refine rl_bin rfl rfl rfl ?_
  refine ex_cond rfl (fun hc7 => ?_) (fun hc7 => ?_)
  rotate_left
  · try simp at hc7
    obtain rfl : i = l.done.length := by omega
    rw [List.drop_length] at h2
    refine ex_exit ?_
    refine hK5 _ _ ?_
    clear hK6 K6 hK5 K5
    refine ex_rs ttOK (by rfl) ?_
    refine rl_assign rfl ?_
    refine ex_ret ⟨.inr rfl, ?_⟩
    refine ret_pv rfl ?_ rfl
    exact congrArg (fun b : Bool => [AV.pv (.bool b)]) h2.symm
  try simp at hc7
  obtain ⟨p, hp⟩ : ∃ p, l.done[i]? = some p := ⟨_, List.getElem?_eq_getElem (by omega)⟩
  rw [drop_cons hp] at h2
  refine ex_skip ?_
  refine hK6 _ _ ?_
  clear hK6 K6
  refine ex_seq_k fun K8 hK8 => ?_
  refine ex_block ?_
  refine ex_rsD ttOK mixed (by rfl) ?_
  refine rl_fieldAddr rfl tt_65 rfl rfl tt_63 rfl rfl ?_
  refine rl_load_ptr rfl tt_63 rfl rfl ?_
  refine rl_move rfl ?_
  refine rl_idxm rfl rfl tt_63 rfl tt_78 rfl hp ?_
  refine rl_loadA_iel rfl tt_78 rfl rfl ?_
  refine rl_fieldAddr rfl tt_65 rfl rfl tt_3 rfl rfl ?_
  refine rl_load_ptr rfl tt_3 rfl rfl ?_
  refine rl_call rfl rfl rfl (F_spec_l21PastOk ..) ?_
  refine rl_not rfl ?_
  refine rl_move rfl ?_
  refine rl_g rfl rfl (fun hg9 => ?_) (fun hg9 => ?_)
  rotate_left
  · try simp at hg9
    have hbad : paOk l.proc p = false := by simpa using hg9
    refine rl_gF rfl rfl ?_
    refine rl_gF rfl rfl ?_
    refine rl_gU rfl rfl ?_
    refine rl_gU rfl rfl ?_
    refine rl_gU rfl rfl ?_
    refine rl_gU rfl rfl ?_
    refine rl_gU rfl rfl ?_
    refine rl_gU rfl rfl ?_
    refine rl_gU rfl rfl ?_
    refine rl_gU rfl rfl ?_
    refine rl_gU rfl rfl ?_
    refine rl_gU rfl rfl ?_
    refine rl_gU rfl rfl ?_
    refine rl_gU rfl rfl ?_
    refine rl_gU rfl rfl ?_
    refine rl_gU rfl rfl ?_
    refine rl_gU rfl rfl ?_
    refine rl_gF rfl rfl ?_
    refine rl_pickT rfl rfl ?_
    refine ⟨by kernel_rfl, ?_⟩
    refine ex_cond rfl (fun hc13 => ?_) (fun hc13 => ?_)
    rotate_left
    · simp at hc13
    try simp at hc13
    try have hlt := hc13
    refine ex_rs ttOK (by rfl) ?_
    refine rl_assign rfl ?_
    refine ex_ret ⟨.inr rfl, ?_⟩
    clear hK8 K8 hK5 K5
    refine ret_pv rfl ?_ rfl
    exact congrArg (fun b : Bool => [AV.pv (.bool b)]) (h2.trans (chk2_bad _ _ hbad)).symm
  try simp at hg9
  have hok : paOk l.proc p = true := by simpa using hg9
  refine rl_move rfl ?_
  refine rl_gT rfl rfl ?_
  refine rl_bin rfl rfl rfl ?_
  refine rl_gT rfl rfl ?_
  refine rl_move rfl ?_
  refine rl_g rfl rfl (fun hg10 => ?_) (fun hg10 => ?_)
  rotate_left
  · try simp at hg10
    have hi0 : i = 0 := by omega
    have hlast : last? l.done i = none := by rw [hi0]; rfl
    rw [hlast] at h2
    refine rl_gF rfl rfl ?_
    refine rl_gF rfl rfl ?_
    refine rl_gF rfl rfl ?_
    refine rl_gF rfl rfl ?_
    refine rl_gF rfl rfl ?_
    refine rl_gF rfl rfl ?_
    refine rl_gF rfl rfl ?_
    refine rl_gF rfl rfl ?_
    refine rl_gF rfl rfl ?_
    refine rl_gF rfl rfl ?_
    refine rl_gF rfl rfl ?_
    refine rl_gF rfl rfl ?_
    refine rl_gF rfl rfl ?_
    refine rl_gF rfl rfl ?_
    refine rl_gT rfl rfl ?_
    refine rl_pickF rfl rfl ?_
    refine rl_pickF rfl rfl ?_
    refine ⟨by kernel_rfl, ?_⟩
    refine ex_cond rfl (fun hc12 => ?_) (fun hc12 => ?_)
    · simp at hc12
    try simp at hc12
    try have hlt := hc12
    refine ex_skip ?_
    refine hK8 _ _ ?_
    clear hK8 K8
    refine ex_region ttOK (by rfl) ?_
    refine rl_move rfl ?_
    refine rl_addN (b := 1) rfl rfl (by omega) ?_
    refine rl_assign rfl ?_
    exact ⟨i + 1, ⟨⟨by omega, by rw [h2]; show _ = chk2 (paOk l.proc) paLt l.done[i]? _; rw [hp]; exact chk2_first _ _ hok⟩, by omega⟩, [], (Cov.cons (t := 3) rfl Cov.nil), (Cov.cons (t := 1) rfl Cov.nil), HE.nil, (HE.same (id := 0) rfl HE.nil), rfl⟩
  try simp at hg10
  have hi0 : 0 < i := by omega
  obtain ⟨b, hb⟩ : ∃ b, l.done[i - 1]? = some b := ⟨_, List.getElem?_eq_getElem (by omega)⟩
  have hlast : last? l.done i = some b := by obtain ⟨j, rfl⟩ : ∃ j, i = j + 1 := ⟨i - 1, by omega⟩; exact hb
  rw [hlast] at h2
  refine rl_fieldAddr rfl tt_65 rfl rfl tt_63 rfl rfl ?_
  refine rl_gT rfl rfl ?_
  refine rl_load_ptr rfl tt_63 rfl rfl ?_
  refine rl_gT rfl rfl ?_
  refine rl_move rfl ?_
  refine rl_gT rfl rfl ?_
  refine rl_subN (b := 1) rfl rfl (by omega) (by omega) ?_
  refine rl_gT rfl rfl ?_
  refine rl_idxm rfl rfl tt_63 rfl tt_78 rfl hb ?_
  refine rl_gT rfl rfl ?_
  refine rl_fieldAddr rfl tt_78 rfl rfl tt_76 rfl rfl ?_
  refine rl_gT rfl rfl ?_
  refine rl_load_iel (out := .agg (encEv b.ev)) rfl tt_76 rfl ?_
  refine rl_gT rfl rfl ?_
  refine rl_fieldAddr rfl tt_65 rfl rfl tt_63 rfl rfl ?_
  refine rl_gT rfl rfl ?_
  refine rl_load_ptr rfl tt_63 rfl rfl ?_
  refine rl_gT rfl rfl ?_
  refine rl_move rfl ?_
  refine rl_gT rfl rfl ?_
  refine rl_idxm rfl rfl tt_63 rfl tt_78 rfl hp ?_
  refine rl_gT rfl rfl ?_
  refine rl_fieldAddr rfl tt_78 rfl rfl tt_76 rfl rfl ?_
  refine rl_gT rfl rfl ?_
  refine rl_load_iel (out := .agg (encEv p.ev)) rfl tt_76 rfl ?_
  refine rl_gT rfl rfl ?_
  refine rl_call rfl rfl rfl (F_spec_EventLess ..) ?_
  refine rl_gT rfl rfl ?_
  refine rl_not rfl ?_
  refine rl_gT rfl rfl ?_
  refine rl_pickT rfl rfl ?_
  refine rl_pickF rfl rfl ?_
  refine ⟨by kernel_rfl, ?_⟩
  refine ex_cond rfl (fun hc11 => ?_) (fun hc11 => ?_)
  rotate_left
  · try simp at hc11
    try have hlt := hc11
    refine ex_skip ?_
    refine hK8 _ _ ?_
    clear hK8 K8
    refine ex_region ttOK (by rfl) ?_
    refine rl_move rfl ?_
    refine rl_addN (b := 1) rfl rfl (by omega) ?_
    refine rl_assign rfl ?_
    exact ⟨i + 1, ⟨⟨by omega, by rw [h2]; show _ = chk2 (paOk l.proc) paLt l.done[i]? _; rw [hp]; exact chk2_step _ _ hok hlt⟩, by omega⟩, [], (Cov.cons (t := 3) rfl Cov.nil), (Cov.cons (t := 1) rfl Cov.nil), HE.nil, (HE.same (id := 0) rfl HE.nil), rfl⟩
  try simp at hc11
  try have hlt := hc11
  refine ex_rs ttOK (by rfl) ?_
  refine rl_assign rfl ?_
  refine ex_ret ⟨.inr rfl, ?_⟩
  clear hK8 K8 hK5 K5
  refine ret_pv rfl ?_ rfl
  exact congrArg (fun b : Bool => [AV.pv (.bool b)]) (h2.trans (chk2_lt _ _ hlt)).symm
end Go.Proofs.YtpadkogpeobboaaGreat.Am
namespace Go.Proofs.YtpadkogpeobboaaGreat.Am
open Go Go.RowKit
theorem F_impl_numbersOk (c : Bool) (n : Nd) : Pure Tryz.prog 214 [.agg (encNd c n)] (.pv (.bool (decide (numsOk n)))) := by
  refine pure_of_ex ttOK (fn := Tryz.f214) (by kernel_rfl) (by kernel_rfl) rfl (outs := [.pv (.bool (decide (numsOk n)))]) (by rfl) (Nat.le_of_ble_eq_true rfl) 1 ?_
  refine ex_rs ttOK (by rfl) ?_
  refine rl_boxA (id := 0) rfl rfl rfl ?_
  refine rl_assign rfl ?_
  refine ex_rs ttOK (by rfl) ?_
  refine rl_fieldAddr rfl tt_28 rfl rfl tt_3 rfl rfl ?_
  refine rl_load_ptr rfl tt_3 rfl rfl ?_
  refine rl_call rfl rfl rfl (F_impl_isNode ..) ?_
  refine rl_move rfl ?_
  refine rl_g rfl rfl (fun hg1 => ?_) (fun hg1 => ?_)
  rotate_left
  · try simp at hg1
    refine rl_gF rfl rfl ?_
    refine rl_gF rfl rfl ?_
    refine rl_pickF rfl rfl ?_
    refine rl_move rfl ?_
    refine rl_gF rfl rfl ?_
    refine rl_gF rfl rfl ?_
    refine rl_gF rfl rfl ?_
    refine rl_pickF rfl rfl ?_
    refine rl_move rfl ?_
    refine rl_gF rfl rfl ?_
    refine rl_gF rfl rfl ?_
    refine rl_gF rfl rfl ?_
    refine rl_pickF rfl rfl ?_
    refine rl_move rfl ?_
    refine rl_gF rfl rfl ?_
    refine rl_gF rfl rfl ?_
    refine rl_gF rfl rfl ?_
    refine rl_pickF rfl rfl ?_
    refine rl_move rfl ?_
    refine rl_gF rfl rfl ?_
    refine rl_gF rfl rfl ?_
    refine rl_gF rfl rfl ?_
    refine rl_pickF rfl rfl ?_
    refine rl_move rfl ?_
    refine rl_gF rfl rfl ?_
    refine rl_gF rfl rfl ?_
    refine rl_gF rfl rfl ?_
    refine rl_pickF rfl rfl ?_
    refine rl_assign rfl ?_
    refine ex_ret ⟨.inr rfl, ?_⟩
    refine ret_pv rfl ?_ rfl
    exact kF (by unfold numsOk; omega)
  try simp at hg1
  refine rl_fieldAddr rfl tt_28 rfl rfl tt_3 rfl rfl ?_
  refine rl_gT rfl rfl ?_
  refine rl_load_ptr rfl tt_3 rfl rfl ?_
  refine rl_gT rfl rfl ?_
  refine rl_call rfl rfl rfl (F_impl_within ..) ?_
  refine rl_pickT rfl rfl ?_
  refine rl_move rfl ?_
  refine rl_g rfl rfl (fun hg2 => ?_) (fun hg2 => ?_)
  rotate_left
  · try simp at hg2
    refine rl_gF rfl rfl ?_
    refine rl_gF rfl rfl ?_
    refine rl_pickF rfl rfl ?_
    refine rl_move rfl ?_
    refine rl_gF rfl rfl ?_
    refine rl_gF rfl rfl ?_
    refine rl_gF rfl rfl ?_
    refine rl_pickF rfl rfl ?_
    refine rl_move rfl ?_
    refine rl_gF rfl rfl ?_
    refine rl_gF rfl rfl ?_
    refine rl_gF rfl rfl ?_
    refine rl_pickF rfl rfl ?_
    refine rl_move rfl ?_
    refine rl_gF rfl rfl ?_
    refine rl_gF rfl rfl ?_
    refine rl_gF rfl rfl ?_
    refine rl_pickF rfl rfl ?_
    refine rl_move rfl ?_
    refine rl_gF rfl rfl ?_
    refine rl_gF rfl rfl ?_
    refine rl_gF rfl rfl ?_
    refine rl_pickF rfl rfl ?_
    refine rl_assign rfl ?_
    refine ex_ret ⟨.inr rfl, ?_⟩
    refine ret_pv rfl ?_ rfl
    exact kF (by unfold numsOk; omega)
  try simp at hg2
  refine rl_fieldAddr rfl tt_28 rfl rfl tt_3 rfl rfl ?_
  refine rl_gT rfl rfl ?_
  refine rl_load_ptr rfl tt_3 rfl rfl ?_
  refine rl_gT rfl rfl ?_
  refine rl_call rfl rfl rfl (F_impl_within ..) ?_
  refine rl_pickT rfl rfl ?_
  refine rl_move rfl ?_
  refine rl_g rfl rfl (fun hg3 => ?_) (fun hg3 => ?_)
  rotate_left
  · try simp at hg3
    refine rl_gF rfl rfl ?_
    refine rl_gF rfl rfl ?_
    refine rl_pickF rfl rfl ?_
    refine rl_move rfl ?_
    refine rl_gF rfl rfl ?_
    refine rl_gF rfl rfl ?_
    refine rl_gF rfl rfl ?_
    refine rl_pickF rfl rfl ?_
    refine rl_move rfl ?_
    refine rl_gF rfl rfl ?_
    refine rl_gF rfl rfl ?_
    refine rl_gF rfl rfl ?_
    refine rl_pickF rfl rfl ?_
    refine rl_move rfl ?_
    refine rl_gF rfl rfl ?_
    refine rl_gF rfl rfl ?_
    refine rl_gF rfl rfl ?_
    refine rl_pickF rfl rfl ?_
    refine rl_assign rfl ?_
    refine ex_ret ⟨.inr rfl, ?_⟩
    refine ret_pv rfl ?_ rfl
    exact kF (by unfold numsOk; omega)
  try simp at hg3
  refine rl_fieldAddr rfl tt_28 rfl rfl tt_3 rfl rfl ?_
  refine rl_gT rfl rfl ?_
  refine rl_load_ptr rfl tt_3 rfl rfl ?_
  refine rl_gT rfl rfl ?_
  refine rl_call rfl rfl rfl (F_impl_within ..) ?_
  refine rl_pickT rfl rfl ?_
  refine rl_move rfl ?_
  refine rl_g rfl rfl (fun hg4 => ?_) (fun hg4 => ?_)
  rotate_left
  · try simp at hg4
    refine rl_gF rfl rfl ?_
    refine rl_gF rfl rfl ?_
    refine rl_pickF rfl rfl ?_
    refine rl_move rfl ?_
    refine rl_gF rfl rfl ?_
    refine rl_gF rfl rfl ?_
    refine rl_gF rfl rfl ?_
    refine rl_pickF rfl rfl ?_
    refine rl_move rfl ?_
    refine rl_gF rfl rfl ?_
    refine rl_gF rfl rfl ?_
    refine rl_gF rfl rfl ?_
    refine rl_pickF rfl rfl ?_
    refine rl_assign rfl ?_
    refine ex_ret ⟨.inr rfl, ?_⟩
    refine ret_pv rfl ?_ rfl
    exact kF (by unfold numsOk; omega)
  try simp at hg4
  refine rl_fieldAddr rfl tt_28 rfl rfl tt_3 rfl rfl ?_
  refine rl_gT rfl rfl ?_
  refine rl_load_ptr rfl tt_3 rfl rfl ?_
  refine rl_gT rfl rfl ?_
  refine rl_call rfl rfl rfl (F_impl_within ..) ?_
  refine rl_pickT rfl rfl ?_
  refine rl_move rfl ?_
  refine rl_g rfl rfl (fun hg5 => ?_) (fun hg5 => ?_)
  rotate_left
  · try simp at hg5
    refine rl_gF rfl rfl ?_
    refine rl_gF rfl rfl ?_
    refine rl_pickF rfl rfl ?_
    refine rl_move rfl ?_
    refine rl_gF rfl rfl ?_
    refine rl_gF rfl rfl ?_
    refine rl_gF rfl rfl ?_
    refine rl_pickF rfl rfl ?_
    refine rl_assign rfl ?_
    refine ex_ret ⟨.inr rfl, ?_⟩
    refine ret_pv rfl ?_ rfl
    exact kF (by unfold numsOk; omega)
  try simp at hg5
  refine rl_fieldAddr rfl tt_28 rfl rfl tt_3 rfl rfl ?_
  refine rl_gT rfl rfl ?_
  refine rl_load_ptr rfl tt_3 rfl rfl ?_
  refine rl_gT rfl rfl ?_
  refine rl_call rfl rfl rfl (F_impl_within ..) ?_
  refine rl_pickT rfl rfl ?_
  refine rl_move rfl ?_
  refine rl_g rfl rfl (fun hg6 => ?_) (fun hg6 => ?_)
  rotate_left
  · try simp at hg6
    refine rl_gF rfl rfl ?_
    refine rl_gF rfl rfl ?_
    refine rl_pickF rfl rfl ?_
    refine rl_assign rfl ?_
    refine ex_ret ⟨.inr rfl, ?_⟩
    refine ret_pv rfl ?_ rfl
    exact kF (by unfold numsOk; omega)
  try simp at hg6
  refine rl_fieldAddr rfl tt_28 rfl rfl tt_3 rfl rfl ?_
  refine rl_gT rfl rfl ?_
  refine rl_load_ptr rfl tt_3 rfl rfl ?_
  refine rl_gT rfl rfl ?_
  refine rl_call rfl rfl rfl (F_impl_within ..) ?_
  refine rl_pickT rfl rfl ?_
  refine rl_assign rfl ?_
  refine ex_ret ⟨.inr rfl, ?_⟩
  refine ret_pv rfl ?_ rfl
  exact congrArg (fun b : Bool => [AV.pv (.bool b)]) (decide_eq_decide.2 (by unfold numsOk; omega))
theorem F_spec_l22Max  : Pure Tryz.prog 109 [] (.pv (.int .i64 9999)) := by
  refine pure_of_ex ttOK (fn := Tryz.f109) (by kernel_rfl) (by kernel_rfl) rfl (outs := [.pv (.int .i64 9999)]) (by rfl) (Nat.le_of_ble_eq_true rfl) 0 ?_
  refine ex_rs ttOK (by rfl) ?_
  refine rl_assign rfl ?_
  refine ex_rs ttOK (by rfl) ?_
  refine rl_assign rfl ?_
  refine ex_ret ⟨.inr rfl, ?_⟩
  exact ret_pv rfl rfl rfl
theorem F_spec_l22ViewOk (c : Bool) (v : Vi) : Pure Tryz.prog 132 [.agg (encVi c v)] (.pv (.bool (kb (viOk v)))) := by
  refine pure_of_ex ttOK (fn := Tryz.f132) (by kernel_rfl) (by kernel_rfl) rfl (outs := [.pv (.bool (kb (viOk v)))]) (by rfl) (Nat.le_of_ble_eq_true rfl) 1 ?_
  refine ex_rs ttOK (by rfl) ?_
  refine rl_boxA (id := 0) rfl rfl rfl ?_
  refine rl_assign rfl ?_
  refine ex_rsD ttOK mixed (by rfl) ?_
  refine rl_fieldAddr rfl tt_141 rfl rfl tt_3 rfl rfl ?_
  refine rl_load_ptr rfl tt_3 rfl rfl ?_
  refine rl_call rfl rfl rfl (F_spec_l22Max ..) ?_
  refine rl_call rfl rfl rfl (F_spec_l6In ..) ?_
  refine rl_move rfl ?_
  refine rl_g rfl rfl (fun hg1 => ?_) (fun hg1 => ?_)
  rotate_left
  · try simp at hg1
    refine rl_gF rfl rfl ?_
    refine rl_gF rfl rfl ?_
    refine rl_gF rfl rfl ?_
    refine rl_pickF rfl rfl ?_
    refine rl_move rfl ?_
    refine rl_gF rfl rfl ?_
    refine rl_gF rfl rfl ?_
    refine rl_gF rfl rfl ?_
    refine rl_gF rfl rfl ?_
    refine rl_pickF rfl rfl ?_
    refine rl_assign rfl ?_
    refine ⟨by kernel_rfl, ?_⟩
    refine ex_ret ⟨.inr rfl, ?_⟩
    refine ret_pv rfl ?_ rfl
    exact congrArg (fun b : Bool => [AV.pv (.bool b)]) (kb_f (fun h => by obtain ⟨q1, q2, q3⟩ := h; omega))
  try simp at hg1
  refine rl_fieldAddr rfl tt_141 rfl rfl tt_3 rfl rfl ?_
  refine rl_gT rfl rfl ?_
  refine rl_load_ptr rfl tt_3 rfl rfl ?_
  refine rl_gT rfl rfl ?_
  refine rl_call rfl rfl rfl (F_spec_l22Max ..) ?_
  refine rl_gT rfl rfl ?_
  refine rl_call rfl rfl rfl (F_spec_l6In ..) ?_
  refine rl_pickT rfl rfl ?_
  refine rl_move rfl ?_
  refine rl_g rfl rfl (fun hg2 => ?_) (fun hg2 => ?_)
  rotate_left
  · try simp at hg2
    refine rl_gF rfl rfl ?_
    refine rl_gF rfl rfl ?_
    refine rl_gF rfl rfl ?_
    refine rl_pickF rfl rfl ?_
    refine rl_assign rfl ?_
    refine ⟨by kernel_rfl, ?_⟩
    refine ex_ret ⟨.inr rfl, ?_⟩
    refine ret_pv rfl ?_ rfl
    exact congrArg (fun b : Bool => [AV.pv (.bool b)]) (kb_f (fun h => by obtain ⟨q1, q2, q3⟩ := h; omega))
  try simp at hg2
  refine rl_fieldAddr rfl tt_141 rfl rfl tt_24 rfl rfl ?_
  refine rl_gT rfl rfl ?_
  refine rl_load_ptr rfl tt_24 rfl rfl ?_
  refine rl_gT rfl rfl ?_
  refine rl_call rfl rfl rfl (F_spec_l2Most ..) ?_
  refine rl_gT rfl rfl ?_
  refine rl_call rfl rfl rfl (F_spec_l2Events ..) ?_
  refine rl_pickT rfl rfl ?_
  refine rl_assign rfl ?_
  refine ⟨by kernel_rfl, ?_⟩
  refine ex_ret ⟨.inr rfl, ?_⟩
  refine ret_pv rfl ?_ rfl
  exact congrArg (fun b : Bool => [AV.pv (.bool b)]) (kb_eq ⟨fun h => ⟨by omega, by omega, h⟩, fun h => h.2.2⟩)
theorem F_spec_l22Forms (c : Bool) (n : Nd) : Pure Tryz.prog 160 [.agg (encNd c n)] (.pv (.bool (kb (formsOk n)))) := by
  refine pure_of_ex ttOK (fn := Tryz.f160) (by kernel_rfl) (by kernel_rfl) rfl (outs := [.pv (.bool (kb (formsOk n)))]) (by rfl) (Nat.le_of_ble_eq_true rfl) 1 ?_
  refine ex_rs ttOK (by rfl) ?_
  refine rl_boxA (id := 0) rfl rfl rfl ?_
  refine rl_assign rfl ?_
  refine ex_seq_k fun K1 hK1 => ?_
  refine ex_rsD ttOK mixed (by rfl) ?_
  refine rl_fieldAddr rfl tt_28 rfl rfl tt_26 rfl rfl ?_
  refine rl_load_ptr rfl tt_26 rfl rfl ?_
  refine rl_lenm rfl tt_26 rfl ?_
  refine rl_bin rfl rfl rfl ?_
  refine rl_move rfl ?_
  refine rl_g rfl rfl (fun hg2 => ?_) (fun hg2 => ?_)
  rotate_left
  · try simp at hg2
    refine rl_gF rfl rfl ?_
    refine rl_gF rfl rfl ?_
    refine rl_gF rfl rfl ?_
    refine rl_pickT rfl rfl ?_
    refine rl_move rfl ?_
    refine rl_gF rfl rfl ?_
    refine rl_gF rfl rfl ?_
    refine rl_gF rfl rfl ?_
    refine rl_gF rfl rfl ?_
    refine rl_gF rfl rfl ?_
    refine rl_pickT rfl rfl ?_
    refine rl_move rfl ?_
    refine rl_gF rfl rfl ?_
    refine rl_gF rfl rfl ?_
    refine rl_gF rfl rfl ?_
    refine rl_gF rfl rfl ?_
    refine rl_gF rfl rfl ?_
    refine rl_pickT rfl rfl ?_
    refine rl_move rfl ?_
    refine rl_gF rfl rfl ?_
    refine rl_gF rfl rfl ?_
    refine rl_gF rfl rfl ?_
    refine rl_gF rfl rfl ?_
    refine rl_pickT rfl rfl ?_
    refine ⟨by kernel_rfl, ?_⟩
    refine ex_cond rfl (fun hc17 => ?_) (fun hc17 => ?_)
    rotate_left
    · simp at hc17
    try simp at hc17
    refine ex_rs ttOK (by rfl) ?_
    refine rl_assign rfl ?_
    refine ex_ret ⟨.inr rfl, ?_⟩
    clear hK1 K1
    refine ret_pv rfl ?_ rfl
    exact congrArg (fun b : Bool => [AV.pv (.bool b)]) (kb_f (fun h => by obtain ⟨q1, q2, q3, q4, q5, q6⟩ := h; omega))
  try simp at hg2
  refine rl_fieldAddr rfl tt_28 rfl rfl tt_22 rfl rfl ?_
  refine rl_gT rfl rfl ?_
  refine rl_load_ptr rfl tt_22 rfl rfl ?_
  refine rl_gT rfl rfl ?_
  refine rl_lenm rfl tt_22 rfl ?_
  refine rl_gT rfl rfl ?_
  refine rl_bin rfl rfl rfl ?_
  refine rl_pickF rfl rfl ?_
  refine rl_move rfl ?_
  refine rl_g rfl rfl (fun hg3 => ?_) (fun hg3 => ?_)
  rotate_left
  · try simp at hg3
    refine rl_gF rfl rfl ?_
    refine rl_gF rfl rfl ?_
    refine rl_gF rfl rfl ?_
    refine rl_gF rfl rfl ?_
    refine rl_pickT rfl rfl ?_
    refine rl_move rfl ?_
    refine rl_gF rfl rfl ?_
    refine rl_gF rfl rfl ?_
    refine rl_gF rfl rfl ?_
    refine rl_gF rfl rfl ?_
    refine rl_gF rfl rfl ?_
    refine rl_pickT rfl rfl ?_
    refine rl_move rfl ?_
    refine rl_gF rfl rfl ?_
    refine rl_gF rfl rfl ?_
    refine rl_gF rfl rfl ?_
    refine rl_gF rfl rfl ?_
    refine rl_pickT rfl rfl ?_
    refine ⟨by kernel_rfl, ?_⟩
    refine ex_cond rfl (fun hc16 => ?_) (fun hc16 => ?_)
    rotate_left
    · simp at hc16
    try simp at hc16
    refine ex_rs ttOK (by rfl) ?_
    refine rl_assign rfl ?_
    refine ex_ret ⟨.inr rfl, ?_⟩
    clear hK1 K1
    refine ret_pv rfl ?_ rfl
    exact congrArg (fun b : Bool => [AV.pv (.bool b)]) (kb_f (fun h => by obtain ⟨q1, q2, q3, q4, q5, q6⟩ := h; omega))
  try simp at hg3
  refine rl_fieldAddr rfl tt_28 rfl rfl tt_3 rfl rfl ?_
  refine rl_gT rfl rfl ?_
  refine rl_load_ptr rfl tt_3 rfl rfl ?_
  refine rl_gT rfl rfl ?_
  refine rl_call rfl rfl rfl (F_spec_l22Max ..) ?_
  refine rl_gT rfl rfl ?_
  refine rl_call rfl rfl rfl (F_spec_l6In ..) ?_
  refine rl_gT rfl rfl ?_
  refine rl_not rfl ?_
  refine rl_pickF rfl rfl ?_
  refine rl_move rfl ?_
  refine rl_g rfl rfl (fun hg4 => ?_) (fun hg4 => ?_)
  rotate_left
  · try simp at hg4
    refine rl_gF rfl rfl ?_
    refine rl_gF rfl rfl ?_
    refine rl_gF rfl rfl ?_
    refine rl_gF rfl rfl ?_
    refine rl_pickT rfl rfl ?_
    refine rl_move rfl ?_
    refine rl_gF rfl rfl ?_
    refine rl_gF rfl rfl ?_
    refine rl_gF rfl rfl ?_
    refine rl_gF rfl rfl ?_
    refine rl_pickT rfl rfl ?_
    refine ⟨by kernel_rfl, ?_⟩
    refine ex_cond rfl (fun hc15 => ?_) (fun hc15 => ?_)
    rotate_left
    · simp at hc15
    try simp at hc15
    refine ex_rs ttOK (by rfl) ?_
    refine rl_assign rfl ?_
    refine ex_ret ⟨.inr rfl, ?_⟩
    clear hK1 K1
    refine ret_pv rfl ?_ rfl
    exact congrArg (fun b : Bool => [AV.pv (.bool b)]) (kb_f (fun h => by obtain ⟨q1, q2, q3, q4, q5, q6⟩ := h; omega))
  try simp at hg4
  refine rl_fieldAddr rfl tt_28 rfl rfl tt_3 rfl rfl ?_
  refine rl_gT rfl rfl ?_
  refine rl_load_ptr rfl tt_3 rfl rfl ?_
  refine rl_gT rfl rfl ?_
  refine rl_call rfl rfl rfl (F_spec_l22Max ..) ?_
  refine rl_gT rfl rfl ?_
  refine rl_call rfl rfl rfl (F_spec_l6In ..) ?_
  refine rl_gT rfl rfl ?_
  refine rl_not rfl ?_
  refine rl_pickF rfl rfl ?_
  refine rl_move rfl ?_
  refine rl_g rfl rfl (fun hg5 => ?_) (fun hg5 => ?_)
  rotate_left
  · try simp at hg5
    refine rl_gF rfl rfl ?_
    refine rl_gF rfl rfl ?_
    refine rl_gF rfl rfl ?_
    refine rl_pickT rfl rfl ?_
    refine ⟨by kernel_rfl, ?_⟩
    refine ex_cond rfl (fun hc14 => ?_) (fun hc14 => ?_)
    rotate_left
    · simp at hc14
    try simp at hc14
    refine ex_rs ttOK (by rfl) ?_
    refine rl_assign rfl ?_
    refine ex_ret ⟨.inr rfl, ?_⟩
    clear hK1 K1
    refine ret_pv rfl ?_ rfl
    exact congrArg (fun b : Bool => [AV.pv (.bool b)]) (kb_f (fun h => by obtain ⟨q1, q2, q3, q4, q5, q6⟩ := h; omega))
  try simp at hg5
  refine rl_fieldAddr rfl tt_28 rfl rfl tt_3 rfl rfl ?_
  refine rl_gT rfl rfl ?_
  refine rl_load_ptr rfl tt_3 rfl rfl ?_
  refine rl_gT rfl rfl ?_
  refine rl_call rfl rfl rfl (F_spec_l6In ..) ?_
  refine rl_gT rfl rfl ?_
  refine rl_not rfl ?_
  refine rl_pickF rfl rfl ?_
  refine ⟨by kernel_rfl, ?_⟩
  refine ex_cond rfl (fun hc6 => ?_) (fun hc6 => ?_)
  · try simp at hc6
    refine ex_rs ttOK (by rfl) ?_
    refine rl_assign rfl ?_
    refine ex_ret ⟨.inr rfl, ?_⟩
    clear hK1 K1
    refine ret_pv rfl ?_ rfl
    exact congrArg (fun b : Bool => [AV.pv (.bool b)]) (kb_f (fun h => by obtain ⟨q1, q2, q3, q4, q5, q6⟩ := h; omega))
  try simp at hc6
  have hL : n.views.length = 3 ∧ n.known.length = 3 ∧ (0 ≤ n.version ∧ n.version ≤ 9999) ∧ (0 ≤ n.round ∧ n.round ≤ 9999) ∧ (0 ≤ n.low ∧ n.low ≤ 41) := by omega
  refine ex_skip ?_
  refine hK1 _ _ ?_
  clear hK1 K1
  refine ex_seq_k fun K7 hK7 => ?_
  refine ex_rs ttOK (by rfl) ?_
  refine rl_assign rfl ?_
  refine ex_block ?_
  refine ex_loopK (ι := Nat) (fun i γ1 => [(3, .pv (.int .i64 (i : Int)))]) (fun i γ1 => []) (fun i => i ≤ 3 ∧ upTo n.views (fun j v => ∀ k, n.known[j]? = some k → viOk v ∧ 0 ≤ k ∧ k ≤ 41) i) (fun i => 3 - i) (Cov.cons (t := 1) rfl Cov.nil) (HE.same (id := 0) rfl HE.nil) 0 ⟨by omega, upTo_zero⟩ [] (Cov.cons (t := 3) rfl Cov.nil) HE.nil rfl fun i γ1 hi => ?_
  try dsimp only [List.cons_append, List.nil_append]
  obtain ⟨h1, h2⟩ := hi
  refine ex_seq_k fun K8 hK8 => ?_
  refine ex_rs ttOK (by rfl) ?_
  refine rl_move rfl ?_
  refine rl_bin rfl rfl rfl ?_
  refine ex_cond rfl (fun hc9 => ?_) (fun hc9 => ?_)
  rotate_left
  · try simp at hc9
    obtain rfl : i = 3 := by omega
    refine ex_exit ?_
    refine hK7 _ _ ?_
    clear hK8 K8 hK7 K7
    refine ex_rs ttOK (by rfl) ?_
    refine rl_assign rfl ?_
    refine ex_ret ⟨.inr rfl, ?_⟩
    refine ret_pv rfl ?_ rfl
    exact congrArg (fun b : Bool => [AV.pv (.bool b)]) (kb_t ⟨hL.1, hL.2.1, hL.2.2.1, hL.2.2.2.1, hL.2.2.2.2, fun i v k a b => upTo_all h2 (by omega) i v a k b⟩)
  try simp at hc9
  obtain ⟨v, hv⟩ : ∃ v, n.views[i]? = some v := ⟨_, List.getElem?_eq_getElem (by omega)⟩
  obtain ⟨k, hk⟩ : ∃ k, n.known[i]? = some k := ⟨_, List.getElem?_eq_getElem (by omega)⟩
  refine ex_skip ?_
  refine hK8 _ _ ?_
  clear hK8 K8
  refine ex_seq_k fun K10 hK10 => ?_
  refine ex_block ?_
  refine ex_rs ttOK (by rfl) ?_
  refine rl_fieldAddr rfl tt_28 rfl rfl tt_26 rfl rfl ?_
  refine rl_load_ptr rfl tt_26 rfl rfl ?_
  refine rl_move rfl ?_
  refine rl_idxm rfl rfl tt_26 rfl tt_141 rfl (by assumption) ?_
  refine rl_loadA_iel rfl tt_141 rfl rfl ?_
  refine rl_call rfl rfl rfl (F_spec_l22ViewOk ..) ?_
  refine rl_not rfl ?_
  refine rl_move rfl ?_
  refine rl_g rfl rfl (fun hg11 => ?_) (fun hg11 => ?_)
  rotate_left
  · try simp at hg11
    have hbad : ¬ viOk v := kb_not (by simpa using hg11)
    refine rl_gF rfl rfl ?_
    refine rl_gF rfl rfl ?_
    refine rl_gF rfl rfl ?_
    refine rl_gF rfl rfl ?_
    refine rl_gF rfl rfl ?_
    refine rl_gF rfl rfl ?_
    refine rl_pickT rfl rfl ?_
    refine ex_cond rfl (fun hc13 => ?_) (fun hc13 => ?_)
    rotate_left
    · simp at hc13
    try simp at hc13
    refine ex_rs ttOK (by rfl) ?_
    refine rl_assign rfl ?_
    refine ex_ret ⟨.inr rfl, ?_⟩
    clear hK10 K10 hK7 K7
    refine ret_pv rfl ?_ rfl
    exact congrArg (fun b : Bool => [AV.pv (.bool b)]) (kb_f (fun h => hbad (h.2.2.2.2.2 _ _ _ hv hk).1))
  try simp at hg11
  have hvo : viOk v := kb_iff.1 (by simpa using hg11)
  refine rl_fieldAddr rfl tt_28 rfl rfl tt_22 rfl rfl ?_
  refine rl_gT rfl rfl ?_
  refine rl_load_ptr rfl tt_22 rfl rfl ?_
  refine rl_gT rfl rfl ?_
  refine rl_move rfl ?_
  refine rl_gT rfl rfl ?_
  refine rl_idxm rfl rfl tt_22 rfl tt_3 rfl (by assumption) ?_
  refine rl_gT rfl rfl ?_
  refine rl_load_iel rfl tt_3 rfl ?_
  refine rl_gT rfl rfl ?_
  refine rl_call rfl rfl rfl (F_spec_l6In ..) ?_
  refine rl_gT rfl rfl ?_
  refine rl_not rfl ?_
  refine rl_pickF rfl rfl ?_
  refine ex_cond rfl (fun hc12 => ?_) (fun hc12 => ?_)
  rotate_left
  · try simp at hc12
    refine ex_skip ?_
    refine hK10 _ _ ?_
    clear hK10 K10
    refine ex_region ttOK (by rfl) ?_
    refine rl_move rfl ?_
    refine rl_addN (b := 1) rfl rfl (by omega) ?_
    refine rl_assign rfl ?_
    exact ⟨i + 1, ⟨⟨by omega, upTo_step h2 hv (fun k2 hk2 => by rw [hk] at hk2; cases hk2; exact ⟨hvo, by omega⟩)⟩, by omega⟩, [], (Cov.cons (t := 3) rfl Cov.nil), (Cov.cons (t := 1) rfl Cov.nil), HE.nil, (HE.same (id := 0) rfl HE.nil), rfl⟩
  try simp at hc12
  refine ex_rs ttOK (by rfl) ?_
  refine rl_assign rfl ?_
  refine ex_ret ⟨.inr rfl, ?_⟩
  clear hK10 K10 hK7 K7
  refine ret_pv rfl ?_ rfl
  exact congrArg (fun b : Bool => [AV.pv (.bool b)]) (kb_f (fun h => by have := (h.2.2.2.2.2 _ _ _ hv hk).2; omega))
theorem F_impl_shapeOk (c : Bool) (n : Nd) : Pure Tryz.prog 148 [.agg (encNd c n)] (.pv (.bool (kb (shapeOk n)))) := by
  refine pure_of_ex ttOK (fn := Tryz.f148) (by kernel_rfl) (by kernel_rfl) rfl (outs := [.pv (.bool (kb (shapeOk n)))]) (by rfl) (Nat.le_of_ble_eq_true rfl) 4 ?_
  refine ex_rs ttOK (by rfl) ?_
  refine rl_boxA (id := 0) rfl rfl rfl ?_
  refine rl_assign rfl ?_
  refine ex_seq_k fun K1 hK1 => ?_
  refine ex_rs ttOK (by rfl) ?_
  refine rl_loadA_ptr rfl tt_28 rfl rfl rfl ?_
  refine rl_call rfl rfl rfl (F_impl_numbersOk ..) ?_
  refine rl_not rfl ?_
  refine rl_move rfl ?_
  refine rl_g rfl rfl (fun hg2 => ?_) (fun hg2 => ?_)
  rotate_left
  · try simp at hg2
    have hX : ¬ numsOk n := by exact hg2
    refine rl_gF rfl rfl ?_
    refine rl_gF rfl rfl ?_
    refine rl_gF rfl rfl ?_
    refine rl_pickT rfl rfl ?_
    refine rl_move rfl ?_
    refine rl_gF rfl rfl ?_
    refine rl_gF rfl rfl ?_
    refine rl_gF rfl rfl ?_
    refine rl_gF rfl rfl ?_
    refine rl_pickT rfl rfl ?_
    refine ex_cond rfl (fun hc33 => ?_) (fun hc33 => ?_)
    rotate_left
    · simp at hc33
    try simp at hc33
    try have hX : ¬ lsOk okO ouLt n.outs 96 = true := by first | exact hc33 | simpa using hc33
    refine ex_rs ttOK (by rfl) ?_
    refine rl_assign rfl ?_
    refine ex_ret ⟨.inr rfl, ?_⟩
    clear hK1 K1
    refine ret_pv rfl ?_ rfl
    exact congrArg (fun b : Bool => [AV.pv (.bool b)]) (kb_f (fun h => by obtain ⟨q1, q2, q3, q4, q5, q6, q7, q8, q9⟩ := h; exact hX q1))
  try simp at hg2
  have hA1 : numsOk n := by exact hg2
  refine rl_fieldAddr rfl tt_28 rfl rfl tt_24 rfl rfl ?_
  refine rl_gT rfl rfl ?_
  refine rl_load_ptr rfl tt_24 rfl rfl ?_
  refine rl_gT rfl rfl ?_
  refine rl_call rfl rfl rfl (F_impl_eventsOk ..) ?_
  refine rl_gT rfl rfl ?_
  refine rl_not rfl ?_
  refine rl_pickF rfl rfl ?_
  refine rl_move rfl ?_
  refine rl_g rfl rfl (fun hg3 => ?_) (fun hg3 => ?_)
  rotate_left
  · try simp at hg3
    have hX : ¬ lsOk okE evLt n.kept 100 = true := by simpa using hg3
    refine rl_gF rfl rfl ?_
    refine rl_gF rfl rfl ?_
    refine rl_gF rfl rfl ?_
    refine rl_pickT rfl rfl ?_
    refine ex_cond rfl (fun hc32 => ?_) (fun hc32 => ?_)
    rotate_left
    · simp at hc32
    try simp at hc32
    try have hX : ¬ lsOk okO ouLt n.outs 96 = true := by first | exact hc32 | simpa using hc32
    refine ex_rs ttOK (by rfl) ?_
    refine rl_assign rfl ?_
    refine ex_ret ⟨.inr rfl, ?_⟩
    clear hK1 K1
    refine ret_pv rfl ?_ rfl
    exact congrArg (fun b : Bool => [AV.pv (.bool b)]) (kb_f (fun h => by obtain ⟨q1, q2, q3, q4, q5, q6, q7, q8, q9⟩ := h; exact hX q2))
  try simp at hg3
  have hA2 : lsOk okE evLt n.kept 100 = true := by exact hg3
  refine rl_fieldAddr rfl tt_28 rfl rfl tt_25 rfl rfl ?_
  refine rl_gT rfl rfl ?_
  refine rl_load_ptr rfl tt_25 rfl rfl ?_
  refine rl_gT rfl rfl ?_
  refine rl_call rfl rfl rfl (F_impl_outsOk ..) ?_
  refine rl_gT rfl rfl ?_
  refine rl_not rfl ?_
  refine rl_pickF rfl rfl ?_
  refine ex_cond rfl (fun hc4 => ?_) (fun hc4 => ?_)
  · try simp at hc4
    try have hX : ¬ lsOk okO ouLt n.outs 96 = true := by simpa using hc4
    refine ex_rs ttOK (by rfl) ?_
    refine rl_assign rfl ?_
    refine ex_ret ⟨.inr rfl, ?_⟩
    clear hK1 K1
    refine ret_pv rfl ?_ rfl
    exact congrArg (fun b : Bool => [AV.pv (.bool b)]) (kb_f (fun h => by obtain ⟨q1, q2, q3, q4, q5, q6, q7, q8, q9⟩ := h; exact hX q3))
  try simp at hc4
  have hA3 : lsOk okO ouLt n.outs 96 = true := by exact hc4
  refine ex_skip ?_
  refine hK1 _ _ ?_
  clear hK1 K1
  refine ex_seq_k fun K5 hK5 => ?_
  refine ex_rs ttOK (by rfl) ?_
  refine rl_fieldAddr rfl tt_28 rfl rfl tt_25 rfl rfl ?_
  refine rl_load_ptr rfl tt_25 rfl rfl ?_
  refine rl_lenm rfl tt_25 rfl ?_
  refine rl_move rfl ?_
  refine ex_block ?_
  refine ex_rowlenm 27 rfl fun hlen0 => ?_
  refine ex_loopK (ι := Nat) (fun i γ1 => [(29, .pv (.int .i64 (i : Int)))]) (fun i γ1 => [(1, ((γ1 1), .dead))]) (fun i => i ≤ n.outs.length ∧ upTo n.outs (fun _ o => o.time < n.g) i) (fun i => n.outs.length - i) (Cov.cons (t := 1) rfl (Cov.cons (t := 27) rfl (Cov.cons (t := 28) rfl Cov.nil))) (HE.same (id := 0) rfl (HE.same (id := 2) rfl (HE.same (id := 3) rfl HE.nil))) 0 ⟨by omega, upTo_zero⟩ [0, _] (Cov.cons (t := 29) rfl Cov.nil) (HE.kill rfl HE.nil) rfl fun i γ1 hi => ?_
  try dsimp only [List.cons_append, List.nil_append]
  obtain ⟨a1, a2⟩ := hi
  refine ex_rs ttOK (by rfl) ?_
  refine rl_bin rfl rfl rfl ?_
  refine ex_seq_k fun K6 hK6 => ?_
  refine ex_cond rfl (fun hc7 => ?_) (fun hc7 => ?_)
  · try simp at hc7
    obtain ⟨o, ho⟩ : ∃ o, n.outs[i]? = some o := ⟨_, List.getElem?_eq_getElem (by omega)⟩
    refine ex_skip ?_
    refine hK6 _ _ ?_
    clear hK6 K6
    refine ex_seq_k fun K8 hK8 => ?_
    refine ex_block ?_
    refine ex_rs ttOK (by rfl) ?_
    refine rl_idxm rfl rfl tt_25 rfl tt_104 rfl (by assumption) ?_
    refine rl_loadA_iel rfl tt_104 rfl rfl ?_
    refine rl_alloc (id := 1) tt_104 za_104 rfl ?_
    refine rl_storeA rfl rfl tt_104 rfl rfl rfl rfl ?_
    refine ex_rs ttOK (by rfl) ?_
    refine rl_fieldAddr rfl tt_104 rfl rfl tt_3 rfl rfl ?_
    refine rl_load_ptr rfl tt_3 rfl rfl ?_
    refine rl_fieldAddr rfl tt_28 rfl rfl tt_3 rfl rfl ?_
    refine rl_load_ptr rfl tt_3 rfl rfl ?_
    refine rl_bin rfl rfl rfl ?_
    refine ex_cond rfl (fun hc9 => ?_) (fun hc9 => ?_)
    rotate_left
    · try simp at hc9
      have hlt : o.time < n.g := by omega
      refine ex_skip ?_
      refine hK8 _ _ ?_
      clear hK8 K8
      refine ex_region ttOK (by rfl) ?_
      refine rl_addN (b := 1) rfl rfl (by omega) ?_
      refine rl_move rfl ?_
      exact ⟨i + 1, ⟨⟨by omega, upTo_step a2 ho hlt⟩, by omega⟩, [0, _], (Cov.cons (t := 29) rfl Cov.nil), (Cov.cons (t := 1) rfl (Cov.cons (t := 27) rfl (Cov.cons (t := 28) rfl Cov.nil))), (HE.kill rfl HE.nil), (HE.same (id := 0) rfl (HE.same (id := 2) rfl (HE.same (id := 3) rfl HE.nil))), rfl⟩
    try simp at hc9
    have hX : ¬ o.time < n.g := by omega
    refine ex_rs ttOK (by rfl) ?_
    refine rl_assign rfl ?_
    refine ex_ret ⟨.inr rfl, ?_⟩
    clear hK8 K8 hK5 K5
    refine ret_pv rfl ?_ rfl
    exact congrArg (fun b : Bool => [AV.pv (.bool b)]) (kb_f (fun h => by obtain ⟨q1, q2, q3, q4, q5, q6, q7, q8, q9⟩ := h; exact hX (q4 _ _ ho)))
  try simp at hc7
  have hO : ∀ (i : Nat) o, n.outs[i]? = some o → o.time < n.g := upTo_all a2 (by omega)
  refine ex_exit ?_
  refine hK5 _ _ ?_
  clear hK6 K6 hK5 K5
  refine ex_rs ttOK (by rfl) ?_
  refine rl_fieldAddr rfl tt_28 rfl rfl tt_3 rfl rfl ?_
  refine rl_load_ptr rfl tt_3 rfl rfl ?_
  refine rl_call rfl rfl rfl (F_impl_procsOf ..) ?_
  refine rl_assign rfl ?_
  refine ex_seq_k fun K10 hK10 => ?_
  refine ex_rs ttOK (by rfl) ?_
  refine rl_fieldAddr rfl tt_28 rfl rfl tt_23 rfl rfl ?_
  refine rl_load_ptr rfl tt_23 rfl rfl ?_
  refine rl_lenm rfl tt_23 rfl ?_
  refine rl_move rfl ?_
  refine rl_lenm rfl tt_22 rfl ?_
  refine rl_bin rfl rfl rfl ?_
  refine rl_move rfl ?_
  refine rl_g rfl rfl (fun hg11 => ?_) (fun hg11 => ?_)
  rotate_left
  · try simp at hg11
    refine rl_gF rfl rfl ?_
    refine rl_gF rfl rfl ?_
    refine rl_gF rfl rfl ?_
    refine rl_pickT rfl rfl ?_
    refine rl_move rfl ?_
    refine rl_gF rfl rfl ?_
    refine rl_gF rfl rfl ?_
    refine rl_gF rfl rfl ?_
    refine rl_gF rfl rfl ?_
    refine rl_pickT rfl rfl ?_
    refine ex_cond rfl (fun hc31 => ?_) (fun hc31 => ?_)
    rotate_left
    · simp at hc31
    try simp at hc31
    refine ex_rs ttOK (by rfl) ?_
    refine rl_assign rfl ?_
    refine ex_ret ⟨.inr rfl, ?_⟩
    clear hK10 K10
    refine ret_pv rfl ?_ rfl
    exact congrArg (fun b : Bool => [AV.pv (.bool b)]) (kb_f (fun h => by obtain ⟨q1, q2, q3, q4, q5, q6, q7, q8, q9⟩ := h; omega))
  try simp at hg11
  refine rl_fieldAddr rfl tt_28 rfl rfl tt_26 rfl rfl ?_
  refine rl_gT rfl rfl ?_
  refine rl_load_ptr rfl tt_26 rfl rfl ?_
  refine rl_gT rfl rfl ?_
  refine rl_lenm rfl tt_26 rfl ?_
  refine rl_gT rfl rfl ?_
  refine rl_bin rfl rfl rfl ?_
  refine rl_pickF rfl rfl ?_
  refine rl_move rfl ?_
  refine rl_g rfl rfl (fun hg12 => ?_) (fun hg12 => ?_)
  rotate_left
  · try simp at hg12
    refine rl_gF rfl rfl ?_
    refine rl_gF rfl rfl ?_
    refine rl_gF rfl rfl ?_
    refine rl_pickT rfl rfl ?_
    refine ex_cond rfl (fun hc30 => ?_) (fun hc30 => ?_)
    rotate_left
    · simp at hc30
    try simp at hc30
    refine ex_rs ttOK (by rfl) ?_
    refine rl_assign rfl ?_
    refine ex_ret ⟨.inr rfl, ?_⟩
    clear hK10 K10
    refine ret_pv rfl ?_ rfl
    exact congrArg (fun b : Bool => [AV.pv (.bool b)]) (kb_f (fun h => by obtain ⟨q1, q2, q3, q4, q5, q6, q7, q8, q9⟩ := h; omega))
  try simp at hg12
  refine rl_fieldAddr rfl tt_28 rfl rfl tt_22 rfl rfl ?_
  refine rl_gT rfl rfl ?_
  refine rl_load_ptr rfl tt_22 rfl rfl ?_
  refine rl_gT rfl rfl ?_
  refine rl_lenm rfl tt_22 rfl ?_
  refine rl_gT rfl rfl ?_
  refine rl_bin rfl rfl rfl ?_
  refine rl_pickF rfl rfl ?_
  refine ex_cond rfl (fun hc13 => ?_) (fun hc13 => ?_)
  · try simp at hc13
    refine ex_rs ttOK (by rfl) ?_
    refine rl_assign rfl ?_
    refine ex_ret ⟨.inr rfl, ?_⟩
    clear hK10 K10
    refine ret_pv rfl ?_ rfl
    exact congrArg (fun b : Bool => [AV.pv (.bool b)]) (kb_f (fun h => by obtain ⟨q1, q2, q3, q4, q5, q6, q7, q8, q9⟩ := h; omega))
  try simp at hc13
  have hL : n.lanes.length = (procs n.id 4).length ∧ n.views.length = 3 ∧ n.known.length = 3 := by omega
  refine ex_skip ?_
  refine hK10 _ _ ?_
  clear hK10 K10
  refine ex_seq_k fun K14 hK14 => ?_
  refine ex_rs ttOK (by rfl) ?_
  refine rl_fieldAddr rfl tt_28 rfl rfl tt_23 rfl rfl ?_
  refine rl_load_ptr rfl tt_23 rfl rfl ?_
  refine rl_lenm rfl tt_23 rfl ?_
  refine rl_move rfl ?_
  refine ex_block ?_
  refine ex_rowlenm 61 rfl fun hlen1 => ?_
  refine ex_loopK (ι := Nat) (fun j γ2 => [(63, .pv (.int .i64 (j : Int)))]) (fun j γ2 => [(2, ((γ2 2), .dead))]) (fun j => j ≤ n.lanes.length ∧ upTo n.lanes (fun j l => (procs n.id 4)[j]? = some l.proc ∧ laOk l = true) j) (fun j => n.lanes.length - j) (Cov.cons (t := 1) rfl (Cov.cons (t := 5) rfl (Cov.cons (t := 61) rfl (Cov.cons (t := 62) rfl Cov.nil)))) (HE.same (id := 0) rfl (HE.same (id := 1) rfl (HE.same (id := 3) rfl HE.nil))) 0 ⟨by omega, upTo_zero⟩ [0, 0, _] (Cov.cons (t := 63) rfl Cov.nil) (HE.kill rfl HE.nil) rfl fun j γ2 hi => ?_
  try dsimp only [List.cons_append, List.nil_append]
  obtain ⟨b1, b2⟩ := hi
  refine ex_rs ttOK (by rfl) ?_
  refine rl_bin rfl rfl rfl ?_
  refine ex_seq_k fun K15 hK15 => ?_
  refine ex_cond rfl (fun hc16 => ?_) (fun hc16 => ?_)
  · try simp at hc16
    obtain ⟨l, hl⟩ : ∃ l, n.lanes[j]? = some l := ⟨_, List.getElem?_eq_getElem (by omega)⟩
    obtain ⟨q, hq⟩ : ∃ q, (procs n.id 4)[j]? = some q := ⟨_, List.getElem?_eq_getElem (by omega)⟩
    refine ex_skip ?_
    refine hK15 _ _ ?_
    clear hK15 K15
    refine ex_seq_k fun K17 hK17 => ?_
    refine ex_block ?_
    refine ex_rs ttOK (by rfl) ?_
    refine rl_move rfl ?_
    refine rl_idxm rfl rfl tt_23 rfl tt_65 rfl (by assumption) ?_
    refine rl_loadA_iel rfl tt_65 rfl rfl ?_
    refine rl_alloc (id := 2) tt_65 za_65 rfl ?_
    refine rl_assign rfl ?_
    refine rl_storeA rfl rfl tt_65 rfl rfl rfl rfl ?_
    refine ex_rsD ttOK mixed (by rfl) ?_
    refine rl_fieldAddr rfl tt_65 rfl rfl tt_3 rfl rfl ?_
    refine rl_load_ptr rfl tt_3 rfl rfl ?_
    refine rl_move rfl ?_
    refine rl_move rfl ?_
    refine rl_idxm rfl rfl tt_22 rfl tt_3 rfl (by assumption) ?_
    refine rl_load_iel rfl tt_3 rfl ?_
    refine rl_bin rfl rfl rfl ?_
    refine rl_move rfl ?_
    refine rl_g rfl rfl (fun hg18 => ?_) (fun hg18 => ?_)
    rotate_left
    · try simp at hg18
      have hX : ¬ l.proc = q := by exact hg18
      refine rl_gF rfl rfl ?_
      refine rl_gF rfl rfl ?_
      refine rl_pickT rfl rfl ?_
      refine ⟨by kernel_rfl, ?_⟩
      refine ex_cond rfl (fun hc20 => ?_) (fun hc20 => ?_)
      rotate_left
      · simp at hc20
      try simp at hc20
      try have hX : ¬ laOk l = true := by first | exact hc20 | simpa using hc20
      refine ex_rs ttOK (by rfl) ?_
      refine rl_assign rfl ?_
      refine ex_ret ⟨.inr rfl, ?_⟩
      clear hK17 K17 hK14 K14
      refine ret_pv rfl ?_ rfl
      exact congrArg (fun b : Bool => [AV.pv (.bool b)]) (kb_f (fun h => by obtain ⟨q1, q2, q3, q4, q5, q6, q7, q8, q9⟩ := h; have := (q8 _ _ hl).1; rw [hq] at this; exact hX (Option.some.inj this).symm))
    try simp at hg18
    have hpe : l.proc = q := by exact hg18
    refine rl_loadA_ptr rfl tt_65 rfl rfl rfl ?_
    refine rl_gT rfl rfl ?_
    refine rl_call rfl rfl rfl (F_impl_LaneOk ..) ?_
    refine rl_gT rfl rfl ?_
    refine rl_not rfl ?_
    refine rl_pickF rfl rfl ?_
    refine ⟨by kernel_rfl, ?_⟩
    refine ex_cond rfl (fun hc19 => ?_) (fun hc19 => ?_)
    rotate_left
    · try simp at hc19
      have hlo : laOk l = true := by exact hc19
      refine ex_skip ?_
      refine hK17 _ _ ?_
      clear hK17 K17
      refine ex_region ttOK (by rfl) ?_
      refine rl_addN (b := 1) rfl rfl (by omega) ?_
      refine rl_move rfl ?_
      exact ⟨j + 1, ⟨⟨by omega, upTo_step b2 hl ⟨by rw [hq, hpe], hlo⟩⟩, by omega⟩, [0, 0, _], (Cov.cons (t := 63) rfl Cov.nil), (Cov.cons (t := 1) rfl (Cov.cons (t := 5) rfl (Cov.cons (t := 61) rfl (Cov.cons (t := 62) rfl Cov.nil)))), (HE.kill rfl HE.nil), (HE.same (id := 0) rfl (HE.same (id := 1) rfl (HE.same (id := 3) rfl HE.nil))), rfl⟩
    try simp at hc19
    try have hX : ¬ laOk l = true := by simpa using hc19
    refine ex_rs ttOK (by rfl) ?_
    refine rl_assign rfl ?_
    refine ex_ret ⟨.inr rfl, ?_⟩
    clear hK17 K17 hK14 K14
    refine ret_pv rfl ?_ rfl
    exact congrArg (fun b : Bool => [AV.pv (.bool b)]) (kb_f (fun h => by obtain ⟨q1, q2, q3, q4, q5, q6, q7, q8, q9⟩ := h; exact hX (q8 _ _ hl).2))
  try simp at hc16
  have hN : lnsOk n := upTo_all b2 (by omega)
  refine ex_exit ?_
  refine hK14 _ _ ?_
  clear hK15 K15 hK14 K14
  refine ex_seq_k fun K21 hK21 => ?_
  refine ex_rs ttOK (by rfl) ?_
  refine rl_fieldAddr rfl tt_28 rfl rfl tt_26 rfl rfl ?_
  refine rl_load_ptr rfl tt_26 rfl rfl ?_
  refine rl_lenm rfl tt_26 rfl ?_
  refine rl_move rfl ?_
  refine ex_block ?_
  refine ex_rowlenm 82 rfl fun hlen2 => ?_
  refine ex_loopK (ι := Nat) (fun k γ3 => [(84, .pv (.int .i64 (k : Int)))]) (fun k γ3 => [(3, ((γ3 3), .dead))]) (fun k => k ≤ n.views.length ∧ upTo n.views (fun j v => ∀ k, n.known[j]? = some k → viOk v ∧ 0 ≤ k ∧ k ≤ 41) k) (fun k => n.views.length - k) (Cov.cons (t := 1) rfl (Cov.cons (t := 82) rfl (Cov.cons (t := 83) rfl Cov.nil))) (HE.same (id := 0) rfl (HE.same (id := 1) rfl (HE.same (id := 2) rfl HE.nil))) 0 ⟨by omega, upTo_zero⟩ [0, 0, 0, _] (Cov.cons (t := 84) rfl Cov.nil) (HE.kill rfl HE.nil) rfl fun k γ3 hi => ?_
  try dsimp only [List.cons_append, List.nil_append]
  obtain ⟨c1, c2⟩ := hi
  refine ex_rs ttOK (by rfl) ?_
  refine rl_bin rfl rfl rfl ?_
  refine ex_seq_k fun K22 hK22 => ?_
  refine ex_cond rfl (fun hc23 => ?_) (fun hc23 => ?_)
  rotate_left
  · try simp at hc23
    have hV : vksOk n := fun i v k0 a b => upTo_all c2 (by omega) i v a k0 b
    refine ex_exit ?_
    refine hK21 _ _ ?_
    clear hK22 K22 hK21 K21
    refine ex_rs ttOK (by rfl) ?_
    refine rl_assign rfl ?_
    refine ex_ret ⟨.inr rfl, ?_⟩
    refine ret_pv rfl ?_ rfl
    exact congrArg (fun b : Bool => [AV.pv (.bool b)]) (kb_t ⟨hA1, hA2, hA3, hO, hL.1, hL.2.1, hL.2.2, hN, hV⟩)
  try simp at hc23
  obtain ⟨v, hv⟩ : ∃ v, n.views[k]? = some v := ⟨_, List.getElem?_eq_getElem (by omega)⟩
  obtain ⟨k0, hk⟩ : ∃ k0, n.known[k]? = some k0 := ⟨_, List.getElem?_eq_getElem (by omega)⟩
  refine ex_skip ?_
  refine hK22 _ _ ?_
  clear hK22 K22
  refine ex_seq_k fun K24 hK24 => ?_
  refine ex_block ?_
  refine ex_rs ttOK (by rfl) ?_
  refine rl_move rfl ?_
  refine rl_idxm rfl rfl tt_26 rfl tt_141 rfl (by assumption) ?_
  refine rl_loadA_iel rfl tt_141 rfl rfl ?_
  refine rl_alloc (id := 3) tt_141 za_141 rfl ?_
  refine rl_assign rfl ?_
  refine rl_storeA rfl rfl tt_141 rfl rfl rfl rfl ?_
  refine ex_cutK (ι := Unit) (fun _i γ4 => [(10, .pv (.bool (kb (viOk v))))]) (fun _i γ4 => []) (fun _i => True) (Cov.cons (t := 1) rfl (Cov.cons (t := 8) rfl (Cov.cons (t := 82) rfl (Cov.cons (t := 83) rfl (Cov.cons (t := 84) rfl Cov.nil))))) (HE.same (id := 0) rfl (HE.same (id := 1) rfl (HE.same (id := 2) rfl (HE.same (id := 3) rfl HE.nil)))) ?_ fun _i γ4 hi => ?_
  · refine ex_region ttOK (by rfl) ?_
    refine rl_fieldAddr rfl tt_141 rfl rfl tt_3 rfl rfl ?_
    refine rl_load_ptr rfl tt_3 rfl rfl ?_
    refine rl_call rfl rfl rfl (F_impl_within ..) ?_
    refine rl_move rfl ?_
    refine rl_g rfl rfl (fun hg25 => ?_) (fun hg25 => ?_)
    rotate_left
    · try simp at hg25
      refine rl_gF rfl rfl ?_
      refine rl_gF rfl rfl ?_
      refine rl_pickF rfl rfl ?_
      refine rl_move rfl ?_
      refine rl_gF rfl rfl ?_
      refine rl_gF rfl rfl ?_
      refine rl_gF rfl rfl ?_
      refine rl_pickF rfl rfl ?_
      refine rl_assign rfl ?_
      exact ⟨(), trivial, [], (Cov.cons' (t := 10) rfl (by exact congrArg (fun b : Bool => AV.pv (.bool b)) (kb_f (fun h => by obtain ⟨q1, q2, q3⟩ := h; omega))) Cov.nil), (Cov.cons (t := 1) rfl (Cov.cons (t := 8) rfl (Cov.cons (t := 82) rfl (Cov.cons (t := 83) rfl (Cov.cons (t := 84) rfl Cov.nil))))), HE.nil, (HE.same (id := 0) rfl (HE.same (id := 1) rfl (HE.same (id := 2) rfl (HE.same (id := 3) rfl HE.nil)))), rfl⟩
    try simp at hg25
    refine rl_fieldAddr rfl tt_141 rfl rfl tt_3 rfl rfl ?_
    refine rl_gT rfl rfl ?_
    refine rl_load_ptr rfl tt_3 rfl rfl ?_
    refine rl_gT rfl rfl ?_
    refine rl_call rfl rfl rfl (F_impl_within ..) ?_
    refine rl_pickT rfl rfl ?_
    refine rl_move rfl ?_
    refine rl_g rfl rfl (fun hg26 => ?_) (fun hg26 => ?_)
    rotate_left
    · try simp at hg26
      refine rl_gF rfl rfl ?_
      refine rl_gF rfl rfl ?_
      refine rl_pickF rfl rfl ?_
      refine rl_assign rfl ?_
      exact ⟨(), trivial, [], (Cov.cons' (t := 10) rfl (by exact congrArg (fun b : Bool => AV.pv (.bool b)) (kb_f (fun h => by obtain ⟨q1, q2, q3⟩ := h; omega))) Cov.nil), (Cov.cons (t := 1) rfl (Cov.cons (t := 8) rfl (Cov.cons (t := 82) rfl (Cov.cons (t := 83) rfl (Cov.cons (t := 84) rfl Cov.nil))))), HE.nil, (HE.same (id := 0) rfl (HE.same (id := 1) rfl (HE.same (id := 2) rfl (HE.same (id := 3) rfl HE.nil)))), rfl⟩
    try simp at hg26
    refine rl_fieldAddr rfl tt_141 rfl rfl tt_24 rfl rfl ?_
    refine rl_gT rfl rfl ?_
    refine rl_load_ptr rfl tt_24 rfl rfl ?_
    refine rl_gT rfl rfl ?_
    refine rl_call rfl rfl rfl (F_impl_eventsOk ..) ?_
    refine rl_pickT rfl rfl ?_
    refine rl_assign rfl ?_
    exact ⟨(), trivial, [], (Cov.cons' (t := 10) rfl (by exact congrArg (fun b : Bool => AV.pv (.bool b)) (kb_eq ⟨fun h => ⟨by omega, by omega, h⟩, fun h => h.2.2⟩)) Cov.nil), (Cov.cons (t := 1) rfl (Cov.cons (t := 8) rfl (Cov.cons (t := 82) rfl (Cov.cons (t := 83) rfl (Cov.cons (t := 84) rfl Cov.nil))))), HE.nil, (HE.same (id := 0) rfl (HE.same (id := 1) rfl (HE.same (id := 2) rfl (HE.same (id := 3) rfl HE.nil)))), rfl⟩
  · try dsimp only [List.cons_append, List.nil_append]
    refine ex_rs ttOK (by rfl) ?_
    refine rl_move rfl ?_
    refine rl_not rfl ?_
    refine rl_move rfl ?_
    refine rl_g rfl rfl (fun hg27 => ?_) (fun hg27 => ?_)
    rotate_left
    · try simp at hg27
      have hX : ¬ viOk v := kb_not (by simpa using hg27)
      refine rl_gF rfl rfl ?_
      refine rl_gF rfl rfl ?_
      refine rl_gF rfl rfl ?_
      refine rl_gF rfl rfl ?_
      refine rl_gF rfl rfl ?_
      refine rl_gF rfl rfl ?_
      refine rl_pickT rfl rfl ?_
      refine ex_cond rfl (fun hc29 => ?_) (fun hc29 => ?_)
      rotate_left
      · simp at hc29
      try simp at hc29
      refine ex_rs ttOK (by rfl) ?_
      refine rl_assign rfl ?_
      refine ex_ret ⟨.inr rfl, ?_⟩
      clear hK24 K24 hK21 K21
      refine ret_pv rfl ?_ rfl
      exact congrArg (fun b : Bool => [AV.pv (.bool b)]) (kb_f (fun h => by obtain ⟨q1, q2, q3, q4, q5, q6, q7, q8, q9⟩ := h; exact hX (q9 _ _ _ hv hk).1))
    try simp at hg27
    have hvo : viOk v := kb_iff.1 (by simpa using hg27)
    refine rl_fieldAddr rfl tt_28 rfl rfl tt_22 rfl rfl ?_
    refine rl_gT rfl rfl ?_
    refine rl_load_ptr rfl tt_22 rfl rfl ?_
    refine rl_gT rfl rfl ?_
    refine rl_move rfl ?_
    refine rl_gT rfl rfl ?_
    refine rl_idxm rfl rfl tt_22 rfl tt_3 rfl (by assumption) ?_
    refine rl_gT rfl rfl ?_
    refine rl_load_iel rfl tt_3 rfl ?_
    refine rl_gT rfl rfl ?_
    refine rl_call rfl rfl rfl (F_impl_within ..) ?_
    refine rl_gT rfl rfl ?_
    refine rl_not rfl ?_
    refine rl_pickF rfl rfl ?_
    refine ex_cond rfl (fun hc28 => ?_) (fun hc28 => ?_)
    rotate_left
    · try simp at hc28
      refine ex_skip ?_
      refine hK24 _ _ ?_
      clear hK24 K24
      refine ex_region ttOK (by rfl) ?_
      refine rl_addN (b := 1) rfl rfl (by omega) ?_
      refine rl_move rfl ?_
      exact ⟨k + 1, ⟨⟨by omega, upTo_step c2 hv (fun k2 hk2 => by rw [hk] at hk2; cases hk2; exact ⟨hvo, by omega⟩)⟩, by omega⟩, [0, 0, 0, _], (Cov.cons (t := 84) rfl Cov.nil), (Cov.cons (t := 1) rfl (Cov.cons (t := 82) rfl (Cov.cons (t := 83) rfl Cov.nil))), (HE.kill rfl HE.nil), (HE.same (id := 0) rfl (HE.same (id := 1) rfl (HE.same (id := 2) rfl HE.nil))), rfl⟩
    try simp at hc28
    refine ex_rs ttOK (by rfl) ?_
    refine rl_assign rfl ?_
    refine ex_ret ⟨.inr rfl, ?_⟩
    clear hK24 K24 hK21 K21
    refine ret_pv rfl ?_ rfl
    exact congrArg (fun b : Bool => [AV.pv (.bool b)]) (kb_f (fun h => by obtain ⟨q1, q2, q3, q4, q5, q6, q7, q8, q9⟩ := h; have := (q9 _ _ _ hv hk).2; omega))
end Go.Proofs.YtpadkogpeobboaaGreat.Am
namespace Go.Proofs.YtpadkogpeobboaaGreat.Am
open Go Go.RowKit
def evMap (l : List Ev) : List (Value × AV) := (evOnce l).map fun k => (encL (evN k), pI (l.count k : Nat))
def evPos (l : List Ev) (e : Ev) : Nat := (kIdx (evOnce l) e).getD (evOnce l).length
def evMid (l : List Ev) (e : Ev) : List (Value × AV) := if e ∈ l then evMap l else evMap l ++ [(encL (evN e), pI (l.count e : Nat))]
theorem evMap_keys (l : List Ev) : (evMap l).map (·.1) = (evOnce l).map fun k => encL (evN k) := by
  rw [evMap, List.map_map]; rfl
theorem evMap_at {l : List Ev} {e : Ev} {j : Nat} (h : kIdx (evOnce l) e = some j) : (evMap l)[j]? = some (encL (evN e), pI (l.count e : Nat)) := by
  rw [evMap, List.getElem?_map, kIdx_lt h]; rfl
theorem evMap_no {l : List Ev} {e : Ev} (h : kIdx (evOnce l) e = none) : e ∉ l ∧ l.count e = 0 := by
  have := kIdx_none.1 h
  rw [evOnce_mem] at this
  exact ⟨this, List.count_eq_zero.2 this⟩
theorem evMap_look {tt : TT} {et : TypeId} {S : TS} (hs : tt et = some S) (hz : zeroA S = pI 0) (l : List Ev) (e : Ev) : (∃ j kv, kIdx (evOnce l) e = some j ∧ (evMap l)[j]? = some (kv, pI (l.count e : Nat))) ∨ (kIdx (evOnce l) e = none ∧ ∃ S, tt et = some S ∧ pI (l.count e : Nat) = zeroA S) := by
  cases h : kIdx (evOnce l) e with
  | some j => exact .inl ⟨j, _, rfl, evMap_at h⟩
  | none => exact .inr ⟨rfl, S, hs, by rw [hz, (evMap_no h).2]; rfl⟩
theorem evMid_entry {tt : TT} {et : TypeId} {S : TS} (hs : tt et = some S) (hz : zeroA S = pI 0) (l : List Ev) (e : Ev) :
    (kIdx (evOnce l) e = some (evPos l e) ∧ (evMap l)[evPos l e]? = some (encL (evN e), pI (l.count e : Nat)) ∧ evMid l e = evMap l) ∨
      (kIdx (evOnce l) e = none ∧ evPos l e = (evMap l).length ∧ evMid l e = evMap l ++ [(encL (evN e), pI (l.count e : Nat))] ∧ ∃ S, tt et = some S ∧ pI (l.count e : Nat) = zeroA S) := by
  cases h : kIdx (evOnce l) e with
  | some j =>
    have hm : e ∈ l := by
      rw [← evOnce_mem]; exact List.mem_of_getElem? (kIdx_lt h)
    have hp : evPos l e = j := by rw [evPos, h]; rfl
    exact .inl ⟨by rw [hp], by rw [hp]; exact evMap_at h, if_pos hm⟩
  | none =>
    have hn := evMap_no h
    exact .inr ⟨rfl, by rw [evPos, h, evMap, List.length_map]; rfl, if_neg hn.1, S, hs, by rw [hz, hn.2]; rfl⟩
theorem evMid_get (l : List Ev) (e : Ev) : (evMid l e)[evPos l e]? = some (encL (evN e), pI (l.count e : Nat)) := by
  rcases evMid_entry (tt := fun _ => some ⟨.oth, 1, 8, [.int .i64 0]⟩) (et := 0) rfl rfl l e with ⟨h1, h2, h3⟩ | ⟨h1, h2, h3, _⟩
  · rw [h3]; exact h2
  · rw [h3, h2, List.getElem?_append_right (Nat.le_refl _), Nat.sub_self]; rfl
def evKs (l : List Ev) (e : Ev) : List Ev := if e ∈ l then evOnce l else evOnce l ++ [e]
theorem evMid_keys (l : List Ev) (e : Ev) : (evMid l e).map (·.1) = (evKs l e).map fun k => encL (evN k) := by
  unfold evMid evKs
  split
  · exact evMap_keys l
  · rw [List.map_append, List.map_append, evMap_keys]; rfl
theorem kIdx_snoc {κ : Type} [DecidableEq κ] {k : κ} : ∀ {ks : List κ}, kIdx ks k = none → kIdx (ks ++ [k]) k = some ks.length
  | [], _ => by simp [kIdx]
  | a :: r, h => by
    simp only [kIdx] at h
    split at h
    · cases h
    · rename_i hne
      simp only [List.cons_append, kIdx, if_neg hne, List.length_cons]
      rw [kIdx_snoc (by simpa using h)]; rfl
theorem evMid_look {tt : TT} {et : TypeId} (l : List Ev) (e : Ev) : (∃ j kv, kIdx (evKs l e) e = some j ∧ (evMid l e)[j]? = some (kv, pI (l.count e : Nat))) ∨ (kIdx (evKs l e) e = none ∧ ∃ S, tt et = some S ∧ pI (l.count e : Nat) = zeroA S) := by
  refine .inl ⟨evPos l e, _, ?_, evMid_get l e⟩
  unfold evKs
  cases h : kIdx (evOnce l) e with
  | some j =>
    have hm : e ∈ l := by rw [← evOnce_mem]; exact List.mem_of_getElem? (kIdx_lt h)
    rw [if_pos hm, evPos, h]; rfl
  | none => rw [if_neg (evMap_no h).1, kIdx_snoc h, evPos, h]; rfl
theorem evMid_set (l : List Ev) (e : Ev) : (evMid l e).set (evPos l e) (encL (evN e), pI ((l.count e + 1 : Nat) : Int)) = evMap (l ++ [e]) := by
  have hc : ∀ k, k ≠ e → (l ++ [e]).count k = l.count k := fun k hk => by
    rw [List.count_append, List.count_singleton]
    simp [Ne.symm hk]
  have hce : (l ++ [e]).count e = l.count e + 1 := by
    rw [List.count_append, List.count_singleton]; simp
  by_cases hm : e ∈ l
  · have ho : evOnce (l ++ [e]) = evOnce l := by rw [evOnce_snoc, if_pos ((evOnce_mem e l).2 hm)]
    obtain ⟨j, hj⟩ := kIdx_some ((evOnce_mem e l).2 hm)
    have hp : evPos l e = j := by rw [evPos, hj]; rfl
    have hg := kIdx_lt hj
    rw [evMid, if_pos hm, hp, evMap, evMap, ho]
    apply List.ext_getElem?
    intro i
    rw [List.getElem?_set, List.getElem?_map, List.length_map]
    by_cases hi : j = i
    · subst hi
      rw [if_pos rfl, if_pos (List.getElem?_eq_some_iff.1 hg).1, List.getElem?_map, hg]
      simp only [Option.map_some, hce]
    · rw [if_neg hi, List.getElem?_map]
      cases hk : (evOnce l)[i]? with
      | none => rfl
      | some k =>
        have hne : k ≠ e := fun h => by
          subst h
          exact hi ((List.getElem?_inj (List.getElem?_eq_some_iff.1 hg).1 (evOnce_nodup l)).1 (hg.trans hk.symm))
        simp only [Option.map_some, hc k hne]
  · have h0 : kIdx (evOnce l) e = none := kIdx_none.2 (by rw [evOnce_mem]; exact hm)
    have ho : evOnce (l ++ [e]) = evOnce l ++ [e] := by rw [evOnce_snoc, if_neg (by rw [evOnce_mem]; exact hm)]
    have hp : evPos l e = (evMap l).length := by rw [evPos, h0, evMap, List.length_map]; rfl
    rw [evMid, if_neg hm, hp, List.set_append_right _ _ (Nat.le_refl _), Nat.sub_self, List.set_cons_zero, evMap, evMap, ho, List.map_append]
    congr 1
    · refine List.map_congr_left fun k hk => ?_
      rw [hc k (fun h => hm ((evOnce_mem e l).1 (h ▸ hk)))]
    · simp only [List.map_cons, List.map_nil, hce]
theorem evOnce_push {l : List Ev} {e : Ev} : (l ++ [e]).count e = 1 → hfill evLt (evOnce (l ++ [e])) = hpush evLt (hfill evLt (evOnce l)) e := fun h => by
  have : e ∉ l := by
    rw [List.count_append, List.count_singleton] at h
    exact List.count_eq_zero.1 (by simpa using h)
  rw [evOnce_snoc, if_neg (by rw [evOnce_mem]; exact this), hfill_snoc]
theorem evOnce_same {l : List Ev} {e : Ev} : ¬ (l ++ [e]).count e = 1 → evOnce (l ++ [e]) = evOnce l := fun h => by
  have : e ∈ l := by
    rw [List.count_append, List.count_singleton] at h
    refine Classical.byContradiction fun hn => h ?_
    rw [List.count_eq_zero.2 hn]; simp
  rw [evOnce_snoc, if_pos (by rw [evOnce_mem]; exact this)]
end Go.Proofs.YtpadkogpeobboaaGreat.Am
