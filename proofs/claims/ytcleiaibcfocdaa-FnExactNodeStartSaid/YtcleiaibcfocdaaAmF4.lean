/- Walks. PRINTED BY wip/gen/gen2.py out of b3.py. -/
import Derived.Test.YtcleiaibcfocdaaAmF3
set_option linter.unusedVariables false
set_option linter.unusedSimpArgs false
namespace Go.Proofs.Ytcleiaibcfocdaa.Am
open Go Go.RowKit

theorem F_impl_EventSort (c : Bool) (l : List Ev) (hl : l.length ≤ 1000000000) : Meth Try.prog 35 1 [] [rEvs c l] [(0, (0, .dead))] (.ref 0 0) [(0, (0, .row 60 7 ((evSort l).map encEv)))] := by
  refine meth_of_ex ttOK (fn := Try.f35) (by kernel_rfl) (by kernel_rfl) rfl (O0 := [.ref 0 0]) 1 8 (Nat.le_of_ble_eq_true rfl) (by rfl) (by repeat (first | exact BndH.nil | refine BndH.dead ?_ | refine BndH.box rfl ?_ | refine BndH.box (by assumption) ?_ | refine BndH.row (flatR_map fun _ => rfl) ?_ | refine BndH.row flatR_nil ?_ | refine BndH.map (by intro p hp; simp only [List.mem_map, List.not_mem_nil] at hp; first | (obtain ⟨a, _, rfl⟩ := hp; rfl) | exact hp.elim) ?_ | refine BndH.chn ?_)) (by repeat (first | exact BndH.nil | refine BndH.dead ?_ | refine BndH.box rfl ?_ | refine BndH.box (by assumption) ?_ | refine BndH.row (flatR_map fun _ => rfl) ?_ | refine BndH.row flatR_nil ?_ | refine BndH.map (by intro p hp; simp only [List.mem_map, List.not_mem_nil] at hp; first | (obtain ⟨a, _, rfl⟩ := hp; rfl) | exact hp.elim) ?_ | refine BndH.chn ?_)) (by rfl) fun γ => ?_
  show Ex Try.prog _ _ [(0, rEvs c l)] [(0, ((γ 0), .dead)), (8, (0, .dead)), (7, (0, .dead)), (6, (0, .dead)), (5, (0, .dead)), (4, (0, .dead)), (3, (0, .dead)), (2, (0, .dead)), (1, (0, .dead))] _
  refine ex_seq_k fun K1 hK1 => ?_
  refine ex_region ttOK (by rfl) ?_
  refine rl_assign rfl ?_
  refine hK1 _ _ ?_
  clear hK1 K1
  refine ex_seq_k fun K2 hK2 => ?_
  refine ex_region ttOK (by rfl) ?_
  refine rl_build tt_113 rfl za_113 rfl (by simp only [pI, fillA, cellsA, AV.okc, AV.one, T3, T4, List.getElem?_cons_zero, List.getElem?_cons_succ, List.take_succ_cons, List.take_zero, List.drop_succ_cons, List.drop_zero, List.cons_append, List.nil_append, List.length_cons, List.length_nil, if_true, and_self, Nat.reduceAdd, Nat.reduceLeDiff]; rfl) ?_
  refine rl_alloc (id := 1) tt_113 za_113 rfl ?_
  refine rl_storeA rfl rfl tt_113 rfl rfl rfl rfl ?_
  refine hK2 _ _ ?_
  clear hK2 K2
  refine ex_seq_k fun K3 hK3 => ?_
  refine ex_region ttOK (by rfl) ?_
  refine rl_makeMap (id := 2) rfl ?_
  refine rl_assign rfl ?_
  refine hK3 _ _ ?_
  clear hK3 K3
  refine ex_seq_k fun K4 hK4 => ?_
  refine ex_seq_k fun K5 hK5 => ?_
  refine ex_region ttOK (by rfl) ?_
  refine rl_move rfl ?_
  first | refine rl_lenm rfl tt_26 rfl ?_ | refine rl_lenr rfl tt_26 rfl rfl (by first | exact List.length_map _ | rfl) ?_ | refine rl_len rfl tt_26 rfl rfl (by intro s hs; cases hs) rfl ?_
  refine rl_move rfl ?_
  refine hK5 _ _ ?_
  clear hK5 K5
  refine ex_block ?_
  refine ex_nilB 1 0 7 116 7 rfl rfl rfl rfl rfl ?_
  refine ex_loopK (ι := Nat) (fun i γ1 => [(15, .pv (.int .i64 (i : Int)))]) (fun i γ1 => [(7, ((γ1 7), .row 116 7 ((hfill evLt (evOnce (l.take i))).map encEv))), (1, ((0 + 1), .box 113 [.ref 7 (γ1 7), .fn (.func 80) [] []])), (2, ((0 + 1), .map (evMap (l.take i)))), (3, ((γ1 3), .dead)), (4, ((γ1 4), .dead))]) (fun i => i ≤ l.length) (fun i => l.length - i) (Cov.cons (t := 3) rfl (Cov.cons (t := 4) rfl (Cov.cons (t := 13) rfl (Cov.cons (t := 14) rfl Cov.nil)))) (HE.same (id := 0) rfl (HE.same (id := 5) rfl (HE.same (id := 6) rfl (HE.same (id := 8) rfl HE.nil)))) 0 (by omega) [0, 0, 0, _, _, 0, 0, _] (Cov.cons (t := 15) rfl Cov.nil) (HE.row rfl (by rw [List.take_zero]; try rfl) (HE.box rfl rfl (HE.map rfl (by rw [List.take_zero]; try rfl) (HE.kill rfl (HE.kill rfl HE.nil))))) rfl fun i γ1 hi => ?_
  try dsimp only [List.cons_append, List.nil_append]
  refine ex_seq_k fun K6 hK6 => ?_
  refine ex_region ttOK (by rfl) ?_
  refine rl_bin rfl rfl rfl ?_
  refine hK6 _ _ ?_
  clear hK6 K6
  refine ex_seq_k fun K7 hK7 => ?_
  refine ex_cond rfl (fun hc8 => ?_) (fun hc8 => ?_)
  · try simp at hc8
    obtain ⟨e, he⟩ : ∃ e, l[i]? = some e := ⟨_, List.getElem?_eq_getElem (by omega)⟩
    have hcnt : (l.take i).count e ≤ 1000000000 := Nat.le_trans List.count_le_length (by rw [List.length_take]; omega)
    refine ex_skip ?_
    refine hK7 _ _ ?_
    clear hK7 K7
    refine ex_seq_k fun K9 hK9 => ?_
    refine ex_block ?_
    refine ex_seq_k fun K10 hK10 => ?_
    refine ex_region ttOK (by rfl) ?_
    first | refine rl_idxm rfl rfl tt_26 rfl tt_60 rfl (by assumption) ?_ | refine rl_idxr rfl rfl tt_26 rfl tt_60 rfl rfl (by first | omega | (simp; done) | (simp; omega)) ?_
    first | refine rl_loadA_ptr rfl tt_60 rfl rfl rfl ?_ | refine rl_loadA_iel rfl tt_60 rfl rfl ?_ | refine rl_load_ptr rfl tt_60 rfl rfl ?_ | refine rl_load_iel rfl tt_60 rfl ?_ | refine rl_loadEA rfl tt_60 rfl (by assumption) rfl rfl ?_
    refine rl_alloc (id := 3) tt_60 za_60 rfl ?_
    refine rl_storeA rfl rfl tt_60 rfl rfl rfl rfl ?_
    refine hK10 _ _ ?_
    clear hK10 K10
    refine ex_seq_k fun K11 hK11 => ?_
    refine ex_region ttOK (by rfl) ?_
    first | refine rl_loadA_ptr rfl tt_60 rfl rfl rfl ?_ | refine rl_loadA_iel rfl tt_60 rfl rfl ?_ | refine rl_load_ptr rfl tt_60 rfl rfl ?_ | refine rl_load_iel rfl tt_60 rfl ?_ | refine rl_loadEA rfl tt_60 rfl (by assumption) rfl rfl ?_
    refine rl_call rfl rfl rfl (F_impl_keyOf ..) ?_
    refine rl_alloc (id := 4) tt_116 za_116 rfl ?_
    refine rl_storeA rfl rfl tt_116 rfl rfl rfl rfl ?_
    refine hK11 _ _ ?_
    clear hK11 K11
    refine ex_cutK (ι := Unit) (fun _i γ2 => []) (fun _i γ2 => [(2, ((0 + 1), .map (evMap (l.take i ++ [e]))))]) (fun _i => True) (Cov.cons (t := 3) rfl (Cov.cons (t := 4) rfl (Cov.cons (t := 7) rfl (Cov.cons (t := 13) rfl (Cov.cons (t := 14) rfl (Cov.cons (t := 15) rfl Cov.nil)))))) (HE.same (id := 0) rfl (HE.same (id := 1) rfl (HE.same (id := 3) rfl (HE.same (id := 4) rfl (HE.same (id := 5) rfl (HE.same (id := 6) rfl (HE.same (id := 7) rfl (HE.same (id := 8) rfl HE.nil)))))))) ?_ fun _i γ2 hi => ?_
    · refine ex_region_tree mixed rfl fun B X0 w0 => ?_
      refine anyS_step ttOK (l := [0, 1]) (by kernel_rfl) (by decide) ?_
      refine .cons rfl rfl rfl ?_ ?_
      · refine rl_move rfl ?_
        refine rl_done ?_
        refine anyS_step ttOK (l := [1]) (by kernel_rfl) (by decide) ?_
        refine .cons rfl rfl rfl ?_ ?_
        · refine rl_loadA_ptr rfl tt_116 rfl rfl rfl ?_
          refine rl_done ?_
          refine anyS_step ttOK (l := [2, 4]) (by kernel_rfl) (by decide) ?_
          refine .cons rfl rfl rfl ?_ ?_
          · refine rl_lookup ttOK (ks := evOnce (l.take i)) (k := e) Try.underlying114 evF rfl rfl (fun _ _ _ h => ka_ints h) rfl (evMap_keys (l.take i)) (evMap_look tt_3 rfl (l.take i) e) ?_
            refine rl_done ?_
            refine anyS_step ttOK (l := [3, 4]) (by kernel_rfl) (by decide) ?_
            refine .cons rfl rfl rfl ?_ ?_
            · refine rl_addN (b := 1) rfl rfl (by omega) ?_
              refine rl_done ?_
              refine anyS_step ttOK (l := [4]) (by kernel_rfl) (by decide) ?_
              refine .cons rfl rfl rfl ?_ ?_
              · refine rl_mapEntry ttOK (es' := evMid (l.take i) e) (j := evPos (l.take i) e) (out := pI ((l.take i).count e : Nat)) (ks := evOnce (l.take i)) (k := e) Try.underlying114 evF rfl rfl (fun _ _ _ h => ka_ints h) rfl (evMap_keys _) (evMid_entry tt_3 rfl _ _) ?_
                refine rl_done ?_
                refine anyS_step ttOK (l := [5]) (by kernel_rfl) (by decide) ?_
                refine .cons rfl rfl rfl ?_ ?_
                · refine rl_extract rfl rfl ?_
                  refine rl_done ?_
                  refine anyS_step ttOK (l := [6]) (by kernel_rfl) (by decide) ?_
                  refine .cons rfl rfl rfl ?_ ?_
                  · refine rl_entryStore (j := evPos (l.take i) e) rfl rfl rfl rfl (evMid_get _ _) (evMid_set _ _) ?_
                    refine rl_done ?_
                    refine anyS_done (by kernel_rfl) ?_
                    exact ⟨(), trivial, [], Cov.nil, (Cov.cons (t := 3) rfl (Cov.cons (t := 4) rfl (Cov.cons (t := 7) rfl (Cov.cons (t := 13) rfl (Cov.cons (t := 14) rfl (Cov.cons (t := 15) rfl Cov.nil)))))), (HE.map rfl rfl HE.nil), (HE.same (id := 0) rfl (HE.same (id := 1) rfl (HE.same (id := 3) rfl (HE.same (id := 4) rfl (HE.same (id := 5) rfl (HE.same (id := 6) rfl (HE.same (id := 7) rfl (HE.same (id := 8) rfl HE.nil)))))))), rfl⟩
                  exact .nil
                exact .nil
              exact .nil
            refine .cons rfl rfl rfl ?_ ?_
            · refine rl_mapEntry ttOK (es' := evMid (l.take i) e) (j := evPos (l.take i) e) (out := pI ((l.take i).count e : Nat)) (ks := evOnce (l.take i)) (k := e) Try.underlying114 evF rfl rfl (fun _ _ _ h => ka_ints h) rfl (evMap_keys _) (evMid_entry tt_3 rfl _ _) ?_
              refine rl_done ?_
              refine anyS_step ttOK (l := [3, 5]) (by kernel_rfl) (by decide) ?_
              refine .cons rfl rfl rfl ?_ ?_
              · refine rl_addN (b := 1) rfl rfl (by omega) ?_
                refine rl_done ?_
                refine anyS_step ttOK (l := [5]) (by kernel_rfl) (by decide) ?_
                refine .cons rfl rfl rfl ?_ ?_
                · refine rl_extract rfl rfl ?_
                  refine rl_done ?_
                  refine anyS_step ttOK (l := [6]) (by kernel_rfl) (by decide) ?_
                  refine .cons rfl rfl rfl ?_ ?_
                  · refine rl_entryStore (j := evPos (l.take i) e) rfl rfl rfl rfl (evMid_get _ _) (evMid_set _ _) ?_
                    refine rl_done ?_
                    refine anyS_done (by kernel_rfl) ?_
                    exact ⟨(), trivial, [], Cov.nil, (Cov.cons (t := 3) rfl (Cov.cons (t := 4) rfl (Cov.cons (t := 7) rfl (Cov.cons (t := 13) rfl (Cov.cons (t := 14) rfl (Cov.cons (t := 15) rfl Cov.nil)))))), (HE.map rfl rfl HE.nil), (HE.same (id := 0) rfl (HE.same (id := 1) rfl (HE.same (id := 3) rfl (HE.same (id := 4) rfl (HE.same (id := 5) rfl (HE.same (id := 6) rfl (HE.same (id := 7) rfl (HE.same (id := 8) rfl HE.nil)))))))), rfl⟩
                  exact .nil
                exact .nil
              refine .cons rfl rfl rfl ?_ ?_
              · refine rl_extract rfl rfl ?_
                refine rl_done ?_
                refine anyS_step ttOK (l := [3]) (by kernel_rfl) (by decide) ?_
                refine .cons rfl rfl rfl ?_ ?_
                · refine rl_addN (b := 1) rfl rfl (by omega) ?_
                  refine rl_done ?_
                  refine anyS_step ttOK (l := [6]) (by kernel_rfl) (by decide) ?_
                  refine .cons rfl rfl rfl ?_ ?_
                  · refine rl_entryStore (j := evPos (l.take i) e) rfl rfl rfl rfl (evMid_get _ _) (evMid_set _ _) ?_
                    refine rl_done ?_
                    refine anyS_done (by kernel_rfl) ?_
                    exact ⟨(), trivial, [], Cov.nil, (Cov.cons (t := 3) rfl (Cov.cons (t := 4) rfl (Cov.cons (t := 7) rfl (Cov.cons (t := 13) rfl (Cov.cons (t := 14) rfl (Cov.cons (t := 15) rfl Cov.nil)))))), (HE.map rfl rfl HE.nil), (HE.same (id := 0) rfl (HE.same (id := 1) rfl (HE.same (id := 3) rfl (HE.same (id := 4) rfl (HE.same (id := 5) rfl (HE.same (id := 6) rfl (HE.same (id := 7) rfl (HE.same (id := 8) rfl HE.nil)))))))), rfl⟩
                  exact .nil
                exact .nil
              exact .nil
            exact .nil
          refine .cons rfl rfl rfl ?_ ?_
          · refine rl_mapEntry ttOK (es' := evMid (l.take i) e) (j := evPos (l.take i) e) (out := pI ((l.take i).count e : Nat)) (ks := evOnce (l.take i)) (k := e) Try.underlying114 evF rfl rfl (fun _ _ _ h => ka_ints h) rfl (evMap_keys _) (evMid_entry tt_3 rfl _ _) ?_
            refine rl_done ?_
            refine anyS_step ttOK (l := [2, 5]) (by kernel_rfl) (by decide) ?_
            refine .cons rfl rfl rfl ?_ ?_
            · refine rl_lookup ttOK (ks := evKs (l.take i) e) (k := e) Try.underlying114 evF rfl rfl (fun _ _ _ h => ka_ints h) rfl (evMid_keys (l.take i) e) (evMid_look (l.take i) e) ?_
              refine rl_done ?_
              refine anyS_step ttOK (l := [3, 5]) (by kernel_rfl) (by decide) ?_
              refine .cons rfl rfl rfl ?_ ?_
              · refine rl_addN (b := 1) rfl rfl (by omega) ?_
                refine rl_done ?_
                refine anyS_step ttOK (l := [5]) (by kernel_rfl) (by decide) ?_
                refine .cons rfl rfl rfl ?_ ?_
                · refine rl_extract rfl rfl ?_
                  refine rl_done ?_
                  refine anyS_step ttOK (l := [6]) (by kernel_rfl) (by decide) ?_
                  refine .cons rfl rfl rfl ?_ ?_
                  · refine rl_entryStore (j := evPos (l.take i) e) rfl rfl rfl rfl (evMid_get _ _) (evMid_set _ _) ?_
                    refine rl_done ?_
                    refine anyS_done (by kernel_rfl) ?_
                    exact ⟨(), trivial, [], Cov.nil, (Cov.cons (t := 3) rfl (Cov.cons (t := 4) rfl (Cov.cons (t := 7) rfl (Cov.cons (t := 13) rfl (Cov.cons (t := 14) rfl (Cov.cons (t := 15) rfl Cov.nil)))))), (HE.map rfl rfl HE.nil), (HE.same (id := 0) rfl (HE.same (id := 1) rfl (HE.same (id := 3) rfl (HE.same (id := 4) rfl (HE.same (id := 5) rfl (HE.same (id := 6) rfl (HE.same (id := 7) rfl (HE.same (id := 8) rfl HE.nil)))))))), rfl⟩
                  exact .nil
                exact .nil
              refine .cons rfl rfl rfl ?_ ?_
              · refine rl_extract rfl rfl ?_
                refine rl_done ?_
                refine anyS_step ttOK (l := [3]) (by kernel_rfl) (by decide) ?_
                refine .cons rfl rfl rfl ?_ ?_
                · refine rl_addN (b := 1) rfl rfl (by omega) ?_
                  refine rl_done ?_
                  refine anyS_step ttOK (l := [6]) (by kernel_rfl) (by decide) ?_
                  refine .cons rfl rfl rfl ?_ ?_
                  · refine rl_entryStore (j := evPos (l.take i) e) rfl rfl rfl rfl (evMid_get _ _) (evMid_set _ _) ?_
                    refine rl_done ?_
                    refine anyS_done (by kernel_rfl) ?_
                    exact ⟨(), trivial, [], Cov.nil, (Cov.cons (t := 3) rfl (Cov.cons (t := 4) rfl (Cov.cons (t := 7) rfl (Cov.cons (t := 13) rfl (Cov.cons (t := 14) rfl (Cov.cons (t := 15) rfl Cov.nil)))))), (HE.map rfl rfl HE.nil), (HE.same (id := 0) rfl (HE.same (id := 1) rfl (HE.same (id := 3) rfl (HE.same (id := 4) rfl (HE.same (id := 5) rfl (HE.same (id := 6) rfl (HE.same (id := 7) rfl (HE.same (id := 8) rfl HE.nil)))))))), rfl⟩
                  exact .nil
                exact .nil
              exact .nil
            refine .cons rfl rfl rfl ?_ ?_
            · refine rl_extract rfl rfl ?_
              refine rl_done ?_
              refine anyS_step ttOK (l := [2]) (by kernel_rfl) (by decide) ?_
              refine .cons rfl rfl rfl ?_ ?_
              · refine rl_lookup ttOK (ks := evKs (l.take i) e) (k := e) Try.underlying114 evF rfl rfl (fun _ _ _ h => ka_ints h) rfl (evMid_keys (l.take i) e) (evMid_look (l.take i) e) ?_
                refine rl_done ?_
                refine anyS_step ttOK (l := [3]) (by kernel_rfl) (by decide) ?_
                refine .cons rfl rfl rfl ?_ ?_
                · refine rl_addN (b := 1) rfl rfl (by omega) ?_
                  refine rl_done ?_
                  refine anyS_step ttOK (l := [6]) (by kernel_rfl) (by decide) ?_
                  refine .cons rfl rfl rfl ?_ ?_
                  · refine rl_entryStore (j := evPos (l.take i) e) rfl rfl rfl rfl (evMid_get _ _) (evMid_set _ _) ?_
                    refine rl_done ?_
                    refine anyS_done (by kernel_rfl) ?_
                    exact ⟨(), trivial, [], Cov.nil, (Cov.cons (t := 3) rfl (Cov.cons (t := 4) rfl (Cov.cons (t := 7) rfl (Cov.cons (t := 13) rfl (Cov.cons (t := 14) rfl (Cov.cons (t := 15) rfl Cov.nil)))))), (HE.map rfl rfl HE.nil), (HE.same (id := 0) rfl (HE.same (id := 1) rfl (HE.same (id := 3) rfl (HE.same (id := 4) rfl (HE.same (id := 5) rfl (HE.same (id := 6) rfl (HE.same (id := 7) rfl (HE.same (id := 8) rfl HE.nil)))))))), rfl⟩
                  exact .nil
                exact .nil
              exact .nil
            exact .nil
          exact .nil
        exact .nil
      refine .cons rfl rfl rfl ?_ ?_
      · refine rl_loadA_ptr rfl tt_116 rfl rfl rfl ?_
        refine rl_done ?_
        refine anyS_step ttOK (l := [0]) (by kernel_rfl) (by decide) ?_
        refine .cons rfl rfl rfl ?_ ?_
        · refine rl_move rfl ?_
          refine rl_done ?_
          refine anyS_step ttOK (l := [2, 4]) (by kernel_rfl) (by decide) ?_
          refine .cons rfl rfl rfl ?_ ?_
          · refine rl_lookup ttOK (ks := evOnce (l.take i)) (k := e) Try.underlying114 evF rfl rfl (fun _ _ _ h => ka_ints h) rfl (evMap_keys (l.take i)) (evMap_look tt_3 rfl (l.take i) e) ?_
            refine rl_done ?_
            refine anyS_step ttOK (l := [3, 4]) (by kernel_rfl) (by decide) ?_
            refine .cons rfl rfl rfl ?_ ?_
            · refine rl_addN (b := 1) rfl rfl (by omega) ?_
              refine rl_done ?_
              refine anyS_step ttOK (l := [4]) (by kernel_rfl) (by decide) ?_
              refine .cons rfl rfl rfl ?_ ?_
              · refine rl_mapEntry ttOK (es' := evMid (l.take i) e) (j := evPos (l.take i) e) (out := pI ((l.take i).count e : Nat)) (ks := evOnce (l.take i)) (k := e) Try.underlying114 evF rfl rfl (fun _ _ _ h => ka_ints h) rfl (evMap_keys _) (evMid_entry tt_3 rfl _ _) ?_
                refine rl_done ?_
                refine anyS_step ttOK (l := [5]) (by kernel_rfl) (by decide) ?_
                refine .cons rfl rfl rfl ?_ ?_
                · refine rl_extract rfl rfl ?_
                  refine rl_done ?_
                  refine anyS_step ttOK (l := [6]) (by kernel_rfl) (by decide) ?_
                  refine .cons rfl rfl rfl ?_ ?_
                  · refine rl_entryStore (j := evPos (l.take i) e) rfl rfl rfl rfl (evMid_get _ _) (evMid_set _ _) ?_
                    refine rl_done ?_
                    refine anyS_done (by kernel_rfl) ?_
                    exact ⟨(), trivial, [], Cov.nil, (Cov.cons (t := 3) rfl (Cov.cons (t := 4) rfl (Cov.cons (t := 7) rfl (Cov.cons (t := 13) rfl (Cov.cons (t := 14) rfl (Cov.cons (t := 15) rfl Cov.nil)))))), (HE.map rfl rfl HE.nil), (HE.same (id := 0) rfl (HE.same (id := 1) rfl (HE.same (id := 3) rfl (HE.same (id := 4) rfl (HE.same (id := 5) rfl (HE.same (id := 6) rfl (HE.same (id := 7) rfl (HE.same (id := 8) rfl HE.nil)))))))), rfl⟩
                  exact .nil
                exact .nil
              exact .nil
            refine .cons rfl rfl rfl ?_ ?_
            · refine rl_mapEntry ttOK (es' := evMid (l.take i) e) (j := evPos (l.take i) e) (out := pI ((l.take i).count e : Nat)) (ks := evOnce (l.take i)) (k := e) Try.underlying114 evF rfl rfl (fun _ _ _ h => ka_ints h) rfl (evMap_keys _) (evMid_entry tt_3 rfl _ _) ?_
              refine rl_done ?_
              refine anyS_step ttOK (l := [3, 5]) (by kernel_rfl) (by decide) ?_
              refine .cons rfl rfl rfl ?_ ?_
              · refine rl_addN (b := 1) rfl rfl (by omega) ?_
                refine rl_done ?_
                refine anyS_step ttOK (l := [5]) (by kernel_rfl) (by decide) ?_
                refine .cons rfl rfl rfl ?_ ?_
                · refine rl_extract rfl rfl ?_
                  refine rl_done ?_
                  refine anyS_step ttOK (l := [6]) (by kernel_rfl) (by decide) ?_
                  refine .cons rfl rfl rfl ?_ ?_
                  · refine rl_entryStore (j := evPos (l.take i) e) rfl rfl rfl rfl (evMid_get _ _) (evMid_set _ _) ?_
                    refine rl_done ?_
                    refine anyS_done (by kernel_rfl) ?_
                    exact ⟨(), trivial, [], Cov.nil, (Cov.cons (t := 3) rfl (Cov.cons (t := 4) rfl (Cov.cons (t := 7) rfl (Cov.cons (t := 13) rfl (Cov.cons (t := 14) rfl (Cov.cons (t := 15) rfl Cov.nil)))))), (HE.map rfl rfl HE.nil), (HE.same (id := 0) rfl (HE.same (id := 1) rfl (HE.same (id := 3) rfl (HE.same (id := 4) rfl (HE.same (id := 5) rfl (HE.same (id := 6) rfl (HE.same (id := 7) rfl (HE.same (id := 8) rfl HE.nil)))))))), rfl⟩
                  exact .nil
                exact .nil
              refine .cons rfl rfl rfl ?_ ?_
              · refine rl_extract rfl rfl ?_
                refine rl_done ?_
                refine anyS_step ttOK (l := [3]) (by kernel_rfl) (by decide) ?_
                refine .cons rfl rfl rfl ?_ ?_
                · refine rl_addN (b := 1) rfl rfl (by omega) ?_
                  refine rl_done ?_
                  refine anyS_step ttOK (l := [6]) (by kernel_rfl) (by decide) ?_
                  refine .cons rfl rfl rfl ?_ ?_
                  · refine rl_entryStore (j := evPos (l.take i) e) rfl rfl rfl rfl (evMid_get _ _) (evMid_set _ _) ?_
                    refine rl_done ?_
                    refine anyS_done (by kernel_rfl) ?_
                    exact ⟨(), trivial, [], Cov.nil, (Cov.cons (t := 3) rfl (Cov.cons (t := 4) rfl (Cov.cons (t := 7) rfl (Cov.cons (t := 13) rfl (Cov.cons (t := 14) rfl (Cov.cons (t := 15) rfl Cov.nil)))))), (HE.map rfl rfl HE.nil), (HE.same (id := 0) rfl (HE.same (id := 1) rfl (HE.same (id := 3) rfl (HE.same (id := 4) rfl (HE.same (id := 5) rfl (HE.same (id := 6) rfl (HE.same (id := 7) rfl (HE.same (id := 8) rfl HE.nil)))))))), rfl⟩
                  exact .nil
                exact .nil
              exact .nil
            exact .nil
          refine .cons rfl rfl rfl ?_ ?_
          · refine rl_mapEntry ttOK (es' := evMid (l.take i) e) (j := evPos (l.take i) e) (out := pI ((l.take i).count e : Nat)) (ks := evOnce (l.take i)) (k := e) Try.underlying114 evF rfl rfl (fun _ _ _ h => ka_ints h) rfl (evMap_keys _) (evMid_entry tt_3 rfl _ _) ?_
            refine rl_done ?_
            refine anyS_step ttOK (l := [2, 5]) (by kernel_rfl) (by decide) ?_
            refine .cons rfl rfl rfl ?_ ?_
            · refine rl_lookup ttOK (ks := evKs (l.take i) e) (k := e) Try.underlying114 evF rfl rfl (fun _ _ _ h => ka_ints h) rfl (evMid_keys (l.take i) e) (evMid_look (l.take i) e) ?_
              refine rl_done ?_
              refine anyS_step ttOK (l := [3, 5]) (by kernel_rfl) (by decide) ?_
              refine .cons rfl rfl rfl ?_ ?_
              · refine rl_addN (b := 1) rfl rfl (by omega) ?_
                refine rl_done ?_
                refine anyS_step ttOK (l := [5]) (by kernel_rfl) (by decide) ?_
                refine .cons rfl rfl rfl ?_ ?_
                · refine rl_extract rfl rfl ?_
                  refine rl_done ?_
                  refine anyS_step ttOK (l := [6]) (by kernel_rfl) (by decide) ?_
                  refine .cons rfl rfl rfl ?_ ?_
                  · refine rl_entryStore (j := evPos (l.take i) e) rfl rfl rfl rfl (evMid_get _ _) (evMid_set _ _) ?_
                    refine rl_done ?_
                    refine anyS_done (by kernel_rfl) ?_
                    exact ⟨(), trivial, [], Cov.nil, (Cov.cons (t := 3) rfl (Cov.cons (t := 4) rfl (Cov.cons (t := 7) rfl (Cov.cons (t := 13) rfl (Cov.cons (t := 14) rfl (Cov.cons (t := 15) rfl Cov.nil)))))), (HE.map rfl rfl HE.nil), (HE.same (id := 0) rfl (HE.same (id := 1) rfl (HE.same (id := 3) rfl (HE.same (id := 4) rfl (HE.same (id := 5) rfl (HE.same (id := 6) rfl (HE.same (id := 7) rfl (HE.same (id := 8) rfl HE.nil)))))))), rfl⟩
                  exact .nil
                exact .nil
              refine .cons rfl rfl rfl ?_ ?_
              · refine rl_extract rfl rfl ?_
                refine rl_done ?_
                refine anyS_step ttOK (l := [3]) (by kernel_rfl) (by decide) ?_
                refine .cons rfl rfl rfl ?_ ?_
                · refine rl_addN (b := 1) rfl rfl (by omega) ?_
                  refine rl_done ?_
                  refine anyS_step ttOK (l := [6]) (by kernel_rfl) (by decide) ?_
                  refine .cons rfl rfl rfl ?_ ?_
                  · refine rl_entryStore (j := evPos (l.take i) e) rfl rfl rfl rfl (evMid_get _ _) (evMid_set _ _) ?_
                    refine rl_done ?_
                    refine anyS_done (by kernel_rfl) ?_
                    exact ⟨(), trivial, [], Cov.nil, (Cov.cons (t := 3) rfl (Cov.cons (t := 4) rfl (Cov.cons (t := 7) rfl (Cov.cons (t := 13) rfl (Cov.cons (t := 14) rfl (Cov.cons (t := 15) rfl Cov.nil)))))), (HE.map rfl rfl HE.nil), (HE.same (id := 0) rfl (HE.same (id := 1) rfl (HE.same (id := 3) rfl (HE.same (id := 4) rfl (HE.same (id := 5) rfl (HE.same (id := 6) rfl (HE.same (id := 7) rfl (HE.same (id := 8) rfl HE.nil)))))))), rfl⟩
                  exact .nil
                exact .nil
              exact .nil
            refine .cons rfl rfl rfl ?_ ?_
            · refine rl_extract rfl rfl ?_
              refine rl_done ?_
              refine anyS_step ttOK (l := [2]) (by kernel_rfl) (by decide) ?_
              refine .cons rfl rfl rfl ?_ ?_
              · refine rl_lookup ttOK (ks := evKs (l.take i) e) (k := e) Try.underlying114 evF rfl rfl (fun _ _ _ h => ka_ints h) rfl (evMid_keys (l.take i) e) (evMid_look (l.take i) e) ?_
                refine rl_done ?_
                refine anyS_step ttOK (l := [3]) (by kernel_rfl) (by decide) ?_
                refine .cons rfl rfl rfl ?_ ?_
                · refine rl_addN (b := 1) rfl rfl (by omega) ?_
                  refine rl_done ?_
                  refine anyS_step ttOK (l := [6]) (by kernel_rfl) (by decide) ?_
                  refine .cons rfl rfl rfl ?_ ?_
                  · refine rl_entryStore (j := evPos (l.take i) e) rfl rfl rfl rfl (evMid_get _ _) (evMid_set _ _) ?_
                    refine rl_done ?_
                    refine anyS_done (by kernel_rfl) ?_
                    exact ⟨(), trivial, [], Cov.nil, (Cov.cons (t := 3) rfl (Cov.cons (t := 4) rfl (Cov.cons (t := 7) rfl (Cov.cons (t := 13) rfl (Cov.cons (t := 14) rfl (Cov.cons (t := 15) rfl Cov.nil)))))), (HE.map rfl rfl HE.nil), (HE.same (id := 0) rfl (HE.same (id := 1) rfl (HE.same (id := 3) rfl (HE.same (id := 4) rfl (HE.same (id := 5) rfl (HE.same (id := 6) rfl (HE.same (id := 7) rfl (HE.same (id := 8) rfl HE.nil)))))))), rfl⟩
                  exact .nil
                exact .nil
              exact .nil
            exact .nil
          exact .nil
        exact .nil
      exact .nil
    · try dsimp only [List.cons_append, List.nil_append]
      refine ex_seq_k fun K12 hK12 => ?_
      refine ex_region ttOK (by rfl) ?_
      refine rl_move rfl ?_
      first | refine rl_loadA_ptr rfl tt_116 rfl rfl rfl ?_ | refine rl_loadA_iel rfl tt_116 rfl rfl ?_ | refine rl_load_ptr rfl tt_116 rfl rfl ?_ | refine rl_load_iel rfl tt_116 rfl ?_ | refine rl_loadEA rfl tt_116 rfl (by assumption) rfl rfl ?_
      refine rl_lookup ttOK (ks := evOnce (l.take i ++ [e])) (k := e) Try.underlying114 evF rfl rfl (fun _ _ _ h => ka_ints h) rfl (evMap_keys (l.take i ++ [e])) (evMap_look tt_3 rfl (l.take i ++ [e]) e) ?_
      refine rl_bin rfl rfl rfl ?_
      refine hK12 _ _ ?_
      clear hK12 K12
      refine ex_cond rfl (fun hc13 => ?_) (fun hc13 => ?_)
      · try simp at hc13
        have hq : (l.take i ++ [e]).count e = 1 := by first | (simpa using hc13) | (have := hc13; simp at this ⊢; omega)
        have hpl : (hfill evLt (evOnce (l.take i))).length ≤ 1000000000 := by rw [hfill_len]; exact Nat.le_trans (evOnce_len _) (by rw [List.length_take]; omega)
        refine ex_region ttOK (by rfl) ?_
        first | refine rl_loadA_ptr rfl tt_116 rfl rfl rfl ?_ | refine rl_loadA_iel rfl tt_116 rfl rfl ?_ | refine rl_load_ptr rfl tt_116 rfl rfl ?_ | refine rl_load_iel rfl tt_116 rfl ?_ | refine rl_loadEA rfl tt_116 rfl (by assumption) rfl rfl ?_
        refine rl_meth [1, 7] [_, _] (F_impl_heap_impl_eventKey_push _ e hpl) rfl rfl rfl (by decide) rfl rfl (by repeat (first | exact InH.nil | refine InH.cons rfl ?_)) (by first | (simp only [List.map_cons, List.map_nil, insH, inE, inT, inA, inC, inD, inB, gl, nx, memN, Nat.beq, Nat.add_eq, List.getD_cons_zero, List.getD_cons_succ, List.getD_nil, Bool.or_false, Bool.false_or, Bool.true_or, Bool.or_true, Nat.add_zero, Nat.zero_add]; rfl) | rfl) (by first | (simp only [List.map_cons, List.map_nil, insH, inE, inT, inA, inC, inD, inB, gl, nx, memN, Nat.beq, Nat.add_eq, List.getD_cons_zero, List.getD_cons_succ, List.getD_nil, Bool.or_false, Bool.false_or, Bool.true_or, Bool.or_true, Nat.add_zero, Nat.zero_add]; rfl) | rfl) ?_
        refine hK9 _ _ ?_
        clear hK9 K9
        refine ex_region ttOK (by rfl) ?_
        refine rl_addN (b := 1) rfl rfl (by first | omega | (simp; done) | (simp; omega)) ?_
        refine rl_move rfl ?_
        exact ⟨i + 1, ⟨by omega, by omega⟩, [0, 0, 0, _, _, 0, 0, _], (Cov.cons (t := 15) rfl Cov.nil), (Cov.cons (t := 3) rfl (Cov.cons (t := 4) rfl (Cov.cons (t := 13) rfl (Cov.cons (t := 14) rfl Cov.nil)))), (HE.row rfl (by first | rw [take_snoc he, evOnce_push hq] | rw [take_snoc he, evOnce_same hq]) (HE.box rfl rfl (HE.map rfl (by rw [take_snoc he]) (HE.kill rfl (HE.kill rfl HE.nil))))), (HE.same (id := 0) rfl (HE.same (id := 5) rfl (HE.same (id := 6) rfl (HE.same (id := 8) rfl HE.nil)))), rfl⟩
      · try simp at hc13
        have hq : ¬ (l.take i ++ [e]).count e = 1 := by first | (simpa using hc13) | (have := hc13; simp at this ⊢; omega)
        refine ex_skip ?_
        refine hK9 _ _ ?_
        clear hK9 K9
        refine ex_region ttOK (by rfl) ?_
        refine rl_addN (b := 1) rfl rfl (by first | omega | (simp; done) | (simp; omega)) ?_
        refine rl_move rfl ?_
        exact ⟨i + 1, ⟨by omega, by omega⟩, [0, 0, 0, _, _, 0, 0, _], (Cov.cons (t := 15) rfl Cov.nil), (Cov.cons (t := 3) rfl (Cov.cons (t := 4) rfl (Cov.cons (t := 13) rfl (Cov.cons (t := 14) rfl Cov.nil)))), (HE.row rfl (by first | rw [take_snoc he, evOnce_push hq] | rw [take_snoc he, evOnce_same hq]) (HE.box rfl rfl (HE.map rfl (by rw [take_snoc he]) (HE.kill rfl (HE.kill rfl HE.nil))))), (HE.same (id := 0) rfl (HE.same (id := 5) rfl (HE.same (id := 6) rfl (HE.same (id := 8) rfl HE.nil)))), rfl⟩
  · try simp at hc8
    obtain rfl : i = l.length := by omega
    obtain ⟨H, hH⟩ : ∃ H, H = hfill evLt (evOnce (l.take l.length)) := ⟨_, rfl⟩
    rw [← hH]
    have hhl : H.length ≤ 1000000000 := by rw [hH, hfill_len]; exact Nat.le_trans (evOnce_len _) (by rw [List.length_take]; omega)
    refine ex_exit ?_
    refine hK4 _ _ ?_
    clear hK7 K7 hK4 K4
    refine ex_seq_k fun K14 hK14 => ?_
    refine ex_region ttOK (by rfl) ?_
    refine rl_fieldAddr rfl tt_113 rfl rfl tt_111 rfl rfl ?_
    first | refine rl_load_ptr rfl tt_111 rfl rfl ?_ | refine rl_load_iel rfl tt_111 rfl ?_
    first | refine rl_lenm rfl tt_111 rfl ?_ | refine rl_lenr rfl tt_111 rfl rfl (by first | exact List.length_map _ | rfl) ?_ | refine rl_len rfl tt_111 rfl rfl (by intro s hs; cases hs) rfl ?_
    refine rl_make0 ttOK (id := 0) tt_26 rfl tt_60 rfl rfl (by first | omega | (simp only [List.length_map, List.length_append, List.length_cons, List.length_nil, T116]; omega) | (simp only [List.length_map, List.length_append, List.length_cons, List.length_nil, T60]; omega) | (unfold maxLen; omega)) (by first | omega | (simp only [List.length_map, List.length_append, List.length_cons, List.length_nil, T116]; omega) | (simp only [List.length_map, List.length_append, List.length_cons, List.length_nil, T60]; omega) | (unfold maxLen; omega)) rfl ?_
    refine rl_assign rfl ?_
    refine hK14 _ _ ?_
    clear hK14 K14
    refine ex_seq_k fun K15 hK15 => ?_
    refine ex_seq_k fun K16 hK16 => ?_
    refine ex_region ttOK (by rfl) ?_
    refine rl_meth [1, 7] [_, _] (F_impl_heap_impl_eventKey_drain _ hhl) rfl rfl rfl (by decide) rfl rfl (by repeat (first | exact InH.nil | refine InH.cons rfl ?_)) (by first | (simp only [List.map_cons, List.map_nil, insH, inE, inT, inA, inC, inD, inB, gl, nx, memN, Nat.beq, Nat.add_eq, List.getD_cons_zero, List.getD_cons_succ, List.getD_nil, Bool.or_false, Bool.false_or, Bool.true_or, Bool.or_true, Nat.add_zero, Nat.zero_add]; rfl) | rfl) (by first | (simp only [List.map_cons, List.map_nil, insH, inE, inT, inA, inC, inD, inB, gl, nx, memN, Nat.beq, Nat.add_eq, List.getD_cons_zero, List.getD_cons_succ, List.getD_nil, Bool.or_false, Bool.false_or, Bool.true_or, Bool.or_true, Nat.add_zero, Nat.zero_add]; rfl) | rfl) ?_
    first | refine rl_lenm rfl tt_111 rfl ?_ | refine rl_lenr rfl tt_111 rfl rfl (by first | exact List.length_map _ | rfl) ?_ | refine rl_len rfl tt_111 rfl rfl (by intro s hs; cases hs) rfl ?_
    refine rl_move rfl ?_
    refine hK16 _ _ ?_
    clear hK16 K16
    refine ex_block ?_
    obtain ⟨D, hD⟩ : ∃ D, D = hdrain evLt H.length H := ⟨_, rfl⟩
    rw [← hD]
    have hDl : D.length ≤ 1000000000 := Nat.le_trans (by rw [hD]; exact hdrain_le _ _) hhl
    refine ex_loopK (ι := Nat) (fun i γ3 => [(8, .ref 0 (γ3 0)), (40, .pv (.int .i64 (i : Int)))]) (fun i γ3 => [(0, ((γ3 0), .row 60 7 ((D.take i).map encEv))), (5, ((γ3 5), .dead)), (6, ((γ3 6), .dead)), (7, ((γ3 7), .dead))]) (fun i => i ≤ D.length) (fun i => D.length - i) (Cov.cons (t := 38) rfl (Cov.cons (t := 39) rfl Cov.nil)) (HE.same (id := 1) rfl (HE.same (id := 2) rfl (HE.same (id := 3) rfl (HE.same (id := 4) rfl (HE.same (id := 8) rfl HE.nil))))) 0 (by omega) [_, 0, 0, 0, 0, _, _, _] (Cov.cons (t := 8) rfl (Cov.cons (t := 40) rfl Cov.nil)) (HE.row rfl (by rw [List.take_zero]; try rfl) (HE.kill rfl (HE.kill rfl (HE.kill rfl HE.nil)))) rfl fun i γ3 hi => ?_
    try dsimp only [List.cons_append, List.nil_append]
    refine ex_seq_k fun K17 hK17 => ?_
    refine ex_region ttOK (by rfl) ?_
    refine rl_bin rfl rfl rfl ?_
    refine hK17 _ _ ?_
    clear hK17 K17
    refine ex_seq_k fun K18 hK18 => ?_
    refine ex_cond rfl (fun hc19 => ?_) (fun hc19 => ?_)
    · try simp at hc19
      obtain ⟨k1, hk1⟩ : ∃ k1, D[i]? = some k1 := ⟨_, List.getElem?_eq_getElem (by omega)⟩
      have hDi : (D.take i).length ≤ 1000000000 := by rw [List.length_take]; omega
      refine ex_skip ?_
      refine hK18 _ _ ?_
      clear hK18 K18
      refine ex_seq_k fun K20 hK20 => ?_
      refine ex_block ?_
      refine ex_seq_k fun K21 hK21 => ?_
      refine ex_region ttOK (by rfl) ?_
      first | refine rl_idxm rfl rfl tt_111 rfl tt_116 rfl (by assumption) ?_ | refine rl_idxr rfl rfl tt_111 rfl tt_116 rfl rfl (by first | omega | (simp; done) | (simp; omega)) ?_
      first | refine rl_loadA_ptr rfl tt_116 rfl rfl rfl ?_ | refine rl_loadA_iel rfl tt_116 rfl rfl ?_ | refine rl_load_ptr rfl tt_116 rfl rfl ?_ | refine rl_load_iel rfl tt_116 rfl ?_ | refine rl_loadEA rfl tt_116 rfl (by assumption) rfl rfl ?_
      refine rl_alloc (id := 5) tt_116 za_116 rfl ?_
      refine rl_storeA rfl rfl tt_116 rfl rfl rfl rfl ?_
      refine hK21 _ _ ?_
      clear hK21 K21
      refine ex_region ttOK (by rfl) ?_
      refine rl_move rfl ?_
      first | refine rl_loadA_ptr rfl tt_116 rfl rfl rfl ?_ | refine rl_loadA_iel rfl tt_116 rfl rfl ?_ | refine rl_load_ptr rfl tt_116 rfl rfl ?_ | refine rl_load_iel rfl tt_116 rfl ?_ | refine rl_loadEA rfl tt_116 rfl (by assumption) rfl rfl ?_
      refine rl_call rfl rfl rfl (F_impl_eventKey_event ..) ?_
      first | refine rl_slice1A (id := 6) tt_26 rfl tt_60 rfl rfl rfl rfl rfl rfl ?_ | refine rl_slice1 (id := 6) tt_26 rfl tt_60 rfl rfl rfl rfl rfl ?_ | refine rl_buildSlice (id := 6) tt_26 rfl tt_60 rfl rfl rfl rfl (by repeat (first | exact Abs.nil | refine Abs.ref rfl (by first | exact flatR_map (fun _ => rfl) | exact flatR_nil) ?_ rfl rfl | refine Abs.val rfl rfl ?_)) rfl (Nat.le_of_ble_eq_true rfl) (Nat.le_of_ble_eq_true rfl) (Nat.le_of_ble_eq_true rfl) rfl rfl ?_
      first | refine rl_app_rr rfl rfl tt_26 rfl tt_60 rfl rfl rfl rfl (by first | rfl | exact noow_map (fun _ => rfl) _) (by first | exact map_snoc _ _ _ | exact map_app _ _ _ | rfl) (by first | omega | (simp only [List.length_map, List.length_append, List.length_cons, List.length_nil, T116]; omega) | (simp only [List.length_map, List.length_append, List.length_cons, List.length_nil, T60]; omega) | (unfold maxLen; omega)) ?_ | refine rl_app_rd rfl rfl tt_26 rfl tt_60 rfl rfl rfl (by first | rfl | exact noow_map (fun _ => rfl) _) (by first | exact map_snoc _ _ _ | exact map_app _ _ _ | rfl) (by first | omega | (simp only [List.length_map, List.length_append, List.length_cons, List.length_nil, T116]; omega) | (simp only [List.length_map, List.length_append, List.length_cons, List.length_nil, T60]; omega) | (unfold maxLen; omega)) ?_ | refine rl_app_nr (id := 7) rfl rfl tt_26 rfl tt_60 rfl rfl rfl rfl (by first | rfl | exact noow_map (fun _ => rfl) _) (by first | omega | (simp only [List.length_map, List.length_append, List.length_cons, List.length_nil, T116]; omega) | (simp only [List.length_map, List.length_append, List.length_cons, List.length_nil, T60]; omega) | (unfold maxLen; omega)) ?_ | refine rl_app_nd (id := 7) rfl rfl tt_26 rfl tt_60 rfl rfl rfl (by first | rfl | exact noow_map (fun _ => rfl) _) (by first | omega | (simp only [List.length_map, List.length_append, List.length_cons, List.length_nil, T116]; omega) | (simp only [List.length_map, List.length_append, List.length_cons, List.length_nil, T60]; omega) | (unfold maxLen; omega)) ?_
      refine rl_assign rfl ?_
      refine hK20 _ _ ?_
      clear hK20 K20
      refine ex_region ttOK (by rfl) ?_
      refine rl_addN (b := 1) rfl rfl (by first | omega | (simp; done) | (simp; omega)) ?_
      refine rl_move rfl ?_
      exact ⟨i + 1, ⟨by omega, by omega⟩, [_, 0, 0, 0, 0, _, _, _], (Cov.cons (t := 8) rfl (Cov.cons (t := 40) rfl Cov.nil)), (Cov.cons (t := 38) rfl (Cov.cons (t := 39) rfl Cov.nil)), (HE.row rfl (by rw [take_snoc hk1]) (HE.kill rfl (HE.kill rfl (HE.kill rfl HE.nil)))), (HE.same (id := 1) rfl (HE.same (id := 2) rfl (HE.same (id := 3) rfl (HE.same (id := 4) rfl (HE.same (id := 8) rfl HE.nil))))), rfl⟩
    · try simp at hc19
      refine ex_exit ?_
      refine hK15 _ _ ?_
      clear hK18 K18 hK15 K15
      refine ex_seq_k fun K22 hK22 => ?_
      refine ex_region ttOK (by rfl) ?_
      refine rl_move rfl ?_
      refine rl_assign rfl ?_
      refine hK22 _ _ ?_
      clear hK22 K22
      refine ex_ret ?_
      exact ⟨.inr rfl, [_], rfl, rfl, HE.row rfl (by rw [List.take_of_length_le (by omega), hD, hH, List.take_length, hfill_len, evSort_heap]) HE.nil⟩

end Go.Proofs.Ytcleiaibcfocdaa.Am
