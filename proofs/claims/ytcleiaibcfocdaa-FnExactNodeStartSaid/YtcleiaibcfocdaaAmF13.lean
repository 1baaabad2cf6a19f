/- Walks. PRINTED BY wip/gen/gen2.py out of b11.py. -/
import Derived.Test.YtcleiaibcfocdaaAmF6
import Derived.Test.YtcleiaibcfocdaaAmF8
import Derived.Test.YtcleiaibcfocdaaAmF10
import Derived.Test.YtcleiaibcfocdaaAmF11
import Derived.Test.YtcleiaibcfocdaaAmF12
set_option linter.unusedVariables false
set_option linter.unusedSimpArgs false
namespace Go.Proofs.Ytcleiaibcfocdaa.Am
open Go Go.RowKit

theorem F_laws_FnExactNodeStart (id : Int) : Pure Try.prog 5 [.pv (.int .i64 id)] (.pv (.bool (true))) := by
  refine pure_of_ex ttOK (fn := Try.f5) (by kernel_rfl) (by kernel_rfl) rfl (outs := [.pv (.bool (true))]) (by rfl) (Nat.le_of_ble_eq_true rfl) 13 ?_
  have hz : 1 + zNd (nodeStart id) ≤ 1000000000 := by have := zNd_start id; omega
  refine ex_seq_k fun K1 hK1 => ?_
  refine ex_region ttOK (by rfl) ?_
  refine rl_assign rfl ?_
  refine hK1 _ _ ?_
  clear hK1 K1
  refine ex_seq_k fun K2 hK2 => ?_
  refine ex_region ttOK (by rfl) ?_
  refine rl_move rfl ?_
  refine rl_call rfl rfl rfl (F_spec_NodeStart ..) ?_
  refine rl_alloc (id := 0) tt_31 za_31 rfl ?_
  refine rl_storeA rfl rfl tt_31 rfl rfl rfl rfl ?_
  refine hK2 _ _ ?_
  clear hK2 K2
  refine ex_seq_k fun K3 hK3 => ?_
  refine ex_region ttOK (by rfl) ?_
  refine rl_move rfl ?_
  refine rl_meth [3, 4, 5, 6, 7] [_, _, _, _, _] (F_impl_NodeStart id) rfl rfl rfl (by decide) rfl rfl (by repeat (first | exact InH.nil | refine InH.cons rfl ?_)) (by first | (simp only [pI, List.map_cons, List.map_nil, insH, inE, inT, inA, inC, inD, inB, gl, nx, memN, Nat.beq, Nat.add_eq, List.getD_cons_zero, List.getD_cons_succ, List.getD_nil, Bool.or_false, Bool.false_or, Bool.true_or, Bool.or_true, Nat.add_zero, Nat.zero_add]; rfl) | rfl) (by first | (simp only [pI, List.map_cons, List.map_nil, insH, inE, inT, inA, inC, inD, inB, gl, nx, memN, Nat.beq, Nat.add_eq, List.getD_cons_zero, List.getD_cons_succ, List.getD_nil, Bool.or_false, Bool.false_or, Bool.true_or, Bool.or_true, Nat.add_zero, Nat.zero_add]; rfl) | rfl) ?_
  refine rl_alloc (id := 1) tt_31 za_31 rfl ?_
  refine rl_storeA rfl rfl tt_31 rfl rfl rfl rfl ?_
  refine hK3 _ _ ?_
  clear hK3 K3
  refine ex_seq_k fun K4 hK4 => ?_
  refine ex_seq_k fun K5 hK5 => ?_
  refine ex_region ttOK (by rfl) ?_
  first | refine rl_loadA_ptr rfl tt_31 rfl rfl rfl ?_ | refine rl_loadA_iel rfl tt_31 rfl rfl ?_ | refine rl_load_ptr rfl tt_31 rfl rfl ?_ | refine rl_load_iel rfl tt_31 rfl ?_ | refine rl_loadEA rfl tt_31 rfl (by assumption) rfl rfl ?_
  first | refine rl_loadA_ptr rfl tt_31 rfl rfl rfl ?_ | refine rl_loadA_iel rfl tt_31 rfl rfl ?_ | refine rl_load_ptr rfl tt_31 rfl rfl ?_ | refine rl_load_iel rfl tt_31 rfl ?_ | refine rl_loadEA rfl tt_31 rfl (by assumption) rfl rfl ?_
  refine rl_lend rfl rfl rfl (by first | exact lendNd (n := kNd 1 (nodeStart id)) rfl rfl rfl rfl rfl (.cl rfl .nil) | (refine lendNd (T := []) rfl rfl rfl rfl rfl ?_; refine lendC ?_ ?_ .nil <;> rfl)) (F_laws_eqNode false true (nodeStart id) (nodeStart id)) (.pv _) ?_
  refine rl_not rfl ?_
  refine hK5 _ _ ?_
  clear hK5 K5
  refine ex_cond rfl (fun hc6 => ?_) (fun hc6 => ?_)
  · first | (simp at hc6; done) | (simp at hc6; omega)
  · try simp at hc6
    refine ex_skip ?_
    refine hK4 _ _ ?_
    clear hK4 K4
    refine ex_seq_k fun K7 hK7 => ?_
    refine ex_region ttOK (by rfl) ?_
    refine rl_assign rfl ?_
    refine hK7 _ _ ?_
    clear hK7 K7
    refine ex_seq_k fun K8 hK8 => ?_
    refine ex_region ttOK (by rfl) ?_
    first | refine rl_loadA_ptr rfl tt_31 rfl rfl rfl ?_ | refine rl_loadA_iel rfl tt_31 rfl rfl ?_ | refine rl_load_ptr rfl tt_31 rfl rfl ?_ | refine rl_load_iel rfl tt_31 rfl ?_ | refine rl_loadEA rfl tt_31 rfl (by assumption) rfl rfl ?_
    refine rl_move rfl ?_
    refine rl_meth [3, 4, 5, 6, 7] [_, _, _, _, _] (F_laws_markNode (nodeStart id) 1 hz) rfl rfl rfl (by decide) rfl rfl (by repeat (first | exact InH.nil | refine InH.cons rfl ?_)) (by first | (simp only [pI, List.map_cons, List.map_nil, insH, inE, inT, inA, inC, inD, inB, gl, nx, memN, Nat.beq, Nat.add_eq, List.getD_cons_zero, List.getD_cons_succ, List.getD_nil, Bool.or_false, Bool.false_or, Bool.true_or, Bool.or_true, Nat.add_zero, Nat.zero_add]; rfl) | rfl) (by first | (simp only [pI, List.map_cons, List.map_nil, insH, inE, inT, inA, inC, inD, inB, gl, nx, memN, Nat.beq, Nat.add_eq, List.getD_cons_zero, List.getD_cons_succ, List.getD_nil, Bool.or_false, Bool.false_or, Bool.true_or, Bool.or_true, Nat.add_zero, Nat.zero_add]; rfl) | rfl) ?_
    refine rl_assign rfl ?_
    refine hK8 _ _ ?_
    clear hK8 K8
    refine ex_seq_k fun K9 hK9 => ?_
    refine ex_region ttOK (by rfl) ?_
    refine rl_assign rfl ?_
    refine hK9 _ _ ?_
    clear hK9 K9
    refine ex_seq_k fun K10 hK10 => ?_
    refine ex_region ttOK (by rfl) ?_
    first | refine rl_loadA_ptr rfl tt_31 rfl rfl rfl ?_ | refine rl_loadA_iel rfl tt_31 rfl rfl ?_ | refine rl_load_ptr rfl tt_31 rfl rfl ?_ | refine rl_load_iel rfl tt_31 rfl ?_ | refine rl_loadEA rfl tt_31 rfl (by assumption) rfl rfl ?_
    refine rl_move rfl ?_
    refine rl_lend rfl rfl rfl (by first | exact lendNd (n := kNd 1 (nodeStart id)) rfl rfl rfl rfl rfl (.cl rfl .nil) | (refine lendNd (T := []) rfl rfl rfl rfl rfl ?_; refine lendC ?_ ?_ .nil <;> rfl)) (F_laws_heldNode false (nodeStart id) 1 hz) (.pv _) ?_
    refine rl_assign rfl ?_
    refine hK10 _ _ ?_
    clear hK10 K10
    refine ex_seq_k fun K11 hK11 => ?_
    refine ex_seq_k fun K12 hK12 => ?_
    refine ex_region ttOK (by rfl) ?_
    refine rl_move rfl ?_
    refine rl_bin rfl rfl rfl ?_
    refine hK12 _ _ ?_
    clear hK12 K12
    refine ex_cond rfl (fun hc13 => ?_) (fun hc13 => ?_)
    · first | (simp at hc13; done) | (simp at hc13; omega)
    · try simp at hc13
      refine ex_skip ?_
      refine hK11 _ _ ?_
      clear hK11 K11
      refine ex_seq_k fun K14 hK14 => ?_
      refine ex_seq_k fun K15 hK15 => ?_
      refine ex_region ttOK (by rfl) ?_
      refine rl_move rfl ?_
      refine rl_move rfl ?_
      refine rl_bin rfl rfl rfl ?_
      refine hK15 _ _ ?_
      clear hK15 K15
      refine ex_cond rfl (fun hc16 => ?_) (fun hc16 => ?_)
      · first | (simp at hc16; done) | (simp at hc16; omega)
      · try simp at hc16
        refine ex_skip ?_
        refine hK14 _ _ ?_
        clear hK14 K14
        refine ex_seq_k fun K17 hK17 => ?_
        refine ex_region ttOK (by rfl) ?_
        refine rl_move rfl ?_
        refine rl_meth [8, 9, 10, 11, 12] [_, _, _, _, _] (F_impl_NodeStart id) rfl rfl rfl (by decide) rfl rfl (by repeat (first | exact InH.nil | refine InH.cons rfl ?_)) (by first | (simp only [pI, List.map_cons, List.map_nil, insH, inE, inT, inA, inC, inD, inB, gl, nx, memN, Nat.beq, Nat.add_eq, List.getD_cons_zero, List.getD_cons_succ, List.getD_nil, Bool.or_false, Bool.false_or, Bool.true_or, Bool.or_true, Nat.add_zero, Nat.zero_add]; rfl) | rfl) (by first | (simp only [pI, List.map_cons, List.map_nil, insH, inE, inT, inA, inC, inD, inB, gl, nx, memN, Nat.beq, Nat.add_eq, List.getD_cons_zero, List.getD_cons_succ, List.getD_nil, Bool.or_false, Bool.false_or, Bool.true_or, Bool.or_true, Nat.add_zero, Nat.zero_add]; rfl) | rfl) ?_
        refine rl_alloc (id := 2) tt_31 za_31 rfl ?_
        refine rl_storeA rfl rfl tt_31 rfl rfl rfl rfl ?_
        refine hK17 _ _ ?_
        clear hK17 K17
        refine ex_seq_k fun K18 hK18 => ?_
        refine ex_seq_k fun K19 hK19 => ?_
        refine ex_region ttOK (by rfl) ?_
        first | refine rl_loadA_ptr rfl tt_31 rfl rfl rfl ?_ | refine rl_loadA_iel rfl tt_31 rfl rfl ?_ | refine rl_load_ptr rfl tt_31 rfl rfl ?_ | refine rl_load_iel rfl tt_31 rfl ?_ | refine rl_loadEA rfl tt_31 rfl (by assumption) rfl rfl ?_
        first | refine rl_loadA_ptr rfl tt_31 rfl rfl rfl ?_ | refine rl_loadA_iel rfl tt_31 rfl rfl ?_ | refine rl_load_ptr rfl tt_31 rfl rfl ?_ | refine rl_load_iel rfl tt_31 rfl ?_ | refine rl_loadEA rfl tt_31 rfl (by assumption) rfl rfl ?_
        refine rl_lend rfl rfl rfl (by first | exact lendNd (n := kNd 1 (nodeStart id)) rfl rfl rfl rfl rfl (.cl rfl .nil) | (refine lendNd (T := []) rfl rfl rfl rfl rfl ?_; refine lendC ?_ ?_ .nil <;> rfl)) (F_laws_eqNode false true (nodeStart id) (nodeStart id)) (.pv _) ?_
        refine rl_not rfl ?_
        refine hK19 _ _ ?_
        clear hK19 K19
        refine ex_cond rfl (fun hc20 => ?_) (fun hc20 => ?_)
        · first | (simp at hc20; done) | (simp at hc20; omega)
        · try simp at hc20
          refine ex_skip ?_
          refine hK18 _ _ ?_
          clear hK18 K18
          refine ex_seq_k fun K21 hK21 => ?_
          refine ex_region ttOK (by rfl) ?_
          refine rl_assign rfl ?_
          refine hK21 _ _ ?_
          clear hK21 K21
          refine ex_seq_k fun K22 hK22 => ?_
          refine ex_region ttOK (by rfl) ?_
          first | refine rl_loadA_ptr rfl tt_31 rfl rfl rfl ?_ | refine rl_loadA_iel rfl tt_31 rfl rfl ?_ | refine rl_load_ptr rfl tt_31 rfl rfl ?_ | refine rl_load_iel rfl tt_31 rfl ?_ | refine rl_loadEA rfl tt_31 rfl (by assumption) rfl rfl ?_
          refine rl_move rfl ?_
          refine rl_lend rfl rfl rfl (by first | exact lendNd (n := kNd 1 (nodeStart id)) rfl rfl rfl rfl rfl (.cl rfl .nil) | (refine lendNd (T := []) rfl rfl rfl rfl rfl ?_; refine lendC ?_ ?_ .nil <;> rfl)) (F_laws_heldNode false (nodeStart id) 1 hz) (.pv _) ?_
          refine rl_assign rfl ?_
          refine hK22 _ _ ?_
          clear hK22 K22
          refine ex_seq_k fun K23 hK23 => ?_
          refine ex_seq_k fun K24 hK24 => ?_
          refine ex_region ttOK (by rfl) ?_
          refine rl_move rfl ?_
          refine rl_bin rfl rfl rfl ?_
          refine hK24 _ _ ?_
          clear hK24 K24
          refine ex_cond rfl (fun hc25 => ?_) (fun hc25 => ?_)
          · first | (simp at hc25; done) | (simp at hc25; omega)
          · try simp at hc25
            refine ex_skip ?_
            refine hK23 _ _ ?_
            clear hK23 K23
            refine ex_seq_k fun K26 hK26 => ?_
            refine ex_seq_k fun K27 hK27 => ?_
            refine ex_region ttOK (by rfl) ?_
            refine rl_move rfl ?_
            refine rl_move rfl ?_
            refine rl_bin rfl rfl rfl ?_
            refine hK27 _ _ ?_
            clear hK27 K27
            refine ex_cond rfl (fun hc28 => ?_) (fun hc28 => ?_)
            · first | (simp at hc28; done) | (simp at hc28; omega)
            · try simp at hc28
              refine ex_skip ?_
              refine hK26 _ _ ?_
              clear hK26 K26
              refine ex_seq_k fun K29 hK29 => ?_
              refine ex_region ttOK (by rfl) ?_
              refine rl_assign rfl ?_
              refine hK29 _ _ ?_
              clear hK29 K29
              refine ex_ret ⟨.inr rfl, ?_⟩
              exact ret_pv rfl rfl rfl

end Go.Proofs.Ytcleiaibcfocdaa.Am
