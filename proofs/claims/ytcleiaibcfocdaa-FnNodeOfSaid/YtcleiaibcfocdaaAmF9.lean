/- Walks. PRINTED BY wip/gen/gen2.py out of b7.py. -/
import Derived.Test.YtcleiaibcfocdaaAmF8
set_option linter.unusedVariables false
set_option linter.unusedSimpArgs false
namespace Go.Proofs.Ytcleiaibcfocdaa.Am
open Go Go.RowKit

theorem F_laws_FnNodeOf (c : Bool) (bs : List Nat) (hbs : ∀ b ∈ bs, b < 256) : Pure Try.prog 3 [rBytes c bs] (.pv (.bool (true))) := by
  refine pure_of_ex ttOK (fn := Try.f3) (by kernel_rfl) (by kernel_rfl) rfl (outs := [.pv (.bool (true))]) (by rfl) (Nat.le_of_ble_eq_true rfl) 6 ?_
  refine ex_seq_k fun K1 hK1 => ?_
  refine ex_region ttOK (by rfl) ?_
  refine rl_assign rfl ?_
  refine hK1 _ _ ?_
  clear hK1 K1
  refine ex_seq_k fun K2 hK2 => ?_
  refine ex_seq_k fun K3 hK3 => ?_
  refine ex_region ttOK (by rfl) ?_
  refine rl_move rfl ?_
  first | refine rl_lenm rfl tt_22 rfl ?_ | refine rl_lenr rfl tt_22 rfl rfl (by first | exact List.length_map _ | rfl) ?_ | refine rl_len rfl tt_22 rfl rfl (by intro s hs; cases hs) rfl ?_
  refine rl_bin rfl rfl rfl ?_
  refine hK3 _ _ ?_
  clear hK3 K3
  refine ex_cond rfl (fun hc4 => ?_) (fun hc4 => ?_)
  · try simp at hc4
    refine ex_seq_k fun K5 hK5 => ?_
    refine ex_region ttOK (by rfl) ?_
    refine rl_assign rfl ?_
    refine hK5 _ _ ?_
    clear hK5 K5
    refine ex_ret ⟨.inr rfl, ?_⟩
    clear hK2 K2
    refine ret_pv rfl ?_ rfl
    first
    | rfl
    | (exfalso; omega)
    | (have h0 := fnd_end p; simp [litOp]; rw [Bool.eq_iff_iff, beq_iff_eq, decide_eq_true_iff]; exact h0)
  · try simp at hc4
    refine ex_skip ?_
    refine hK2 _ _ ?_
    clear hK2 K2
    refine ex_seq_k fun K6 hK6 => ?_
    refine ex_region ttOK (by rfl) ?_
    refine rl_move rfl ?_
    refine rl_call rfl rfl rfl (F_spec_DrawNodeOf c bs hbs) ?_
    refine rl_assign rfl ?_
    refine hK6 _ _ ?_
    clear hK6 K6
    refine ex_seq_k fun K7 hK7 => ?_
    have h8 := pk_lt (bs.take 2000) 0 8 (by omega)
    obtain ⟨p, hpe⟩ : ∃ p, p = ((pk (bs.take 2000) 0 8 : Int) - 2) := ⟨_, rfl⟩
    rw [← hpe]
    have hp1 : -2 ≤ p := by omega
    have hp2 : p ≤ 5 := by omega
    have hno := nodeOf_lt p
    refine ex_region ttOK (by rfl) ?_
    refine rl_move rfl ?_
    refine rl_call rfl rfl rfl (F_impl_NodeOf ..) ?_
    refine rl_assign rfl ?_
    refine hK7 _ _ ?_
    clear hK7 K7
    refine ex_cutK (ι := Unit) (fun _i γ1 => []) (fun _i γ1 => []) (fun _i => True) (Cov.cons (t := 3) rfl (Cov.cons (t := 4) rfl Cov.nil)) (HE.same (id := 0) rfl (HE.same (id := 1) rfl (HE.same (id := 2) rfl (HE.same (id := 3) rfl (HE.same (id := 4) rfl (HE.same (id := 5) rfl HE.nil)))))) ?_ fun _i γ1 hi => ?_
    · refine ex_seq_k fun K8 hK8 => ?_
      refine ex_region ttOK (by rfl) ?_
      refine rl_move rfl ?_
      refine rl_move rfl ?_
      refine rl_call rfl rfl rfl (F_spec_NodeOf ..) ?_
      refine rl_bin rfl rfl rfl ?_
      refine rl_move rfl ?_
      refine rl_g rfl rfl (fun hg9 => ?_) (fun hg9 => ?_)
      · try simp at hg9
        refine rl_move rfl ?_
        refine rl_gT rfl rfl ?_
        refine rl_bin rfl rfl rfl ?_
        refine rl_gT rfl rfl ?_
        refine rl_move rfl ?_
        refine rl_gT rfl rfl ?_
        refine rl_bin rfl rfl rfl ?_
        refine rl_gT rfl rfl ?_
        refine rl_move rfl ?_
        refine rl_g rfl rfl (fun hg10 => ?_) (fun hg10 => ?_)
        · try simp at hg10
          refine rl_move rfl ?_
          refine rl_gT rfl rfl ?_
          refine rl_bin rfl rfl rfl ?_
          refine rl_gT rfl rfl ?_
          refine rl_pickT rfl rfl ?_
          refine rl_gT rfl rfl ?_
          refine rl_eq rfl rfl (by intro p q h h'; cases h; cases h'; rfl) (.inr rfl) (eqA_bool Try.underlying4 _ _ _ _) ?_
          refine rl_pickF rfl rfl ?_
          refine hK8 _ _ ?_
          clear hK8 K8
          refine ex_cond rfl (fun hc11 => ?_) (fun hc11 => ?_)
          · try simp at hc11
            exfalso
            omega
          · try simp at hc11
            refine ex_skip ?_
            exact ⟨(), trivial, [], Cov.nil, (Cov.cons (t := 3) rfl (Cov.cons (t := 4) rfl Cov.nil)), HE.nil, (HE.same (id := 0) rfl (HE.same (id := 1) rfl (HE.same (id := 2) rfl (HE.same (id := 3) rfl (HE.same (id := 4) rfl (HE.same (id := 5) rfl HE.nil)))))), rfl⟩
        · try simp at hg10
          refine rl_gF rfl rfl ?_
          refine rl_gT rfl rfl ?_
          refine rl_pickF rfl rfl ?_
          refine rl_gT rfl rfl ?_
          refine rl_eq rfl rfl (by intro p q h h'; cases h; cases h'; rfl) (.inr rfl) (eqA_bool Try.underlying4 _ _ _ _) ?_
          refine rl_pickF rfl rfl ?_
          refine hK8 _ _ ?_
          clear hK8 K8
          refine ex_cond rfl (fun hc12 => ?_) (fun hc12 => ?_)
          · try simp at hc12
            exfalso
            omega
          · try simp at hc12
            refine ex_skip ?_
            exact ⟨(), trivial, [], Cov.nil, (Cov.cons (t := 3) rfl (Cov.cons (t := 4) rfl Cov.nil)), HE.nil, (HE.same (id := 0) rfl (HE.same (id := 1) rfl (HE.same (id := 2) rfl (HE.same (id := 3) rfl (HE.same (id := 4) rfl (HE.same (id := 5) rfl HE.nil)))))), rfl⟩
      · simp at hg9
    · try dsimp only [List.cons_append, List.nil_append]
      refine ex_seq_k fun K14 hK14 => ?_
      refine ex_region ttOK (by rfl) ?_
      refine rl_assign rfl ?_
      refine hK14 _ _ ?_
      clear hK14 K14
      refine ex_seq_k fun K15 hK15 => ?_
      refine ex_seq_k fun K16 hK16 => ?_
      refine ex_region ttOK (by rfl) ?_
      refine rl_assign rfl ?_
      refine hK16 _ _ ?_
      clear hK16 K16
      refine ex_block ?_
      refine ex_loopK (ι := Nat) (fun i γ2 => [(5, .pv (.int .i64 (fnd p i))), (6, .pv (.int .i64 (i : Int)))]) (fun i γ2 => [(1, ((γ2 1), .dead)), (2, ((γ2 2), .dead)), (3, ((γ2 3), .dead)), (4, ((γ2 4), .dead)), (5, ((γ2 5), .dead)), (0, ((γ2 0), .dead))]) (fun i => i ≤ 3) (fun i => 3 - i) (Cov.cons (t := 3) rfl (Cov.cons (t := 4) rfl Cov.nil)) HE.nil 0 (by omega) [_, _, _, _, _, _] (Cov.cons' (t := 5) rfl (by simp [fnd]) (Cov.cons (t := 6) rfl Cov.nil)) (HE.kill rfl (HE.kill rfl (HE.kill rfl (HE.kill rfl (HE.kill rfl (HE.kill rfl HE.nil)))))) rfl fun i γ2 hi => ?_
      try dsimp only [List.cons_append, List.nil_append]
      refine ex_seq_k fun K17 hK17 => ?_
      refine ex_seq_k fun K18 hK18 => ?_
      refine ex_region ttOK (by rfl) ?_
      refine rl_move rfl ?_
      refine rl_bin rfl rfl rfl ?_
      refine hK18 _ _ ?_
      clear hK18 K18
      refine ex_cond rfl (fun hc19 => ?_) (fun hc19 => ?_)
      · try simp at hc19
        refine ex_skip ?_
        refine hK17 _ _ ?_
        clear hK17 K17
        refine ex_seq_k fun K20 hK20 => ?_
        refine ex_block ?_
        refine ex_seq_k fun K21 hK21 => ?_
        refine ex_region ttOK (by rfl) ?_
        refine rl_move rfl ?_
        refine rl_meth [1, 2, 3, 4, 5] [_, _, _, _, _] (F_impl_NodeStart (i : Int)) rfl rfl rfl (by decide) rfl rfl (by repeat (first | exact InH.nil | refine InH.cons rfl ?_)) (by first | (simp only [pI, List.map_cons, List.map_nil, insH, inE, inT, inA, inC, inD, inB, gl, nx, memN, Nat.beq, Nat.add_eq, List.getD_cons_zero, List.getD_cons_succ, List.getD_nil, Bool.or_false, Bool.false_or, Bool.true_or, Bool.or_true, Nat.add_zero, Nat.zero_add]; rfl) | rfl) (by first | (simp only [pI, List.map_cons, List.map_nil, insH, inE, inT, inA, inC, inD, inB, gl, nx, memN, Nat.beq, Nat.add_eq, List.getD_cons_zero, List.getD_cons_succ, List.getD_nil, Bool.or_false, Bool.false_or, Bool.true_or, Bool.or_true, Nat.add_zero, Nat.zero_add]; rfl) | rfl) ?_
        refine rl_alloc (id := 0) tt_31 za_31 rfl ?_
        refine rl_storeA rfl rfl tt_31 rfl rfl rfl rfl ?_
        refine hK21 _ _ ?_
        clear hK21 K21
        refine ex_seq_k fun K22 hK22 => ?_
        refine ex_seq_k fun K23 hK23 => ?_
        refine ex_frzB (b := rLas true (nodeStart (i : Int)).lanes) 0 4 rfl rfl rfl (.ref rfl (Le.ow_map2 _ (fun _ => rfl) encLaO_le) .nil) rfl rfl rfl rfl ?_
        refine ex_frzB (b := rEvs true (nodeStart (i : Int)).kept) 0 5 rfl rfl rfl (.ref rfl (Le.ow_map _ (fun _ => rfl) (fun _ => rfl)) .nil) rfl rfl rfl rfl ?_
        refine ex_frzB (b := rOus true (nodeStart (i : Int)).outs) 0 6 rfl rfl rfl (.ref rfl (Le.ow_map _ (fun _ => rfl) (fun _ => rfl)) .nil) rfl rfl rfl rfl ?_
        refine ex_frzB (b := rVis true (nodeStart (i : Int)).views) 0 9 rfl rfl rfl (.ref rfl (Le.ow_map2 _ (fun _ => rfl) encViO_le) .nil) rfl rfl rfl rfl ?_
        refine ex_frzB (b := rInts true (nodeStart (i : Int)).known) 0 10 rfl rfl rfl (.ref rfl (Le.ow_map _ (fun _ => rfl) (fun _ => rfl)) .nil) rfl rfl rfl rfl ?_
        have hL : (nodeStart (i : Int)).lanes = (procs (i : Int) 4).map lane0 := by rw [nodeStart, if_pos (by omega)]
        have hLl : (nodeStart (i : Int)).lanes.length = (procs (i : Int) 4).length := by rw [hL, List.length_map]
        have hpl := procs_len (i : Int) 4
        refine ex_region ttOK (by rfl) ?_
        refine rl_assign rfl ?_
        refine hK23 _ _ ?_
        clear hK23 K23
        refine ex_block ?_
        refine ex_loopK (ι := Nat) (fun k γ3 => [(5, .pv (.int .i64 (fnd p i + (((procs (i : Int) 4).take k).count p : Nat)))), (8, .pv (.int .i64 (k : Int)))]) (fun k γ3 => []) (fun k => k ≤ (procs (i : Int) 4).length) (fun k => (procs (i : Int) 4).length - k) (Cov.cons (t := 3) rfl (Cov.cons (t := 4) rfl (Cov.cons (t := 6) rfl (Cov.cons (t := 7) rfl Cov.nil)))) (HE.same (id := 0) rfl (HE.same (id := 1) rfl (HE.same (id := 2) rfl (HE.same (id := 3) rfl (HE.same (id := 4) rfl (HE.same (id := 5) rfl HE.nil)))))) 0 (by omega) [] (Cov.cons' (t := 5) rfl (by rw [List.take_zero]; simp) (Cov.cons (t := 8) rfl Cov.nil)) HE.nil rfl fun k γ3 hi => ?_
        try dsimp only [List.cons_append, List.nil_append]
        refine ex_seq_k fun K24 hK24 => ?_
        refine ex_seq_k fun K25 hK25 => ?_
        refine ex_region ttOK (by rfl) ?_
        refine rl_move rfl ?_
        refine rl_fieldAddr rfl tt_31 rfl rfl tt_25 rfl rfl ?_
        first | refine rl_load_ptr rfl tt_25 rfl rfl ?_ | refine rl_load_iel rfl tt_25 rfl ?_
        first | refine rl_lenm rfl tt_25 rfl ?_ | refine rl_lenr rfl tt_25 rfl rfl (by first | exact List.length_map _ | rfl) ?_ | refine rl_len rfl tt_25 rfl rfl (by intro s hs; cases hs) rfl ?_
        refine rl_bin rfl rfl rfl ?_
        refine hK25 _ _ ?_
        clear hK25 K25
        refine ex_cond rfl (fun hc26 => ?_) (fun hc26 => ?_)
        · try simp at hc26
          refine ex_skip ?_
          refine hK24 _ _ ?_
          clear hK24 K24
          refine ex_seq_k fun K27 hK27 => ?_
          refine ex_block ?_
          refine ex_seq_k fun K28 hK28 => ?_
          refine ex_region ttOK (by rfl) ?_
          refine rl_fieldAddr rfl tt_31 rfl rfl tt_25 rfl rfl ?_
          first | refine rl_load_ptr rfl tt_25 rfl rfl ?_ | refine rl_load_iel rfl tt_25 rfl ?_
          refine rl_move rfl ?_
          obtain ⟨q, hq⟩ : ∃ q, (procs (i : Int) 4)[k]? = some q := ⟨_, List.getElem?_eq_getElem (by omega)⟩
          have hx : (nodeStart (i : Int)).lanes[k]? = some (lane0 q) := by rw [hL, List.getElem?_map, hq]; rfl
          have hqm := procs_mem (List.mem_of_getElem? hq)
          have hfl := fnd_le p i
          have hcl : ((procs (i : Int) 4).take k).count p ≤ 4 := Nat.le_trans List.count_le_length (by rw [List.length_take]; omega)
          refine rl_idxm rfl rfl tt_25 rfl tt_37 rfl hx ?_
          refine rl_fieldAddr rfl tt_37 rfl rfl tt_3 rfl rfl ?_
          first | refine rl_load_ptr rfl tt_3 rfl rfl ?_ | refine rl_load_iel rfl tt_3 rfl ?_
          refine rl_move rfl ?_
          refine rl_bin rfl rfl rfl ?_
          refine hK28 _ _ ?_
          clear hK28 K28
          refine ex_cond rfl (fun hc29 => ?_) (fun hc29 => ?_)
          · try simp at hc29
            have heq : q = p := hc29
            refine ex_seq_k fun K30 hK30 => ?_
            refine ex_region ttOK (by rfl) ?_
            refine rl_move rfl ?_
            refine rl_bin rfl rfl rfl ?_
            refine rl_assign rfl ?_
            refine hK30 _ _ ?_
            clear hK30 K30
            refine ex_seq_k fun K31 hK31 => ?_
            refine ex_region ttOK (by rfl) ?_
            refine rl_move rfl ?_
            refine rl_move rfl ?_
            refine rl_bin rfl rfl rfl ?_
            refine hK31 _ _ ?_
            clear hK31 K31
            refine ex_cond rfl (fun hc32 => ?_) (fun hc32 => ?_)
            · try simp at hc32
              exact absurd (by have := hqm.1; rw [heq] at this; exact this.symm) hc32
            · try simp at hc32
              refine ex_skip ?_
              refine hK27 _ _ ?_
              clear hK27 K27
              refine ex_region ttOK (by rfl) ?_
              refine rl_move rfl ?_
              refine rl_bin rfl rfl rfl ?_
              refine rl_assign rfl ?_
              exact ⟨k + 1, ⟨by omega, by omega⟩, [], (Cov.cons' (t := 5) rfl (by first | (rw [wrap_small (by omega) (by omega), take_snoc hq, List.count_append, show q = p from heq]; simp; omega) | (rw [take_snoc hq, List.count_append, List.count_singleton]; simp [heq])) (Cov.cons' (t := 8) rfl (by rw [wrap_small (by omega) (by omega)]; rfl) Cov.nil)), (Cov.cons (t := 3) rfl (Cov.cons (t := 4) rfl (Cov.cons (t := 6) rfl (Cov.cons (t := 7) rfl Cov.nil)))), HE.nil, (HE.same (id := 0) rfl (HE.same (id := 1) rfl (HE.same (id := 2) rfl (HE.same (id := 3) rfl (HE.same (id := 4) rfl (HE.same (id := 5) rfl HE.nil)))))), rfl⟩
          · try simp at hc29
            have heq : ¬ q = p := hc29
            refine ex_skip ?_
            refine hK27 _ _ ?_
            clear hK27 K27
            refine ex_region ttOK (by rfl) ?_
            refine rl_move rfl ?_
            refine rl_bin rfl rfl rfl ?_
            refine rl_assign rfl ?_
            exact ⟨k + 1, ⟨by omega, by omega⟩, [], (Cov.cons' (t := 5) rfl (by first | (rw [wrap_small (by omega) (by omega), take_snoc hq, List.count_append, show q = p from heq]; simp; omega) | (rw [take_snoc hq, List.count_append, List.count_singleton]; simp [heq])) (Cov.cons' (t := 8) rfl (by rw [wrap_small (by omega) (by omega)]; rfl) Cov.nil)), (Cov.cons (t := 3) rfl (Cov.cons (t := 4) rfl (Cov.cons (t := 6) rfl (Cov.cons (t := 7) rfl Cov.nil)))), HE.nil, (HE.same (id := 0) rfl (HE.same (id := 1) rfl (HE.same (id := 2) rfl (HE.same (id := 3) rfl (HE.same (id := 4) rfl (HE.same (id := 5) rfl HE.nil)))))), rfl⟩
        · try simp at hc26
          obtain rfl : k = (procs (i : Int) 4).length := by omega
          refine ex_exit ?_
          refine hK22 _ _ ?_
          clear hK24 K24 hK22 K22
          refine ex_seq_k fun K33 hK33 => ?_
          refine ex_region_any ttOK mixed (by rfl) ?_
          first | refine rl_loadA_ptr rfl tt_31 rfl rfl rfl ?_ | refine rl_loadA_iel rfl tt_31 rfl rfl ?_ | refine rl_load_ptr rfl tt_31 rfl rfl ?_ | refine rl_load_iel rfl tt_31 rfl ?_ | refine rl_loadEA rfl tt_31 rfl (by assumption) rfl rfl ?_
          refine rl_move rfl ?_
          refine rl_call rfl rfl rfl (F_spec_NodeStart ..) ?_
          refine rl_call rfl rfl rfl (F_laws_ltNode true true (nodeStart (i : Int)) (nodeStart (i : Int))) ?_
          refine rl_not rfl ?_
          refine ⟨by kernel_rfl, ?_⟩
          refine hK33 _ _ ?_
          clear hK33 K33
          refine ex_cond rfl (fun hc34 => ?_) (fun hc34 => ?_)
          · simp at hc34
          · try simp at hc34
            refine ex_skip ?_
            refine hK20 _ _ ?_
            clear hK20 K20
            refine ex_region ttOK (by rfl) ?_
            refine rl_move rfl ?_
            refine rl_bin rfl rfl rfl ?_
            refine rl_assign rfl ?_
            exact ⟨i + 1, ⟨by omega, by omega⟩, [_, _, _, _, _, _], (Cov.cons' (t := 5) rfl (by rw [fnd_step hp1 hp2 (by omega), List.take_of_length_le (by omega)]) (Cov.cons' (t := 6) rfl (by rw [wrap_small (by omega) (by omega)]; rfl) Cov.nil)), (Cov.cons (t := 3) rfl (Cov.cons (t := 4) rfl Cov.nil)), (HE.kill rfl (HE.kill rfl (HE.kill rfl (HE.kill rfl (HE.kill rfl (HE.kill rfl HE.nil)))))), HE.nil, rfl⟩
      · try simp at hc19
        obtain rfl : i = 3 := by omega
        refine ex_exit ?_
        refine hK15 _ _ ?_
        clear hK17 K17 hK15 K15
        refine ex_seq_k fun K35 hK35 => ?_
        refine ex_region ttOK (by rfl) ?_
        refine rl_move rfl ?_
        refine rl_bin rfl rfl rfl ?_
        refine rl_move rfl ?_
        refine rl_g rfl rfl (fun hg36 => ?_) (fun hg36 => ?_)
        · try simp at hg36
          refine rl_move rfl ?_
          refine rl_gT rfl rfl ?_
          refine rl_bin rfl rfl rfl ?_
          refine rl_gT rfl rfl ?_
          refine rl_move rfl ?_
          refine rl_gT rfl rfl ?_
          refine rl_bin rfl rfl rfl ?_
          refine rl_gT rfl rfl ?_
          refine rl_eq rfl rfl (by intro p q h h'; cases h; cases h'; rfl) (.inl rfl) (eqA_bool Try.underlying4 _ _ _ _) ?_
          refine rl_pickT rfl rfl ?_
          refine rl_assign rfl ?_
          refine hK35 _ _ ?_
          clear hK35 K35
          refine ex_ret ⟨.inr rfl, ?_⟩
          refine ret_pv rfl ?_ rfl
          first
          | rfl
          | (exfalso; omega)
          | (have h0 := fnd_end p; simp [litOp]; rw [Bool.eq_iff_iff, beq_iff_eq, decide_eq_true_iff]; exact h0)
        · try simp at hg36
          refine rl_gF rfl rfl ?_
          refine rl_gF rfl rfl ?_
          refine rl_gF rfl rfl ?_
          refine rl_gF rfl rfl ?_
          refine rl_pickF rfl rfl ?_
          refine rl_assign rfl ?_
          refine hK35 _ _ ?_
          clear hK35 K35
          refine ex_ret ⟨.inr rfl, ?_⟩
          refine ret_pv rfl ?_ rfl
          first
          | rfl
          | (exfalso; omega)
          | (have h0 := fnd_end p; simp [litOp]; rw [Bool.eq_iff_iff, beq_iff_eq, decide_eq_true_iff]; exact h0)

end Go.Proofs.Ytcleiaibcfocdaa.Am
