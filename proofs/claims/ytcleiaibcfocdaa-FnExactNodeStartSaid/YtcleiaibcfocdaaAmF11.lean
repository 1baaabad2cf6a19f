/- Walks. PRINTED BY wip/gen/gen2.py out of b9.py. -/
import Derived.Test.YtcleiaibcfocdaaAmD
set_option linter.unusedVariables false
set_option linter.unusedSimpArgs false
namespace Go.Proofs.Ytcleiaibcfocdaa.Am
open Go Go.RowKit

theorem F_laws_eqEvent (a b : Ev) : Pure Try.prog 109 [.agg (encEv a), .agg (encEv b)] (.pv (.bool (decide (a = b)))) := by
  refine pure_of_ex ttOK (fn := Try.f109) (by kernel_rfl) (by kernel_rfl) rfl (outs := [.pv (.bool (decide (a = b)))]) (by rfl) (Nat.le_of_ble_eq_true rfl) 2 ?_
  refine ex_seq_k fun K1 hK1 => ?_
  refine ex_region ttOK (by rfl) ?_
  refine rl_boxA (id := 0) rfl rfl rfl ?_
  refine rl_boxA (id := 1) rfl rfl rfl ?_
  refine rl_assign rfl ?_
  refine hK1 _ _ ?_
  clear hK1 K1
  refine ex_seq_k fun K2 hK2 => ?_
  refine ex_seq_k fun K3 hK3 => ?_
  refine ex_region ttOK (by rfl) ?_
  refine rl_fieldAddr rfl tt_60 rfl rfl tt_3 rfl rfl ?_
  first | refine rl_load_ptr rfl tt_3 rfl rfl ?_ | refine rl_load_iel rfl tt_3 rfl ?_
  refine rl_fieldAddr rfl tt_60 rfl rfl tt_3 rfl rfl ?_
  first | refine rl_load_ptr rfl tt_3 rfl rfl ?_ | refine rl_load_iel rfl tt_3 rfl ?_
  refine rl_bin rfl rfl rfl ?_
  refine hK3 _ _ ?_
  clear hK3 K3
  refine ex_cond rfl (fun hc4 => ?_) (fun hc4 => ?_)
  · try simp at hc4
    refine ex_seq_k fun K5 hK5 => ?_
    refine ex_region ttOK (by rfl) ?_
    refine rl_assign rfl ?_
    refine hK5 _ _ ?_
    clear hK5 K5
    refine ex_ret ⟨.inr rfl, ?_⟩
    clear hK2 K2
    refine ret_pv rfl ?_ rfl
    first
    | exact kF (by intro h; subst h; simp_all)
    | exact kT (by cases a; cases b; simp_all)
  · try simp at hc4
    refine ex_skip ?_
    refine hK2 _ _ ?_
    clear hK2 K2
    refine ex_seq_k fun K6 hK6 => ?_
    refine ex_seq_k fun K7 hK7 => ?_
    refine ex_region ttOK (by rfl) ?_
    refine rl_fieldAddr rfl tt_60 rfl rfl tt_3 rfl rfl ?_
    first | refine rl_load_ptr rfl tt_3 rfl rfl ?_ | refine rl_load_iel rfl tt_3 rfl ?_
    refine rl_fieldAddr rfl tt_60 rfl rfl tt_3 rfl rfl ?_
    first | refine rl_load_ptr rfl tt_3 rfl rfl ?_ | refine rl_load_iel rfl tt_3 rfl ?_
    refine rl_bin rfl rfl rfl ?_
    refine hK7 _ _ ?_
    clear hK7 K7
    refine ex_cond rfl (fun hc8 => ?_) (fun hc8 => ?_)
    · try simp at hc8
      refine ex_seq_k fun K9 hK9 => ?_
      refine ex_region ttOK (by rfl) ?_
      refine rl_assign rfl ?_
      refine hK9 _ _ ?_
      clear hK9 K9
      refine ex_ret ⟨.inr rfl, ?_⟩
      clear hK6 K6
      refine ret_pv rfl ?_ rfl
      first
      | exact kF (by intro h; subst h; simp_all)
      | exact kT (by cases a; cases b; simp_all)
    · try simp at hc8
      refine ex_skip ?_
      refine hK6 _ _ ?_
      clear hK6 K6
      refine ex_seq_k fun K10 hK10 => ?_
      refine ex_seq_k fun K11 hK11 => ?_
      refine ex_region ttOK (by rfl) ?_
      refine rl_fieldAddr rfl tt_60 rfl rfl tt_3 rfl rfl ?_
      first | refine rl_load_ptr rfl tt_3 rfl rfl ?_ | refine rl_load_iel rfl tt_3 rfl ?_
      refine rl_fieldAddr rfl tt_60 rfl rfl tt_3 rfl rfl ?_
      first | refine rl_load_ptr rfl tt_3 rfl rfl ?_ | refine rl_load_iel rfl tt_3 rfl ?_
      refine rl_bin rfl rfl rfl ?_
      refine hK11 _ _ ?_
      clear hK11 K11
      refine ex_cond rfl (fun hc12 => ?_) (fun hc12 => ?_)
      · try simp at hc12
        refine ex_seq_k fun K13 hK13 => ?_
        refine ex_region ttOK (by rfl) ?_
        refine rl_assign rfl ?_
        refine hK13 _ _ ?_
        clear hK13 K13
        refine ex_ret ⟨.inr rfl, ?_⟩
        clear hK10 K10
        refine ret_pv rfl ?_ rfl
        first
        | exact kF (by intro h; subst h; simp_all)
        | exact kT (by cases a; cases b; simp_all)
      · try simp at hc12
        refine ex_skip ?_
        refine hK10 _ _ ?_
        clear hK10 K10
        refine ex_seq_k fun K14 hK14 => ?_
        refine ex_seq_k fun K15 hK15 => ?_
        refine ex_region ttOK (by rfl) ?_
        refine rl_fieldAddr rfl tt_60 rfl rfl tt_3 rfl rfl ?_
        first | refine rl_load_ptr rfl tt_3 rfl rfl ?_ | refine rl_load_iel rfl tt_3 rfl ?_
        refine rl_fieldAddr rfl tt_60 rfl rfl tt_3 rfl rfl ?_
        first | refine rl_load_ptr rfl tt_3 rfl rfl ?_ | refine rl_load_iel rfl tt_3 rfl ?_
        refine rl_bin rfl rfl rfl ?_
        refine hK15 _ _ ?_
        clear hK15 K15
        refine ex_cond rfl (fun hc16 => ?_) (fun hc16 => ?_)
        · try simp at hc16
          refine ex_seq_k fun K17 hK17 => ?_
          refine ex_region ttOK (by rfl) ?_
          refine rl_assign rfl ?_
          refine hK17 _ _ ?_
          clear hK17 K17
          refine ex_ret ⟨.inr rfl, ?_⟩
          clear hK14 K14
          refine ret_pv rfl ?_ rfl
          first
          | exact kF (by intro h; subst h; simp_all)
          | exact kT (by cases a; cases b; simp_all)
        · try simp at hc16
          refine ex_skip ?_
          refine hK14 _ _ ?_
          clear hK14 K14
          refine ex_seq_k fun K18 hK18 => ?_
          refine ex_seq_k fun K19 hK19 => ?_
          refine ex_region ttOK (by rfl) ?_
          refine rl_fieldAddr rfl tt_60 rfl rfl tt_3 rfl rfl ?_
          first | refine rl_load_ptr rfl tt_3 rfl rfl ?_ | refine rl_load_iel rfl tt_3 rfl ?_
          refine rl_fieldAddr rfl tt_60 rfl rfl tt_3 rfl rfl ?_
          first | refine rl_load_ptr rfl tt_3 rfl rfl ?_ | refine rl_load_iel rfl tt_3 rfl ?_
          refine rl_bin rfl rfl rfl ?_
          refine hK19 _ _ ?_
          clear hK19 K19
          refine ex_cond rfl (fun hc20 => ?_) (fun hc20 => ?_)
          · try simp at hc20
            refine ex_seq_k fun K21 hK21 => ?_
            refine ex_region ttOK (by rfl) ?_
            refine rl_assign rfl ?_
            refine hK21 _ _ ?_
            clear hK21 K21
            refine ex_ret ⟨.inr rfl, ?_⟩
            clear hK18 K18
            refine ret_pv rfl ?_ rfl
            first
            | exact kF (by intro h; subst h; simp_all)
            | exact kT (by cases a; cases b; simp_all)
          · try simp at hc20
            refine ex_skip ?_
            refine hK18 _ _ ?_
            clear hK18 K18
            refine ex_seq_k fun K22 hK22 => ?_
            refine ex_seq_k fun K23 hK23 => ?_
            refine ex_region ttOK (by rfl) ?_
            refine rl_fieldAddr rfl tt_60 rfl rfl tt_3 rfl rfl ?_
            first | refine rl_load_ptr rfl tt_3 rfl rfl ?_ | refine rl_load_iel rfl tt_3 rfl ?_
            refine rl_fieldAddr rfl tt_60 rfl rfl tt_3 rfl rfl ?_
            first | refine rl_load_ptr rfl tt_3 rfl rfl ?_ | refine rl_load_iel rfl tt_3 rfl ?_
            refine rl_bin rfl rfl rfl ?_
            refine hK23 _ _ ?_
            clear hK23 K23
            refine ex_cond rfl (fun hc24 => ?_) (fun hc24 => ?_)
            · try simp at hc24
              refine ex_seq_k fun K25 hK25 => ?_
              refine ex_region ttOK (by rfl) ?_
              refine rl_assign rfl ?_
              refine hK25 _ _ ?_
              clear hK25 K25
              refine ex_ret ⟨.inr rfl, ?_⟩
              clear hK22 K22
              refine ret_pv rfl ?_ rfl
              first
              | exact kF (by intro h; subst h; simp_all)
              | exact kT (by cases a; cases b; simp_all)
            · try simp at hc24
              refine ex_skip ?_
              refine hK22 _ _ ?_
              clear hK22 K22
              refine ex_seq_k fun K26 hK26 => ?_
              refine ex_seq_k fun K27 hK27 => ?_
              refine ex_region ttOK (by rfl) ?_
              refine rl_fieldAddr rfl tt_60 rfl rfl tt_3 rfl rfl ?_
              first | refine rl_load_ptr rfl tt_3 rfl rfl ?_ | refine rl_load_iel rfl tt_3 rfl ?_
              refine rl_fieldAddr rfl tt_60 rfl rfl tt_3 rfl rfl ?_
              first | refine rl_load_ptr rfl tt_3 rfl rfl ?_ | refine rl_load_iel rfl tt_3 rfl ?_
              refine rl_bin rfl rfl rfl ?_
              refine hK27 _ _ ?_
              clear hK27 K27
              refine ex_cond rfl (fun hc28 => ?_) (fun hc28 => ?_)
              · try simp at hc28
                refine ex_seq_k fun K29 hK29 => ?_
                refine ex_region ttOK (by rfl) ?_
                refine rl_assign rfl ?_
                refine hK29 _ _ ?_
                clear hK29 K29
                refine ex_ret ⟨.inr rfl, ?_⟩
                clear hK26 K26
                refine ret_pv rfl ?_ rfl
                first
                | exact kF (by intro h; subst h; simp_all)
                | exact kT (by cases a; cases b; simp_all)
              · try simp at hc28
                refine ex_skip ?_
                refine hK26 _ _ ?_
                clear hK26 K26
                refine ex_seq_k fun K30 hK30 => ?_
                refine ex_region ttOK (by rfl) ?_
                refine rl_assign rfl ?_
                refine hK30 _ _ ?_
                clear hK30 K30
                refine ex_ret ⟨.inr rfl, ?_⟩
                refine ret_pv rfl ?_ rfl
                first
                | exact kF (by intro h; subst h; simp_all)
                | exact kT (by cases a; cases b; simp_all)

theorem F_laws_eqOut (a b : Ou) : Pure Try.prog 110 [.agg (encOu a), .agg (encOu b)] (.pv (.bool (decide (a = b)))) := by
  refine pure_of_ex ttOK (fn := Try.f110) (by kernel_rfl) (by kernel_rfl) rfl (outs := [.pv (.bool (decide (a = b)))]) (by rfl) (Nat.le_of_ble_eq_true rfl) 2 ?_
  refine ex_seq_k fun K1 hK1 => ?_
  refine ex_region ttOK (by rfl) ?_
  refine rl_boxA (id := 0) rfl rfl rfl ?_
  refine rl_boxA (id := 1) rfl rfl rfl ?_
  refine rl_assign rfl ?_
  refine hK1 _ _ ?_
  clear hK1 K1
  refine ex_seq_k fun K2 hK2 => ?_
  refine ex_seq_k fun K3 hK3 => ?_
  refine ex_region ttOK (by rfl) ?_
  refine rl_fieldAddr rfl tt_131 rfl rfl tt_3 rfl rfl ?_
  first | refine rl_load_ptr rfl tt_3 rfl rfl ?_ | refine rl_load_iel rfl tt_3 rfl ?_
  refine rl_fieldAddr rfl tt_131 rfl rfl tt_3 rfl rfl ?_
  first | refine rl_load_ptr rfl tt_3 rfl rfl ?_ | refine rl_load_iel rfl tt_3 rfl ?_
  refine rl_bin rfl rfl rfl ?_
  refine hK3 _ _ ?_
  clear hK3 K3
  refine ex_cond rfl (fun hc4 => ?_) (fun hc4 => ?_)
  · try simp at hc4
    refine ex_seq_k fun K5 hK5 => ?_
    refine ex_region ttOK (by rfl) ?_
    refine rl_assign rfl ?_
    refine hK5 _ _ ?_
    clear hK5 K5
    refine ex_ret ⟨.inr rfl, ?_⟩
    clear hK2 K2
    refine ret_pv rfl ?_ rfl
    first
    | exact kF (by intro h; subst h; simp_all)
    | exact kT (by cases a; cases b; simp_all)
  · try simp at hc4
    refine ex_skip ?_
    refine hK2 _ _ ?_
    clear hK2 K2
    refine ex_seq_k fun K6 hK6 => ?_
    refine ex_seq_k fun K7 hK7 => ?_
    refine ex_region ttOK (by rfl) ?_
    refine rl_fieldAddr rfl tt_131 rfl rfl tt_3 rfl rfl ?_
    first | refine rl_load_ptr rfl tt_3 rfl rfl ?_ | refine rl_load_iel rfl tt_3 rfl ?_
    refine rl_fieldAddr rfl tt_131 rfl rfl tt_3 rfl rfl ?_
    first | refine rl_load_ptr rfl tt_3 rfl rfl ?_ | refine rl_load_iel rfl tt_3 rfl ?_
    refine rl_bin rfl rfl rfl ?_
    refine hK7 _ _ ?_
    clear hK7 K7
    refine ex_cond rfl (fun hc8 => ?_) (fun hc8 => ?_)
    · try simp at hc8
      refine ex_seq_k fun K9 hK9 => ?_
      refine ex_region ttOK (by rfl) ?_
      refine rl_assign rfl ?_
      refine hK9 _ _ ?_
      clear hK9 K9
      refine ex_ret ⟨.inr rfl, ?_⟩
      clear hK6 K6
      refine ret_pv rfl ?_ rfl
      first
      | exact kF (by intro h; subst h; simp_all)
      | exact kT (by cases a; cases b; simp_all)
    · try simp at hc8
      refine ex_skip ?_
      refine hK6 _ _ ?_
      clear hK6 K6
      refine ex_seq_k fun K10 hK10 => ?_
      refine ex_seq_k fun K11 hK11 => ?_
      refine ex_region ttOK (by rfl) ?_
      refine rl_fieldAddr rfl tt_131 rfl rfl tt_3 rfl rfl ?_
      first | refine rl_load_ptr rfl tt_3 rfl rfl ?_ | refine rl_load_iel rfl tt_3 rfl ?_
      refine rl_fieldAddr rfl tt_131 rfl rfl tt_3 rfl rfl ?_
      first | refine rl_load_ptr rfl tt_3 rfl rfl ?_ | refine rl_load_iel rfl tt_3 rfl ?_
      refine rl_bin rfl rfl rfl ?_
      refine hK11 _ _ ?_
      clear hK11 K11
      refine ex_cond rfl (fun hc12 => ?_) (fun hc12 => ?_)
      · try simp at hc12
        refine ex_seq_k fun K13 hK13 => ?_
        refine ex_region ttOK (by rfl) ?_
        refine rl_assign rfl ?_
        refine hK13 _ _ ?_
        clear hK13 K13
        refine ex_ret ⟨.inr rfl, ?_⟩
        clear hK10 K10
        refine ret_pv rfl ?_ rfl
        first
        | exact kF (by intro h; subst h; simp_all)
        | exact kT (by cases a; cases b; simp_all)
      · try simp at hc12
        refine ex_skip ?_
        refine hK10 _ _ ?_
        clear hK10 K10
        refine ex_seq_k fun K14 hK14 => ?_
        refine ex_seq_k fun K15 hK15 => ?_
        refine ex_region ttOK (by rfl) ?_
        refine rl_fieldAddr rfl tt_131 rfl rfl tt_3 rfl rfl ?_
        first | refine rl_load_ptr rfl tt_3 rfl rfl ?_ | refine rl_load_iel rfl tt_3 rfl ?_
        refine rl_fieldAddr rfl tt_131 rfl rfl tt_3 rfl rfl ?_
        first | refine rl_load_ptr rfl tt_3 rfl rfl ?_ | refine rl_load_iel rfl tt_3 rfl ?_
        refine rl_bin rfl rfl rfl ?_
        refine hK15 _ _ ?_
        clear hK15 K15
        refine ex_cond rfl (fun hc16 => ?_) (fun hc16 => ?_)
        · try simp at hc16
          refine ex_seq_k fun K17 hK17 => ?_
          refine ex_region ttOK (by rfl) ?_
          refine rl_assign rfl ?_
          refine hK17 _ _ ?_
          clear hK17 K17
          refine ex_ret ⟨.inr rfl, ?_⟩
          clear hK14 K14
          refine ret_pv rfl ?_ rfl
          first
          | exact kF (by intro h; subst h; simp_all)
          | exact kT (by cases a; cases b; simp_all)
        · try simp at hc16
          refine ex_skip ?_
          refine hK14 _ _ ?_
          clear hK14 K14
          refine ex_seq_k fun K18 hK18 => ?_
          refine ex_seq_k fun K19 hK19 => ?_
          refine ex_region ttOK (by rfl) ?_
          refine rl_fieldAddr rfl tt_131 rfl rfl tt_3 rfl rfl ?_
          first | refine rl_load_ptr rfl tt_3 rfl rfl ?_ | refine rl_load_iel rfl tt_3 rfl ?_
          refine rl_fieldAddr rfl tt_131 rfl rfl tt_3 rfl rfl ?_
          first | refine rl_load_ptr rfl tt_3 rfl rfl ?_ | refine rl_load_iel rfl tt_3 rfl ?_
          refine rl_bin rfl rfl rfl ?_
          refine hK19 _ _ ?_
          clear hK19 K19
          refine ex_cond rfl (fun hc20 => ?_) (fun hc20 => ?_)
          · try simp at hc20
            refine ex_seq_k fun K21 hK21 => ?_
            refine ex_region ttOK (by rfl) ?_
            refine rl_assign rfl ?_
            refine hK21 _ _ ?_
            clear hK21 K21
            refine ex_ret ⟨.inr rfl, ?_⟩
            clear hK18 K18
            refine ret_pv rfl ?_ rfl
            first
            | exact kF (by intro h; subst h; simp_all)
            | exact kT (by cases a; cases b; simp_all)
          · try simp at hc20
            refine ex_skip ?_
            refine hK18 _ _ ?_
            clear hK18 K18
            refine ex_seq_k fun K22 hK22 => ?_
            refine ex_region ttOK (by rfl) ?_
            refine rl_assign rfl ?_
            refine hK22 _ _ ?_
            clear hK22 K22
            refine ex_ret ⟨.inr rfl, ?_⟩
            refine ret_pv rfl ?_ rfl
            first
            | exact kF (by intro h; subst h; simp_all)
            | exact kT (by cases a; cases b; simp_all)

theorem F_laws_eqState (a b : St) : Pure Try.prog 125 [.agg (encSt a), .agg (encSt b)] (.pv (.bool (decide (a = b)))) := by
  refine pure_of_ex ttOK (fn := Try.f125) (by kernel_rfl) (by kernel_rfl) rfl (outs := [.pv (.bool (decide (a = b)))]) (by rfl) (Nat.le_of_ble_eq_true rfl) 2 ?_
  refine ex_seq_k fun K1 hK1 => ?_
  refine ex_region ttOK (by rfl) ?_
  refine rl_boxA (id := 0) rfl rfl rfl ?_
  refine rl_boxA (id := 1) rfl rfl rfl ?_
  refine rl_assign rfl ?_
  refine hK1 _ _ ?_
  clear hK1 K1
  refine ex_seq_k fun K2 hK2 => ?_
  refine ex_seq_k fun K3 hK3 => ?_
  refine ex_region ttOK (by rfl) ?_
  refine rl_fieldAddr rfl tt_34 rfl rfl tt_3 rfl rfl ?_
  first | refine rl_load_ptr rfl tt_3 rfl rfl ?_ | refine rl_load_iel rfl tt_3 rfl ?_
  refine rl_fieldAddr rfl tt_34 rfl rfl tt_3 rfl rfl ?_
  first | refine rl_load_ptr rfl tt_3 rfl rfl ?_ | refine rl_load_iel rfl tt_3 rfl ?_
  refine rl_bin rfl rfl rfl ?_
  refine hK3 _ _ ?_
  clear hK3 K3
  refine ex_cond rfl (fun hc4 => ?_) (fun hc4 => ?_)
  · try simp at hc4
    refine ex_seq_k fun K5 hK5 => ?_
    refine ex_region ttOK (by rfl) ?_
    refine rl_assign rfl ?_
    refine hK5 _ _ ?_
    clear hK5 K5
    refine ex_ret ⟨.inr rfl, ?_⟩
    clear hK2 K2
    refine ret_pv rfl ?_ rfl
    first
    | exact kF (by intro h; subst h; simp_all)
    | exact kT (by cases a; cases b; simp_all)
  · try simp at hc4
    refine ex_skip ?_
    refine hK2 _ _ ?_
    clear hK2 K2
    refine ex_seq_k fun K6 hK6 => ?_
    refine ex_seq_k fun K7 hK7 => ?_
    refine ex_region ttOK (by rfl) ?_
    refine rl_fieldAddr rfl tt_34 rfl rfl tt_3 rfl rfl ?_
    first | refine rl_load_ptr rfl tt_3 rfl rfl ?_ | refine rl_load_iel rfl tt_3 rfl ?_
    refine rl_fieldAddr rfl tt_34 rfl rfl tt_3 rfl rfl ?_
    first | refine rl_load_ptr rfl tt_3 rfl rfl ?_ | refine rl_load_iel rfl tt_3 rfl ?_
    refine rl_bin rfl rfl rfl ?_
    refine hK7 _ _ ?_
    clear hK7 K7
    refine ex_cond rfl (fun hc8 => ?_) (fun hc8 => ?_)
    · try simp at hc8
      refine ex_seq_k fun K9 hK9 => ?_
      refine ex_region ttOK (by rfl) ?_
      refine rl_assign rfl ?_
      refine hK9 _ _ ?_
      clear hK9 K9
      refine ex_ret ⟨.inr rfl, ?_⟩
      clear hK6 K6
      refine ret_pv rfl ?_ rfl
      first
      | exact kF (by intro h; subst h; simp_all)
      | exact kT (by cases a; cases b; simp_all)
    · try simp at hc8
      refine ex_skip ?_
      refine hK6 _ _ ?_
      clear hK6 K6
      refine ex_seq_k fun K10 hK10 => ?_
      refine ex_seq_k fun K11 hK11 => ?_
      refine ex_region ttOK (by rfl) ?_
      refine rl_fieldAddr rfl tt_34 rfl rfl tt_3 rfl rfl ?_
      first | refine rl_load_ptr rfl tt_3 rfl rfl ?_ | refine rl_load_iel rfl tt_3 rfl ?_
      refine rl_fieldAddr rfl tt_34 rfl rfl tt_3 rfl rfl ?_
      first | refine rl_load_ptr rfl tt_3 rfl rfl ?_ | refine rl_load_iel rfl tt_3 rfl ?_
      refine rl_bin rfl rfl rfl ?_
      refine hK11 _ _ ?_
      clear hK11 K11
      refine ex_cond rfl (fun hc12 => ?_) (fun hc12 => ?_)
      · try simp at hc12
        refine ex_seq_k fun K13 hK13 => ?_
        refine ex_region ttOK (by rfl) ?_
        refine rl_assign rfl ?_
        refine hK13 _ _ ?_
        clear hK13 K13
        refine ex_ret ⟨.inr rfl, ?_⟩
        clear hK10 K10
        refine ret_pv rfl ?_ rfl
        first
        | exact kF (by intro h; subst h; simp_all)
        | exact kT (by cases a; cases b; simp_all)
      · try simp at hc12
        refine ex_skip ?_
        refine hK10 _ _ ?_
        clear hK10 K10
        refine ex_seq_k fun K14 hK14 => ?_
        refine ex_region ttOK (by rfl) ?_
        refine rl_assign rfl ?_
        refine hK14 _ _ ?_
        clear hK14 K14
        refine ex_ret ⟨.inr rfl, ?_⟩
        refine ret_pv rfl ?_ rfl
        first
        | exact kF (by intro h; subst h; simp_all)
        | exact kT (by cases a; cases b; simp_all)

theorem F_laws_eqIntS (c c' : Bool) (l l' : List Int) : Pure Try.prog 69 [rInts c l, rInts c' l'] (.pv (.bool (decide (l = l')))) := by
  refine pure_of_ex ttOK (fn := Try.f69) (by kernel_rfl) (by kernel_rfl) rfl (outs := [.pv (.bool (decide (l = l')))]) (by rfl) (Nat.le_of_ble_eq_true rfl) 0 ?_
  refine ex_rowlenm 0 rfl fun hlen => ?_
  refine ex_seq_k fun K1 hK1 => ?_
  refine ex_region ttOK (by rfl) ?_
  refine rl_assign rfl ?_
  refine hK1 _ _ ?_
  clear hK1 K1
  refine ex_seq_k fun K2 hK2 => ?_
  refine ex_seq_k fun K3 hK3 => ?_
  refine ex_region ttOK (by rfl) ?_
  refine rl_move rfl ?_
  first | refine rl_lenm rfl tt_29 rfl ?_ | refine rl_lenr rfl tt_29 rfl rfl (by first | exact List.length_map _ | rfl) ?_ | refine rl_len rfl tt_29 rfl rfl (by intro s hs; cases hs) rfl ?_
  refine rl_move rfl ?_
  first | refine rl_lenm rfl tt_29 rfl ?_ | refine rl_lenr rfl tt_29 rfl rfl (by first | exact List.length_map _ | rfl) ?_ | refine rl_len rfl tt_29 rfl rfl (by intro s hs; cases hs) rfl ?_
  refine rl_bin rfl rfl rfl ?_
  refine hK3 _ _ ?_
  clear hK3 K3
  refine ex_cond rfl (fun hc4 => ?_) (fun hc4 => ?_)
  · try simp at hc4
    refine ex_seq_k fun K5 hK5 => ?_
    refine ex_region ttOK (by rfl) ?_
    refine rl_assign rfl ?_
    refine hK5 _ _ ?_
    clear hK5 K5
    refine ex_ret ⟨.inr rfl, ?_⟩
    clear hK2 K2
    refine ret_pv rfl ?_ rfl
    first
    | exact eqF1 (by omega)
    | exact eqF2 hx hy (by first | assumption | (intro e; subst e; simp_all))
    | exact eqT h3 (by omega) (by omega)
  · try simp at hc4
    refine ex_skip ?_
    refine hK2 _ _ ?_
    clear hK2 K2
    refine ex_seq_k fun K6 hK6 => ?_
    refine ex_seq_k fun K7 hK7 => ?_
    refine ex_region ttOK (by rfl) ?_
    refine rl_assign rfl ?_
    refine hK7 _ _ ?_
    clear hK7 K7
    refine ex_block ?_
    refine ex_loopK (ι := Nat) (fun i γ1 => [(5, .pv (.int .i64 (i : Int)))]) (fun i γ1 => []) (fun i => i ≤ l.length ∧ l.length = l'.length ∧ l.take i = l'.take i) (fun i => l.length - i) (Cov.cons (t := 0) rfl (Cov.cons (t := 1) rfl Cov.nil)) HE.nil 0 ⟨by omega, by omega, rfl⟩ [] (Cov.cons (t := 5) rfl Cov.nil) HE.nil rfl fun i γ1 hi => ?_
    try dsimp only [List.cons_append, List.nil_append]
    obtain ⟨h1, h2, h3⟩ := hi
    refine ex_seq_k fun K8 hK8 => ?_
    refine ex_seq_k fun K9 hK9 => ?_
    refine ex_region ttOK (by rfl) ?_
    refine rl_move rfl ?_
    refine rl_move rfl ?_
    first | refine rl_lenm rfl tt_29 rfl ?_ | refine rl_lenr rfl tt_29 rfl rfl (by first | exact List.length_map _ | rfl) ?_ | refine rl_len rfl tt_29 rfl rfl (by intro s hs; cases hs) rfl ?_
    refine rl_bin rfl rfl rfl ?_
    refine hK9 _ _ ?_
    clear hK9 K9
    refine ex_cond rfl (fun hc10 => ?_) (fun hc10 => ?_)
    · try simp at hc10
      refine ex_skip ?_
      refine hK8 _ _ ?_
      clear hK8 K8
      refine ex_seq_k fun K11 hK11 => ?_
      refine ex_block ?_
      refine ex_seq_k fun K12 hK12 => ?_
      refine ex_region_any ttOK mixed (by rfl) ?_
      refine rl_move rfl ?_
      refine rl_move rfl ?_
      obtain ⟨x, hx⟩ : ∃ x, l[i]? = some x := ⟨_, List.getElem?_eq_getElem (by omega)⟩
      refine rl_idxm rfl rfl tt_29 rfl tt_3 rfl hx ?_
      first | refine rl_load_ptr rfl tt_3 rfl rfl ?_ | refine rl_load_iel rfl tt_3 rfl ?_
      refine rl_move rfl ?_
      refine rl_move rfl ?_
      obtain ⟨y, hy⟩ : ∃ y, l'[i]? = some y := ⟨_, List.getElem?_eq_getElem (by omega)⟩
      refine rl_idxm rfl rfl tt_29 rfl tt_3 rfl hy ?_
      first | refine rl_load_ptr rfl tt_3 rfl rfl ?_ | refine rl_load_iel rfl tt_3 rfl ?_
      refine rl_bin rfl rfl rfl ?_
      refine ⟨by kernel_rfl, ?_⟩
      refine hK12 _ _ ?_
      clear hK12 K12
      refine ex_cond rfl (fun hc13 => ?_) (fun hc13 => ?_)
      · try simp at hc13
        refine ex_seq_k fun K14 hK14 => ?_
        refine ex_region ttOK (by rfl) ?_
        refine rl_assign rfl ?_
        refine hK14 _ _ ?_
        clear hK14 K14
        refine ex_ret ⟨.inr rfl, ?_⟩
        clear hK11 K11 hK6 K6
        refine ret_pv rfl ?_ rfl
        first
        | exact eqF1 (by omega)
        | exact eqF2 hx hy (by first | assumption | (intro e; subst e; simp_all))
        | exact eqT h3 (by omega) (by omega)
      · try simp at hc13
        refine ex_skip ?_
        refine hK11 _ _ ?_
        clear hK11 K11
        refine ex_region ttOK (by rfl) ?_
        refine rl_move rfl ?_
        refine rl_binE (.int .i64 ((i + 1 : Nat) : Int)) rfl rfl rfl (wrapE rfl (by omega) (by omega) (by have := hlen; omega)) ?_
        refine rl_assign rfl ?_
        exact ⟨i + 1, ⟨⟨by omega, h2, take_step h3 hx hy (by first | assumption | (cases x; cases y; simp_all))⟩, by omega⟩, [], (Cov.cons (t := 5) rfl Cov.nil), (Cov.cons (t := 0) rfl (Cov.cons (t := 1) rfl Cov.nil)), HE.nil, HE.nil, rfl⟩
    · try simp at hc10
      refine ex_exit ?_
      refine hK6 _ _ ?_
      clear hK8 K8 hK6 K6
      refine ex_seq_k fun K15 hK15 => ?_
      refine ex_region ttOK (by rfl) ?_
      refine rl_assign rfl ?_
      refine hK15 _ _ ?_
      clear hK15 K15
      refine ex_ret ⟨.inr rfl, ?_⟩
      refine ret_pv rfl ?_ rfl
      first
      | exact eqF1 (by omega)
      | exact eqF2 hx hy (by first | assumption | (intro e; subst e; simp_all))
      | exact eqT h3 (by omega) (by omega)

theorem F_laws_eqEventS (c c' : Bool) (l l' : List Ev) : Pure Try.prog 66 [rEvs c l, rEvs c' l'] (.pv (.bool (decide (l = l')))) := by
  refine pure_of_ex ttOK (fn := Try.f66) (by kernel_rfl) (by kernel_rfl) rfl (outs := [.pv (.bool (decide (l = l')))]) (by rfl) (Nat.le_of_ble_eq_true rfl) 0 ?_
  refine ex_rowlenm 0 rfl fun hlen => ?_
  refine ex_seq_k fun K1 hK1 => ?_
  refine ex_region ttOK (by rfl) ?_
  refine rl_assign rfl ?_
  refine hK1 _ _ ?_
  clear hK1 K1
  refine ex_seq_k fun K2 hK2 => ?_
  refine ex_seq_k fun K3 hK3 => ?_
  refine ex_region ttOK (by rfl) ?_
  refine rl_move rfl ?_
  first | refine rl_lenm rfl tt_26 rfl ?_ | refine rl_lenr rfl tt_26 rfl rfl (by first | exact List.length_map _ | rfl) ?_ | refine rl_len rfl tt_26 rfl rfl (by intro s hs; cases hs) rfl ?_
  refine rl_move rfl ?_
  first | refine rl_lenm rfl tt_26 rfl ?_ | refine rl_lenr rfl tt_26 rfl rfl (by first | exact List.length_map _ | rfl) ?_ | refine rl_len rfl tt_26 rfl rfl (by intro s hs; cases hs) rfl ?_
  refine rl_bin rfl rfl rfl ?_
  refine hK3 _ _ ?_
  clear hK3 K3
  refine ex_cond rfl (fun hc4 => ?_) (fun hc4 => ?_)
  · try simp at hc4
    refine ex_seq_k fun K5 hK5 => ?_
    refine ex_region ttOK (by rfl) ?_
    refine rl_assign rfl ?_
    refine hK5 _ _ ?_
    clear hK5 K5
    refine ex_ret ⟨.inr rfl, ?_⟩
    clear hK2 K2
    refine ret_pv rfl ?_ rfl
    first
    | exact eqF1 (by omega)
    | exact eqF2 hx hy (by first | assumption | (intro e; subst e; simp_all))
    | exact eqT h3 (by omega) (by omega)
  · try simp at hc4
    refine ex_skip ?_
    refine hK2 _ _ ?_
    clear hK2 K2
    refine ex_seq_k fun K6 hK6 => ?_
    refine ex_seq_k fun K7 hK7 => ?_
    refine ex_region ttOK (by rfl) ?_
    refine rl_assign rfl ?_
    refine hK7 _ _ ?_
    clear hK7 K7
    refine ex_block ?_
    refine ex_loopK (ι := Nat) (fun i γ1 => [(5, .pv (.int .i64 (i : Int)))]) (fun i γ1 => []) (fun i => i ≤ l.length ∧ l.length = l'.length ∧ l.take i = l'.take i) (fun i => l.length - i) (Cov.cons (t := 0) rfl (Cov.cons (t := 1) rfl Cov.nil)) HE.nil 0 ⟨by omega, by omega, rfl⟩ [] (Cov.cons (t := 5) rfl Cov.nil) HE.nil rfl fun i γ1 hi => ?_
    try dsimp only [List.cons_append, List.nil_append]
    obtain ⟨h1, h2, h3⟩ := hi
    refine ex_seq_k fun K8 hK8 => ?_
    refine ex_seq_k fun K9 hK9 => ?_
    refine ex_region ttOK (by rfl) ?_
    refine rl_move rfl ?_
    refine rl_move rfl ?_
    first | refine rl_lenm rfl tt_26 rfl ?_ | refine rl_lenr rfl tt_26 rfl rfl (by first | exact List.length_map _ | rfl) ?_ | refine rl_len rfl tt_26 rfl rfl (by intro s hs; cases hs) rfl ?_
    refine rl_bin rfl rfl rfl ?_
    refine hK9 _ _ ?_
    clear hK9 K9
    refine ex_cond rfl (fun hc10 => ?_) (fun hc10 => ?_)
    · try simp at hc10
      refine ex_skip ?_
      refine hK8 _ _ ?_
      clear hK8 K8
      refine ex_seq_k fun K11 hK11 => ?_
      refine ex_block ?_
      refine ex_seq_k fun K12 hK12 => ?_
      refine ex_region_any ttOK mixed (by rfl) ?_
      refine rl_move rfl ?_
      refine rl_move rfl ?_
      obtain ⟨x, hx⟩ : ∃ x, l[i]? = some x := ⟨_, List.getElem?_eq_getElem (by omega)⟩
      refine rl_idxm rfl rfl tt_26 rfl tt_60 rfl hx ?_
      first | refine rl_loadA_ptr rfl tt_60 rfl rfl rfl ?_ | refine rl_loadA_iel rfl tt_60 rfl rfl ?_ | refine rl_load_ptr rfl tt_60 rfl rfl ?_ | refine rl_load_iel rfl tt_60 rfl ?_ | refine rl_loadEA rfl tt_60 rfl (by assumption) rfl rfl ?_
      refine rl_move rfl ?_
      refine rl_move rfl ?_
      obtain ⟨y, hy⟩ : ∃ y, l'[i]? = some y := ⟨_, List.getElem?_eq_getElem (by omega)⟩
      refine rl_idxm rfl rfl tt_26 rfl tt_60 rfl hy ?_
      first | refine rl_loadA_ptr rfl tt_60 rfl rfl rfl ?_ | refine rl_loadA_iel rfl tt_60 rfl rfl ?_ | refine rl_load_ptr rfl tt_60 rfl rfl ?_ | refine rl_load_iel rfl tt_60 rfl ?_ | refine rl_loadEA rfl tt_60 rfl (by assumption) rfl rfl ?_
      refine rl_call rfl rfl rfl (F_laws_eqEvent ..) ?_
      refine rl_not rfl ?_
      refine ⟨by kernel_rfl, ?_⟩
      refine hK12 _ _ ?_
      clear hK12 K12
      refine ex_cond rfl (fun hc13 => ?_) (fun hc13 => ?_)
      · try simp at hc13
        refine ex_seq_k fun K14 hK14 => ?_
        refine ex_region ttOK (by rfl) ?_
        refine rl_assign rfl ?_
        refine hK14 _ _ ?_
        clear hK14 K14
        refine ex_ret ⟨.inr rfl, ?_⟩
        clear hK11 K11 hK6 K6
        refine ret_pv rfl ?_ rfl
        first
        | exact eqF1 (by omega)
        | exact eqF2 hx hy (by first | assumption | (intro e; subst e; simp_all))
        | exact eqT h3 (by omega) (by omega)
      · try simp at hc13
        refine ex_skip ?_
        refine hK11 _ _ ?_
        clear hK11 K11
        refine ex_region ttOK (by rfl) ?_
        refine rl_move rfl ?_
        refine rl_binE (.int .i64 ((i + 1 : Nat) : Int)) rfl rfl rfl (wrapE rfl (by omega) (by omega) (by have := hlen; omega)) ?_
        refine rl_assign rfl ?_
        exact ⟨i + 1, ⟨⟨by omega, h2, take_step h3 hx hy (by first | assumption | (cases x; cases y; simp_all))⟩, by omega⟩, [], (Cov.cons (t := 5) rfl Cov.nil), (Cov.cons (t := 0) rfl (Cov.cons (t := 1) rfl Cov.nil)), HE.nil, HE.nil, rfl⟩
    · try simp at hc10
      refine ex_exit ?_
      refine hK6 _ _ ?_
      clear hK8 K8 hK6 K6
      refine ex_seq_k fun K15 hK15 => ?_
      refine ex_region ttOK (by rfl) ?_
      refine rl_assign rfl ?_
      refine hK15 _ _ ?_
      clear hK15 K15
      refine ex_ret ⟨.inr rfl, ?_⟩
      refine ret_pv rfl ?_ rfl
      first
      | exact eqF1 (by omega)
      | exact eqF2 hx hy (by first | assumption | (intro e; subst e; simp_all))
      | exact eqT h3 (by omega) (by omega)

theorem F_laws_eqOutS (c c' : Bool) (l l' : List Ou) : Pure Try.prog 67 [rOus c l, rOus c' l'] (.pv (.bool (decide (l = l')))) := by
  refine pure_of_ex ttOK (fn := Try.f67) (by kernel_rfl) (by kernel_rfl) rfl (outs := [.pv (.bool (decide (l = l')))]) (by rfl) (Nat.le_of_ble_eq_true rfl) 0 ?_
  refine ex_rowlenm 0 rfl fun hlen => ?_
  refine ex_seq_k fun K1 hK1 => ?_
  refine ex_region ttOK (by rfl) ?_
  refine rl_assign rfl ?_
  refine hK1 _ _ ?_
  clear hK1 K1
  refine ex_seq_k fun K2 hK2 => ?_
  refine ex_seq_k fun K3 hK3 => ?_
  refine ex_region ttOK (by rfl) ?_
  refine rl_move rfl ?_
  first | refine rl_lenm rfl tt_27 rfl ?_ | refine rl_lenr rfl tt_27 rfl rfl (by first | exact List.length_map _ | rfl) ?_ | refine rl_len rfl tt_27 rfl rfl (by intro s hs; cases hs) rfl ?_
  refine rl_move rfl ?_
  first | refine rl_lenm rfl tt_27 rfl ?_ | refine rl_lenr rfl tt_27 rfl rfl (by first | exact List.length_map _ | rfl) ?_ | refine rl_len rfl tt_27 rfl rfl (by intro s hs; cases hs) rfl ?_
  refine rl_bin rfl rfl rfl ?_
  refine hK3 _ _ ?_
  clear hK3 K3
  refine ex_cond rfl (fun hc4 => ?_) (fun hc4 => ?_)
  · try simp at hc4
    refine ex_seq_k fun K5 hK5 => ?_
    refine ex_region ttOK (by rfl) ?_
    refine rl_assign rfl ?_
    refine hK5 _ _ ?_
    clear hK5 K5
    refine ex_ret ⟨.inr rfl, ?_⟩
    clear hK2 K2
    refine ret_pv rfl ?_ rfl
    first
    | exact eqF1 (by omega)
    | exact eqF2 hx hy (by first | assumption | (intro e; subst e; simp_all))
    | exact eqT h3 (by omega) (by omega)
  · try simp at hc4
    refine ex_skip ?_
    refine hK2 _ _ ?_
    clear hK2 K2
    refine ex_seq_k fun K6 hK6 => ?_
    refine ex_seq_k fun K7 hK7 => ?_
    refine ex_region ttOK (by rfl) ?_
    refine rl_assign rfl ?_
    refine hK7 _ _ ?_
    clear hK7 K7
    refine ex_block ?_
    refine ex_loopK (ι := Nat) (fun i γ1 => [(5, .pv (.int .i64 (i : Int)))]) (fun i γ1 => []) (fun i => i ≤ l.length ∧ l.length = l'.length ∧ l.take i = l'.take i) (fun i => l.length - i) (Cov.cons (t := 0) rfl (Cov.cons (t := 1) rfl Cov.nil)) HE.nil 0 ⟨by omega, by omega, rfl⟩ [] (Cov.cons (t := 5) rfl Cov.nil) HE.nil rfl fun i γ1 hi => ?_
    try dsimp only [List.cons_append, List.nil_append]
    obtain ⟨h1, h2, h3⟩ := hi
    refine ex_seq_k fun K8 hK8 => ?_
    refine ex_seq_k fun K9 hK9 => ?_
    refine ex_region ttOK (by rfl) ?_
    refine rl_move rfl ?_
    refine rl_move rfl ?_
    first | refine rl_lenm rfl tt_27 rfl ?_ | refine rl_lenr rfl tt_27 rfl rfl (by first | exact List.length_map _ | rfl) ?_ | refine rl_len rfl tt_27 rfl rfl (by intro s hs; cases hs) rfl ?_
    refine rl_bin rfl rfl rfl ?_
    refine hK9 _ _ ?_
    clear hK9 K9
    refine ex_cond rfl (fun hc10 => ?_) (fun hc10 => ?_)
    · try simp at hc10
      refine ex_skip ?_
      refine hK8 _ _ ?_
      clear hK8 K8
      refine ex_seq_k fun K11 hK11 => ?_
      refine ex_block ?_
      refine ex_seq_k fun K12 hK12 => ?_
      refine ex_region_any ttOK mixed (by rfl) ?_
      refine rl_move rfl ?_
      refine rl_move rfl ?_
      obtain ⟨x, hx⟩ : ∃ x, l[i]? = some x := ⟨_, List.getElem?_eq_getElem (by omega)⟩
      refine rl_idxm rfl rfl tt_27 rfl tt_131 rfl hx ?_
      first | refine rl_loadA_ptr rfl tt_131 rfl rfl rfl ?_ | refine rl_loadA_iel rfl tt_131 rfl rfl ?_ | refine rl_load_ptr rfl tt_131 rfl rfl ?_ | refine rl_load_iel rfl tt_131 rfl ?_ | refine rl_loadEA rfl tt_131 rfl (by assumption) rfl rfl ?_
      refine rl_move rfl ?_
      refine rl_move rfl ?_
      obtain ⟨y, hy⟩ : ∃ y, l'[i]? = some y := ⟨_, List.getElem?_eq_getElem (by omega)⟩
      refine rl_idxm rfl rfl tt_27 rfl tt_131 rfl hy ?_
      first | refine rl_loadA_ptr rfl tt_131 rfl rfl rfl ?_ | refine rl_loadA_iel rfl tt_131 rfl rfl ?_ | refine rl_load_ptr rfl tt_131 rfl rfl ?_ | refine rl_load_iel rfl tt_131 rfl ?_ | refine rl_loadEA rfl tt_131 rfl (by assumption) rfl rfl ?_
      refine rl_call rfl rfl rfl (F_laws_eqOut ..) ?_
      refine rl_not rfl ?_
      refine ⟨by kernel_rfl, ?_⟩
      refine hK12 _ _ ?_
      clear hK12 K12
      refine ex_cond rfl (fun hc13 => ?_) (fun hc13 => ?_)
      · try simp at hc13
        refine ex_seq_k fun K14 hK14 => ?_
        refine ex_region ttOK (by rfl) ?_
        refine rl_assign rfl ?_
        refine hK14 _ _ ?_
        clear hK14 K14
        refine ex_ret ⟨.inr rfl, ?_⟩
        clear hK11 K11 hK6 K6
        refine ret_pv rfl ?_ rfl
        first
        | exact eqF1 (by omega)
        | exact eqF2 hx hy (by first | assumption | (intro e; subst e; simp_all))
        | exact eqT h3 (by omega) (by omega)
      · try simp at hc13
        refine ex_skip ?_
        refine hK11 _ _ ?_
        clear hK11 K11
        refine ex_region ttOK (by rfl) ?_
        refine rl_move rfl ?_
        refine rl_binE (.int .i64 ((i + 1 : Nat) : Int)) rfl rfl rfl (wrapE rfl (by omega) (by omega) (by have := hlen; omega)) ?_
        refine rl_assign rfl ?_
        exact ⟨i + 1, ⟨⟨by omega, h2, take_step h3 hx hy (by first | assumption | (cases x; cases y; simp_all))⟩, by omega⟩, [], (Cov.cons (t := 5) rfl Cov.nil), (Cov.cons (t := 0) rfl (Cov.cons (t := 1) rfl Cov.nil)), HE.nil, HE.nil, rfl⟩
    · try simp at hc10
      refine ex_exit ?_
      refine hK6 _ _ ?_
      clear hK8 K8 hK6 K6
      refine ex_seq_k fun K15 hK15 => ?_
      refine ex_region ttOK (by rfl) ?_
      refine rl_assign rfl ?_
      refine hK15 _ _ ?_
      clear hK15 K15
      refine ex_ret ⟨.inr rfl, ?_⟩
      refine ret_pv rfl ?_ rfl
      first
      | exact eqF1 (by omega)
      | exact eqF2 hx hy (by first | assumption | (intro e; subst e; simp_all))
      | exact eqT h3 (by omega) (by omega)

theorem F_laws_eqPast (c c' : Bool) (a b : Pa) : Pure Try.prog 130 [.agg (encPa c a), .agg (encPa c' b)] (.pv (.bool (decide (a = b)))) := by
  refine pure_of_ex ttOK (fn := Try.f130) (by kernel_rfl) (by kernel_rfl) rfl (outs := [.pv (.bool (decide (a = b)))]) (by rfl) (Nat.le_of_ble_eq_true rfl) 2 ?_
  refine ex_seq_k fun K1 hK1 => ?_
  refine ex_region ttOK (by rfl) ?_
  refine rl_boxA (id := 0) rfl rfl rfl ?_
  refine rl_boxA (id := 1) rfl rfl rfl ?_
  refine rl_assign rfl ?_
  refine hK1 _ _ ?_
  clear hK1 K1
  refine ex_seq_k fun K2 hK2 => ?_
  refine ex_seq_k fun K3 hK3 => ?_
  refine ex_region ttOK (by rfl) ?_
  refine rl_fieldAddr rfl tt_154 rfl rfl tt_60 rfl rfl ?_
  refine rl_load_ptr (out := .agg (encEv a.ev)) rfl tt_60 rfl rfl ?_
  refine rl_fieldAddr rfl tt_154 rfl rfl tt_60 rfl rfl ?_
  refine rl_load_ptr (out := .agg (encEv b.ev)) rfl tt_60 rfl rfl ?_
  refine rl_call rfl rfl rfl (F_laws_eqEvent ..) ?_
  refine rl_not rfl ?_
  refine hK3 _ _ ?_
  clear hK3 K3
  refine ex_cond rfl (fun hc4 => ?_) (fun hc4 => ?_)
  · try simp at hc4
    refine ex_seq_k fun K5 hK5 => ?_
    refine ex_region ttOK (by rfl) ?_
    refine rl_assign rfl ?_
    refine hK5 _ _ ?_
    clear hK5 K5
    refine ex_ret ⟨.inr rfl, ?_⟩
    clear hK2 K2
    refine ret_pv rfl ?_ rfl
    first
    | exact kF (by intro h; subst h; simp_all)
    | exact kT (by cases a; cases b; simp_all)
  · try simp at hc4
    refine ex_skip ?_
    refine hK2 _ _ ?_
    clear hK2 K2
    refine ex_seq_k fun K6 hK6 => ?_
    refine ex_seq_k fun K7 hK7 => ?_
    refine ex_region ttOK (by rfl) ?_
    refine rl_fieldAddr rfl tt_154 rfl rfl tt_34 rfl rfl ?_
    refine rl_load_ptr (out := .agg (encSt a.after)) rfl tt_34 rfl rfl ?_
    refine rl_fieldAddr rfl tt_154 rfl rfl tt_34 rfl rfl ?_
    refine rl_load_ptr (out := .agg (encSt b.after)) rfl tt_34 rfl rfl ?_
    refine rl_call rfl rfl rfl (F_laws_eqState ..) ?_
    refine rl_not rfl ?_
    refine hK7 _ _ ?_
    clear hK7 K7
    refine ex_cond rfl (fun hc8 => ?_) (fun hc8 => ?_)
    · try simp at hc8
      refine ex_seq_k fun K9 hK9 => ?_
      refine ex_region ttOK (by rfl) ?_
      refine rl_assign rfl ?_
      refine hK9 _ _ ?_
      clear hK9 K9
      refine ex_ret ⟨.inr rfl, ?_⟩
      clear hK6 K6
      refine ret_pv rfl ?_ rfl
      first
      | exact kF (by intro h; subst h; simp_all)
      | exact kT (by cases a; cases b; simp_all)
    · try simp at hc8
      refine ex_skip ?_
      refine hK6 _ _ ?_
      clear hK6 K6
      refine ex_seq_k fun K10 hK10 => ?_
      refine ex_seq_k fun K11 hK11 => ?_
      refine ex_region ttOK (by rfl) ?_
      refine rl_fieldAddr rfl tt_154 rfl rfl tt_26 rfl rfl ?_
      first | refine rl_load_ptr rfl tt_26 rfl rfl ?_ | refine rl_load_iel rfl tt_26 rfl ?_
      refine rl_fieldAddr rfl tt_154 rfl rfl tt_26 rfl rfl ?_
      first | refine rl_load_ptr rfl tt_26 rfl rfl ?_ | refine rl_load_iel rfl tt_26 rfl ?_
      refine rl_call rfl rfl rfl (F_laws_eqEventS ..) ?_
      refine rl_not rfl ?_
      refine hK11 _ _ ?_
      clear hK11 K11
      refine ex_cond rfl (fun hc12 => ?_) (fun hc12 => ?_)
      · try simp at hc12
        refine ex_seq_k fun K13 hK13 => ?_
        refine ex_region ttOK (by rfl) ?_
        refine rl_assign rfl ?_
        refine hK13 _ _ ?_
        clear hK13 K13
        refine ex_ret ⟨.inr rfl, ?_⟩
        clear hK10 K10
        refine ret_pv rfl ?_ rfl
        first
        | exact kF (by intro h; subst h; simp_all)
        | exact kT (by cases a; cases b; simp_all)
      · try simp at hc12
        refine ex_skip ?_
        refine hK10 _ _ ?_
        clear hK10 K10
        refine ex_seq_k fun K14 hK14 => ?_
        refine ex_seq_k fun K15 hK15 => ?_
        refine ex_region ttOK (by rfl) ?_
        refine rl_fieldAddr rfl tt_154 rfl rfl tt_27 rfl rfl ?_
        first | refine rl_load_ptr rfl tt_27 rfl rfl ?_ | refine rl_load_iel rfl tt_27 rfl ?_
        refine rl_fieldAddr rfl tt_154 rfl rfl tt_27 rfl rfl ?_
        first | refine rl_load_ptr rfl tt_27 rfl rfl ?_ | refine rl_load_iel rfl tt_27 rfl ?_
        refine rl_call rfl rfl rfl (F_laws_eqOutS ..) ?_
        refine rl_not rfl ?_
        refine hK15 _ _ ?_
        clear hK15 K15
        refine ex_cond rfl (fun hc16 => ?_) (fun hc16 => ?_)
        · try simp at hc16
          refine ex_seq_k fun K17 hK17 => ?_
          refine ex_region ttOK (by rfl) ?_
          refine rl_assign rfl ?_
          refine hK17 _ _ ?_
          clear hK17 K17
          refine ex_ret ⟨.inr rfl, ?_⟩
          clear hK14 K14
          refine ret_pv rfl ?_ rfl
          first
          | exact kF (by intro h; subst h; simp_all)
          | exact kT (by cases a; cases b; simp_all)
        · try simp at hc16
          refine ex_skip ?_
          refine hK14 _ _ ?_
          clear hK14 K14
          refine ex_seq_k fun K18 hK18 => ?_
          refine ex_region ttOK (by rfl) ?_
          refine rl_assign rfl ?_
          refine hK18 _ _ ?_
          clear hK18 K18
          refine ex_ret ⟨.inr rfl, ?_⟩
          refine ret_pv rfl ?_ rfl
          first
          | exact kF (by intro h; subst h; simp_all)
          | exact kT (by cases a; cases b; simp_all)

theorem F_laws_eqPastS (c c' : Bool) (l l' : List Pa) : Pure Try.prog 126 [rPas c l, rPas c' l'] (.pv (.bool (decide (l = l')))) := by
  refine pure_of_ex ttOK (fn := Try.f126) (by kernel_rfl) (by kernel_rfl) rfl (outs := [.pv (.bool (decide (l = l')))]) (by rfl) (Nat.le_of_ble_eq_true rfl) 0 ?_
  refine ex_rowlenm 0 rfl fun hlen => ?_
  refine ex_seq_k fun K1 hK1 => ?_
  refine ex_region ttOK (by rfl) ?_
  refine rl_assign rfl ?_
  refine hK1 _ _ ?_
  clear hK1 K1
  refine ex_seq_k fun K2 hK2 => ?_
  refine ex_seq_k fun K3 hK3 => ?_
  refine ex_region ttOK (by rfl) ?_
  refine rl_move rfl ?_
  first | refine rl_lenm rfl tt_35 rfl ?_ | refine rl_lenr rfl tt_35 rfl rfl (by first | exact List.length_map _ | rfl) ?_ | refine rl_len rfl tt_35 rfl rfl (by intro s hs; cases hs) rfl ?_
  refine rl_move rfl ?_
  first | refine rl_lenm rfl tt_35 rfl ?_ | refine rl_lenr rfl tt_35 rfl rfl (by first | exact List.length_map _ | rfl) ?_ | refine rl_len rfl tt_35 rfl rfl (by intro s hs; cases hs) rfl ?_
  refine rl_bin rfl rfl rfl ?_
  refine hK3 _ _ ?_
  clear hK3 K3
  refine ex_cond rfl (fun hc4 => ?_) (fun hc4 => ?_)
  · try simp at hc4
    refine ex_seq_k fun K5 hK5 => ?_
    refine ex_region ttOK (by rfl) ?_
    refine rl_assign rfl ?_
    refine hK5 _ _ ?_
    clear hK5 K5
    refine ex_ret ⟨.inr rfl, ?_⟩
    clear hK2 K2
    refine ret_pv rfl ?_ rfl
    first
    | exact eqF1 (by omega)
    | exact eqF2 hx hy (by first | assumption | (intro e; subst e; simp_all))
    | exact eqT h3 (by omega) (by omega)
  · try simp at hc4
    refine ex_skip ?_
    refine hK2 _ _ ?_
    clear hK2 K2
    refine ex_seq_k fun K6 hK6 => ?_
    refine ex_seq_k fun K7 hK7 => ?_
    refine ex_region ttOK (by rfl) ?_
    refine rl_assign rfl ?_
    refine hK7 _ _ ?_
    clear hK7 K7
    refine ex_block ?_
    refine ex_loopK (ι := Nat) (fun i γ1 => [(5, .pv (.int .i64 (i : Int)))]) (fun i γ1 => []) (fun i => i ≤ l.length ∧ l.length = l'.length ∧ l.take i = l'.take i) (fun i => l.length - i) (Cov.cons (t := 0) rfl (Cov.cons (t := 1) rfl Cov.nil)) HE.nil 0 ⟨by omega, by omega, rfl⟩ [] (Cov.cons (t := 5) rfl Cov.nil) HE.nil rfl fun i γ1 hi => ?_
    try dsimp only [List.cons_append, List.nil_append]
    obtain ⟨h1, h2, h3⟩ := hi
    refine ex_seq_k fun K8 hK8 => ?_
    refine ex_seq_k fun K9 hK9 => ?_
    refine ex_region ttOK (by rfl) ?_
    refine rl_move rfl ?_
    refine rl_move rfl ?_
    first | refine rl_lenm rfl tt_35 rfl ?_ | refine rl_lenr rfl tt_35 rfl rfl (by first | exact List.length_map _ | rfl) ?_ | refine rl_len rfl tt_35 rfl rfl (by intro s hs; cases hs) rfl ?_
    refine rl_bin rfl rfl rfl ?_
    refine hK9 _ _ ?_
    clear hK9 K9
    refine ex_cond rfl (fun hc10 => ?_) (fun hc10 => ?_)
    · try simp at hc10
      refine ex_skip ?_
      refine hK8 _ _ ?_
      clear hK8 K8
      refine ex_seq_k fun K11 hK11 => ?_
      refine ex_block ?_
      refine ex_seq_k fun K12 hK12 => ?_
      refine ex_region_any ttOK mixed (by rfl) ?_
      refine rl_move rfl ?_
      refine rl_move rfl ?_
      obtain ⟨x, hx⟩ : ∃ x, l[i]? = some x := ⟨_, List.getElem?_eq_getElem (by omega)⟩
      refine rl_idxm rfl rfl tt_35 rfl tt_154 rfl hx ?_
      first | refine rl_loadA_ptr rfl tt_154 rfl rfl rfl ?_ | refine rl_loadA_iel rfl tt_154 rfl rfl ?_ | refine rl_load_ptr rfl tt_154 rfl rfl ?_ | refine rl_load_iel rfl tt_154 rfl ?_ | refine rl_loadEA rfl tt_154 rfl (by assumption) rfl rfl ?_
      refine rl_move rfl ?_
      refine rl_move rfl ?_
      obtain ⟨y, hy⟩ : ∃ y, l'[i]? = some y := ⟨_, List.getElem?_eq_getElem (by omega)⟩
      refine rl_idxm rfl rfl tt_35 rfl tt_154 rfl hy ?_
      first | refine rl_loadA_ptr rfl tt_154 rfl rfl rfl ?_ | refine rl_loadA_iel rfl tt_154 rfl rfl ?_ | refine rl_load_ptr rfl tt_154 rfl rfl ?_ | refine rl_load_iel rfl tt_154 rfl ?_ | refine rl_loadEA rfl tt_154 rfl (by assumption) rfl rfl ?_
      refine rl_call rfl rfl rfl (F_laws_eqPast ..) ?_
      refine rl_not rfl ?_
      refine ⟨by kernel_rfl, ?_⟩
      refine hK12 _ _ ?_
      clear hK12 K12
      refine ex_cond rfl (fun hc13 => ?_) (fun hc13 => ?_)
      · try simp at hc13
        refine ex_seq_k fun K14 hK14 => ?_
        refine ex_region ttOK (by rfl) ?_
        refine rl_assign rfl ?_
        refine hK14 _ _ ?_
        clear hK14 K14
        refine ex_ret ⟨.inr rfl, ?_⟩
        clear hK11 K11 hK6 K6
        refine ret_pv rfl ?_ rfl
        first
        | exact eqF1 (by omega)
        | exact eqF2 hx hy (by first | assumption | (intro e; subst e; simp_all))
        | exact eqT h3 (by omega) (by omega)
      · try simp at hc13
        refine ex_skip ?_
        refine hK11 _ _ ?_
        clear hK11 K11
        refine ex_region ttOK (by rfl) ?_
        refine rl_move rfl ?_
        refine rl_binE (.int .i64 ((i + 1 : Nat) : Int)) rfl rfl rfl (wrapE rfl (by omega) (by omega) (by have := hlen; omega)) ?_
        refine rl_assign rfl ?_
        exact ⟨i + 1, ⟨⟨by omega, h2, take_step h3 hx hy (by first | assumption | (cases x; cases y; simp_all))⟩, by omega⟩, [], (Cov.cons (t := 5) rfl Cov.nil), (Cov.cons (t := 0) rfl (Cov.cons (t := 1) rfl Cov.nil)), HE.nil, HE.nil, rfl⟩
    · try simp at hc10
      refine ex_exit ?_
      refine hK6 _ _ ?_
      clear hK8 K8 hK6 K6
      refine ex_seq_k fun K15 hK15 => ?_
      refine ex_region ttOK (by rfl) ?_
      refine rl_assign rfl ?_
      refine hK15 _ _ ?_
      clear hK15 K15
      refine ex_ret ⟨.inr rfl, ?_⟩
      refine ret_pv rfl ?_ rfl
      first
      | exact eqF1 (by omega)
      | exact eqF2 hx hy (by first | assumption | (intro e; subst e; simp_all))
      | exact eqT h3 (by omega) (by omega)

theorem F_laws_eqLane (c c' : Bool) (a b : La) : Pure Try.prog 108 [.agg (encLa c a), .agg (encLa c' b)] (.pv (.bool (decide (a = b)))) := by
  refine pure_of_ex ttOK (fn := Try.f108) (by kernel_rfl) (by kernel_rfl) rfl (outs := [.pv (.bool (decide (a = b)))]) (by rfl) (Nat.le_of_ble_eq_true rfl) 2 ?_
  refine ex_seq_k fun K1 hK1 => ?_
  refine ex_region ttOK (by rfl) ?_
  refine rl_boxA (id := 0) rfl rfl rfl ?_
  refine rl_boxA (id := 1) rfl rfl rfl ?_
  refine rl_assign rfl ?_
  refine hK1 _ _ ?_
  clear hK1 K1
  refine ex_seq_k fun K2 hK2 => ?_
  refine ex_seq_k fun K3 hK3 => ?_
  refine ex_region ttOK (by rfl) ?_
  refine rl_fieldAddr rfl tt_37 rfl rfl tt_3 rfl rfl ?_
  first | refine rl_load_ptr rfl tt_3 rfl rfl ?_ | refine rl_load_iel rfl tt_3 rfl ?_
  refine rl_fieldAddr rfl tt_37 rfl rfl tt_3 rfl rfl ?_
  first | refine rl_load_ptr rfl tt_3 rfl rfl ?_ | refine rl_load_iel rfl tt_3 rfl ?_
  refine rl_bin rfl rfl rfl ?_
  refine hK3 _ _ ?_
  clear hK3 K3
  refine ex_cond rfl (fun hc4 => ?_) (fun hc4 => ?_)
  · try simp at hc4
    refine ex_seq_k fun K5 hK5 => ?_
    refine ex_region ttOK (by rfl) ?_
    refine rl_assign rfl ?_
    refine hK5 _ _ ?_
    clear hK5 K5
    refine ex_ret ⟨.inr rfl, ?_⟩
    clear hK2 K2
    refine ret_pv rfl ?_ rfl
    first
    | exact kF (by intro h; subst h; simp_all)
    | exact kT (by cases a; cases b; simp_all)
  · try simp at hc4
    refine ex_skip ?_
    refine hK2 _ _ ?_
    clear hK2 K2
    refine ex_seq_k fun K6 hK6 => ?_
    refine ex_seq_k fun K7 hK7 => ?_
    refine ex_region ttOK (by rfl) ?_
    refine rl_fieldAddr rfl tt_37 rfl rfl tt_34 rfl rfl ?_
    refine rl_load_ptr (out := .agg (encSt a.base)) rfl tt_34 rfl rfl ?_
    refine rl_fieldAddr rfl tt_37 rfl rfl tt_34 rfl rfl ?_
    refine rl_load_ptr (out := .agg (encSt b.base)) rfl tt_34 rfl rfl ?_
    refine rl_call rfl rfl rfl (F_laws_eqState ..) ?_
    refine rl_not rfl ?_
    refine hK7 _ _ ?_
    clear hK7 K7
    refine ex_cond rfl (fun hc8 => ?_) (fun hc8 => ?_)
    · try simp at hc8
      refine ex_seq_k fun K9 hK9 => ?_
      refine ex_region ttOK (by rfl) ?_
      refine rl_assign rfl ?_
      refine hK9 _ _ ?_
      clear hK9 K9
      refine ex_ret ⟨.inr rfl, ?_⟩
      clear hK6 K6
      refine ret_pv rfl ?_ rfl
      first
      | exact kF (by intro h; subst h; simp_all)
      | exact kT (by cases a; cases b; simp_all)
    · try simp at hc8
      refine ex_skip ?_
      refine hK6 _ _ ?_
      clear hK6 K6
      refine ex_seq_k fun K10 hK10 => ?_
      refine ex_seq_k fun K11 hK11 => ?_
      refine ex_region ttOK (by rfl) ?_
      refine rl_fieldAddr rfl tt_37 rfl rfl tt_35 rfl rfl ?_
      first | refine rl_load_ptr rfl tt_35 rfl rfl ?_ | refine rl_load_iel rfl tt_35 rfl ?_
      refine rl_fieldAddr rfl tt_37 rfl rfl tt_35 rfl rfl ?_
      first | refine rl_load_ptr rfl tt_35 rfl rfl ?_ | refine rl_load_iel rfl tt_35 rfl ?_
      refine rl_call rfl rfl rfl (F_laws_eqPastS ..) ?_
      refine rl_not rfl ?_
      refine hK11 _ _ ?_
      clear hK11 K11
      refine ex_cond rfl (fun hc12 => ?_) (fun hc12 => ?_)
      · try simp at hc12
        refine ex_seq_k fun K13 hK13 => ?_
        refine ex_region ttOK (by rfl) ?_
        refine rl_assign rfl ?_
        refine hK13 _ _ ?_
        clear hK13 K13
        refine ex_ret ⟨.inr rfl, ?_⟩
        clear hK10 K10
        refine ret_pv rfl ?_ rfl
        first
        | exact kF (by intro h; subst h; simp_all)
        | exact kT (by cases a; cases b; simp_all)
      · try simp at hc12
        refine ex_skip ?_
        refine hK10 _ _ ?_
        clear hK10 K10
        refine ex_seq_k fun K14 hK14 => ?_
        refine ex_region ttOK (by rfl) ?_
        refine rl_assign rfl ?_
        refine hK14 _ _ ?_
        clear hK14 K14
        refine ex_ret ⟨.inr rfl, ?_⟩
        refine ret_pv rfl ?_ rfl
        first
        | exact kF (by intro h; subst h; simp_all)
        | exact kT (by cases a; cases b; simp_all)

theorem F_laws_eqLaneS (c c' : Bool) (l l' : List La) : Pure Try.prog 65 [rLas c l, rLas c' l'] (.pv (.bool (decide (l = l')))) := by
  refine pure_of_ex ttOK (fn := Try.f65) (by kernel_rfl) (by kernel_rfl) rfl (outs := [.pv (.bool (decide (l = l')))]) (by rfl) (Nat.le_of_ble_eq_true rfl) 0 ?_
  refine ex_rowlenm 0 rfl fun hlen => ?_
  refine ex_seq_k fun K1 hK1 => ?_
  refine ex_region ttOK (by rfl) ?_
  refine rl_assign rfl ?_
  refine hK1 _ _ ?_
  clear hK1 K1
  refine ex_seq_k fun K2 hK2 => ?_
  refine ex_seq_k fun K3 hK3 => ?_
  refine ex_region ttOK (by rfl) ?_
  refine rl_move rfl ?_
  first | refine rl_lenm rfl tt_25 rfl ?_ | refine rl_lenr rfl tt_25 rfl rfl (by first | exact List.length_map _ | rfl) ?_ | refine rl_len rfl tt_25 rfl rfl (by intro s hs; cases hs) rfl ?_
  refine rl_move rfl ?_
  first | refine rl_lenm rfl tt_25 rfl ?_ | refine rl_lenr rfl tt_25 rfl rfl (by first | exact List.length_map _ | rfl) ?_ | refine rl_len rfl tt_25 rfl rfl (by intro s hs; cases hs) rfl ?_
  refine rl_bin rfl rfl rfl ?_
  refine hK3 _ _ ?_
  clear hK3 K3
  refine ex_cond rfl (fun hc4 => ?_) (fun hc4 => ?_)
  · try simp at hc4
    refine ex_seq_k fun K5 hK5 => ?_
    refine ex_region ttOK (by rfl) ?_
    refine rl_assign rfl ?_
    refine hK5 _ _ ?_
    clear hK5 K5
    refine ex_ret ⟨.inr rfl, ?_⟩
    clear hK2 K2
    refine ret_pv rfl ?_ rfl
    first
    | exact eqF1 (by omega)
    | exact eqF2 hx hy (by first | assumption | (intro e; subst e; simp_all))
    | exact eqT h3 (by omega) (by omega)
  · try simp at hc4
    refine ex_skip ?_
    refine hK2 _ _ ?_
    clear hK2 K2
    refine ex_seq_k fun K6 hK6 => ?_
    refine ex_seq_k fun K7 hK7 => ?_
    refine ex_region ttOK (by rfl) ?_
    refine rl_assign rfl ?_
    refine hK7 _ _ ?_
    clear hK7 K7
    refine ex_block ?_
    refine ex_loopK (ι := Nat) (fun i γ1 => [(5, .pv (.int .i64 (i : Int)))]) (fun i γ1 => []) (fun i => i ≤ l.length ∧ l.length = l'.length ∧ l.take i = l'.take i) (fun i => l.length - i) (Cov.cons (t := 0) rfl (Cov.cons (t := 1) rfl Cov.nil)) HE.nil 0 ⟨by omega, by omega, rfl⟩ [] (Cov.cons (t := 5) rfl Cov.nil) HE.nil rfl fun i γ1 hi => ?_
    try dsimp only [List.cons_append, List.nil_append]
    obtain ⟨h1, h2, h3⟩ := hi
    refine ex_seq_k fun K8 hK8 => ?_
    refine ex_seq_k fun K9 hK9 => ?_
    refine ex_region ttOK (by rfl) ?_
    refine rl_move rfl ?_
    refine rl_move rfl ?_
    first | refine rl_lenm rfl tt_25 rfl ?_ | refine rl_lenr rfl tt_25 rfl rfl (by first | exact List.length_map _ | rfl) ?_ | refine rl_len rfl tt_25 rfl rfl (by intro s hs; cases hs) rfl ?_
    refine rl_bin rfl rfl rfl ?_
    refine hK9 _ _ ?_
    clear hK9 K9
    refine ex_cond rfl (fun hc10 => ?_) (fun hc10 => ?_)
    · try simp at hc10
      refine ex_skip ?_
      refine hK8 _ _ ?_
      clear hK8 K8
      refine ex_seq_k fun K11 hK11 => ?_
      refine ex_block ?_
      refine ex_seq_k fun K12 hK12 => ?_
      refine ex_region_any ttOK mixed (by rfl) ?_
      refine rl_move rfl ?_
      refine rl_move rfl ?_
      obtain ⟨x, hx⟩ : ∃ x, l[i]? = some x := ⟨_, List.getElem?_eq_getElem (by omega)⟩
      refine rl_idxm rfl rfl tt_25 rfl tt_37 rfl hx ?_
      first | refine rl_loadA_ptr rfl tt_37 rfl rfl rfl ?_ | refine rl_loadA_iel rfl tt_37 rfl rfl ?_ | refine rl_load_ptr rfl tt_37 rfl rfl ?_ | refine rl_load_iel rfl tt_37 rfl ?_ | refine rl_loadEA rfl tt_37 rfl (by assumption) rfl rfl ?_
      refine rl_move rfl ?_
      refine rl_move rfl ?_
      obtain ⟨y, hy⟩ : ∃ y, l'[i]? = some y := ⟨_, List.getElem?_eq_getElem (by omega)⟩
      refine rl_idxm rfl rfl tt_25 rfl tt_37 rfl hy ?_
      first | refine rl_loadA_ptr rfl tt_37 rfl rfl rfl ?_ | refine rl_loadA_iel rfl tt_37 rfl rfl ?_ | refine rl_load_ptr rfl tt_37 rfl rfl ?_ | refine rl_load_iel rfl tt_37 rfl ?_ | refine rl_loadEA rfl tt_37 rfl (by assumption) rfl rfl ?_
      refine rl_call rfl rfl rfl (F_laws_eqLane ..) ?_
      refine rl_not rfl ?_
      refine ⟨by kernel_rfl, ?_⟩
      refine hK12 _ _ ?_
      clear hK12 K12
      refine ex_cond rfl (fun hc13 => ?_) (fun hc13 => ?_)
      · try simp at hc13
        refine ex_seq_k fun K14 hK14 => ?_
        refine ex_region ttOK (by rfl) ?_
        refine rl_assign rfl ?_
        refine hK14 _ _ ?_
        clear hK14 K14
        refine ex_ret ⟨.inr rfl, ?_⟩
        clear hK11 K11 hK6 K6
        refine ret_pv rfl ?_ rfl
        first
        | exact eqF1 (by omega)
        | exact eqF2 hx hy (by first | assumption | (intro e; subst e; simp_all))
        | exact eqT h3 (by omega) (by omega)
      · try simp at hc13
        refine ex_skip ?_
        refine hK11 _ _ ?_
        clear hK11 K11
        refine ex_region ttOK (by rfl) ?_
        refine rl_move rfl ?_
        refine rl_binE (.int .i64 ((i + 1 : Nat) : Int)) rfl rfl rfl (wrapE rfl (by omega) (by omega) (by have := hlen; omega)) ?_
        refine rl_assign rfl ?_
        exact ⟨i + 1, ⟨⟨by omega, h2, take_step h3 hx hy (by first | assumption | (cases x; cases y; simp_all))⟩, by omega⟩, [], (Cov.cons (t := 5) rfl Cov.nil), (Cov.cons (t := 0) rfl (Cov.cons (t := 1) rfl Cov.nil)), HE.nil, HE.nil, rfl⟩
    · try simp at hc10
      refine ex_exit ?_
      refine hK6 _ _ ?_
      clear hK8 K8 hK6 K6
      refine ex_seq_k fun K15 hK15 => ?_
      refine ex_region ttOK (by rfl) ?_
      refine rl_assign rfl ?_
      refine hK15 _ _ ?_
      clear hK15 K15
      refine ex_ret ⟨.inr rfl, ?_⟩
      refine ret_pv rfl ?_ rfl
      first
      | exact eqF1 (by omega)
      | exact eqF2 hx hy (by first | assumption | (intro e; subst e; simp_all))
      | exact eqT h3 (by omega) (by omega)

theorem F_laws_eqView (c c' : Bool) (a b : Vi) : Pure Try.prog 111 [.agg (encVi c a), .agg (encVi c' b)] (.pv (.bool (decide (a = b)))) := by
  refine pure_of_ex ttOK (fn := Try.f111) (by kernel_rfl) (by kernel_rfl) rfl (outs := [.pv (.bool (decide (a = b)))]) (by rfl) (Nat.le_of_ble_eq_true rfl) 2 ?_
  refine ex_seq_k fun K1 hK1 => ?_
  refine ex_region ttOK (by rfl) ?_
  refine rl_boxA (id := 0) rfl rfl rfl ?_
  refine rl_boxA (id := 1) rfl rfl rfl ?_
  refine rl_assign rfl ?_
  refine hK1 _ _ ?_
  clear hK1 K1
  refine ex_seq_k fun K2 hK2 => ?_
  refine ex_seq_k fun K3 hK3 => ?_
  refine ex_region ttOK (by rfl) ?_
  refine rl_fieldAddr rfl tt_123 rfl rfl tt_3 rfl rfl ?_
  first | refine rl_load_ptr rfl tt_3 rfl rfl ?_ | refine rl_load_iel rfl tt_3 rfl ?_
  refine rl_fieldAddr rfl tt_123 rfl rfl tt_3 rfl rfl ?_
  first | refine rl_load_ptr rfl tt_3 rfl rfl ?_ | refine rl_load_iel rfl tt_3 rfl ?_
  refine rl_bin rfl rfl rfl ?_
  refine hK3 _ _ ?_
  clear hK3 K3
  refine ex_cond rfl (fun hc4 => ?_) (fun hc4 => ?_)
  · try simp at hc4
    refine ex_seq_k fun K5 hK5 => ?_
    refine ex_region ttOK (by rfl) ?_
    refine rl_assign rfl ?_
    refine hK5 _ _ ?_
    clear hK5 K5
    refine ex_ret ⟨.inr rfl, ?_⟩
    clear hK2 K2
    refine ret_pv rfl ?_ rfl
    first
    | exact kF (by intro h; subst h; simp_all)
    | exact kT (by cases a; cases b; simp_all)
  · try simp at hc4
    refine ex_skip ?_
    refine hK2 _ _ ?_
    clear hK2 K2
    refine ex_seq_k fun K6 hK6 => ?_
    refine ex_seq_k fun K7 hK7 => ?_
    refine ex_region ttOK (by rfl) ?_
    refine rl_fieldAddr rfl tt_123 rfl rfl tt_3 rfl rfl ?_
    first | refine rl_load_ptr rfl tt_3 rfl rfl ?_ | refine rl_load_iel rfl tt_3 rfl ?_
    refine rl_fieldAddr rfl tt_123 rfl rfl tt_3 rfl rfl ?_
    first | refine rl_load_ptr rfl tt_3 rfl rfl ?_ | refine rl_load_iel rfl tt_3 rfl ?_
    refine rl_bin rfl rfl rfl ?_
    refine hK7 _ _ ?_
    clear hK7 K7
    refine ex_cond rfl (fun hc8 => ?_) (fun hc8 => ?_)
    · try simp at hc8
      refine ex_seq_k fun K9 hK9 => ?_
      refine ex_region ttOK (by rfl) ?_
      refine rl_assign rfl ?_
      refine hK9 _ _ ?_
      clear hK9 K9
      refine ex_ret ⟨.inr rfl, ?_⟩
      clear hK6 K6
      refine ret_pv rfl ?_ rfl
      first
      | exact kF (by intro h; subst h; simp_all)
      | exact kT (by cases a; cases b; simp_all)
    · try simp at hc8
      refine ex_skip ?_
      refine hK6 _ _ ?_
      clear hK6 K6
      refine ex_seq_k fun K10 hK10 => ?_
      refine ex_seq_k fun K11 hK11 => ?_
      refine ex_region ttOK (by rfl) ?_
      refine rl_fieldAddr rfl tt_123 rfl rfl tt_26 rfl rfl ?_
      first | refine rl_load_ptr rfl tt_26 rfl rfl ?_ | refine rl_load_iel rfl tt_26 rfl ?_
      refine rl_fieldAddr rfl tt_123 rfl rfl tt_26 rfl rfl ?_
      first | refine rl_load_ptr rfl tt_26 rfl rfl ?_ | refine rl_load_iel rfl tt_26 rfl ?_
      refine rl_call rfl rfl rfl (F_laws_eqEventS ..) ?_
      refine rl_not rfl ?_
      refine hK11 _ _ ?_
      clear hK11 K11
      refine ex_cond rfl (fun hc12 => ?_) (fun hc12 => ?_)
      · try simp at hc12
        refine ex_seq_k fun K13 hK13 => ?_
        refine ex_region ttOK (by rfl) ?_
        refine rl_assign rfl ?_
        refine hK13 _ _ ?_
        clear hK13 K13
        refine ex_ret ⟨.inr rfl, ?_⟩
        clear hK10 K10
        refine ret_pv rfl ?_ rfl
        first
        | exact kF (by intro h; subst h; simp_all)
        | exact kT (by cases a; cases b; simp_all)
      · try simp at hc12
        refine ex_skip ?_
        refine hK10 _ _ ?_
        clear hK10 K10
        refine ex_seq_k fun K14 hK14 => ?_
        refine ex_region ttOK (by rfl) ?_
        refine rl_assign rfl ?_
        refine hK14 _ _ ?_
        clear hK14 K14
        refine ex_ret ⟨.inr rfl, ?_⟩
        refine ret_pv rfl ?_ rfl
        first
        | exact kF (by intro h; subst h; simp_all)
        | exact kT (by cases a; cases b; simp_all)

theorem F_laws_eqViewS (c c' : Bool) (l l' : List Vi) : Pure Try.prog 68 [rVis c l, rVis c' l'] (.pv (.bool (decide (l = l')))) := by
  refine pure_of_ex ttOK (fn := Try.f68) (by kernel_rfl) (by kernel_rfl) rfl (outs := [.pv (.bool (decide (l = l')))]) (by rfl) (Nat.le_of_ble_eq_true rfl) 0 ?_
  refine ex_rowlenm 0 rfl fun hlen => ?_
  refine ex_seq_k fun K1 hK1 => ?_
  refine ex_region ttOK (by rfl) ?_
  refine rl_assign rfl ?_
  refine hK1 _ _ ?_
  clear hK1 K1
  refine ex_seq_k fun K2 hK2 => ?_
  refine ex_seq_k fun K3 hK3 => ?_
  refine ex_region ttOK (by rfl) ?_
  refine rl_move rfl ?_
  first | refine rl_lenm rfl tt_28 rfl ?_ | refine rl_lenr rfl tt_28 rfl rfl (by first | exact List.length_map _ | rfl) ?_ | refine rl_len rfl tt_28 rfl rfl (by intro s hs; cases hs) rfl ?_
  refine rl_move rfl ?_
  first | refine rl_lenm rfl tt_28 rfl ?_ | refine rl_lenr rfl tt_28 rfl rfl (by first | exact List.length_map _ | rfl) ?_ | refine rl_len rfl tt_28 rfl rfl (by intro s hs; cases hs) rfl ?_
  refine rl_bin rfl rfl rfl ?_
  refine hK3 _ _ ?_
  clear hK3 K3
  refine ex_cond rfl (fun hc4 => ?_) (fun hc4 => ?_)
  · try simp at hc4
    refine ex_seq_k fun K5 hK5 => ?_
    refine ex_region ttOK (by rfl) ?_
    refine rl_assign rfl ?_
    refine hK5 _ _ ?_
    clear hK5 K5
    refine ex_ret ⟨.inr rfl, ?_⟩
    clear hK2 K2
    refine ret_pv rfl ?_ rfl
    first
    | exact eqF1 (by omega)
    | exact eqF2 hx hy (by first | assumption | (intro e; subst e; simp_all))
    | exact eqT h3 (by omega) (by omega)
  · try simp at hc4
    refine ex_skip ?_
    refine hK2 _ _ ?_
    clear hK2 K2
    refine ex_seq_k fun K6 hK6 => ?_
    refine ex_seq_k fun K7 hK7 => ?_
    refine ex_region ttOK (by rfl) ?_
    refine rl_assign rfl ?_
    refine hK7 _ _ ?_
    clear hK7 K7
    refine ex_block ?_
    refine ex_loopK (ι := Nat) (fun i γ1 => [(5, .pv (.int .i64 (i : Int)))]) (fun i γ1 => []) (fun i => i ≤ l.length ∧ l.length = l'.length ∧ l.take i = l'.take i) (fun i => l.length - i) (Cov.cons (t := 0) rfl (Cov.cons (t := 1) rfl Cov.nil)) HE.nil 0 ⟨by omega, by omega, rfl⟩ [] (Cov.cons (t := 5) rfl Cov.nil) HE.nil rfl fun i γ1 hi => ?_
    try dsimp only [List.cons_append, List.nil_append]
    obtain ⟨h1, h2, h3⟩ := hi
    refine ex_seq_k fun K8 hK8 => ?_
    refine ex_seq_k fun K9 hK9 => ?_
    refine ex_region ttOK (by rfl) ?_
    refine rl_move rfl ?_
    refine rl_move rfl ?_
    first | refine rl_lenm rfl tt_28 rfl ?_ | refine rl_lenr rfl tt_28 rfl rfl (by first | exact List.length_map _ | rfl) ?_ | refine rl_len rfl tt_28 rfl rfl (by intro s hs; cases hs) rfl ?_
    refine rl_bin rfl rfl rfl ?_
    refine hK9 _ _ ?_
    clear hK9 K9
    refine ex_cond rfl (fun hc10 => ?_) (fun hc10 => ?_)
    · try simp at hc10
      refine ex_skip ?_
      refine hK8 _ _ ?_
      clear hK8 K8
      refine ex_seq_k fun K11 hK11 => ?_
      refine ex_block ?_
      refine ex_seq_k fun K12 hK12 => ?_
      refine ex_region_any ttOK mixed (by rfl) ?_
      refine rl_move rfl ?_
      refine rl_move rfl ?_
      obtain ⟨x, hx⟩ : ∃ x, l[i]? = some x := ⟨_, List.getElem?_eq_getElem (by omega)⟩
      refine rl_idxm rfl rfl tt_28 rfl tt_123 rfl hx ?_
      first | refine rl_loadA_ptr rfl tt_123 rfl rfl rfl ?_ | refine rl_loadA_iel rfl tt_123 rfl rfl ?_ | refine rl_load_ptr rfl tt_123 rfl rfl ?_ | refine rl_load_iel rfl tt_123 rfl ?_ | refine rl_loadEA rfl tt_123 rfl (by assumption) rfl rfl ?_
      refine rl_move rfl ?_
      refine rl_move rfl ?_
      obtain ⟨y, hy⟩ : ∃ y, l'[i]? = some y := ⟨_, List.getElem?_eq_getElem (by omega)⟩
      refine rl_idxm rfl rfl tt_28 rfl tt_123 rfl hy ?_
      first | refine rl_loadA_ptr rfl tt_123 rfl rfl rfl ?_ | refine rl_loadA_iel rfl tt_123 rfl rfl ?_ | refine rl_load_ptr rfl tt_123 rfl rfl ?_ | refine rl_load_iel rfl tt_123 rfl ?_ | refine rl_loadEA rfl tt_123 rfl (by assumption) rfl rfl ?_
      refine rl_call rfl rfl rfl (F_laws_eqView ..) ?_
      refine rl_not rfl ?_
      refine ⟨by kernel_rfl, ?_⟩
      refine hK12 _ _ ?_
      clear hK12 K12
      refine ex_cond rfl (fun hc13 => ?_) (fun hc13 => ?_)
      · try simp at hc13
        refine ex_seq_k fun K14 hK14 => ?_
        refine ex_region ttOK (by rfl) ?_
        refine rl_assign rfl ?_
        refine hK14 _ _ ?_
        clear hK14 K14
        refine ex_ret ⟨.inr rfl, ?_⟩
        clear hK11 K11 hK6 K6
        refine ret_pv rfl ?_ rfl
        first
        | exact eqF1 (by omega)
        | exact eqF2 hx hy (by first | assumption | (intro e; subst e; simp_all))
        | exact eqT h3 (by omega) (by omega)
      · try simp at hc13
        refine ex_skip ?_
        refine hK11 _ _ ?_
        clear hK11 K11
        refine ex_region ttOK (by rfl) ?_
        refine rl_move rfl ?_
        refine rl_binE (.int .i64 ((i + 1 : Nat) : Int)) rfl rfl rfl (wrapE rfl (by omega) (by omega) (by have := hlen; omega)) ?_
        refine rl_assign rfl ?_
        exact ⟨i + 1, ⟨⟨by omega, h2, take_step h3 hx hy (by first | assumption | (cases x; cases y; simp_all))⟩, by omega⟩, [], (Cov.cons (t := 5) rfl Cov.nil), (Cov.cons (t := 0) rfl (Cov.cons (t := 1) rfl Cov.nil)), HE.nil, HE.nil, rfl⟩
    · try simp at hc10
      refine ex_exit ?_
      refine hK6 _ _ ?_
      clear hK8 K8 hK6 K6
      refine ex_seq_k fun K15 hK15 => ?_
      refine ex_region ttOK (by rfl) ?_
      refine rl_assign rfl ?_
      refine hK15 _ _ ?_
      clear hK15 K15
      refine ex_ret ⟨.inr rfl, ?_⟩
      refine ret_pv rfl ?_ rfl
      first
      | exact eqF1 (by omega)
      | exact eqF2 hx hy (by first | assumption | (intro e; subst e; simp_all))
      | exact eqT h3 (by omega) (by omega)

theorem F_laws_eqNode (c c' : Bool) (a b : Nd) : Pure Try.prog 19 [.agg (encNd c a), .agg (encNd c' b)] (.pv (.bool (decide (a = b)))) := by
  refine pure_of_ex ttOK (fn := Try.f19) (by kernel_rfl) (by kernel_rfl) rfl (outs := [.pv (.bool (decide (a = b)))]) (by rfl) (Nat.le_of_ble_eq_true rfl) 2 ?_
  refine ex_seq_k fun K1 hK1 => ?_
  refine ex_region ttOK (by rfl) ?_
  refine rl_boxA (id := 0) rfl rfl rfl ?_
  refine rl_boxA (id := 1) rfl rfl rfl ?_
  refine rl_assign rfl ?_
  refine hK1 _ _ ?_
  clear hK1 K1
  refine ex_seq_k fun K2 hK2 => ?_
  refine ex_seq_k fun K3 hK3 => ?_
  refine ex_region ttOK (by rfl) ?_
  refine rl_fieldAddr rfl tt_31 rfl rfl tt_3 rfl rfl ?_
  first | refine rl_load_ptr rfl tt_3 rfl rfl ?_ | refine rl_load_iel rfl tt_3 rfl ?_
  refine rl_fieldAddr rfl tt_31 rfl rfl tt_3 rfl rfl ?_
  first | refine rl_load_ptr rfl tt_3 rfl rfl ?_ | refine rl_load_iel rfl tt_3 rfl ?_
  refine rl_bin rfl rfl rfl ?_
  refine hK3 _ _ ?_
  clear hK3 K3
  refine ex_cond rfl (fun hc4 => ?_) (fun hc4 => ?_)
  · try simp at hc4
    refine ex_seq_k fun K5 hK5 => ?_
    refine ex_region ttOK (by rfl) ?_
    refine rl_assign rfl ?_
    refine hK5 _ _ ?_
    clear hK5 K5
    refine ex_ret ⟨.inr rfl, ?_⟩
    clear hK2 K2
    refine ret_pv rfl ?_ rfl
    first
    | exact kF (by intro h; subst h; simp_all)
    | exact kT (by cases a; cases b; simp_all)
  · try simp at hc4
    refine ex_skip ?_
    refine hK2 _ _ ?_
    clear hK2 K2
    refine ex_seq_k fun K6 hK6 => ?_
    refine ex_seq_k fun K7 hK7 => ?_
    refine ex_region ttOK (by rfl) ?_
    refine rl_fieldAddr rfl tt_31 rfl rfl tt_4 rfl rfl ?_
    first | refine rl_load_ptr rfl tt_4 rfl rfl ?_ | refine rl_load_iel rfl tt_4 rfl ?_
    refine rl_fieldAddr rfl tt_31 rfl rfl tt_4 rfl rfl ?_
    first | refine rl_load_ptr rfl tt_4 rfl rfl ?_ | refine rl_load_iel rfl tt_4 rfl ?_
    refine rl_eq rfl rfl (by intro p q h h'; cases h; cases h'; rfl) (.inr rfl) (eqA_bool Try.underlying4 _ _ _ _) ?_
    refine hK7 _ _ ?_
    clear hK7 K7
    refine ex_cond rfl (fun hc8 => ?_) (fun hc8 => ?_)
    · try simp at hc8
      refine ex_seq_k fun K9 hK9 => ?_
      refine ex_region ttOK (by rfl) ?_
      refine rl_assign rfl ?_
      refine hK9 _ _ ?_
      clear hK9 K9
      refine ex_ret ⟨.inr rfl, ?_⟩
      clear hK6 K6
      refine ret_pv rfl ?_ rfl
      first
      | exact kF (by intro h; subst h; simp_all)
      | exact kT (by cases a; cases b; simp_all)
    · try simp at hc8
      refine ex_skip ?_
      refine hK6 _ _ ?_
      clear hK6 K6
      refine ex_seq_k fun K10 hK10 => ?_
      refine ex_seq_k fun K11 hK11 => ?_
      refine ex_region ttOK (by rfl) ?_
      refine rl_fieldAddr rfl tt_31 rfl rfl tt_3 rfl rfl ?_
      first | refine rl_load_ptr rfl tt_3 rfl rfl ?_ | refine rl_load_iel rfl tt_3 rfl ?_
      refine rl_fieldAddr rfl tt_31 rfl rfl tt_3 rfl rfl ?_
      first | refine rl_load_ptr rfl tt_3 rfl rfl ?_ | refine rl_load_iel rfl tt_3 rfl ?_
      refine rl_bin rfl rfl rfl ?_
      refine hK11 _ _ ?_
      clear hK11 K11
      refine ex_cond rfl (fun hc12 => ?_) (fun hc12 => ?_)
      · try simp at hc12
        refine ex_seq_k fun K13 hK13 => ?_
        refine ex_region ttOK (by rfl) ?_
        refine rl_assign rfl ?_
        refine hK13 _ _ ?_
        clear hK13 K13
        refine ex_ret ⟨.inr rfl, ?_⟩
        clear hK10 K10
        refine ret_pv rfl ?_ rfl
        first
        | exact kF (by intro h; subst h; simp_all)
        | exact kT (by cases a; cases b; simp_all)
      · try simp at hc12
        refine ex_skip ?_
        refine hK10 _ _ ?_
        clear hK10 K10
        refine ex_seq_k fun K14 hK14 => ?_
        refine ex_seq_k fun K15 hK15 => ?_
        refine ex_region ttOK (by rfl) ?_
        refine rl_fieldAddr rfl tt_31 rfl rfl tt_3 rfl rfl ?_
        first | refine rl_load_ptr rfl tt_3 rfl rfl ?_ | refine rl_load_iel rfl tt_3 rfl ?_
        refine rl_fieldAddr rfl tt_31 rfl rfl tt_3 rfl rfl ?_
        first | refine rl_load_ptr rfl tt_3 rfl rfl ?_ | refine rl_load_iel rfl tt_3 rfl ?_
        refine rl_bin rfl rfl rfl ?_
        refine hK15 _ _ ?_
        clear hK15 K15
        refine ex_cond rfl (fun hc16 => ?_) (fun hc16 => ?_)
        · try simp at hc16
          refine ex_seq_k fun K17 hK17 => ?_
          refine ex_region ttOK (by rfl) ?_
          refine rl_assign rfl ?_
          refine hK17 _ _ ?_
          clear hK17 K17
          refine ex_ret ⟨.inr rfl, ?_⟩
          clear hK14 K14
          refine ret_pv rfl ?_ rfl
          first
          | exact kF (by intro h; subst h; simp_all)
          | exact kT (by cases a; cases b; simp_all)
        · try simp at hc16
          refine ex_skip ?_
          refine hK14 _ _ ?_
          clear hK14 K14
          refine ex_seq_k fun K18 hK18 => ?_
          refine ex_seq_k fun K19 hK19 => ?_
          refine ex_region ttOK (by rfl) ?_
          refine rl_fieldAddr rfl tt_31 rfl rfl tt_25 rfl rfl ?_
          first | refine rl_load_ptr rfl tt_25 rfl rfl ?_ | refine rl_load_iel rfl tt_25 rfl ?_
          refine rl_fieldAddr rfl tt_31 rfl rfl tt_25 rfl rfl ?_
          first | refine rl_load_ptr rfl tt_25 rfl rfl ?_ | refine rl_load_iel rfl tt_25 rfl ?_
          refine rl_call rfl rfl rfl (F_laws_eqLaneS ..) ?_
          refine rl_not rfl ?_
          refine hK19 _ _ ?_
          clear hK19 K19
          refine ex_cond rfl (fun hc20 => ?_) (fun hc20 => ?_)
          · try simp at hc20
            refine ex_seq_k fun K21 hK21 => ?_
            refine ex_region ttOK (by rfl) ?_
            refine rl_assign rfl ?_
            refine hK21 _ _ ?_
            clear hK21 K21
            refine ex_ret ⟨.inr rfl, ?_⟩
            clear hK18 K18
            refine ret_pv rfl ?_ rfl
            first
            | exact kF (by intro h; subst h; simp_all)
            | exact kT (by cases a; cases b; simp_all)
          · try simp at hc20
            refine ex_skip ?_
            refine hK18 _ _ ?_
            clear hK18 K18
            refine ex_seq_k fun K22 hK22 => ?_
            refine ex_seq_k fun K23 hK23 => ?_
            refine ex_region ttOK (by rfl) ?_
            refine rl_fieldAddr rfl tt_31 rfl rfl tt_26 rfl rfl ?_
            first | refine rl_load_ptr rfl tt_26 rfl rfl ?_ | refine rl_load_iel rfl tt_26 rfl ?_
            refine rl_fieldAddr rfl tt_31 rfl rfl tt_26 rfl rfl ?_
            first | refine rl_load_ptr rfl tt_26 rfl rfl ?_ | refine rl_load_iel rfl tt_26 rfl ?_
            refine rl_call rfl rfl rfl (F_laws_eqEventS ..) ?_
            refine rl_not rfl ?_
            refine hK23 _ _ ?_
            clear hK23 K23
            refine ex_cond rfl (fun hc24 => ?_) (fun hc24 => ?_)
            · try simp at hc24
              refine ex_seq_k fun K25 hK25 => ?_
              refine ex_region ttOK (by rfl) ?_
              refine rl_assign rfl ?_
              refine hK25 _ _ ?_
              clear hK25 K25
              refine ex_ret ⟨.inr rfl, ?_⟩
              clear hK22 K22
              refine ret_pv rfl ?_ rfl
              first
              | exact kF (by intro h; subst h; simp_all)
              | exact kT (by cases a; cases b; simp_all)
            · try simp at hc24
              refine ex_skip ?_
              refine hK22 _ _ ?_
              clear hK22 K22
              refine ex_seq_k fun K26 hK26 => ?_
              refine ex_seq_k fun K27 hK27 => ?_
              refine ex_region ttOK (by rfl) ?_
              refine rl_fieldAddr rfl tt_31 rfl rfl tt_27 rfl rfl ?_
              first | refine rl_load_ptr rfl tt_27 rfl rfl ?_ | refine rl_load_iel rfl tt_27 rfl ?_
              refine rl_fieldAddr rfl tt_31 rfl rfl tt_27 rfl rfl ?_
              first | refine rl_load_ptr rfl tt_27 rfl rfl ?_ | refine rl_load_iel rfl tt_27 rfl ?_
              refine rl_call rfl rfl rfl (F_laws_eqOutS ..) ?_
              refine rl_not rfl ?_
              refine hK27 _ _ ?_
              clear hK27 K27
              refine ex_cond rfl (fun hc28 => ?_) (fun hc28 => ?_)
              · try simp at hc28
                refine ex_seq_k fun K29 hK29 => ?_
                refine ex_region ttOK (by rfl) ?_
                refine rl_assign rfl ?_
                refine hK29 _ _ ?_
                clear hK29 K29
                refine ex_ret ⟨.inr rfl, ?_⟩
                clear hK26 K26
                refine ret_pv rfl ?_ rfl
                first
                | exact kF (by intro h; subst h; simp_all)
                | exact kT (by cases a; cases b; simp_all)
              · try simp at hc28
                refine ex_skip ?_
                refine hK26 _ _ ?_
                clear hK26 K26
                refine ex_seq_k fun K30 hK30 => ?_
                refine ex_seq_k fun K31 hK31 => ?_
                refine ex_region ttOK (by rfl) ?_
                refine rl_fieldAddr rfl tt_31 rfl rfl tt_3 rfl rfl ?_
                first | refine rl_load_ptr rfl tt_3 rfl rfl ?_ | refine rl_load_iel rfl tt_3 rfl ?_
                refine rl_fieldAddr rfl tt_31 rfl rfl tt_3 rfl rfl ?_
                first | refine rl_load_ptr rfl tt_3 rfl rfl ?_ | refine rl_load_iel rfl tt_3 rfl ?_
                refine rl_bin rfl rfl rfl ?_
                refine hK31 _ _ ?_
                clear hK31 K31
                refine ex_cond rfl (fun hc32 => ?_) (fun hc32 => ?_)
                · try simp at hc32
                  refine ex_seq_k fun K33 hK33 => ?_
                  refine ex_region ttOK (by rfl) ?_
                  refine rl_assign rfl ?_
                  refine hK33 _ _ ?_
                  clear hK33 K33
                  refine ex_ret ⟨.inr rfl, ?_⟩
                  clear hK30 K30
                  refine ret_pv rfl ?_ rfl
                  first
                  | exact kF (by intro h; subst h; simp_all)
                  | exact kT (by cases a; cases b; simp_all)
                · try simp at hc32
                  refine ex_skip ?_
                  refine hK30 _ _ ?_
                  clear hK30 K30
                  refine ex_seq_k fun K34 hK34 => ?_
                  refine ex_seq_k fun K35 hK35 => ?_
                  refine ex_region ttOK (by rfl) ?_
                  refine rl_fieldAddr rfl tt_31 rfl rfl tt_3 rfl rfl ?_
                  first | refine rl_load_ptr rfl tt_3 rfl rfl ?_ | refine rl_load_iel rfl tt_3 rfl ?_
                  refine rl_fieldAddr rfl tt_31 rfl rfl tt_3 rfl rfl ?_
                  first | refine rl_load_ptr rfl tt_3 rfl rfl ?_ | refine rl_load_iel rfl tt_3 rfl ?_
                  refine rl_bin rfl rfl rfl ?_
                  refine hK35 _ _ ?_
                  clear hK35 K35
                  refine ex_cond rfl (fun hc36 => ?_) (fun hc36 => ?_)
                  · try simp at hc36
                    refine ex_seq_k fun K37 hK37 => ?_
                    refine ex_region ttOK (by rfl) ?_
                    refine rl_assign rfl ?_
                    refine hK37 _ _ ?_
                    clear hK37 K37
                    refine ex_ret ⟨.inr rfl, ?_⟩
                    clear hK34 K34
                    refine ret_pv rfl ?_ rfl
                    first
                    | exact kF (by intro h; subst h; simp_all)
                    | exact kT (by cases a; cases b; simp_all)
                  · try simp at hc36
                    refine ex_skip ?_
                    refine hK34 _ _ ?_
                    clear hK34 K34
                    refine ex_seq_k fun K38 hK38 => ?_
                    refine ex_seq_k fun K39 hK39 => ?_
                    refine ex_region ttOK (by rfl) ?_
                    refine rl_fieldAddr rfl tt_31 rfl rfl tt_28 rfl rfl ?_
                    first | refine rl_load_ptr rfl tt_28 rfl rfl ?_ | refine rl_load_iel rfl tt_28 rfl ?_
                    refine rl_fieldAddr rfl tt_31 rfl rfl tt_28 rfl rfl ?_
                    first | refine rl_load_ptr rfl tt_28 rfl rfl ?_ | refine rl_load_iel rfl tt_28 rfl ?_
                    refine rl_call rfl rfl rfl (F_laws_eqViewS ..) ?_
                    refine rl_not rfl ?_
                    refine hK39 _ _ ?_
                    clear hK39 K39
                    refine ex_cond rfl (fun hc40 => ?_) (fun hc40 => ?_)
                    · try simp at hc40
                      refine ex_seq_k fun K41 hK41 => ?_
                      refine ex_region ttOK (by rfl) ?_
                      refine rl_assign rfl ?_
                      refine hK41 _ _ ?_
                      clear hK41 K41
                      refine ex_ret ⟨.inr rfl, ?_⟩
                      clear hK38 K38
                      refine ret_pv rfl ?_ rfl
                      first
                      | exact kF (by intro h; subst h; simp_all)
                      | exact kT (by cases a; cases b; simp_all)
                    · try simp at hc40
                      refine ex_skip ?_
                      refine hK38 _ _ ?_
                      clear hK38 K38
                      refine ex_seq_k fun K42 hK42 => ?_
                      refine ex_seq_k fun K43 hK43 => ?_
                      refine ex_region ttOK (by rfl) ?_
                      refine rl_fieldAddr rfl tt_31 rfl rfl tt_29 rfl rfl ?_
                      first | refine rl_load_ptr rfl tt_29 rfl rfl ?_ | refine rl_load_iel rfl tt_29 rfl ?_
                      refine rl_fieldAddr rfl tt_31 rfl rfl tt_29 rfl rfl ?_
                      first | refine rl_load_ptr rfl tt_29 rfl rfl ?_ | refine rl_load_iel rfl tt_29 rfl ?_
                      refine rl_call rfl rfl rfl (F_laws_eqIntS ..) ?_
                      refine rl_not rfl ?_
                      refine hK43 _ _ ?_
                      clear hK43 K43
                      refine ex_cond rfl (fun hc44 => ?_) (fun hc44 => ?_)
                      · try simp at hc44
                        refine ex_seq_k fun K45 hK45 => ?_
                        refine ex_region ttOK (by rfl) ?_
                        refine rl_assign rfl ?_
                        refine hK45 _ _ ?_
                        clear hK45 K45
                        refine ex_ret ⟨.inr rfl, ?_⟩
                        clear hK42 K42
                        refine ret_pv rfl ?_ rfl
                        first
                        | exact kF (by intro h; subst h; simp_all)
                        | exact kT (by cases a; cases b; simp_all)
                      · try simp at hc44
                        refine ex_skip ?_
                        refine hK42 _ _ ?_
                        clear hK42 K42
                        refine ex_seq_k fun K46 hK46 => ?_
                        refine ex_seq_k fun K47 hK47 => ?_
                        refine ex_region ttOK (by rfl) ?_
                        refine rl_fieldAddr rfl tt_31 rfl rfl tt_3 rfl rfl ?_
                        first | refine rl_load_ptr rfl tt_3 rfl rfl ?_ | refine rl_load_iel rfl tt_3 rfl ?_
                        refine rl_fieldAddr rfl tt_31 rfl rfl tt_3 rfl rfl ?_
                        first | refine rl_load_ptr rfl tt_3 rfl rfl ?_ | refine rl_load_iel rfl tt_3 rfl ?_
                        refine rl_bin rfl rfl rfl ?_
                        refine hK47 _ _ ?_
                        clear hK47 K47
                        refine ex_cond rfl (fun hc48 => ?_) (fun hc48 => ?_)
                        · try simp at hc48
                          refine ex_seq_k fun K49 hK49 => ?_
                          refine ex_region ttOK (by rfl) ?_
                          refine rl_assign rfl ?_
                          refine hK49 _ _ ?_
                          clear hK49 K49
                          refine ex_ret ⟨.inr rfl, ?_⟩
                          clear hK46 K46
                          refine ret_pv rfl ?_ rfl
                          first
                          | exact kF (by intro h; subst h; simp_all)
                          | exact kT (by cases a; cases b; simp_all)
                        · try simp at hc48
                          refine ex_skip ?_
                          refine hK46 _ _ ?_
                          clear hK46 K46
                          refine ex_seq_k fun K50 hK50 => ?_
                          refine ex_seq_k fun K51 hK51 => ?_
                          refine ex_region ttOK (by rfl) ?_
                          refine rl_fieldAddr rfl tt_31 rfl rfl tt_3 rfl rfl ?_
                          first | refine rl_load_ptr rfl tt_3 rfl rfl ?_ | refine rl_load_iel rfl tt_3 rfl ?_
                          refine rl_fieldAddr rfl tt_31 rfl rfl tt_3 rfl rfl ?_
                          first | refine rl_load_ptr rfl tt_3 rfl rfl ?_ | refine rl_load_iel rfl tt_3 rfl ?_
                          refine rl_bin rfl rfl rfl ?_
                          refine hK51 _ _ ?_
                          clear hK51 K51
                          refine ex_cond rfl (fun hc52 => ?_) (fun hc52 => ?_)
                          · try simp at hc52
                            refine ex_seq_k fun K53 hK53 => ?_
                            refine ex_region ttOK (by rfl) ?_
                            refine rl_assign rfl ?_
                            refine hK53 _ _ ?_
                            clear hK53 K53
                            refine ex_ret ⟨.inr rfl, ?_⟩
                            clear hK50 K50
                            refine ret_pv rfl ?_ rfl
                            first
                            | exact kF (by intro h; subst h; simp_all)
                            | exact kT (by cases a; cases b; simp_all)
                          · try simp at hc52
                            refine ex_skip ?_
                            refine hK50 _ _ ?_
                            clear hK50 K50
                            refine ex_seq_k fun K54 hK54 => ?_
                            refine ex_region ttOK (by rfl) ?_
                            refine rl_assign rfl ?_
                            refine hK54 _ _ ?_
                            clear hK54 K54
                            refine ex_ret ⟨.inr rfl, ?_⟩
                            refine ret_pv rfl ?_ rfl
                            first
                            | exact kF (by intro h; subst h; simp_all)
                            | exact kT (by cases a; cases b; simp_all)

end Go.Proofs.Ytcleiaibcfocdaa.Am
