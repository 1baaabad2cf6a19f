/- Walks. PRINTED BY wip/gen/gen2.py out of b10.py. -/
import Derived.Test.YtcleiaibcfocdaaAmD
set_option linter.unusedVariables false
set_option linter.unusedSimpArgs false
namespace Go.Proofs.Ytcleiaibcfocdaa.Am
open Go Go.RowKit

theorem F_laws_heldIntS (c : Bool) (l : List Int) (k : Nat) (hk : k + szs zI l ≤ 1000000000) : Pure Try.prog 79 [rInts c (mks zI kI k l), .pv (.int .i64 (k : Int))] (.pv (.int .i64 ((k + szs zI l : Nat) : Int))) := by
  refine pure_of_ex ttOK (fn := Try.f79) (by kernel_rfl) (by kernel_rfl) rfl (outs := [.pv (.int .i64 ((k + szs zI l : Nat) : Int))]) (by rfl) (Nat.le_of_ble_eq_true rfl) 0 ?_
  have hml := mks_len zI kI k l
  have hll := szs_len zI (fun p => by unfold zI; omega) l
  refine ex_seq_k fun K1 hK1 => ?_
  refine ex_region ttOK (by rfl) ?_
  refine rl_assign rfl ?_
  refine hK1 _ _ ?_
  clear hK1 K1
  refine ex_seq_k fun K2 hK2 => ?_
  refine ex_seq_k fun K3 hK3 => ?_
  refine ex_region ttOK (by rfl) ?_
  refine rl_assign rfl ?_
  refine hK3 _ _ ?_
  clear hK3 K3
  refine ex_block ?_
  refine ex_loopK (ι := Nat) (fun i γ1 => [(1, .pv (.int .i64 ((k + szs zI (l.take i) : Nat) : Int))), (5, .pv (.int .i64 (i : Int)))]) (fun i γ1 => []) (fun i => i ≤ l.length) (fun i => l.length - i) (Cov.cons (t := 0) rfl Cov.nil) HE.nil 0 (by omega) [] (Cov.cons' (t := 1) rfl (by rw [List.take_zero]; rfl) (Cov.cons (t := 5) rfl Cov.nil)) HE.nil rfl fun i γ1 hi => ?_
  try dsimp only [List.cons_append, List.nil_append]
  refine ex_seq_k fun K4 hK4 => ?_
  refine ex_seq_k fun K5 hK5 => ?_
  refine ex_region ttOK (by rfl) ?_
  refine rl_move rfl ?_
  refine rl_move rfl ?_
  first | refine rl_lenm rfl tt_29 rfl ?_ | refine rl_lenr rfl tt_29 rfl rfl (by first | exact List.length_map _ | rfl) ?_ | refine rl_len rfl tt_29 rfl rfl (by intro s hs; cases hs) rfl ?_
  refine rl_bin rfl rfl rfl ?_
  refine hK5 _ _ ?_
  clear hK5 K5
  refine ex_cond rfl (fun hc6 => ?_) (fun hc6 => ?_)
  · try simp at hc6
    obtain ⟨p, hp⟩ : ∃ p, l[i]? = some p := ⟨_, List.getElem?_eq_getElem (by omega)⟩
    have hmk := mks_get zI kI (k := k) hp
    have hat := szs_at zI hp
    have hzp : zI p = 1 := rfl
    obtain ⟨q, hq⟩ : ∃ q, q = k + szs zI (l.take i) := ⟨_, rfl⟩
    rw [← hq] at hmk ⊢
    refine ex_skip ?_
    refine hK4 _ _ ?_
    clear hK4 K4
    refine ex_seq_k fun K7 hK7 => ?_
    refine ex_block ?_
    refine ex_seq_k fun K8 hK8 => ?_
    refine ex_seq_k fun K9 hK9 => ?_
    refine ex_region ttOK (by rfl) ?_
    refine rl_move rfl ?_
    refine rl_move rfl ?_
    first | refine rl_idxm rfl rfl tt_29 rfl tt_3 rfl (by assumption) ?_ | refine rl_idxr rfl rfl tt_29 rfl tt_3 rfl rfl (by first | omega | (simp; done) | (simp; omega)) ?_
    first | refine rl_load_ptr rfl tt_3 rfl rfl ?_ | refine rl_load_iel rfl tt_3 rfl ?_
    refine rl_move rfl ?_
    refine rl_bin rfl rfl rfl ?_
    refine hK9 _ _ ?_
    clear hK9 K9
    refine ex_cond rfl (fun hc10 => ?_) (fun hc10 => ?_)
    · first | (simp [kI, kEv, kOu, kPa, kLa, kVi, mEv, mOu, mSt] at hc10; done) | (simp [kI, kEv, kOu, kPa, kLa, kVi, mEv, mOu, mSt] at hc10; omega) | (simp at hc10; omega) | omega
    · try simp at hc10
      refine ex_skip ?_
      refine hK8 _ _ ?_
      clear hK8 K8
      refine ex_region ttOK (by rfl) ?_
      refine rl_move rfl ?_
      refine rl_addN (b := 1) rfl rfl (by omega) ?_
      refine rl_assign rfl ?_
      refine hK7 _ _ ?_
      clear hK7 K7
      refine ex_region ttOK (by rfl) ?_
      refine rl_move rfl ?_
      refine rl_addN (b := 1) rfl rfl (by omega) ?_
      refine rl_assign rfl ?_
      exact ⟨i + 1, ⟨by omega, by omega⟩, [], (Cov.cons' (t := 1) rfl (by rw [szs_take zI hp]; exact congrArg (fun v : Nat => AV.pv (.int .i64 (v : Int))) (by omega)) (Cov.cons (t := 5) rfl Cov.nil)), (Cov.cons (t := 0) rfl Cov.nil), HE.nil, HE.nil, rfl⟩
  · try simp at hc6
    obtain rfl : i = l.length := by omega
    refine ex_exit ?_
    refine hK2 _ _ ?_
    clear hK4 K4 hK2 K2
    refine ex_seq_k fun K11 hK11 => ?_
    refine ex_region ttOK (by rfl) ?_
    refine rl_move rfl ?_
    refine rl_assign rfl ?_
    refine hK11 _ _ ?_
    clear hK11 K11
    refine ex_ret ⟨.inr rfl, ?_⟩
    refine ret_pv rfl ?_ rfl
    rw [List.take_length]

theorem F_laws_heldEventS (c : Bool) (l : List Ev) (k : Nat) (hk : k + szs zEv l ≤ 1000000000) : Pure Try.prog 76 [rEvs c (mks zEv kEv k l), .pv (.int .i64 (k : Int))] (.pv (.int .i64 ((k + szs zEv l : Nat) : Int))) := by
  refine pure_of_ex ttOK (fn := Try.f76) (by kernel_rfl) (by kernel_rfl) rfl (outs := [.pv (.int .i64 ((k + szs zEv l : Nat) : Int))]) (by rfl) (Nat.le_of_ble_eq_true rfl) 0 ?_
  have hml := mks_len zEv kEv k l
  have hll := szs_len zEv (fun p => by unfold zEv; omega) l
  refine ex_seq_k fun K1 hK1 => ?_
  refine ex_region ttOK (by rfl) ?_
  refine rl_assign rfl ?_
  refine hK1 _ _ ?_
  clear hK1 K1
  refine ex_seq_k fun K2 hK2 => ?_
  refine ex_seq_k fun K3 hK3 => ?_
  refine ex_region ttOK (by rfl) ?_
  refine rl_assign rfl ?_
  refine hK3 _ _ ?_
  clear hK3 K3
  refine ex_block ?_
  refine ex_loopK (ι := Nat) (fun i γ1 => [(1, .pv (.int .i64 ((k + szs zEv (l.take i) : Nat) : Int))), (5, .pv (.int .i64 (i : Int)))]) (fun i γ1 => []) (fun i => i ≤ l.length) (fun i => l.length - i) (Cov.cons (t := 0) rfl Cov.nil) HE.nil 0 (by omega) [] (Cov.cons' (t := 1) rfl (by rw [List.take_zero]; rfl) (Cov.cons (t := 5) rfl Cov.nil)) HE.nil rfl fun i γ1 hi => ?_
  try dsimp only [List.cons_append, List.nil_append]
  refine ex_seq_k fun K4 hK4 => ?_
  refine ex_seq_k fun K5 hK5 => ?_
  refine ex_region ttOK (by rfl) ?_
  refine rl_move rfl ?_
  refine rl_move rfl ?_
  first | refine rl_lenm rfl tt_26 rfl ?_ | refine rl_lenr rfl tt_26 rfl rfl (by first | exact List.length_map _ | rfl) ?_ | refine rl_len rfl tt_26 rfl rfl (by intro s hs; cases hs) rfl ?_
  refine rl_bin rfl rfl rfl ?_
  refine hK5 _ _ ?_
  clear hK5 K5
  refine ex_cond rfl (fun hc6 => ?_) (fun hc6 => ?_)
  · try simp at hc6
    obtain ⟨p, hp⟩ : ∃ p, l[i]? = some p := ⟨_, List.getElem?_eq_getElem (by omega)⟩
    have hmk := mks_get zEv kEv (k := k) hp
    have hat := szs_at zEv hp
    have hzp : zEv p = 7 := rfl
    obtain ⟨q, hq⟩ : ∃ q, q = k + szs zEv (l.take i) := ⟨_, rfl⟩
    rw [← hq] at hmk ⊢
    refine ex_skip ?_
    refine hK4 _ _ ?_
    clear hK4 K4
    refine ex_seq_k fun K7 hK7 => ?_
    refine ex_block ?_
    refine ex_seq_k fun K8 hK8 => ?_
    refine ex_seq_k fun K9 hK9 => ?_
    refine ex_region ttOK (by rfl) ?_
    refine rl_move rfl ?_
    refine rl_move rfl ?_
    first | refine rl_idxm rfl rfl tt_26 rfl tt_60 rfl (by assumption) ?_ | refine rl_idxr rfl rfl tt_26 rfl tt_60 rfl rfl (by first | omega | (simp; done) | (simp; omega)) ?_
    refine rl_fieldAddr rfl tt_60 rfl rfl tt_3 rfl rfl ?_
    first | refine rl_load_ptr rfl tt_3 rfl rfl ?_ | refine rl_load_iel rfl tt_3 rfl ?_
    refine rl_move rfl ?_
    refine rl_bin rfl rfl rfl ?_
    refine hK9 _ _ ?_
    clear hK9 K9
    refine ex_cond rfl (fun hc10 => ?_) (fun hc10 => ?_)
    · first | (simp [kI, kEv, kOu, kPa, kLa, kVi, mEv, mOu, mSt] at hc10; done) | (simp [kI, kEv, kOu, kPa, kLa, kVi, mEv, mOu, mSt] at hc10; omega) | (simp at hc10; omega) | omega
    · try simp at hc10
      refine ex_skip ?_
      refine hK8 _ _ ?_
      clear hK8 K8
      refine ex_seq_k fun K11 hK11 => ?_
      refine ex_region ttOK (by rfl) ?_
      refine rl_move rfl ?_
      refine rl_addN (b := 1) rfl rfl (by omega) ?_
      refine rl_assign rfl ?_
      refine hK11 _ _ ?_
      clear hK11 K11
      refine ex_seq_k fun K12 hK12 => ?_
      refine ex_seq_k fun K13 hK13 => ?_
      refine ex_region ttOK (by rfl) ?_
      refine rl_move rfl ?_
      refine rl_move rfl ?_
      first | refine rl_idxm rfl rfl tt_26 rfl tt_60 rfl (by assumption) ?_ | refine rl_idxr rfl rfl tt_26 rfl tt_60 rfl rfl (by first | omega | (simp; done) | (simp; omega)) ?_
      refine rl_fieldAddr rfl tt_60 rfl rfl tt_3 rfl rfl ?_
      first | refine rl_load_ptr rfl tt_3 rfl rfl ?_ | refine rl_load_iel rfl tt_3 rfl ?_
      refine rl_move rfl ?_
      refine rl_bin rfl rfl rfl ?_
      refine hK13 _ _ ?_
      clear hK13 K13
      refine ex_cond rfl (fun hc14 => ?_) (fun hc14 => ?_)
      · first | (simp [kI, kEv, kOu, kPa, kLa, kVi, mEv, mOu, mSt] at hc14; done) | (simp [kI, kEv, kOu, kPa, kLa, kVi, mEv, mOu, mSt] at hc14; omega) | (simp at hc14; omega) | omega
      · try simp at hc14
        refine ex_skip ?_
        refine hK12 _ _ ?_
        clear hK12 K12
        refine ex_seq_k fun K15 hK15 => ?_
        refine ex_region ttOK (by rfl) ?_
        refine rl_move rfl ?_
        refine rl_addN (b := 1) rfl rfl (by omega) ?_
        refine rl_assign rfl ?_
        refine hK15 _ _ ?_
        clear hK15 K15
        refine ex_seq_k fun K16 hK16 => ?_
        refine ex_seq_k fun K17 hK17 => ?_
        refine ex_region ttOK (by rfl) ?_
        refine rl_move rfl ?_
        refine rl_move rfl ?_
        first | refine rl_idxm rfl rfl tt_26 rfl tt_60 rfl (by assumption) ?_ | refine rl_idxr rfl rfl tt_26 rfl tt_60 rfl rfl (by first | omega | (simp; done) | (simp; omega)) ?_
        refine rl_fieldAddr rfl tt_60 rfl rfl tt_3 rfl rfl ?_
        first | refine rl_load_ptr rfl tt_3 rfl rfl ?_ | refine rl_load_iel rfl tt_3 rfl ?_
        refine rl_move rfl ?_
        refine rl_bin rfl rfl rfl ?_
        refine hK17 _ _ ?_
        clear hK17 K17
        refine ex_cond rfl (fun hc18 => ?_) (fun hc18 => ?_)
        · first | (simp [kI, kEv, kOu, kPa, kLa, kVi, mEv, mOu, mSt] at hc18; done) | (simp [kI, kEv, kOu, kPa, kLa, kVi, mEv, mOu, mSt] at hc18; omega) | (simp at hc18; omega) | omega
        · try simp at hc18
          refine ex_skip ?_
          refine hK16 _ _ ?_
          clear hK16 K16
          refine ex_seq_k fun K19 hK19 => ?_
          refine ex_region ttOK (by rfl) ?_
          refine rl_move rfl ?_
          refine rl_addN (b := 1) rfl rfl (by omega) ?_
          refine rl_assign rfl ?_
          refine hK19 _ _ ?_
          clear hK19 K19
          refine ex_seq_k fun K20 hK20 => ?_
          refine ex_seq_k fun K21 hK21 => ?_
          refine ex_region ttOK (by rfl) ?_
          refine rl_move rfl ?_
          refine rl_move rfl ?_
          first | refine rl_idxm rfl rfl tt_26 rfl tt_60 rfl (by assumption) ?_ | refine rl_idxr rfl rfl tt_26 rfl tt_60 rfl rfl (by first | omega | (simp; done) | (simp; omega)) ?_
          refine rl_fieldAddr rfl tt_60 rfl rfl tt_3 rfl rfl ?_
          first | refine rl_load_ptr rfl tt_3 rfl rfl ?_ | refine rl_load_iel rfl tt_3 rfl ?_
          refine rl_move rfl ?_
          refine rl_bin rfl rfl rfl ?_
          refine hK21 _ _ ?_
          clear hK21 K21
          refine ex_cond rfl (fun hc22 => ?_) (fun hc22 => ?_)
          · first | (simp [kI, kEv, kOu, kPa, kLa, kVi, mEv, mOu, mSt] at hc22; done) | (simp [kI, kEv, kOu, kPa, kLa, kVi, mEv, mOu, mSt] at hc22; omega) | (simp at hc22; omega) | omega
          · try simp at hc22
            refine ex_skip ?_
            refine hK20 _ _ ?_
            clear hK20 K20
            refine ex_seq_k fun K23 hK23 => ?_
            refine ex_region ttOK (by rfl) ?_
            refine rl_move rfl ?_
            refine rl_addN (b := 1) rfl rfl (by omega) ?_
            refine rl_assign rfl ?_
            refine hK23 _ _ ?_
            clear hK23 K23
            refine ex_seq_k fun K24 hK24 => ?_
            refine ex_seq_k fun K25 hK25 => ?_
            refine ex_region ttOK (by rfl) ?_
            refine rl_move rfl ?_
            refine rl_move rfl ?_
            first | refine rl_idxm rfl rfl tt_26 rfl tt_60 rfl (by assumption) ?_ | refine rl_idxr rfl rfl tt_26 rfl tt_60 rfl rfl (by first | omega | (simp; done) | (simp; omega)) ?_
            refine rl_fieldAddr rfl tt_60 rfl rfl tt_3 rfl rfl ?_
            first | refine rl_load_ptr rfl tt_3 rfl rfl ?_ | refine rl_load_iel rfl tt_3 rfl ?_
            refine rl_move rfl ?_
            refine rl_bin rfl rfl rfl ?_
            refine hK25 _ _ ?_
            clear hK25 K25
            refine ex_cond rfl (fun hc26 => ?_) (fun hc26 => ?_)
            · first | (simp [kI, kEv, kOu, kPa, kLa, kVi, mEv, mOu, mSt] at hc26; done) | (simp [kI, kEv, kOu, kPa, kLa, kVi, mEv, mOu, mSt] at hc26; omega) | (simp at hc26; omega) | omega
            · try simp at hc26
              refine ex_skip ?_
              refine hK24 _ _ ?_
              clear hK24 K24
              refine ex_seq_k fun K27 hK27 => ?_
              refine ex_region ttOK (by rfl) ?_
              refine rl_move rfl ?_
              refine rl_addN (b := 1) rfl rfl (by omega) ?_
              refine rl_assign rfl ?_
              refine hK27 _ _ ?_
              clear hK27 K27
              refine ex_seq_k fun K28 hK28 => ?_
              refine ex_seq_k fun K29 hK29 => ?_
              refine ex_region ttOK (by rfl) ?_
              refine rl_move rfl ?_
              refine rl_move rfl ?_
              first | refine rl_idxm rfl rfl tt_26 rfl tt_60 rfl (by assumption) ?_ | refine rl_idxr rfl rfl tt_26 rfl tt_60 rfl rfl (by first | omega | (simp; done) | (simp; omega)) ?_
              refine rl_fieldAddr rfl tt_60 rfl rfl tt_3 rfl rfl ?_
              first | refine rl_load_ptr rfl tt_3 rfl rfl ?_ | refine rl_load_iel rfl tt_3 rfl ?_
              refine rl_move rfl ?_
              refine rl_bin rfl rfl rfl ?_
              refine hK29 _ _ ?_
              clear hK29 K29
              refine ex_cond rfl (fun hc30 => ?_) (fun hc30 => ?_)
              · first | (simp [kI, kEv, kOu, kPa, kLa, kVi, mEv, mOu, mSt] at hc30; done) | (simp [kI, kEv, kOu, kPa, kLa, kVi, mEv, mOu, mSt] at hc30; omega) | (simp at hc30; omega) | omega
              · try simp at hc30
                refine ex_skip ?_
                refine hK28 _ _ ?_
                clear hK28 K28
                refine ex_seq_k fun K31 hK31 => ?_
                refine ex_region ttOK (by rfl) ?_
                refine rl_move rfl ?_
                refine rl_addN (b := 1) rfl rfl (by omega) ?_
                refine rl_assign rfl ?_
                refine hK31 _ _ ?_
                clear hK31 K31
                refine ex_seq_k fun K32 hK32 => ?_
                refine ex_seq_k fun K33 hK33 => ?_
                refine ex_region ttOK (by rfl) ?_
                refine rl_move rfl ?_
                refine rl_move rfl ?_
                first | refine rl_idxm rfl rfl tt_26 rfl tt_60 rfl (by assumption) ?_ | refine rl_idxr rfl rfl tt_26 rfl tt_60 rfl rfl (by first | omega | (simp; done) | (simp; omega)) ?_
                refine rl_fieldAddr rfl tt_60 rfl rfl tt_3 rfl rfl ?_
                first | refine rl_load_ptr rfl tt_3 rfl rfl ?_ | refine rl_load_iel rfl tt_3 rfl ?_
                refine rl_move rfl ?_
                refine rl_bin rfl rfl rfl ?_
                refine hK33 _ _ ?_
                clear hK33 K33
                refine ex_cond rfl (fun hc34 => ?_) (fun hc34 => ?_)
                · first | (simp [kI, kEv, kOu, kPa, kLa, kVi, mEv, mOu, mSt] at hc34; done) | (simp [kI, kEv, kOu, kPa, kLa, kVi, mEv, mOu, mSt] at hc34; omega) | (simp at hc34; omega) | omega
                · try simp at hc34
                  refine ex_skip ?_
                  refine hK32 _ _ ?_
                  clear hK32 K32
                  refine ex_region ttOK (by rfl) ?_
                  refine rl_move rfl ?_
                  refine rl_addN (b := 1) rfl rfl (by omega) ?_
                  refine rl_assign rfl ?_
                  refine hK7 _ _ ?_
                  clear hK7 K7
                  refine ex_region ttOK (by rfl) ?_
                  refine rl_move rfl ?_
                  refine rl_addN (b := 1) rfl rfl (by omega) ?_
                  refine rl_assign rfl ?_
                  exact ⟨i + 1, ⟨by omega, by omega⟩, [], (Cov.cons' (t := 1) rfl (by rw [szs_take zEv hp]; exact congrArg (fun v : Nat => AV.pv (.int .i64 (v : Int))) (by omega)) (Cov.cons (t := 5) rfl Cov.nil)), (Cov.cons (t := 0) rfl Cov.nil), HE.nil, HE.nil, rfl⟩
  · try simp at hc6
    obtain rfl : i = l.length := by omega
    refine ex_exit ?_
    refine hK2 _ _ ?_
    clear hK4 K4 hK2 K2
    refine ex_seq_k fun K35 hK35 => ?_
    refine ex_region ttOK (by rfl) ?_
    refine rl_move rfl ?_
    refine rl_assign rfl ?_
    refine hK35 _ _ ?_
    clear hK35 K35
    refine ex_ret ⟨.inr rfl, ?_⟩
    refine ret_pv rfl ?_ rfl
    rw [List.take_length]

theorem F_laws_heldOutS (c : Bool) (l : List Ou) (k : Nat) (hk : k + szs zOu l ≤ 1000000000) : Pure Try.prog 77 [rOus c (mks zOu kOu k l), .pv (.int .i64 (k : Int))] (.pv (.int .i64 ((k + szs zOu l : Nat) : Int))) := by
  refine pure_of_ex ttOK (fn := Try.f77) (by kernel_rfl) (by kernel_rfl) rfl (outs := [.pv (.int .i64 ((k + szs zOu l : Nat) : Int))]) (by rfl) (Nat.le_of_ble_eq_true rfl) 0 ?_
  have hml := mks_len zOu kOu k l
  have hll := szs_len zOu (fun p => by unfold zOu; omega) l
  refine ex_seq_k fun K1 hK1 => ?_
  refine ex_region ttOK (by rfl) ?_
  refine rl_assign rfl ?_
  refine hK1 _ _ ?_
  clear hK1 K1
  refine ex_seq_k fun K2 hK2 => ?_
  refine ex_seq_k fun K3 hK3 => ?_
  refine ex_region ttOK (by rfl) ?_
  refine rl_assign rfl ?_
  refine hK3 _ _ ?_
  clear hK3 K3
  refine ex_block ?_
  refine ex_loopK (ι := Nat) (fun i γ1 => [(1, .pv (.int .i64 ((k + szs zOu (l.take i) : Nat) : Int))), (5, .pv (.int .i64 (i : Int)))]) (fun i γ1 => []) (fun i => i ≤ l.length) (fun i => l.length - i) (Cov.cons (t := 0) rfl Cov.nil) HE.nil 0 (by omega) [] (Cov.cons' (t := 1) rfl (by rw [List.take_zero]; rfl) (Cov.cons (t := 5) rfl Cov.nil)) HE.nil rfl fun i γ1 hi => ?_
  try dsimp only [List.cons_append, List.nil_append]
  refine ex_seq_k fun K4 hK4 => ?_
  refine ex_seq_k fun K5 hK5 => ?_
  refine ex_region ttOK (by rfl) ?_
  refine rl_move rfl ?_
  refine rl_move rfl ?_
  first | refine rl_lenm rfl tt_27 rfl ?_ | refine rl_lenr rfl tt_27 rfl rfl (by first | exact List.length_map _ | rfl) ?_ | refine rl_len rfl tt_27 rfl rfl (by intro s hs; cases hs) rfl ?_
  refine rl_bin rfl rfl rfl ?_
  refine hK5 _ _ ?_
  clear hK5 K5
  refine ex_cond rfl (fun hc6 => ?_) (fun hc6 => ?_)
  · try simp at hc6
    obtain ⟨p, hp⟩ : ∃ p, l[i]? = some p := ⟨_, List.getElem?_eq_getElem (by omega)⟩
    have hmk := mks_get zOu kOu (k := k) hp
    have hat := szs_at zOu hp
    have hzp : zOu p = 5 := rfl
    obtain ⟨q, hq⟩ : ∃ q, q = k + szs zOu (l.take i) := ⟨_, rfl⟩
    rw [← hq] at hmk ⊢
    refine ex_skip ?_
    refine hK4 _ _ ?_
    clear hK4 K4
    refine ex_seq_k fun K7 hK7 => ?_
    refine ex_block ?_
    refine ex_seq_k fun K8 hK8 => ?_
    refine ex_seq_k fun K9 hK9 => ?_
    refine ex_region ttOK (by rfl) ?_
    refine rl_move rfl ?_
    refine rl_move rfl ?_
    first | refine rl_idxm rfl rfl tt_27 rfl tt_131 rfl (by assumption) ?_ | refine rl_idxr rfl rfl tt_27 rfl tt_131 rfl rfl (by first | omega | (simp; done) | (simp; omega)) ?_
    refine rl_fieldAddr rfl tt_131 rfl rfl tt_3 rfl rfl ?_
    first | refine rl_load_ptr rfl tt_3 rfl rfl ?_ | refine rl_load_iel rfl tt_3 rfl ?_
    refine rl_move rfl ?_
    refine rl_bin rfl rfl rfl ?_
    refine hK9 _ _ ?_
    clear hK9 K9
    refine ex_cond rfl (fun hc10 => ?_) (fun hc10 => ?_)
    · first | (simp [kI, kEv, kOu, kPa, kLa, kVi, mEv, mOu, mSt] at hc10; done) | (simp [kI, kEv, kOu, kPa, kLa, kVi, mEv, mOu, mSt] at hc10; omega) | (simp at hc10; omega) | omega
    · try simp at hc10
      refine ex_skip ?_
      refine hK8 _ _ ?_
      clear hK8 K8
      refine ex_seq_k fun K11 hK11 => ?_
      refine ex_region ttOK (by rfl) ?_
      refine rl_move rfl ?_
      refine rl_addN (b := 1) rfl rfl (by omega) ?_
      refine rl_assign rfl ?_
      refine hK11 _ _ ?_
      clear hK11 K11
      refine ex_seq_k fun K12 hK12 => ?_
      refine ex_seq_k fun K13 hK13 => ?_
      refine ex_region ttOK (by rfl) ?_
      refine rl_move rfl ?_
      refine rl_move rfl ?_
      first | refine rl_idxm rfl rfl tt_27 rfl tt_131 rfl (by assumption) ?_ | refine rl_idxr rfl rfl tt_27 rfl tt_131 rfl rfl (by first | omega | (simp; done) | (simp; omega)) ?_
      refine rl_fieldAddr rfl tt_131 rfl rfl tt_3 rfl rfl ?_
      first | refine rl_load_ptr rfl tt_3 rfl rfl ?_ | refine rl_load_iel rfl tt_3 rfl ?_
      refine rl_move rfl ?_
      refine rl_bin rfl rfl rfl ?_
      refine hK13 _ _ ?_
      clear hK13 K13
      refine ex_cond rfl (fun hc14 => ?_) (fun hc14 => ?_)
      · first | (simp [kI, kEv, kOu, kPa, kLa, kVi, mEv, mOu, mSt] at hc14; done) | (simp [kI, kEv, kOu, kPa, kLa, kVi, mEv, mOu, mSt] at hc14; omega) | (simp at hc14; omega) | omega
      · try simp at hc14
        refine ex_skip ?_
        refine hK12 _ _ ?_
        clear hK12 K12
        refine ex_seq_k fun K15 hK15 => ?_
        refine ex_region ttOK (by rfl) ?_
        refine rl_move rfl ?_
        refine rl_addN (b := 1) rfl rfl (by omega) ?_
        refine rl_assign rfl ?_
        refine hK15 _ _ ?_
        clear hK15 K15
        refine ex_seq_k fun K16 hK16 => ?_
        refine ex_seq_k fun K17 hK17 => ?_
        refine ex_region ttOK (by rfl) ?_
        refine rl_move rfl ?_
        refine rl_move rfl ?_
        first | refine rl_idxm rfl rfl tt_27 rfl tt_131 rfl (by assumption) ?_ | refine rl_idxr rfl rfl tt_27 rfl tt_131 rfl rfl (by first | omega | (simp; done) | (simp; omega)) ?_
        refine rl_fieldAddr rfl tt_131 rfl rfl tt_3 rfl rfl ?_
        first | refine rl_load_ptr rfl tt_3 rfl rfl ?_ | refine rl_load_iel rfl tt_3 rfl ?_
        refine rl_move rfl ?_
        refine rl_bin rfl rfl rfl ?_
        refine hK17 _ _ ?_
        clear hK17 K17
        refine ex_cond rfl (fun hc18 => ?_) (fun hc18 => ?_)
        · first | (simp [kI, kEv, kOu, kPa, kLa, kVi, mEv, mOu, mSt] at hc18; done) | (simp [kI, kEv, kOu, kPa, kLa, kVi, mEv, mOu, mSt] at hc18; omega) | (simp at hc18; omega) | omega
        · try simp at hc18
          refine ex_skip ?_
          refine hK16 _ _ ?_
          clear hK16 K16
          refine ex_seq_k fun K19 hK19 => ?_
          refine ex_region ttOK (by rfl) ?_
          refine rl_move rfl ?_
          refine rl_addN (b := 1) rfl rfl (by omega) ?_
          refine rl_assign rfl ?_
          refine hK19 _ _ ?_
          clear hK19 K19
          refine ex_seq_k fun K20 hK20 => ?_
          refine ex_seq_k fun K21 hK21 => ?_
          refine ex_region ttOK (by rfl) ?_
          refine rl_move rfl ?_
          refine rl_move rfl ?_
          first | refine rl_idxm rfl rfl tt_27 rfl tt_131 rfl (by assumption) ?_ | refine rl_idxr rfl rfl tt_27 rfl tt_131 rfl rfl (by first | omega | (simp; done) | (simp; omega)) ?_
          refine rl_fieldAddr rfl tt_131 rfl rfl tt_3 rfl rfl ?_
          first | refine rl_load_ptr rfl tt_3 rfl rfl ?_ | refine rl_load_iel rfl tt_3 rfl ?_
          refine rl_move rfl ?_
          refine rl_bin rfl rfl rfl ?_
          refine hK21 _ _ ?_
          clear hK21 K21
          refine ex_cond rfl (fun hc22 => ?_) (fun hc22 => ?_)
          · first | (simp [kI, kEv, kOu, kPa, kLa, kVi, mEv, mOu, mSt] at hc22; done) | (simp [kI, kEv, kOu, kPa, kLa, kVi, mEv, mOu, mSt] at hc22; omega) | (simp at hc22; omega) | omega
          · try simp at hc22
            refine ex_skip ?_
            refine hK20 _ _ ?_
            clear hK20 K20
            refine ex_seq_k fun K23 hK23 => ?_
            refine ex_region ttOK (by rfl) ?_
            refine rl_move rfl ?_
            refine rl_addN (b := 1) rfl rfl (by omega) ?_
            refine rl_assign rfl ?_
            refine hK23 _ _ ?_
            clear hK23 K23
            refine ex_seq_k fun K24 hK24 => ?_
            refine ex_seq_k fun K25 hK25 => ?_
            refine ex_region ttOK (by rfl) ?_
            refine rl_move rfl ?_
            refine rl_move rfl ?_
            first | refine rl_idxm rfl rfl tt_27 rfl tt_131 rfl (by assumption) ?_ | refine rl_idxr rfl rfl tt_27 rfl tt_131 rfl rfl (by first | omega | (simp; done) | (simp; omega)) ?_
            refine rl_fieldAddr rfl tt_131 rfl rfl tt_3 rfl rfl ?_
            first | refine rl_load_ptr rfl tt_3 rfl rfl ?_ | refine rl_load_iel rfl tt_3 rfl ?_
            refine rl_move rfl ?_
            refine rl_bin rfl rfl rfl ?_
            refine hK25 _ _ ?_
            clear hK25 K25
            refine ex_cond rfl (fun hc26 => ?_) (fun hc26 => ?_)
            · first | (simp [kI, kEv, kOu, kPa, kLa, kVi, mEv, mOu, mSt] at hc26; done) | (simp [kI, kEv, kOu, kPa, kLa, kVi, mEv, mOu, mSt] at hc26; omega) | (simp at hc26; omega) | omega
            · try simp at hc26
              refine ex_skip ?_
              refine hK24 _ _ ?_
              clear hK24 K24
              refine ex_region ttOK (by rfl) ?_
              refine rl_move rfl ?_
              refine rl_addN (b := 1) rfl rfl (by omega) ?_
              refine rl_assign rfl ?_
              refine hK7 _ _ ?_
              clear hK7 K7
              refine ex_region ttOK (by rfl) ?_
              refine rl_move rfl ?_
              refine rl_addN (b := 1) rfl rfl (by omega) ?_
              refine rl_assign rfl ?_
              exact ⟨i + 1, ⟨by omega, by omega⟩, [], (Cov.cons' (t := 1) rfl (by rw [szs_take zOu hp]; exact congrArg (fun v : Nat => AV.pv (.int .i64 (v : Int))) (by omega)) (Cov.cons (t := 5) rfl Cov.nil)), (Cov.cons (t := 0) rfl Cov.nil), HE.nil, HE.nil, rfl⟩
  · try simp at hc6
    obtain rfl : i = l.length := by omega
    refine ex_exit ?_
    refine hK2 _ _ ?_
    clear hK4 K4 hK2 K2
    refine ex_seq_k fun K27 hK27 => ?_
    refine ex_region ttOK (by rfl) ?_
    refine rl_move rfl ?_
    refine rl_assign rfl ?_
    refine hK27 _ _ ?_
    clear hK27 K27
    refine ex_ret ⟨.inr rfl, ?_⟩
    refine ret_pv rfl ?_ rfl
    rw [List.take_length]

theorem F_laws_heldPastS (c : Bool) (l : List Pa) (k : Nat) (hk : k + szs zPa l ≤ 1000000000) : Pure Try.prog 113 [rPas c (mks zPa kPa k l), .pv (.int .i64 (k : Int))] (.pv (.int .i64 ((k + szs zPa l : Nat) : Int))) := by
  refine pure_of_ex ttOK (fn := Try.f113) (by kernel_rfl) (by kernel_rfl) rfl (outs := [.pv (.int .i64 ((k + szs zPa l : Nat) : Int))]) (by rfl) (Nat.le_of_ble_eq_true rfl) 0 ?_
  have hml := mks_len zPa kPa k l
  have hll := szs_len zPa (fun p => by unfold zPa; omega) l
  refine ex_seq_k fun K1 hK1 => ?_
  refine ex_region ttOK (by rfl) ?_
  refine rl_assign rfl ?_
  refine hK1 _ _ ?_
  clear hK1 K1
  refine ex_seq_k fun K2 hK2 => ?_
  refine ex_seq_k fun K3 hK3 => ?_
  refine ex_region ttOK (by rfl) ?_
  refine rl_assign rfl ?_
  refine hK3 _ _ ?_
  clear hK3 K3
  refine ex_block ?_
  refine ex_loopK (ι := Nat) (fun i γ1 => [(1, .pv (.int .i64 ((k + szs zPa (l.take i) : Nat) : Int))), (5, .pv (.int .i64 (i : Int)))]) (fun i γ1 => []) (fun i => i ≤ l.length) (fun i => l.length - i) (Cov.cons (t := 0) rfl Cov.nil) HE.nil 0 (by omega) [] (Cov.cons' (t := 1) rfl (by rw [List.take_zero]; rfl) (Cov.cons (t := 5) rfl Cov.nil)) HE.nil rfl fun i γ1 hi => ?_
  try dsimp only [List.cons_append, List.nil_append]
  refine ex_seq_k fun K4 hK4 => ?_
  refine ex_seq_k fun K5 hK5 => ?_
  refine ex_region ttOK (by rfl) ?_
  refine rl_move rfl ?_
  refine rl_move rfl ?_
  first | refine rl_lenm rfl tt_35 rfl ?_ | refine rl_lenr rfl tt_35 rfl rfl (by first | exact List.length_map _ | rfl) ?_ | refine rl_len rfl tt_35 rfl rfl (by intro s hs; cases hs) rfl ?_
  refine rl_bin rfl rfl rfl ?_
  refine hK5 _ _ ?_
  clear hK5 K5
  refine ex_cond rfl (fun hc6 => ?_) (fun hc6 => ?_)
  · try simp at hc6
    obtain ⟨p, hp⟩ : ∃ p, l[i]? = some p := ⟨_, List.getElem?_eq_getElem (by omega)⟩
    have hmk := mks_get zPa kPa (k := k) hp
    have hat := szs_at zPa hp
    have hzp : zPa p = 10 + szs zEv p.sends + szs zOu p.outs := rfl
    obtain ⟨q, hq⟩ : ∃ q, q = k + szs zPa (l.take i) := ⟨_, rfl⟩
    rw [← hq] at hmk ⊢
    refine ex_skip ?_
    refine hK4 _ _ ?_
    clear hK4 K4
    refine ex_seq_k fun K7 hK7 => ?_
    refine ex_block ?_
    refine ex_seq_k fun K8 hK8 => ?_
    refine ex_seq_k fun K9 hK9 => ?_
    refine ex_region ttOK (by rfl) ?_
    refine rl_move rfl ?_
    refine rl_move rfl ?_
    first | refine rl_idxm rfl rfl tt_35 rfl tt_154 rfl (by assumption) ?_ | refine rl_idxr rfl rfl tt_35 rfl tt_154 rfl rfl (by first | omega | (simp; done) | (simp; omega)) ?_
    refine rl_fieldAddr rfl tt_154 rfl rfl tt_60 rfl rfl ?_
    refine rl_fieldAddr rfl tt_60 rfl rfl tt_3 rfl rfl ?_
    first | refine rl_load_ptr rfl tt_3 rfl rfl ?_ | refine rl_load_iel rfl tt_3 rfl ?_
    refine rl_move rfl ?_
    refine rl_bin rfl rfl rfl ?_
    refine hK9 _ _ ?_
    clear hK9 K9
    refine ex_cond rfl (fun hc10 => ?_) (fun hc10 => ?_)
    · first | (simp [kI, kEv, kOu, kPa, kLa, kVi, mEv, mOu, mSt] at hc10; done) | (simp [kI, kEv, kOu, kPa, kLa, kVi, mEv, mOu, mSt] at hc10; omega) | (simp at hc10; omega) | omega
    · try simp at hc10
      refine ex_skip ?_
      refine hK8 _ _ ?_
      clear hK8 K8
      refine ex_seq_k fun K11 hK11 => ?_
      refine ex_region ttOK (by rfl) ?_
      refine rl_move rfl ?_
      refine rl_addN (b := 1) rfl rfl (by omega) ?_
      refine rl_assign rfl ?_
      refine hK11 _ _ ?_
      clear hK11 K11
      refine ex_seq_k fun K12 hK12 => ?_
      refine ex_seq_k fun K13 hK13 => ?_
      refine ex_region ttOK (by rfl) ?_
      refine rl_move rfl ?_
      refine rl_move rfl ?_
      first | refine rl_idxm rfl rfl tt_35 rfl tt_154 rfl (by assumption) ?_ | refine rl_idxr rfl rfl tt_35 rfl tt_154 rfl rfl (by first | omega | (simp; done) | (simp; omega)) ?_
      refine rl_fieldAddr rfl tt_154 rfl rfl tt_60 rfl rfl ?_
      refine rl_fieldAddr rfl tt_60 rfl rfl tt_3 rfl rfl ?_
      first | refine rl_load_ptr rfl tt_3 rfl rfl ?_ | refine rl_load_iel rfl tt_3 rfl ?_
      refine rl_move rfl ?_
      refine rl_bin rfl rfl rfl ?_
      refine hK13 _ _ ?_
      clear hK13 K13
      refine ex_cond rfl (fun hc14 => ?_) (fun hc14 => ?_)
      · first | (simp [kI, kEv, kOu, kPa, kLa, kVi, mEv, mOu, mSt] at hc14; done) | (simp [kI, kEv, kOu, kPa, kLa, kVi, mEv, mOu, mSt] at hc14; omega) | (simp at hc14; omega) | omega
      · try simp at hc14
        refine ex_skip ?_
        refine hK12 _ _ ?_
        clear hK12 K12
        refine ex_seq_k fun K15 hK15 => ?_
        refine ex_region ttOK (by rfl) ?_
        refine rl_move rfl ?_
        refine rl_addN (b := 1) rfl rfl (by omega) ?_
        refine rl_assign rfl ?_
        refine hK15 _ _ ?_
        clear hK15 K15
        refine ex_seq_k fun K16 hK16 => ?_
        refine ex_seq_k fun K17 hK17 => ?_
        refine ex_region ttOK (by rfl) ?_
        refine rl_move rfl ?_
        refine rl_move rfl ?_
        first | refine rl_idxm rfl rfl tt_35 rfl tt_154 rfl (by assumption) ?_ | refine rl_idxr rfl rfl tt_35 rfl tt_154 rfl rfl (by first | omega | (simp; done) | (simp; omega)) ?_
        refine rl_fieldAddr rfl tt_154 rfl rfl tt_60 rfl rfl ?_
        refine rl_fieldAddr rfl tt_60 rfl rfl tt_3 rfl rfl ?_
        first | refine rl_load_ptr rfl tt_3 rfl rfl ?_ | refine rl_load_iel rfl tt_3 rfl ?_
        refine rl_move rfl ?_
        refine rl_bin rfl rfl rfl ?_
        refine hK17 _ _ ?_
        clear hK17 K17
        refine ex_cond rfl (fun hc18 => ?_) (fun hc18 => ?_)
        · first | (simp [kI, kEv, kOu, kPa, kLa, kVi, mEv, mOu, mSt] at hc18; done) | (simp [kI, kEv, kOu, kPa, kLa, kVi, mEv, mOu, mSt] at hc18; omega) | (simp at hc18; omega) | omega
        · try simp at hc18
          refine ex_skip ?_
          refine hK16 _ _ ?_
          clear hK16 K16
          refine ex_seq_k fun K19 hK19 => ?_
          refine ex_region ttOK (by rfl) ?_
          refine rl_move rfl ?_
          refine rl_addN (b := 1) rfl rfl (by omega) ?_
          refine rl_assign rfl ?_
          refine hK19 _ _ ?_
          clear hK19 K19
          refine ex_seq_k fun K20 hK20 => ?_
          refine ex_seq_k fun K21 hK21 => ?_
          refine ex_region ttOK (by rfl) ?_
          refine rl_move rfl ?_
          refine rl_move rfl ?_
          first | refine rl_idxm rfl rfl tt_35 rfl tt_154 rfl (by assumption) ?_ | refine rl_idxr rfl rfl tt_35 rfl tt_154 rfl rfl (by first | omega | (simp; done) | (simp; omega)) ?_
          refine rl_fieldAddr rfl tt_154 rfl rfl tt_60 rfl rfl ?_
          refine rl_fieldAddr rfl tt_60 rfl rfl tt_3 rfl rfl ?_
          first | refine rl_load_ptr rfl tt_3 rfl rfl ?_ | refine rl_load_iel rfl tt_3 rfl ?_
          refine rl_move rfl ?_
          refine rl_bin rfl rfl rfl ?_
          refine hK21 _ _ ?_
          clear hK21 K21
          refine ex_cond rfl (fun hc22 => ?_) (fun hc22 => ?_)
          · first | (simp [kI, kEv, kOu, kPa, kLa, kVi, mEv, mOu, mSt] at hc22; done) | (simp [kI, kEv, kOu, kPa, kLa, kVi, mEv, mOu, mSt] at hc22; omega) | (simp at hc22; omega) | omega
          · try simp at hc22
            refine ex_skip ?_
            refine hK20 _ _ ?_
            clear hK20 K20
            refine ex_seq_k fun K23 hK23 => ?_
            refine ex_region ttOK (by rfl) ?_
            refine rl_move rfl ?_
            refine rl_addN (b := 1) rfl rfl (by omega) ?_
            refine rl_assign rfl ?_
            refine hK23 _ _ ?_
            clear hK23 K23
            refine ex_seq_k fun K24 hK24 => ?_
            refine ex_seq_k fun K25 hK25 => ?_
            refine ex_region ttOK (by rfl) ?_
            refine rl_move rfl ?_
            refine rl_move rfl ?_
            first | refine rl_idxm rfl rfl tt_35 rfl tt_154 rfl (by assumption) ?_ | refine rl_idxr rfl rfl tt_35 rfl tt_154 rfl rfl (by first | omega | (simp; done) | (simp; omega)) ?_
            refine rl_fieldAddr rfl tt_154 rfl rfl tt_60 rfl rfl ?_
            refine rl_fieldAddr rfl tt_60 rfl rfl tt_3 rfl rfl ?_
            first | refine rl_load_ptr rfl tt_3 rfl rfl ?_ | refine rl_load_iel rfl tt_3 rfl ?_
            refine rl_move rfl ?_
            refine rl_bin rfl rfl rfl ?_
            refine hK25 _ _ ?_
            clear hK25 K25
            refine ex_cond rfl (fun hc26 => ?_) (fun hc26 => ?_)
            · first | (simp [kI, kEv, kOu, kPa, kLa, kVi, mEv, mOu, mSt] at hc26; done) | (simp [kI, kEv, kOu, kPa, kLa, kVi, mEv, mOu, mSt] at hc26; omega) | (simp at hc26; omega) | omega
            · try simp at hc26
              refine ex_skip ?_
              refine hK24 _ _ ?_
              clear hK24 K24
              refine ex_seq_k fun K27 hK27 => ?_
              refine ex_region ttOK (by rfl) ?_
              refine rl_move rfl ?_
              refine rl_addN (b := 1) rfl rfl (by omega) ?_
              refine rl_assign rfl ?_
              refine hK27 _ _ ?_
              clear hK27 K27
              refine ex_seq_k fun K28 hK28 => ?_
              refine ex_seq_k fun K29 hK29 => ?_
              refine ex_region ttOK (by rfl) ?_
              refine rl_move rfl ?_
              refine rl_move rfl ?_
              first | refine rl_idxm rfl rfl tt_35 rfl tt_154 rfl (by assumption) ?_ | refine rl_idxr rfl rfl tt_35 rfl tt_154 rfl rfl (by first | omega | (simp; done) | (simp; omega)) ?_
              refine rl_fieldAddr rfl tt_154 rfl rfl tt_60 rfl rfl ?_
              refine rl_fieldAddr rfl tt_60 rfl rfl tt_3 rfl rfl ?_
              first | refine rl_load_ptr rfl tt_3 rfl rfl ?_ | refine rl_load_iel rfl tt_3 rfl ?_
              refine rl_move rfl ?_
              refine rl_bin rfl rfl rfl ?_
              refine hK29 _ _ ?_
              clear hK29 K29
              refine ex_cond rfl (fun hc30 => ?_) (fun hc30 => ?_)
              · first | (simp [kI, kEv, kOu, kPa, kLa, kVi, mEv, mOu, mSt] at hc30; done) | (simp [kI, kEv, kOu, kPa, kLa, kVi, mEv, mOu, mSt] at hc30; omega) | (simp at hc30; omega) | omega
              · try simp at hc30
                refine ex_skip ?_
                refine hK28 _ _ ?_
                clear hK28 K28
                refine ex_seq_k fun K31 hK31 => ?_
                refine ex_region ttOK (by rfl) ?_
                refine rl_move rfl ?_
                refine rl_addN (b := 1) rfl rfl (by omega) ?_
                refine rl_assign rfl ?_
                refine hK31 _ _ ?_
                clear hK31 K31
                refine ex_seq_k fun K32 hK32 => ?_
                refine ex_seq_k fun K33 hK33 => ?_
                refine ex_region ttOK (by rfl) ?_
                refine rl_move rfl ?_
                refine rl_move rfl ?_
                first | refine rl_idxm rfl rfl tt_35 rfl tt_154 rfl (by assumption) ?_ | refine rl_idxr rfl rfl tt_35 rfl tt_154 rfl rfl (by first | omega | (simp; done) | (simp; omega)) ?_
                refine rl_fieldAddr rfl tt_154 rfl rfl tt_60 rfl rfl ?_
                refine rl_fieldAddr rfl tt_60 rfl rfl tt_3 rfl rfl ?_
                first | refine rl_load_ptr rfl tt_3 rfl rfl ?_ | refine rl_load_iel rfl tt_3 rfl ?_
                refine rl_move rfl ?_
                refine rl_bin rfl rfl rfl ?_
                refine hK33 _ _ ?_
                clear hK33 K33
                refine ex_cond rfl (fun hc34 => ?_) (fun hc34 => ?_)
                · first | (simp [kI, kEv, kOu, kPa, kLa, kVi, mEv, mOu, mSt] at hc34; done) | (simp [kI, kEv, kOu, kPa, kLa, kVi, mEv, mOu, mSt] at hc34; omega) | (simp at hc34; omega) | omega
                · try simp at hc34
                  refine ex_skip ?_
                  refine hK32 _ _ ?_
                  clear hK32 K32
                  refine ex_seq_k fun K35 hK35 => ?_
                  refine ex_region ttOK (by rfl) ?_
                  refine rl_move rfl ?_
                  refine rl_addN (b := 1) rfl rfl (by omega) ?_
                  refine rl_assign rfl ?_
                  refine hK35 _ _ ?_
                  clear hK35 K35
                  refine ex_seq_k fun K36 hK36 => ?_
                  refine ex_seq_k fun K37 hK37 => ?_
                  refine ex_region ttOK (by rfl) ?_
                  refine rl_move rfl ?_
                  refine rl_move rfl ?_
                  first | refine rl_idxm rfl rfl tt_35 rfl tt_154 rfl (by assumption) ?_ | refine rl_idxr rfl rfl tt_35 rfl tt_154 rfl rfl (by first | omega | (simp; done) | (simp; omega)) ?_
                  refine rl_fieldAddr rfl tt_154 rfl rfl tt_34 rfl rfl ?_
                  refine rl_fieldAddr rfl tt_34 rfl rfl tt_3 rfl rfl ?_
                  first | refine rl_load_ptr rfl tt_3 rfl rfl ?_ | refine rl_load_iel rfl tt_3 rfl ?_
                  refine rl_move rfl ?_
                  refine rl_bin rfl rfl rfl ?_
                  refine hK37 _ _ ?_
                  clear hK37 K37
                  refine ex_cond rfl (fun hc38 => ?_) (fun hc38 => ?_)
                  · first | (simp [kI, kEv, kOu, kPa, kLa, kVi, mEv, mOu, mSt] at hc38; done) | (simp [kI, kEv, kOu, kPa, kLa, kVi, mEv, mOu, mSt] at hc38; omega) | (simp at hc38; omega) | omega
                  · try simp at hc38
                    refine ex_skip ?_
                    refine hK36 _ _ ?_
                    clear hK36 K36
                    refine ex_seq_k fun K39 hK39 => ?_
                    refine ex_region ttOK (by rfl) ?_
                    refine rl_move rfl ?_
                    refine rl_addN (b := 1) rfl rfl (by omega) ?_
                    refine rl_assign rfl ?_
                    refine hK39 _ _ ?_
                    clear hK39 K39
                    refine ex_seq_k fun K40 hK40 => ?_
                    refine ex_seq_k fun K41 hK41 => ?_
                    refine ex_region ttOK (by rfl) ?_
                    refine rl_move rfl ?_
                    refine rl_move rfl ?_
                    first | refine rl_idxm rfl rfl tt_35 rfl tt_154 rfl (by assumption) ?_ | refine rl_idxr rfl rfl tt_35 rfl tt_154 rfl rfl (by first | omega | (simp; done) | (simp; omega)) ?_
                    refine rl_fieldAddr rfl tt_154 rfl rfl tt_34 rfl rfl ?_
                    refine rl_fieldAddr rfl tt_34 rfl rfl tt_3 rfl rfl ?_
                    first | refine rl_load_ptr rfl tt_3 rfl rfl ?_ | refine rl_load_iel rfl tt_3 rfl ?_
                    refine rl_move rfl ?_
                    refine rl_bin rfl rfl rfl ?_
                    refine hK41 _ _ ?_
                    clear hK41 K41
                    refine ex_cond rfl (fun hc42 => ?_) (fun hc42 => ?_)
                    · first | (simp [kI, kEv, kOu, kPa, kLa, kVi, mEv, mOu, mSt] at hc42; done) | (simp [kI, kEv, kOu, kPa, kLa, kVi, mEv, mOu, mSt] at hc42; omega) | (simp at hc42; omega) | omega
                    · try simp at hc42
                      refine ex_skip ?_
                      refine hK40 _ _ ?_
                      clear hK40 K40
                      refine ex_seq_k fun K43 hK43 => ?_
                      refine ex_region ttOK (by rfl) ?_
                      refine rl_move rfl ?_
                      refine rl_addN (b := 1) rfl rfl (by omega) ?_
                      refine rl_assign rfl ?_
                      refine hK43 _ _ ?_
                      clear hK43 K43
                      refine ex_seq_k fun K44 hK44 => ?_
                      refine ex_seq_k fun K45 hK45 => ?_
                      refine ex_region ttOK (by rfl) ?_
                      refine rl_move rfl ?_
                      refine rl_move rfl ?_
                      first | refine rl_idxm rfl rfl tt_35 rfl tt_154 rfl (by assumption) ?_ | refine rl_idxr rfl rfl tt_35 rfl tt_154 rfl rfl (by first | omega | (simp; done) | (simp; omega)) ?_
                      refine rl_fieldAddr rfl tt_154 rfl rfl tt_34 rfl rfl ?_
                      refine rl_fieldAddr rfl tt_34 rfl rfl tt_3 rfl rfl ?_
                      first | refine rl_load_ptr rfl tt_3 rfl rfl ?_ | refine rl_load_iel rfl tt_3 rfl ?_
                      refine rl_move rfl ?_
                      refine rl_bin rfl rfl rfl ?_
                      refine hK45 _ _ ?_
                      clear hK45 K45
                      refine ex_cond rfl (fun hc46 => ?_) (fun hc46 => ?_)
                      · first | (simp [kI, kEv, kOu, kPa, kLa, kVi, mEv, mOu, mSt] at hc46; done) | (simp [kI, kEv, kOu, kPa, kLa, kVi, mEv, mOu, mSt] at hc46; omega) | (simp at hc46; omega) | omega
                      · try simp at hc46
                        refine ex_skip ?_
                        refine hK44 _ _ ?_
                        clear hK44 K44
                        refine ex_seq_k fun K47 hK47 => ?_
                        refine ex_region ttOK (by rfl) ?_
                        refine rl_move rfl ?_
                        refine rl_addN (b := 1) rfl rfl (by omega) ?_
                        refine rl_assign rfl ?_
                        refine hK47 _ _ ?_
                        clear hK47 K47
                        refine ex_seq_k fun K48 hK48 => ?_
                        refine ex_region ttOK (by rfl) ?_
                        refine rl_move rfl ?_
                        refine rl_move rfl ?_
                        first | refine rl_idxm rfl rfl tt_35 rfl tt_154 rfl (by assumption) ?_ | refine rl_idxr rfl rfl tt_35 rfl tt_154 rfl rfl (by first | omega | (simp; done) | (simp; omega)) ?_
                        refine rl_fieldAddr rfl tt_154 rfl rfl tt_26 rfl rfl ?_
                        first | refine rl_load_ptr rfl tt_26 rfl rfl ?_ | refine rl_load_iel rfl tt_26 rfl ?_
                        refine rl_move rfl ?_
                        refine rl_call rfl rfl rfl (F_laws_heldEventS c p.sends (q + 10) (by omega)) ?_
                        refine rl_assign rfl ?_
                        refine hK48 _ _ ?_
                        clear hK48 K48
                        refine ex_seq_k fun K49 hK49 => ?_
                        refine ex_seq_k fun K50 hK50 => ?_
                        refine ex_region ttOK (by rfl) ?_
                        refine rl_move rfl ?_
                        refine rl_bin rfl rfl rfl ?_
                        refine hK50 _ _ ?_
                        clear hK50 K50
                        refine ex_cond rfl (fun hc51 => ?_) (fun hc51 => ?_)
                        · first | (simp [kI, kEv, kOu, kPa, kLa, kVi, mEv, mOu, mSt] at hc51; done) | (simp [kI, kEv, kOu, kPa, kLa, kVi, mEv, mOu, mSt] at hc51; omega) | (simp at hc51; omega) | omega
                        · try simp at hc51
                          refine ex_skip ?_
                          refine hK49 _ _ ?_
                          clear hK49 K49
                          refine ex_seq_k fun K52 hK52 => ?_
                          refine ex_region ttOK (by rfl) ?_
                          refine rl_move rfl ?_
                          refine rl_move rfl ?_
                          first | refine rl_idxm rfl rfl tt_35 rfl tt_154 rfl (by assumption) ?_ | refine rl_idxr rfl rfl tt_35 rfl tt_154 rfl rfl (by first | omega | (simp; done) | (simp; omega)) ?_
                          refine rl_fieldAddr rfl tt_154 rfl rfl tt_27 rfl rfl ?_
                          first | refine rl_load_ptr rfl tt_27 rfl rfl ?_ | refine rl_load_iel rfl tt_27 rfl ?_
                          refine rl_move rfl ?_
                          refine rl_call rfl rfl rfl (F_laws_heldOutS c p.outs (q + 10 + szs zEv p.sends) (by omega)) ?_
                          refine rl_assign rfl ?_
                          refine hK52 _ _ ?_
                          clear hK52 K52
                          refine ex_seq_k fun K53 hK53 => ?_
                          refine ex_region ttOK (by rfl) ?_
                          refine rl_move rfl ?_
                          refine rl_bin rfl rfl rfl ?_
                          refine hK53 _ _ ?_
                          clear hK53 K53
                          refine ex_cond rfl (fun hc54 => ?_) (fun hc54 => ?_)
                          · first | (simp [kI, kEv, kOu, kPa, kLa, kVi, mEv, mOu, mSt] at hc54; done) | (simp [kI, kEv, kOu, kPa, kLa, kVi, mEv, mOu, mSt] at hc54; omega) | (simp at hc54; omega) | omega
                          · try simp at hc54
                            refine ex_skip ?_
                            refine hK7 _ _ ?_
                            clear hK7 K7
                            refine ex_region ttOK (by rfl) ?_
                            refine rl_move rfl ?_
                            refine rl_addN (b := 1) rfl rfl (by omega) ?_
                            refine rl_assign rfl ?_
                            exact ⟨i + 1, ⟨by omega, by omega⟩, [], (Cov.cons' (t := 1) rfl (by rw [szs_take zPa hp]; exact congrArg (fun v : Nat => AV.pv (.int .i64 (v : Int))) (by omega)) (Cov.cons (t := 5) rfl Cov.nil)), (Cov.cons (t := 0) rfl Cov.nil), HE.nil, HE.nil, rfl⟩
  · try simp at hc6
    obtain rfl : i = l.length := by omega
    refine ex_exit ?_
    refine hK2 _ _ ?_
    clear hK4 K4 hK2 K2
    refine ex_seq_k fun K55 hK55 => ?_
    refine ex_region ttOK (by rfl) ?_
    refine rl_move rfl ?_
    refine rl_assign rfl ?_
    refine hK55 _ _ ?_
    clear hK55 K55
    refine ex_ret ⟨.inr rfl, ?_⟩
    refine ret_pv rfl ?_ rfl
    rw [List.take_length]

theorem F_laws_heldLaneS (c : Bool) (l : List La) (k : Nat) (hk : k + szs zLa l ≤ 1000000000) : Pure Try.prog 75 [rLas c (mks zLa kLa k l), .pv (.int .i64 (k : Int))] (.pv (.int .i64 ((k + szs zLa l : Nat) : Int))) := by
  refine pure_of_ex ttOK (fn := Try.f75) (by kernel_rfl) (by kernel_rfl) rfl (outs := [.pv (.int .i64 ((k + szs zLa l : Nat) : Int))]) (by rfl) (Nat.le_of_ble_eq_true rfl) 0 ?_
  have hml := mks_len zLa kLa k l
  have hll := szs_len zLa (fun p => by unfold zLa; omega) l
  refine ex_seq_k fun K1 hK1 => ?_
  refine ex_region ttOK (by rfl) ?_
  refine rl_assign rfl ?_
  refine hK1 _ _ ?_
  clear hK1 K1
  refine ex_seq_k fun K2 hK2 => ?_
  refine ex_seq_k fun K3 hK3 => ?_
  refine ex_region ttOK (by rfl) ?_
  refine rl_assign rfl ?_
  refine hK3 _ _ ?_
  clear hK3 K3
  refine ex_block ?_
  refine ex_loopK (ι := Nat) (fun i γ1 => [(1, .pv (.int .i64 ((k + szs zLa (l.take i) : Nat) : Int))), (5, .pv (.int .i64 (i : Int)))]) (fun i γ1 => []) (fun i => i ≤ l.length) (fun i => l.length - i) (Cov.cons (t := 0) rfl Cov.nil) HE.nil 0 (by omega) [] (Cov.cons' (t := 1) rfl (by rw [List.take_zero]; rfl) (Cov.cons (t := 5) rfl Cov.nil)) HE.nil rfl fun i γ1 hi => ?_
  try dsimp only [List.cons_append, List.nil_append]
  refine ex_seq_k fun K4 hK4 => ?_
  refine ex_seq_k fun K5 hK5 => ?_
  refine ex_region ttOK (by rfl) ?_
  refine rl_move rfl ?_
  refine rl_move rfl ?_
  first | refine rl_lenm rfl tt_25 rfl ?_ | refine rl_lenr rfl tt_25 rfl rfl (by first | exact List.length_map _ | rfl) ?_ | refine rl_len rfl tt_25 rfl rfl (by intro s hs; cases hs) rfl ?_
  refine rl_bin rfl rfl rfl ?_
  refine hK5 _ _ ?_
  clear hK5 K5
  refine ex_cond rfl (fun hc6 => ?_) (fun hc6 => ?_)
  · try simp at hc6
    obtain ⟨p, hp⟩ : ∃ p, l[i]? = some p := ⟨_, List.getElem?_eq_getElem (by omega)⟩
    have hmk := mks_get zLa kLa (k := k) hp
    have hat := szs_at zLa hp
    have hzp : zLa p = 4 + szs zPa p.done := rfl
    obtain ⟨q, hq⟩ : ∃ q, q = k + szs zLa (l.take i) := ⟨_, rfl⟩
    rw [← hq] at hmk ⊢
    refine ex_skip ?_
    refine hK4 _ _ ?_
    clear hK4 K4
    refine ex_seq_k fun K7 hK7 => ?_
    refine ex_block ?_
    refine ex_seq_k fun K8 hK8 => ?_
    refine ex_seq_k fun K9 hK9 => ?_
    refine ex_region ttOK (by rfl) ?_
    refine rl_move rfl ?_
    refine rl_move rfl ?_
    first | refine rl_idxm rfl rfl tt_25 rfl tt_37 rfl (by assumption) ?_ | refine rl_idxr rfl rfl tt_25 rfl tt_37 rfl rfl (by first | omega | (simp; done) | (simp; omega)) ?_
    refine rl_fieldAddr rfl tt_37 rfl rfl tt_3 rfl rfl ?_
    first | refine rl_load_ptr rfl tt_3 rfl rfl ?_ | refine rl_load_iel rfl tt_3 rfl ?_
    refine rl_move rfl ?_
    refine rl_bin rfl rfl rfl ?_
    refine hK9 _ _ ?_
    clear hK9 K9
    refine ex_cond rfl (fun hc10 => ?_) (fun hc10 => ?_)
    · first | (simp [kI, kEv, kOu, kPa, kLa, kVi, mEv, mOu, mSt] at hc10; done) | (simp [kI, kEv, kOu, kPa, kLa, kVi, mEv, mOu, mSt] at hc10; omega) | (simp at hc10; omega) | omega
    · try simp at hc10
      refine ex_skip ?_
      refine hK8 _ _ ?_
      clear hK8 K8
      refine ex_seq_k fun K11 hK11 => ?_
      refine ex_region ttOK (by rfl) ?_
      refine rl_move rfl ?_
      refine rl_addN (b := 1) rfl rfl (by omega) ?_
      refine rl_assign rfl ?_
      refine hK11 _ _ ?_
      clear hK11 K11
      refine ex_seq_k fun K12 hK12 => ?_
      refine ex_seq_k fun K13 hK13 => ?_
      refine ex_region ttOK (by rfl) ?_
      refine rl_move rfl ?_
      refine rl_move rfl ?_
      first | refine rl_idxm rfl rfl tt_25 rfl tt_37 rfl (by assumption) ?_ | refine rl_idxr rfl rfl tt_25 rfl tt_37 rfl rfl (by first | omega | (simp; done) | (simp; omega)) ?_
      refine rl_fieldAddr rfl tt_37 rfl rfl tt_34 rfl rfl ?_
      refine rl_fieldAddr rfl tt_34 rfl rfl tt_3 rfl rfl ?_
      first | refine rl_load_ptr rfl tt_3 rfl rfl ?_ | refine rl_load_iel rfl tt_3 rfl ?_
      refine rl_move rfl ?_
      refine rl_bin rfl rfl rfl ?_
      refine hK13 _ _ ?_
      clear hK13 K13
      refine ex_cond rfl (fun hc14 => ?_) (fun hc14 => ?_)
      · first | (simp [kI, kEv, kOu, kPa, kLa, kVi, mEv, mOu, mSt] at hc14; done) | (simp [kI, kEv, kOu, kPa, kLa, kVi, mEv, mOu, mSt] at hc14; omega) | (simp at hc14; omega) | omega
      · try simp at hc14
        refine ex_skip ?_
        refine hK12 _ _ ?_
        clear hK12 K12
        refine ex_seq_k fun K15 hK15 => ?_
        refine ex_region ttOK (by rfl) ?_
        refine rl_move rfl ?_
        refine rl_addN (b := 1) rfl rfl (by omega) ?_
        refine rl_assign rfl ?_
        refine hK15 _ _ ?_
        clear hK15 K15
        refine ex_seq_k fun K16 hK16 => ?_
        refine ex_seq_k fun K17 hK17 => ?_
        refine ex_region ttOK (by rfl) ?_
        refine rl_move rfl ?_
        refine rl_move rfl ?_
        first | refine rl_idxm rfl rfl tt_25 rfl tt_37 rfl (by assumption) ?_ | refine rl_idxr rfl rfl tt_25 rfl tt_37 rfl rfl (by first | omega | (simp; done) | (simp; omega)) ?_
        refine rl_fieldAddr rfl tt_37 rfl rfl tt_34 rfl rfl ?_
        refine rl_fieldAddr rfl tt_34 rfl rfl tt_3 rfl rfl ?_
        first | refine rl_load_ptr rfl tt_3 rfl rfl ?_ | refine rl_load_iel rfl tt_3 rfl ?_
        refine rl_move rfl ?_
        refine rl_bin rfl rfl rfl ?_
        refine hK17 _ _ ?_
        clear hK17 K17
        refine ex_cond rfl (fun hc18 => ?_) (fun hc18 => ?_)
        · first | (simp [kI, kEv, kOu, kPa, kLa, kVi, mEv, mOu, mSt] at hc18; done) | (simp [kI, kEv, kOu, kPa, kLa, kVi, mEv, mOu, mSt] at hc18; omega) | (simp at hc18; omega) | omega
        · try simp at hc18
          refine ex_skip ?_
          refine hK16 _ _ ?_
          clear hK16 K16
          refine ex_seq_k fun K19 hK19 => ?_
          refine ex_region ttOK (by rfl) ?_
          refine rl_move rfl ?_
          refine rl_addN (b := 1) rfl rfl (by omega) ?_
          refine rl_assign rfl ?_
          refine hK19 _ _ ?_
          clear hK19 K19
          refine ex_seq_k fun K20 hK20 => ?_
          refine ex_seq_k fun K21 hK21 => ?_
          refine ex_region ttOK (by rfl) ?_
          refine rl_move rfl ?_
          refine rl_move rfl ?_
          first | refine rl_idxm rfl rfl tt_25 rfl tt_37 rfl (by assumption) ?_ | refine rl_idxr rfl rfl tt_25 rfl tt_37 rfl rfl (by first | omega | (simp; done) | (simp; omega)) ?_
          refine rl_fieldAddr rfl tt_37 rfl rfl tt_34 rfl rfl ?_
          refine rl_fieldAddr rfl tt_34 rfl rfl tt_3 rfl rfl ?_
          first | refine rl_load_ptr rfl tt_3 rfl rfl ?_ | refine rl_load_iel rfl tt_3 rfl ?_
          refine rl_move rfl ?_
          refine rl_bin rfl rfl rfl ?_
          refine hK21 _ _ ?_
          clear hK21 K21
          refine ex_cond rfl (fun hc22 => ?_) (fun hc22 => ?_)
          · first | (simp [kI, kEv, kOu, kPa, kLa, kVi, mEv, mOu, mSt] at hc22; done) | (simp [kI, kEv, kOu, kPa, kLa, kVi, mEv, mOu, mSt] at hc22; omega) | (simp at hc22; omega) | omega
          · try simp at hc22
            refine ex_skip ?_
            refine hK20 _ _ ?_
            clear hK20 K20
            refine ex_seq_k fun K23 hK23 => ?_
            refine ex_region ttOK (by rfl) ?_
            refine rl_move rfl ?_
            refine rl_addN (b := 1) rfl rfl (by omega) ?_
            refine rl_assign rfl ?_
            refine hK23 _ _ ?_
            clear hK23 K23
            refine ex_seq_k fun K24 hK24 => ?_
            refine ex_region ttOK (by rfl) ?_
            refine rl_move rfl ?_
            refine rl_move rfl ?_
            first | refine rl_idxm rfl rfl tt_25 rfl tt_37 rfl (by assumption) ?_ | refine rl_idxr rfl rfl tt_25 rfl tt_37 rfl rfl (by first | omega | (simp; done) | (simp; omega)) ?_
            refine rl_fieldAddr rfl tt_37 rfl rfl tt_35 rfl rfl ?_
            first | refine rl_load_ptr rfl tt_35 rfl rfl ?_ | refine rl_load_iel rfl tt_35 rfl ?_
            refine rl_move rfl ?_
            refine rl_call rfl rfl rfl (F_laws_heldPastS c p.done (q + 4) (by omega)) ?_
            refine rl_assign rfl ?_
            refine hK24 _ _ ?_
            clear hK24 K24
            refine ex_seq_k fun K25 hK25 => ?_
            refine ex_region ttOK (by rfl) ?_
            refine rl_move rfl ?_
            refine rl_bin rfl rfl rfl ?_
            refine hK25 _ _ ?_
            clear hK25 K25
            refine ex_cond rfl (fun hc26 => ?_) (fun hc26 => ?_)
            · first | (simp [kI, kEv, kOu, kPa, kLa, kVi, mEv, mOu, mSt] at hc26; done) | (simp [kI, kEv, kOu, kPa, kLa, kVi, mEv, mOu, mSt] at hc26; omega) | (simp at hc26; omega) | omega
            · try simp at hc26
              refine ex_skip ?_
              refine hK7 _ _ ?_
              clear hK7 K7
              refine ex_region ttOK (by rfl) ?_
              refine rl_move rfl ?_
              refine rl_addN (b := 1) rfl rfl (by omega) ?_
              refine rl_assign rfl ?_
              exact ⟨i + 1, ⟨by omega, by omega⟩, [], (Cov.cons' (t := 1) rfl (by rw [szs_take zLa hp]; exact congrArg (fun v : Nat => AV.pv (.int .i64 (v : Int))) (by omega)) (Cov.cons (t := 5) rfl Cov.nil)), (Cov.cons (t := 0) rfl Cov.nil), HE.nil, HE.nil, rfl⟩
  · try simp at hc6
    obtain rfl : i = l.length := by omega
    refine ex_exit ?_
    refine hK2 _ _ ?_
    clear hK4 K4 hK2 K2
    refine ex_seq_k fun K27 hK27 => ?_
    refine ex_region ttOK (by rfl) ?_
    refine rl_move rfl ?_
    refine rl_assign rfl ?_
    refine hK27 _ _ ?_
    clear hK27 K27
    refine ex_ret ⟨.inr rfl, ?_⟩
    refine ret_pv rfl ?_ rfl
    rw [List.take_length]

theorem F_laws_heldViewS (c : Bool) (l : List Vi) (k : Nat) (hk : k + szs zVi l ≤ 1000000000) : Pure Try.prog 78 [rVis c (mks zVi kVi k l), .pv (.int .i64 (k : Int))] (.pv (.int .i64 ((k + szs zVi l : Nat) : Int))) := by
  refine pure_of_ex ttOK (fn := Try.f78) (by kernel_rfl) (by kernel_rfl) rfl (outs := [.pv (.int .i64 ((k + szs zVi l : Nat) : Int))]) (by rfl) (Nat.le_of_ble_eq_true rfl) 0 ?_
  have hml := mks_len zVi kVi k l
  have hll := szs_len zVi (fun p => by unfold zVi; omega) l
  refine ex_seq_k fun K1 hK1 => ?_
  refine ex_region ttOK (by rfl) ?_
  refine rl_assign rfl ?_
  refine hK1 _ _ ?_
  clear hK1 K1
  refine ex_seq_k fun K2 hK2 => ?_
  refine ex_seq_k fun K3 hK3 => ?_
  refine ex_region ttOK (by rfl) ?_
  refine rl_assign rfl ?_
  refine hK3 _ _ ?_
  clear hK3 K3
  refine ex_block ?_
  refine ex_loopK (ι := Nat) (fun i γ1 => [(1, .pv (.int .i64 ((k + szs zVi (l.take i) : Nat) : Int))), (5, .pv (.int .i64 (i : Int)))]) (fun i γ1 => []) (fun i => i ≤ l.length) (fun i => l.length - i) (Cov.cons (t := 0) rfl Cov.nil) HE.nil 0 (by omega) [] (Cov.cons' (t := 1) rfl (by rw [List.take_zero]; rfl) (Cov.cons (t := 5) rfl Cov.nil)) HE.nil rfl fun i γ1 hi => ?_
  try dsimp only [List.cons_append, List.nil_append]
  refine ex_seq_k fun K4 hK4 => ?_
  refine ex_seq_k fun K5 hK5 => ?_
  refine ex_region ttOK (by rfl) ?_
  refine rl_move rfl ?_
  refine rl_move rfl ?_
  first | refine rl_lenm rfl tt_28 rfl ?_ | refine rl_lenr rfl tt_28 rfl rfl (by first | exact List.length_map _ | rfl) ?_ | refine rl_len rfl tt_28 rfl rfl (by intro s hs; cases hs) rfl ?_
  refine rl_bin rfl rfl rfl ?_
  refine hK5 _ _ ?_
  clear hK5 K5
  refine ex_cond rfl (fun hc6 => ?_) (fun hc6 => ?_)
  · try simp at hc6
    obtain ⟨p, hp⟩ : ∃ p, l[i]? = some p := ⟨_, List.getElem?_eq_getElem (by omega)⟩
    have hmk := mks_get zVi kVi (k := k) hp
    have hat := szs_at zVi hp
    have hzp : zVi p = 2 + szs zEv p.events := rfl
    obtain ⟨q, hq⟩ : ∃ q, q = k + szs zVi (l.take i) := ⟨_, rfl⟩
    rw [← hq] at hmk ⊢
    refine ex_skip ?_
    refine hK4 _ _ ?_
    clear hK4 K4
    refine ex_seq_k fun K7 hK7 => ?_
    refine ex_block ?_
    refine ex_seq_k fun K8 hK8 => ?_
    refine ex_seq_k fun K9 hK9 => ?_
    refine ex_region ttOK (by rfl) ?_
    refine rl_move rfl ?_
    refine rl_move rfl ?_
    first | refine rl_idxm rfl rfl tt_28 rfl tt_123 rfl (by assumption) ?_ | refine rl_idxr rfl rfl tt_28 rfl tt_123 rfl rfl (by first | omega | (simp; done) | (simp; omega)) ?_
    refine rl_fieldAddr rfl tt_123 rfl rfl tt_3 rfl rfl ?_
    first | refine rl_load_ptr rfl tt_3 rfl rfl ?_ | refine rl_load_iel rfl tt_3 rfl ?_
    refine rl_move rfl ?_
    refine rl_bin rfl rfl rfl ?_
    refine hK9 _ _ ?_
    clear hK9 K9
    refine ex_cond rfl (fun hc10 => ?_) (fun hc10 => ?_)
    · first | (simp [kI, kEv, kOu, kPa, kLa, kVi, mEv, mOu, mSt] at hc10; done) | (simp [kI, kEv, kOu, kPa, kLa, kVi, mEv, mOu, mSt] at hc10; omega) | (simp at hc10; omega) | omega
    · try simp at hc10
      refine ex_skip ?_
      refine hK8 _ _ ?_
      clear hK8 K8
      refine ex_seq_k fun K11 hK11 => ?_
      refine ex_region ttOK (by rfl) ?_
      refine rl_move rfl ?_
      refine rl_addN (b := 1) rfl rfl (by omega) ?_
      refine rl_assign rfl ?_
      refine hK11 _ _ ?_
      clear hK11 K11
      refine ex_seq_k fun K12 hK12 => ?_
      refine ex_seq_k fun K13 hK13 => ?_
      refine ex_region ttOK (by rfl) ?_
      refine rl_move rfl ?_
      refine rl_move rfl ?_
      first | refine rl_idxm rfl rfl tt_28 rfl tt_123 rfl (by assumption) ?_ | refine rl_idxr rfl rfl tt_28 rfl tt_123 rfl rfl (by first | omega | (simp; done) | (simp; omega)) ?_
      refine rl_fieldAddr rfl tt_123 rfl rfl tt_3 rfl rfl ?_
      first | refine rl_load_ptr rfl tt_3 rfl rfl ?_ | refine rl_load_iel rfl tt_3 rfl ?_
      refine rl_move rfl ?_
      refine rl_bin rfl rfl rfl ?_
      refine hK13 _ _ ?_
      clear hK13 K13
      refine ex_cond rfl (fun hc14 => ?_) (fun hc14 => ?_)
      · first | (simp [kI, kEv, kOu, kPa, kLa, kVi, mEv, mOu, mSt] at hc14; done) | (simp [kI, kEv, kOu, kPa, kLa, kVi, mEv, mOu, mSt] at hc14; omega) | (simp at hc14; omega) | omega
      · try simp at hc14
        refine ex_skip ?_
        refine hK12 _ _ ?_
        clear hK12 K12
        refine ex_seq_k fun K15 hK15 => ?_
        refine ex_region ttOK (by rfl) ?_
        refine rl_move rfl ?_
        refine rl_addN (b := 1) rfl rfl (by omega) ?_
        refine rl_assign rfl ?_
        refine hK15 _ _ ?_
        clear hK15 K15
        refine ex_seq_k fun K16 hK16 => ?_
        refine ex_region ttOK (by rfl) ?_
        refine rl_move rfl ?_
        refine rl_move rfl ?_
        first | refine rl_idxm rfl rfl tt_28 rfl tt_123 rfl (by assumption) ?_ | refine rl_idxr rfl rfl tt_28 rfl tt_123 rfl rfl (by first | omega | (simp; done) | (simp; omega)) ?_
        refine rl_fieldAddr rfl tt_123 rfl rfl tt_26 rfl rfl ?_
        first | refine rl_load_ptr rfl tt_26 rfl rfl ?_ | refine rl_load_iel rfl tt_26 rfl ?_
        refine rl_move rfl ?_
        refine rl_call rfl rfl rfl (F_laws_heldEventS c p.events (q + 2) (by omega)) ?_
        refine rl_assign rfl ?_
        refine hK16 _ _ ?_
        clear hK16 K16
        refine ex_seq_k fun K17 hK17 => ?_
        refine ex_region ttOK (by rfl) ?_
        refine rl_move rfl ?_
        refine rl_bin rfl rfl rfl ?_
        refine hK17 _ _ ?_
        clear hK17 K17
        refine ex_cond rfl (fun hc18 => ?_) (fun hc18 => ?_)
        · first | (simp [kI, kEv, kOu, kPa, kLa, kVi, mEv, mOu, mSt] at hc18; done) | (simp [kI, kEv, kOu, kPa, kLa, kVi, mEv, mOu, mSt] at hc18; omega) | (simp at hc18; omega) | omega
        · try simp at hc18
          refine ex_skip ?_
          refine hK7 _ _ ?_
          clear hK7 K7
          refine ex_region ttOK (by rfl) ?_
          refine rl_move rfl ?_
          refine rl_addN (b := 1) rfl rfl (by omega) ?_
          refine rl_assign rfl ?_
          exact ⟨i + 1, ⟨by omega, by omega⟩, [], (Cov.cons' (t := 1) rfl (by rw [szs_take zVi hp]; exact congrArg (fun v : Nat => AV.pv (.int .i64 (v : Int))) (by omega)) (Cov.cons (t := 5) rfl Cov.nil)), (Cov.cons (t := 0) rfl Cov.nil), HE.nil, HE.nil, rfl⟩
  · try simp at hc6
    obtain rfl : i = l.length := by omega
    refine ex_exit ?_
    refine hK2 _ _ ?_
    clear hK4 K4 hK2 K2
    refine ex_seq_k fun K19 hK19 => ?_
    refine ex_region ttOK (by rfl) ?_
    refine rl_move rfl ?_
    refine rl_assign rfl ?_
    refine hK19 _ _ ?_
    clear hK19 K19
    refine ex_ret ⟨.inr rfl, ?_⟩
    refine ret_pv rfl ?_ rfl
    rw [List.take_length]

theorem F_laws_heldNode (c : Bool) (n : Nd) (k : Nat) (hk : k + zNd n ≤ 1000000000) : Pure Try.prog 21 [.agg (encNd c (kNd k n)), .pv (.int .i64 (k : Int))] (.pv (.int .i64 ((k + zNd n : Nat) : Int))) := by
  refine pure_of_ex ttOK (fn := Try.f21) (by kernel_rfl) (by kernel_rfl) rfl (outs := [.pv (.int .i64 ((k + zNd n : Nat) : Int))]) (by rfl) (Nat.le_of_ble_eq_true rfl) 1 ?_
  have hz : zNd n = szs zLa n.lanes + szs zEv n.kept + szs zOu n.outs + szs zVi n.views + szs zI n.known := rfl
  refine ex_seq_k fun K1 hK1 => ?_
  refine ex_region ttOK (by rfl) ?_
  refine rl_boxA (id := 0) rfl rfl rfl ?_
  refine rl_assign rfl ?_
  refine hK1 _ _ ?_
  clear hK1 K1
  refine ex_seq_k fun K2 hK2 => ?_
  refine ex_region ttOK (by rfl) ?_
  refine rl_fieldAddr rfl tt_31 rfl rfl tt_25 rfl rfl ?_
  first | refine rl_load_ptr rfl tt_25 rfl rfl ?_ | refine rl_load_iel rfl tt_25 rfl ?_
  refine rl_move rfl ?_
  refine rl_call rfl rfl rfl (F_laws_heldLaneS c n.lanes k (by omega)) ?_
  refine rl_assign rfl ?_
  refine hK2 _ _ ?_
  clear hK2 K2
  refine ex_seq_k fun K3 hK3 => ?_
  refine ex_seq_k fun K4 hK4 => ?_
  refine ex_region ttOK (by rfl) ?_
  refine rl_move rfl ?_
  refine rl_bin rfl rfl rfl ?_
  refine hK4 _ _ ?_
  clear hK4 K4
  refine ex_cond rfl (fun hc5 => ?_) (fun hc5 => ?_)
  · first | (simp [kI, kEv, kOu, kPa, kLa, kVi, mEv, mOu, mSt] at hc5; done) | (simp [kI, kEv, kOu, kPa, kLa, kVi, mEv, mOu, mSt] at hc5; omega) | (simp at hc5; omega) | omega
  · try simp at hc5
    refine ex_skip ?_
    refine hK3 _ _ ?_
    clear hK3 K3
    refine ex_seq_k fun K6 hK6 => ?_
    refine ex_region ttOK (by rfl) ?_
    refine rl_fieldAddr rfl tt_31 rfl rfl tt_26 rfl rfl ?_
    first | refine rl_load_ptr rfl tt_26 rfl rfl ?_ | refine rl_load_iel rfl tt_26 rfl ?_
    refine rl_move rfl ?_
    refine rl_call rfl rfl rfl (F_laws_heldEventS c n.kept (k + szs zLa n.lanes) (by omega)) ?_
    refine rl_assign rfl ?_
    refine hK6 _ _ ?_
    clear hK6 K6
    refine ex_seq_k fun K7 hK7 => ?_
    refine ex_seq_k fun K8 hK8 => ?_
    refine ex_region ttOK (by rfl) ?_
    refine rl_move rfl ?_
    refine rl_bin rfl rfl rfl ?_
    refine hK8 _ _ ?_
    clear hK8 K8
    refine ex_cond rfl (fun hc9 => ?_) (fun hc9 => ?_)
    · first | (simp [kI, kEv, kOu, kPa, kLa, kVi, mEv, mOu, mSt] at hc9; done) | (simp [kI, kEv, kOu, kPa, kLa, kVi, mEv, mOu, mSt] at hc9; omega) | (simp at hc9; omega) | omega
    · try simp at hc9
      refine ex_skip ?_
      refine hK7 _ _ ?_
      clear hK7 K7
      refine ex_seq_k fun K10 hK10 => ?_
      refine ex_region ttOK (by rfl) ?_
      refine rl_fieldAddr rfl tt_31 rfl rfl tt_27 rfl rfl ?_
      first | refine rl_load_ptr rfl tt_27 rfl rfl ?_ | refine rl_load_iel rfl tt_27 rfl ?_
      refine rl_move rfl ?_
      refine rl_call rfl rfl rfl (F_laws_heldOutS c n.outs (k + szs zLa n.lanes + szs zEv n.kept) (by omega)) ?_
      refine rl_assign rfl ?_
      refine hK10 _ _ ?_
      clear hK10 K10
      refine ex_seq_k fun K11 hK11 => ?_
      refine ex_seq_k fun K12 hK12 => ?_
      refine ex_region ttOK (by rfl) ?_
      refine rl_move rfl ?_
      refine rl_bin rfl rfl rfl ?_
      refine hK12 _ _ ?_
      clear hK12 K12
      refine ex_cond rfl (fun hc13 => ?_) (fun hc13 => ?_)
      · first | (simp [kI, kEv, kOu, kPa, kLa, kVi, mEv, mOu, mSt] at hc13; done) | (simp [kI, kEv, kOu, kPa, kLa, kVi, mEv, mOu, mSt] at hc13; omega) | (simp at hc13; omega) | omega
      · try simp at hc13
        refine ex_skip ?_
        refine hK11 _ _ ?_
        clear hK11 K11
        refine ex_seq_k fun K14 hK14 => ?_
        refine ex_region ttOK (by rfl) ?_
        refine rl_fieldAddr rfl tt_31 rfl rfl tt_28 rfl rfl ?_
        first | refine rl_load_ptr rfl tt_28 rfl rfl ?_ | refine rl_load_iel rfl tt_28 rfl ?_
        refine rl_move rfl ?_
        refine rl_call rfl rfl rfl (F_laws_heldViewS c n.views (k + szs zLa n.lanes + szs zEv n.kept + szs zOu n.outs) (by omega)) ?_
        refine rl_assign rfl ?_
        refine hK14 _ _ ?_
        clear hK14 K14
        refine ex_seq_k fun K15 hK15 => ?_
        refine ex_seq_k fun K16 hK16 => ?_
        refine ex_region ttOK (by rfl) ?_
        refine rl_move rfl ?_
        refine rl_bin rfl rfl rfl ?_
        refine hK16 _ _ ?_
        clear hK16 K16
        refine ex_cond rfl (fun hc17 => ?_) (fun hc17 => ?_)
        · first | (simp [kI, kEv, kOu, kPa, kLa, kVi, mEv, mOu, mSt] at hc17; done) | (simp [kI, kEv, kOu, kPa, kLa, kVi, mEv, mOu, mSt] at hc17; omega) | (simp at hc17; omega) | omega
        · try simp at hc17
          refine ex_skip ?_
          refine hK15 _ _ ?_
          clear hK15 K15
          refine ex_seq_k fun K18 hK18 => ?_
          refine ex_region ttOK (by rfl) ?_
          refine rl_fieldAddr rfl tt_31 rfl rfl tt_29 rfl rfl ?_
          first | refine rl_load_ptr rfl tt_29 rfl rfl ?_ | refine rl_load_iel rfl tt_29 rfl ?_
          refine rl_move rfl ?_
          refine rl_call rfl rfl rfl (F_laws_heldIntS c n.known (k + szs zLa n.lanes + szs zEv n.kept + szs zOu n.outs + szs zVi n.views) (by omega)) ?_
          refine rl_assign rfl ?_
          refine hK18 _ _ ?_
          clear hK18 K18
          refine ex_seq_k fun K19 hK19 => ?_
          refine ex_seq_k fun K20 hK20 => ?_
          refine ex_region ttOK (by rfl) ?_
          refine rl_move rfl ?_
          refine rl_bin rfl rfl rfl ?_
          refine hK20 _ _ ?_
          clear hK20 K20
          refine ex_cond rfl (fun hc21 => ?_) (fun hc21 => ?_)
          · first | (simp [kI, kEv, kOu, kPa, kLa, kVi, mEv, mOu, mSt] at hc21; done) | (simp [kI, kEv, kOu, kPa, kLa, kVi, mEv, mOu, mSt] at hc21; omega) | (simp at hc21; omega) | omega
          · try simp at hc21
            refine ex_skip ?_
            refine hK19 _ _ ?_
            clear hK19 K19
            refine ex_seq_k fun K22 hK22 => ?_
            refine ex_region ttOK (by rfl) ?_
            refine rl_move rfl ?_
            refine rl_assign rfl ?_
            refine hK22 _ _ ?_
            clear hK22 K22
            refine ex_ret ⟨.inr rfl, ?_⟩
            refine ret_pv rfl ?_ rfl
            exact congrArg (fun v : Nat => [AV.pv (.int .i64 (v : Int))]) (by omega)

end Go.Proofs.Ytcleiaibcfocdaa.Am
