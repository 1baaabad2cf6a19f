/- Walks. PRINTED BY wip/gen/gen2.py out of b5.py. -/
import Derived.Test.YtcleiaibcfocdaaAmF6
set_option linter.unusedVariables false
set_option linter.unusedSimpArgs false
namespace Go.Proofs.Ytcleiaibcfocdaa.Am
open Go Go.RowKit

theorem F_spec_l6Open (c : Bool) (bs : List Nat) : Meth Try.prog 28 1 [] [rBytes c bs] [(0, (0, .dead))] (.ptr 0 0 0) [(0, (0, .box 109 [rBytes c (bs.take 2000), .pv (.int .i64 0)]))] := by
  refine meth_of_ex ttOK (fn := Try.f28) (by kernel_rfl) (by kernel_rfl) rfl (O0 := [.ptr 0 0 0]) 1 0 (Nat.le_of_ble_eq_true rfl) (by rfl) (by repeat (first | exact BndH.nil | refine BndH.dead ?_ | refine BndH.box rfl ?_ | refine BndH.box (by assumption) ?_ | refine BndH.row (flatR_map fun _ => rfl) ?_ | refine BndH.row flatR_nil ?_ | refine BndH.map (by intro p hp; cases hp; done) ?_ | refine BndH.map (by intro p hp; simp only [List.mem_map, List.not_mem_nil] at hp; first | (obtain ⟨a, _, rfl⟩ := hp; rfl) | exact hp.elim) ?_ | refine BndH.chn ?_)) (by repeat (first | exact BndH.nil | refine BndH.dead ?_ | refine BndH.box rfl ?_ | refine BndH.box (by assumption) ?_ | refine BndH.row (flatR_map fun _ => rfl) ?_ | refine BndH.row flatR_nil ?_ | refine BndH.map (by intro p hp; cases hp; done) ?_ | refine BndH.map (by intro p hp; simp only [List.mem_map, List.not_mem_nil] at hp; first | (obtain ⟨a, _, rfl⟩ := hp; rfl) | exact hp.elim) ?_ | refine BndH.chn ?_)) (by rfl) fun γ => ?_
  show Ex Try.prog _ _ [(0, rBytes c bs)] [(0, ((γ 0), .dead))] _
  refine ex_seq_k fun K1 hK1 => ?_
  refine ex_region ttOK (by rfl) ?_
  refine rl_assign rfl ?_
  refine hK1 _ _ ?_
  clear hK1 K1
  refine ex_seq_k fun K2 hK2 => ?_
  refine ex_seq_k fun K3 hK3 => ?_
  refine ex_region ttOK (by rfl) ?_
  refine rl_move rfl ?_
  first | refine rl_lenm rfl tt_22 rfl ?_ | refine rl_lenr rfl tt_22 rfl rfl (by first | exact List.length_map _ | rfl) ?_ | refine rl_len rfl tt_22 rfl rfl (by intro s hs; cases hs) rfl ?_
  refine rl_bin rfl rfl rfl ?_
  refine hK3 _ _ ?_
  clear hK3 K3
  refine ex_cond rfl (fun hc4 => ?_) (fun hc4 => ?_)
  · try simp at hc4
    refine ex_region ttOK (by rfl) ?_
    refine rl_move rfl ?_
    refine rl_slice rfl tt_22 rfl tt_5 rfl rfl rfl (by first | omega | (simp; done) | (simp; omega)) (by first | omega | (simp; done) | (simp; omega)) (by first | omega | (simp; done) | (simp; omega)) ?_
    refine rl_assign rfl ?_
    refine hK2 _ _ ?_
    clear hK2 K2
    refine ex_seq_k fun K5 hK5 => ?_
    refine ex_region ttOK (by rfl) ?_
    refine rl_move rfl ?_
    refine rl_build tt_109 rfl za_109 rfl (by simp only [pI, tt_3, T3, tt_22, T22, fillA, cellsA, AV.okc, AV.one, Value.oneCell', List.map_cons, List.map_nil, List.getElem?_cons_zero, List.getElem?_cons_succ, List.take_succ_cons, List.take_zero, List.drop_succ_cons, List.drop_zero, List.cons_append, List.nil_append, List.length_cons, List.length_nil, if_true, and_self, Nat.reduceAdd, Nat.reduceLeDiff]; rfl) ?_
    refine rl_boxA (id := 0) rfl rfl rfl ?_
    refine rl_assign rfl ?_
    refine hK5 _ _ ?_
    clear hK5 K5
    refine ex_ret ?_
    first
    | exact ⟨.inr rfl, [_], rfl, rfl, HE.box rfl rfl HE.nil⟩
    | exact ⟨.inr rfl, [_], rfl, rfl, HE.box rfl (by show _ = [rBytes c (bs.take 2000), _]; rw [List.take_of_length_le (by omega)]; rfl) HE.nil⟩
  · try simp at hc4
    refine ex_skip ?_
    refine hK2 _ _ ?_
    clear hK2 K2
    refine ex_seq_k fun K6 hK6 => ?_
    refine ex_region ttOK (by rfl) ?_
    refine rl_move rfl ?_
    refine rl_build tt_109 rfl za_109 rfl (by simp only [pI, tt_3, T3, tt_22, T22, fillA, cellsA, AV.okc, AV.one, Value.oneCell', List.map_cons, List.map_nil, List.getElem?_cons_zero, List.getElem?_cons_succ, List.take_succ_cons, List.take_zero, List.drop_succ_cons, List.drop_zero, List.cons_append, List.nil_append, List.length_cons, List.length_nil, if_true, and_self, Nat.reduceAdd, Nat.reduceLeDiff]; rfl) ?_
    refine rl_boxA (id := 0) rfl rfl rfl ?_
    refine rl_assign rfl ?_
    refine hK6 _ _ ?_
    clear hK6 K6
    refine ex_ret ?_
    first
    | exact ⟨.inr rfl, [_], rfl, rfl, HE.box rfl rfl HE.nil⟩
    | exact ⟨.inr rfl, [_], rfl, rfl, HE.box rfl (by show _ = [rBytes c (bs.take 2000), _]; rw [List.take_of_length_le (by omega)]; rfl) HE.nil⟩

theorem F_spec_l6Rd_pick (c : Bool) (bs : List Nat) (p n : Nat) (hp : p < 1000000000) (hbs : ∀ b ∈ bs, b < 256) : Meth Try.prog 29 1 [0] [.ptr 0 0 0, .pv (.int .i64 (n : Int))] [(0, (0, .box 109 [rBytes c bs, .pv (.int .i64 ((p : Nat) : Int))]))] (.pv (.int .i64 (pk bs p n : Int))) [(0, (0, .box 109 [rBytes c bs, .pv (.int .i64 ((p + 1 : Nat) : Int))]))] := by
  refine meth_of_ex ttOK (fn := Try.f29) (by kernel_rfl) (by kernel_rfl) rfl (O0 := [.pv (.int .i64 (pk bs p n : Int))]) 1 0 (Nat.le_of_ble_eq_true rfl) (by rfl) (by repeat (first | exact BndH.nil | refine BndH.dead ?_ | refine BndH.box rfl ?_ | refine BndH.box (by assumption) ?_ | refine BndH.row (flatR_map fun _ => rfl) ?_ | refine BndH.row flatR_nil ?_ | refine BndH.map (by intro p hp; cases hp; done) ?_ | refine BndH.map (by intro p hp; simp only [List.mem_map, List.not_mem_nil] at hp; first | (obtain ⟨a, _, rfl⟩ := hp; rfl) | exact hp.elim) ?_ | refine BndH.chn ?_)) (by repeat (first | exact BndH.nil | refine BndH.dead ?_ | refine BndH.box rfl ?_ | refine BndH.box (by assumption) ?_ | refine BndH.row (flatR_map fun _ => rfl) ?_ | refine BndH.row flatR_nil ?_ | refine BndH.map (by intro p hp; cases hp; done) ?_ | refine BndH.map (by intro p hp; simp only [List.mem_map, List.not_mem_nil] at hp; first | (obtain ⟨a, _, rfl⟩ := hp; rfl) | exact hp.elim) ?_ | refine BndH.chn ?_)) (by rfl) fun γ => ?_
  show Ex Try.prog _ _ [(0, .ptr 0 (γ 0) 0), (1, .pv (.int .i64 (n : Int)))] [(0, ((γ 0), .box 109 [rBytes c bs, .pv (.int .i64 ((p : Nat) : Int))]))] _
  refine ex_seq_k fun K1 hK1 => ?_
  refine ex_region ttOK (by rfl) ?_
  refine rl_assign rfl ?_
  refine hK1 _ _ ?_
  clear hK1 K1
  refine ex_seq_k fun K2 hK2 => ?_
  refine ex_region ttOK (by rfl) ?_
  refine rl_move rfl ?_
  refine rl_move rfl ?_
  refine rl_nil rfl rfl ?_
  refine rl_fieldAddr rfl tt_109 rfl rfl tt_3 rfl rfl ?_
  first | refine rl_load_ptr rfl tt_3 rfl rfl ?_ | refine rl_load_iel rfl tt_3 rfl ?_
  refine rl_addN (b := 1) rfl rfl (by omega) ?_
  refine rl_nil rfl rfl ?_
  refine rl_fieldAddr rfl tt_109 rfl rfl tt_3 rfl rfl ?_
  refine rl_store1 rfl rfl tt_3 rfl rfl rfl rfl rfl (by simp only [List.set_cons_zero, List.set_cons_succ]; rfl) ?_
  refine hK2 _ _ ?_
  clear hK2 K2
  refine ex_seq_k fun K3 hK3 => ?_
  refine ex_seq_k fun K4 hK4 => ?_
  refine ex_region ttOK (by rfl) ?_
  refine rl_move rfl ?_
  refine rl_bin rfl rfl rfl ?_
  refine rl_move rfl ?_
  refine rl_g rfl rfl (fun hg5 => ?_) (fun hg5 => ?_)
  · try simp at hg5
    refine rl_move rfl ?_
    refine rl_gT rfl rfl ?_
    refine rl_nil rfl rfl ?_
    refine rl_gT rfl rfl ?_
    refine rl_fieldAddr rfl tt_109 rfl rfl tt_22 rfl rfl ?_
    refine rl_gT rfl rfl ?_
    first | refine rl_load_ptr rfl tt_22 rfl rfl ?_ | refine rl_load_iel rfl tt_22 rfl ?_
    refine rl_gT rfl rfl ?_
    first | refine rl_lenm rfl tt_22 rfl ?_ | refine rl_lenr rfl tt_22 rfl rfl (by first | exact List.length_map _ | rfl) ?_ | refine rl_len rfl tt_22 rfl rfl (by intro s hs; cases hs) rfl ?_
    refine rl_gT rfl rfl ?_
    refine rl_bin rfl rfl rfl ?_
    refine rl_pickF rfl rfl ?_
    refine hK4 _ _ ?_
    clear hK4 K4
    refine ex_cond rfl (fun hc6 => ?_) (fun hc6 => ?_)
    · try simp at hc6
      refine ex_seq_k fun K7 hK7 => ?_
      refine ex_region ttOK (by rfl) ?_
      refine rl_assign rfl ?_
      refine hK7 _ _ ?_
      clear hK7 K7
      refine ex_ret ?_
      refine ⟨.inr rfl, [γ 0], rfl, congrArg (fun v : Nat => some [AV.pv (.int .i64 (v : Int))]) (?_ : _ = pk bs p n), HE.box rfl rfl HE.nil⟩
      first
      | (subst hc6; simp [pk])
      | (rw [pk, if_pos (.inl (by omega))])
      | (rw [pk, if_neg (by omega), if_pos (by omega)])
      | (rw [pk, if_neg (by omega), if_neg (by omega)]; rfl)
    · try simp at hc6
      refine ex_skip ?_
      refine hK3 _ _ ?_
      clear hK3 K3
      refine ex_seq_k fun K8 hK8 => ?_
      refine ex_region ttOK (by rfl) ?_
      refine rl_move rfl ?_
      refine rl_nil rfl rfl ?_
      refine rl_fieldAddr rfl tt_109 rfl rfl tt_3 rfl rfl ?_
      first | refine rl_load_ptr rfl tt_3 rfl rfl ?_ | refine rl_load_iel rfl tt_3 rfl ?_
      refine rl_binE (.int .i64 (p : Int)) rfl rfl rfl (wrapE rfl (by omega) (by omega) (by omega)) ?_
      refine rl_assign rfl ?_
      refine hK8 _ _ ?_
      clear hK8 K8
      refine ex_seq_k fun K9 hK9 => ?_
      refine ex_seq_k fun K10 hK10 => ?_
      refine ex_region ttOK (by rfl) ?_
      refine rl_move rfl ?_
      refine rl_move rfl ?_
      refine rl_nil rfl rfl ?_
      refine rl_fieldAddr rfl tt_109 rfl rfl tt_22 rfl rfl ?_
      first | refine rl_load_ptr rfl tt_22 rfl rfl ?_ | refine rl_load_iel rfl tt_22 rfl ?_
      first | refine rl_lenm rfl tt_22 rfl ?_ | refine rl_lenr rfl tt_22 rfl rfl (by first | exact List.length_map _ | rfl) ?_ | refine rl_len rfl tt_22 rfl rfl (by intro s hs; cases hs) rfl ?_
      refine rl_bin rfl rfl rfl ?_
      refine hK10 _ _ ?_
      clear hK10 K10
      refine ex_cond rfl (fun hc11 => ?_) (fun hc11 => ?_)
      · try simp at hc11
        refine ex_seq_k fun K12 hK12 => ?_
        refine ex_region ttOK (by rfl) ?_
        refine rl_move rfl ?_
        refine rl_nil rfl rfl ?_
        refine rl_fieldAddr rfl tt_109 rfl rfl tt_22 rfl rfl ?_
        first | refine rl_load_ptr rfl tt_22 rfl rfl ?_ | refine rl_load_iel rfl tt_22 rfl ?_
        refine rl_move rfl ?_
        have hj : bs[p]? = some (bs.getD (p) 0) := by rw [List.getD_eq_getElem?_getD, List.getElem?_eq_getElem (by omega)]; rfl
        have h256 := hbs _ (List.mem_of_getElem? hj)
        refine rl_idxm (j := p) rfl rfl tt_22 rfl tt_5 rfl hj ?_
        first | refine rl_load_ptr rfl tt_5 rfl rfl ?_ | refine rl_load_iel rfl tt_5 rfl ?_
        refine rl_convN rfl tt_5 tt_3 rfl rfl (by omega) ?_
        refine rl_move rfl ?_
        refine rl_remN rfl rfl (by omega) ?_
        refine rl_assign rfl ?_
        refine hK12 _ _ ?_
        clear hK12 K12
        refine ex_ret ?_
        refine ⟨.inr rfl, [γ 0], rfl, congrArg (fun v : Nat => some [AV.pv (.int .i64 (v : Int))]) (?_ : _ = pk bs p n), HE.box rfl rfl HE.nil⟩
        first
        | (subst hc6; simp [pk])
        | (rw [pk, if_pos (.inl (by omega))])
        | (rw [pk, if_neg (by omega), if_pos (by omega)])
        | (rw [pk, if_neg (by omega), if_neg (by omega)]; rfl)
      · try simp at hc11
        refine ex_skip ?_
        refine hK9 _ _ ?_
        clear hK9 K9
        refine ex_seq_k fun K13 hK13 => ?_
        refine ex_region_any ttOK mixed (by rfl) ?_
        refine rl_move rfl ?_
        refine rl_nil rfl rfl ?_
        refine rl_fieldAddr rfl tt_109 rfl rfl tt_22 rfl rfl ?_
        first | refine rl_load_ptr rfl tt_22 rfl rfl ?_ | refine rl_load_iel rfl tt_22 rfl ?_
        refine rl_move rfl ?_
        refine rl_move rfl ?_
        refine rl_nil rfl rfl ?_
        refine rl_fieldAddr rfl tt_109 rfl rfl tt_22 rfl rfl ?_
        first | refine rl_load_ptr rfl tt_22 rfl rfl ?_ | refine rl_load_iel rfl tt_22 rfl ?_
        first | refine rl_lenm rfl tt_22 rfl ?_ | refine rl_lenr rfl tt_22 rfl rfl (by first | exact List.length_map _ | rfl) ?_ | refine rl_len rfl tt_22 rfl rfl (by intro s hs; cases hs) rfl ?_
        have hm0 : bs.length ≠ 0 := by intro h0; exact absurd (List.length_eq_zero_iff.1 h0) (by first | assumption | simp_all)
        refine rl_remN rfl rfl hm0 ?_
        have hj1 : bs[p % bs.length]? = some (bs.getD (p % bs.length) 0) := by rw [List.getD_eq_getElem?_getD, List.getElem?_eq_getElem (Nat.mod_lt _ (by omega))]; rfl
        have h1 := hbs _ (List.mem_of_getElem? hj1)
        refine rl_idxm rfl rfl tt_22 rfl tt_5 rfl hj1 ?_
        first | refine rl_load_ptr rfl tt_5 rfl rfl ?_ | refine rl_load_iel rfl tt_5 rfl ?_
        refine rl_convN rfl tt_5 tt_3 rfl rfl (by omega) ?_
        refine rl_mulN (b := 131) rfl rfl (by omega) ?_
        refine rl_move rfl ?_
        refine rl_nil rfl rfl ?_
        refine rl_fieldAddr rfl tt_109 rfl rfl tt_22 rfl rfl ?_
        first | refine rl_load_ptr rfl tt_22 rfl rfl ?_ | refine rl_load_iel rfl tt_22 rfl ?_
        refine rl_move rfl ?_
        refine rl_mulN (b := 7) rfl rfl (by omega) ?_
        refine rl_addN (b := 3) rfl rfl (by omega) ?_
        refine rl_move rfl ?_
        refine rl_nil rfl rfl ?_
        refine rl_fieldAddr rfl tt_109 rfl rfl tt_22 rfl rfl ?_
        first | refine rl_load_ptr rfl tt_22 rfl rfl ?_ | refine rl_load_iel rfl tt_22 rfl ?_
        first | refine rl_lenm rfl tt_22 rfl ?_ | refine rl_lenr rfl tt_22 rfl rfl (by first | exact List.length_map _ | rfl) ?_ | refine rl_len rfl tt_22 rfl rfl (by intro s hs; cases hs) rfl ?_
        refine rl_remN rfl rfl (by omega) ?_
        have hj2 : bs[(p * 7 + 3) % bs.length]? = some (bs.getD ((p * 7 + 3) % bs.length) 0) := by rw [List.getD_eq_getElem?_getD, List.getElem?_eq_getElem (Nat.mod_lt _ (by omega))]; rfl
        have h2 := hbs _ (List.mem_of_getElem? hj2)
        have hq := Nat.div_le_self p bs.length
        refine rl_idxm rfl rfl tt_22 rfl tt_5 rfl hj2 ?_
        first | refine rl_load_ptr rfl tt_5 rfl rfl ?_ | refine rl_load_iel rfl tt_5 rfl ?_
        refine rl_convN rfl tt_5 tt_3 rfl rfl (by omega) ?_
        refine rl_mulN (b := 1117) rfl rfl (by omega) ?_
        refine rl_addN rfl rfl (by omega) ?_
        refine rl_move rfl ?_
        refine rl_mulN (b := 29) rfl rfl (by omega) ?_
        refine rl_addN rfl rfl (by omega) ?_
        refine rl_move rfl ?_
        refine rl_move rfl ?_
        refine rl_nil rfl rfl ?_
        refine rl_fieldAddr rfl tt_109 rfl rfl tt_22 rfl rfl ?_
        first | refine rl_load_ptr rfl tt_22 rfl rfl ?_ | refine rl_load_iel rfl tt_22 rfl ?_
        first | refine rl_lenm rfl tt_22 rfl ?_ | refine rl_lenr rfl tt_22 rfl rfl (by first | exact List.length_map _ | rfl) ?_ | refine rl_len rfl tt_22 rfl rfl (by intro s hs; cases hs) rfl ?_
        refine rl_quoN rfl rfl (by omega) (by omega) ?_
        refine rl_mulN (b := 53) rfl rfl (by omega) ?_
        refine rl_addN rfl rfl (by omega) ?_
        refine rl_assign rfl ?_
        refine ⟨by kernel_rfl, ?_⟩
        refine hK13 _ _ ?_
        clear hK13 K13
        refine ex_seq_k fun K14 hK14 => ?_
        refine ex_region ttOK (by rfl) ?_
        refine rl_move rfl ?_
        refine rl_move rfl ?_
        refine rl_quoN (b := 64) rfl rfl (by omega) (by omega) ?_
        refine rl_xorN rfl rfl (by omega) (by omega) ?_
        refine rl_assign rfl ?_
        refine hK14 _ _ ?_
        clear hK14 K14
        refine ex_seq_k fun K15 hK15 => ?_
        refine ex_region ttOK (by rfl) ?_
        refine rl_move rfl ?_
        refine rl_move rfl ?_
        refine rl_remN rfl rfl (by omega) ?_
        refine rl_assign rfl ?_
        refine hK15 _ _ ?_
        clear hK15 K15
        refine ex_ret ?_
        refine ⟨.inr rfl, [γ 0], rfl, congrArg (fun v : Nat => some [AV.pv (.int .i64 (v : Int))]) (?_ : _ = pk bs p n), HE.box rfl rfl HE.nil⟩
        first
        | (subst hc6; simp [pk])
        | (rw [pk, if_pos (.inl (by omega))])
        | (rw [pk, if_neg (by omega), if_pos (by omega)])
        | (rw [pk, if_neg (by omega), if_neg (by omega)]; rfl)
  · try simp at hg5
    refine rl_gF rfl rfl ?_
    refine rl_gF rfl rfl ?_
    refine rl_gF rfl rfl ?_
    refine rl_gF rfl rfl ?_
    refine rl_gF rfl rfl ?_
    refine rl_pickT rfl rfl ?_
    refine hK4 _ _ ?_
    clear hK4 K4
    refine ex_cond rfl (fun hc16 => ?_) (fun hc16 => ?_)
    · try simp at hc16
      refine ex_seq_k fun K17 hK17 => ?_
      refine ex_region ttOK (by rfl) ?_
      refine rl_assign rfl ?_
      refine hK17 _ _ ?_
      clear hK17 K17
      refine ex_ret ?_
      refine ⟨.inr rfl, [γ 0], rfl, congrArg (fun v : Nat => some [AV.pv (.int .i64 (v : Int))]) (?_ : _ = pk bs p n), HE.box rfl rfl HE.nil⟩
      first
      | (subst hc6; simp [pk])
      | (rw [pk, if_pos (.inl (by omega))])
      | (rw [pk, if_neg (by omega), if_pos (by omega)])
      | (rw [pk, if_neg (by omega), if_neg (by omega)]; rfl)
    · simp at hc16

theorem F_spec_DrawNodeOf (c : Bool) (bs : List Nat) (hbs : ∀ b ∈ bs, b < 256) : Pure Try.prog 7 [rBytes c bs] (.pv (.int .i64 ((pk (bs.take 2000) 0 8 : Int) - 2))) := by
  refine pure_of_ex ttOK (fn := Try.f7) (by kernel_rfl) (by kernel_rfl) rfl (outs := [.pv (.int .i64 ((pk (bs.take 2000) 0 8 : Int) - 2))]) (by rfl) (Nat.le_of_ble_eq_true rfl) 1 ?_
  refine ex_seq_k fun K1 hK1 => ?_
  refine ex_region ttOK (by rfl) ?_
  refine rl_assign rfl ?_
  refine hK1 _ _ ?_
  clear hK1 K1
  refine ex_seq_k fun K2 hK2 => ?_
  refine ex_region ttOK (by rfl) ?_
  refine rl_move rfl ?_
  refine rl_meth [0] [_] (F_spec_l6Open c bs) rfl rfl rfl (by decide) rfl rfl (by repeat (first | exact InH.nil | refine InH.cons rfl ?_)) (by first | (simp only [List.map_cons, List.map_nil, insH, inE, inT, inA, inC, inD, inB, gl, nx, memN, Nat.beq, Nat.add_eq, List.getD_cons_zero, List.getD_cons_succ, List.getD_nil, Bool.or_false, Bool.false_or, Bool.true_or, Bool.or_true, Nat.add_zero, Nat.zero_add]; rfl) | rfl) (by first | (simp only [List.map_cons, List.map_nil, insH, inE, inT, inA, inC, inD, inB, gl, nx, memN, Nat.beq, Nat.add_eq, List.getD_cons_zero, List.getD_cons_succ, List.getD_nil, Bool.or_false, Bool.false_or, Bool.true_or, Bool.or_true, Nat.add_zero, Nat.zero_add]; rfl) | rfl) ?_
  refine rl_meth [0] [_] (F_spec_l6Rd_pick c (bs.take 2000) 0 8 (by omega) (fun b hb => hbs b (List.mem_of_mem_take hb))) rfl rfl rfl (by decide) rfl rfl (by repeat (first | exact InH.nil | refine InH.cons rfl ?_)) (by first | (simp only [List.map_cons, List.map_nil, insH, inE, inT, inA, inC, inD, inB, gl, nx, memN, Nat.beq, Nat.add_eq, List.getD_cons_zero, List.getD_cons_succ, List.getD_nil, Bool.or_false, Bool.false_or, Bool.true_or, Bool.or_true, Nat.add_zero, Nat.zero_add]; rfl) | rfl) (by first | (simp only [List.map_cons, List.map_nil, insH, inE, inT, inA, inC, inD, inB, gl, nx, memN, Nat.beq, Nat.add_eq, List.getD_cons_zero, List.getD_cons_succ, List.getD_nil, Bool.or_false, Bool.false_or, Bool.true_or, Bool.or_true, Nat.add_zero, Nat.zero_add]; rfl) | rfl) ?_
  have h8 := pk_lt (bs.take 2000) 0 8 (by omega)
  refine rl_binE (.int .i64 ((pk (bs.take 2000) 0 8 : Int) - 2)) rfl rfl rfl (wrapE rfl rfl (by omega) (by omega)) ?_
  refine rl_assign rfl ?_
  refine hK2 _ _ ?_
  clear hK2 K2
  refine ex_ret ⟨.inr rfl, ?_⟩
  exact ret_pv rfl rfl rfl

theorem F_laws_ltInts (c c' : Bool) (l l' : List Int) : Pure Try.prog 41 [rInts c l, rInts c' l'] (.pv (.bool (decide (l = l')))) := by
  refine pure_of_ex ttOK (fn := Try.f41) (by kernel_rfl) (by kernel_rfl) rfl (outs := [.pv (.bool (decide (l = l')))]) (by rfl) (Nat.le_of_ble_eq_true rfl) 0 ?_
  refine ex_rowlenm 0 rfl fun hlen => ?_
  refine ex_seq_k fun K1 hK1 => ?_
  refine ex_region ttOK (by rfl) ?_
  refine rl_assign rfl ?_
  refine hK1 _ _ ?_
  clear hK1 K1
  refine ex_seq_k fun K2 hK2 => ?_
  refine ex_seq_k fun K3 hK3 => ?_
  refine ex_region ttOK (by rfl) ?_
  refine rl_move rfl ?_
  first | refine rl_lenm rfl tt_29 rfl ?_ | refine rl_lenr rfl tt_29 rfl rfl (by first | exact List.length_map _ | rfl) ?_ | refine rl_len rfl tt_29 rfl rfl (by intro s hs; cases hs) rfl ?_
  refine rl_move rfl ?_
  first | refine rl_lenm rfl tt_29 rfl ?_ | refine rl_lenr rfl tt_29 rfl rfl (by first | exact List.length_map _ | rfl) ?_ | refine rl_len rfl tt_29 rfl rfl (by intro s hs; cases hs) rfl ?_
  refine rl_bin rfl rfl rfl ?_
  refine hK3 _ _ ?_
  clear hK3 K3
  refine ex_cond rfl (fun hc4 => ?_) (fun hc4 => ?_)
  · try simp at hc4
    refine ex_seq_k fun K5 hK5 => ?_
    refine ex_region ttOK (by rfl) ?_
    refine rl_assign rfl ?_
    refine hK5 _ _ ?_
    clear hK5 K5
    refine ex_ret ⟨.inr rfl, ?_⟩
    clear hK2 K2
    refine ret_pv rfl ?_ rfl
    first
    | exact eqF1 (by omega)
    | exact eqF2 hx hy (by first | assumption | (intro e; subst e; simp_all))
    | exact eqT h3 (by omega) (by omega)
  · try simp at hc4
    refine ex_skip ?_
    refine hK2 _ _ ?_
    clear hK2 K2
    refine ex_seq_k fun K6 hK6 => ?_
    refine ex_seq_k fun K7 hK7 => ?_
    refine ex_region ttOK (by rfl) ?_
    refine rl_assign rfl ?_
    refine hK7 _ _ ?_
    clear hK7 K7
    refine ex_block ?_
    refine ex_loopK (ι := Nat) (fun i γ1 => [(5, .pv (.int .i64 (i : Int)))]) (fun i γ1 => []) (fun i => i ≤ l.length ∧ l.length = l'.length ∧ l.take i = l'.take i) (fun i => l.length - i) (Cov.cons (t := 0) rfl (Cov.cons (t := 1) rfl Cov.nil)) HE.nil 0 ⟨by omega, by omega, rfl⟩ [] (Cov.cons (t := 5) rfl Cov.nil) HE.nil rfl fun i γ1 hi => ?_
    try dsimp only [List.cons_append, List.nil_append]
    obtain ⟨h1, h2, h3⟩ := hi
    refine ex_seq_k fun K8 hK8 => ?_
    refine ex_seq_k fun K9 hK9 => ?_
    refine ex_region ttOK (by rfl) ?_
    refine rl_move rfl ?_
    refine rl_move rfl ?_
    first | refine rl_lenm rfl tt_29 rfl ?_ | refine rl_lenr rfl tt_29 rfl rfl (by first | exact List.length_map _ | rfl) ?_ | refine rl_len rfl tt_29 rfl rfl (by intro s hs; cases hs) rfl ?_
    refine rl_bin rfl rfl rfl ?_
    refine hK9 _ _ ?_
    clear hK9 K9
    refine ex_cond rfl (fun hc10 => ?_) (fun hc10 => ?_)
    · try simp at hc10
      refine ex_skip ?_
      refine hK8 _ _ ?_
      clear hK8 K8
      refine ex_seq_k fun K11 hK11 => ?_
      refine ex_block ?_
      refine ex_seq_k fun K12 hK12 => ?_
      refine ex_region_any ttOK mixed (by rfl) ?_
      refine rl_move rfl ?_
      refine rl_move rfl ?_
      obtain ⟨x, hx⟩ : ∃ x, l[i]? = some x := ⟨_, List.getElem?_eq_getElem (by omega)⟩
      refine rl_idxm rfl rfl tt_29 rfl tt_3 rfl hx ?_
      first | refine rl_load_ptr rfl tt_3 rfl rfl ?_ | refine rl_load_iel rfl tt_3 rfl ?_
      refine rl_move rfl ?_
      refine rl_move rfl ?_
      obtain ⟨y, hy⟩ : ∃ y, l'[i]? = some y := ⟨_, List.getElem?_eq_getElem (by omega)⟩
      refine rl_idxm rfl rfl tt_29 rfl tt_3 rfl hy ?_
      first | refine rl_load_ptr rfl tt_3 rfl rfl ?_ | refine rl_load_iel rfl tt_3 rfl ?_
      refine rl_bin rfl rfl rfl ?_
      refine ⟨by kernel_rfl, ?_⟩
      refine hK12 _ _ ?_
      clear hK12 K12
      refine ex_cond rfl (fun hc13 => ?_) (fun hc13 => ?_)
      · try simp at hc13
        refine ex_seq_k fun K14 hK14 => ?_
        refine ex_region ttOK (by rfl) ?_
        refine rl_assign rfl ?_
        refine hK14 _ _ ?_
        clear hK14 K14
        refine ex_ret ⟨.inr rfl, ?_⟩
        clear hK11 K11 hK6 K6
        refine ret_pv rfl ?_ rfl
        first
        | exact eqF1 (by omega)
        | exact eqF2 hx hy (by first | assumption | (intro e; subst e; simp_all))
        | exact eqT h3 (by omega) (by omega)
      · try simp at hc13
        refine ex_skip ?_
        refine hK11 _ _ ?_
        clear hK11 K11
        refine ex_region ttOK (by rfl) ?_
        refine rl_move rfl ?_
        refine rl_binE (.int .i64 ((i + 1 : Nat) : Int)) rfl rfl rfl (wrapE rfl (by omega) (by omega) (by have := hlen; omega)) ?_
        refine rl_assign rfl ?_
        exact ⟨i + 1, ⟨⟨by omega, h2, take_step h3 hx hy (by first | assumption | (cases x; cases y; simp_all))⟩, by omega⟩, [], (Cov.cons (t := 5) rfl Cov.nil), (Cov.cons (t := 0) rfl (Cov.cons (t := 1) rfl Cov.nil)), HE.nil, HE.nil, rfl⟩
    · try simp at hc10
      refine ex_exit ?_
      refine hK6 _ _ ?_
      clear hK8 K8 hK6 K6
      refine ex_seq_k fun K15 hK15 => ?_
      refine ex_region ttOK (by rfl) ?_
      refine rl_assign rfl ?_
      refine hK15 _ _ ?_
      clear hK15 K15
      refine ex_ret ⟨.inr rfl, ?_⟩
      refine ret_pv rfl ?_ rfl
      first
      | exact eqF1 (by omega)
      | exact eqF2 hx hy (by first | assumption | (intro e; subst e; simp_all))
      | exact eqT h3 (by omega) (by omega)

theorem F_laws_ltEvents (c c' : Bool) (l l' : List Ev) : Pure Try.prog 55 [rEvs c l, rEvs c' l'] (.pv (.bool (decide (l = l')))) := by
  refine pure_of_ex ttOK (fn := Try.f55) (by kernel_rfl) (by kernel_rfl) rfl (outs := [.pv (.bool (decide (l = l')))]) (by rfl) (Nat.le_of_ble_eq_true rfl) 0 ?_
  refine ex_rowlenm 0 rfl fun hlen => ?_
  refine ex_seq_k fun K1 hK1 => ?_
  refine ex_region ttOK (by rfl) ?_
  refine rl_assign rfl ?_
  refine hK1 _ _ ?_
  clear hK1 K1
  refine ex_seq_k fun K2 hK2 => ?_
  refine ex_seq_k fun K3 hK3 => ?_
  refine ex_region ttOK (by rfl) ?_
  refine rl_move rfl ?_
  first | refine rl_lenm rfl tt_26 rfl ?_ | refine rl_lenr rfl tt_26 rfl rfl (by first | exact List.length_map _ | rfl) ?_ | refine rl_len rfl tt_26 rfl rfl (by intro s hs; cases hs) rfl ?_
  refine rl_move rfl ?_
  first | refine rl_lenm rfl tt_26 rfl ?_ | refine rl_lenr rfl tt_26 rfl rfl (by first | exact List.length_map _ | rfl) ?_ | refine rl_len rfl tt_26 rfl rfl (by intro s hs; cases hs) rfl ?_
  refine rl_bin rfl rfl rfl ?_
  refine hK3 _ _ ?_
  clear hK3 K3
  refine ex_cond rfl (fun hc4 => ?_) (fun hc4 => ?_)
  · try simp at hc4
    refine ex_seq_k fun K5 hK5 => ?_
    refine ex_region ttOK (by rfl) ?_
    refine rl_assign rfl ?_
    refine hK5 _ _ ?_
    clear hK5 K5
    refine ex_ret ⟨.inr rfl, ?_⟩
    clear hK2 K2
    refine ret_pv rfl ?_ rfl
    first
    | exact eqF1 (by omega)
    | exact eqF2 hx hy (by first | assumption | (intro e; subst e; simp_all))
    | exact eqT h3 (by omega) (by omega)
  · try simp at hc4
    refine ex_skip ?_
    refine hK2 _ _ ?_
    clear hK2 K2
    refine ex_seq_k fun K6 hK6 => ?_
    refine ex_seq_k fun K7 hK7 => ?_
    refine ex_region ttOK (by rfl) ?_
    refine rl_assign rfl ?_
    refine hK7 _ _ ?_
    clear hK7 K7
    refine ex_block ?_
    refine ex_loopK (ι := Nat) (fun i γ1 => [(5, .pv (.int .i64 (i : Int)))]) (fun i γ1 => []) (fun i => i ≤ l.length ∧ l.length = l'.length ∧ l.take i = l'.take i) (fun i => l.length - i) (Cov.cons (t := 0) rfl (Cov.cons (t := 1) rfl Cov.nil)) HE.nil 0 ⟨by omega, by omega, rfl⟩ [] (Cov.cons (t := 5) rfl Cov.nil) HE.nil rfl fun i γ1 hi => ?_
    try dsimp only [List.cons_append, List.nil_append]
    obtain ⟨h1, h2, h3⟩ := hi
    refine ex_seq_k fun K8 hK8 => ?_
    refine ex_seq_k fun K9 hK9 => ?_
    refine ex_region ttOK (by rfl) ?_
    refine rl_move rfl ?_
    refine rl_move rfl ?_
    first | refine rl_lenm rfl tt_26 rfl ?_ | refine rl_lenr rfl tt_26 rfl rfl (by first | exact List.length_map _ | rfl) ?_ | refine rl_len rfl tt_26 rfl rfl (by intro s hs; cases hs) rfl ?_
    refine rl_bin rfl rfl rfl ?_
    refine hK9 _ _ ?_
    clear hK9 K9
    refine ex_cond rfl (fun hc10 => ?_) (fun hc10 => ?_)
    · try simp at hc10
      refine ex_skip ?_
      refine hK8 _ _ ?_
      clear hK8 K8
      refine ex_seq_k fun K11 hK11 => ?_
      refine ex_block ?_
      refine ex_seq_k fun K12 hK12 => ?_
      refine ex_region_any ttOK mixed (by rfl) ?_
      refine rl_move rfl ?_
      refine rl_move rfl ?_
      obtain ⟨x, hx⟩ : ∃ x, l[i]? = some x := ⟨_, List.getElem?_eq_getElem (by omega)⟩
      refine rl_idxm rfl rfl tt_26 rfl tt_60 rfl hx ?_
      first | refine rl_loadA_ptr rfl tt_60 rfl rfl rfl ?_ | refine rl_loadA_iel rfl tt_60 rfl rfl ?_ | refine rl_load_ptr rfl tt_60 rfl rfl ?_ | refine rl_load_iel rfl tt_60 rfl ?_ | refine rl_loadEA rfl tt_60 rfl (by assumption) rfl rfl ?_
      refine rl_move rfl ?_
      refine rl_move rfl ?_
      obtain ⟨y, hy⟩ : ∃ y, l'[i]? = some y := ⟨_, List.getElem?_eq_getElem (by omega)⟩
      refine rl_idxm rfl rfl tt_26 rfl tt_60 rfl hy ?_
      first | refine rl_loadA_ptr rfl tt_60 rfl rfl rfl ?_ | refine rl_loadA_iel rfl tt_60 rfl rfl ?_ | refine rl_load_ptr rfl tt_60 rfl rfl ?_ | refine rl_load_iel rfl tt_60 rfl ?_ | refine rl_loadEA rfl tt_60 rfl (by assumption) rfl rfl ?_
      refine rl_eq rfl rfl (by intro a c h; cases h) (.inr rfl) (eqEv _ _ _ _) ?_
      refine ⟨by kernel_rfl, ?_⟩
      refine hK12 _ _ ?_
      clear hK12 K12
      refine ex_cond rfl (fun hc13 => ?_) (fun hc13 => ?_)
      · try simp at hc13
        refine ex_seq_k fun K14 hK14 => ?_
        refine ex_region ttOK (by rfl) ?_
        refine rl_assign rfl ?_
        refine hK14 _ _ ?_
        clear hK14 K14
        refine ex_ret ⟨.inr rfl, ?_⟩
        clear hK11 K11 hK6 K6
        refine ret_pv rfl ?_ rfl
        first
        | exact eqF1 (by omega)
        | exact eqF2 hx hy (by first | assumption | (intro e; subst e; simp_all))
        | exact eqT h3 (by omega) (by omega)
      · try simp at hc13
        refine ex_skip ?_
        refine hK11 _ _ ?_
        clear hK11 K11
        refine ex_region ttOK (by rfl) ?_
        refine rl_move rfl ?_
        refine rl_binE (.int .i64 ((i + 1 : Nat) : Int)) rfl rfl rfl (wrapE rfl (by omega) (by omega) (by have := hlen; omega)) ?_
        refine rl_assign rfl ?_
        exact ⟨i + 1, ⟨⟨by omega, h2, take_step h3 hx hy (by first | assumption | (cases x; cases y; simp_all))⟩, by omega⟩, [], (Cov.cons (t := 5) rfl Cov.nil), (Cov.cons (t := 0) rfl (Cov.cons (t := 1) rfl Cov.nil)), HE.nil, HE.nil, rfl⟩
    · try simp at hc10
      refine ex_exit ?_
      refine hK6 _ _ ?_
      clear hK8 K8 hK6 K6
      refine ex_seq_k fun K15 hK15 => ?_
      refine ex_region ttOK (by rfl) ?_
      refine rl_assign rfl ?_
      refine hK15 _ _ ?_
      clear hK15 K15
      refine ex_ret ⟨.inr rfl, ?_⟩
      refine ret_pv rfl ?_ rfl
      first
      | exact eqF1 (by omega)
      | exact eqF2 hx hy (by first | assumption | (intro e; subst e; simp_all))
      | exact eqT h3 (by omega) (by omega)

theorem F_laws_ltOuts (c c' : Bool) (l l' : List Ou) : Pure Try.prog 56 [rOus c l, rOus c' l'] (.pv (.bool (decide (l = l')))) := by
  refine pure_of_ex ttOK (fn := Try.f56) (by kernel_rfl) (by kernel_rfl) rfl (outs := [.pv (.bool (decide (l = l')))]) (by rfl) (Nat.le_of_ble_eq_true rfl) 0 ?_
  refine ex_rowlenm 0 rfl fun hlen => ?_
  refine ex_seq_k fun K1 hK1 => ?_
  refine ex_region ttOK (by rfl) ?_
  refine rl_assign rfl ?_
  refine hK1 _ _ ?_
  clear hK1 K1
  refine ex_seq_k fun K2 hK2 => ?_
  refine ex_seq_k fun K3 hK3 => ?_
  refine ex_region ttOK (by rfl) ?_
  refine rl_move rfl ?_
  first | refine rl_lenm rfl tt_27 rfl ?_ | refine rl_lenr rfl tt_27 rfl rfl (by first | exact List.length_map _ | rfl) ?_ | refine rl_len rfl tt_27 rfl rfl (by intro s hs; cases hs) rfl ?_
  refine rl_move rfl ?_
  first | refine rl_lenm rfl tt_27 rfl ?_ | refine rl_lenr rfl tt_27 rfl rfl (by first | exact List.length_map _ | rfl) ?_ | refine rl_len rfl tt_27 rfl rfl (by intro s hs; cases hs) rfl ?_
  refine rl_bin rfl rfl rfl ?_
  refine hK3 _ _ ?_
  clear hK3 K3
  refine ex_cond rfl (fun hc4 => ?_) (fun hc4 => ?_)
  · try simp at hc4
    refine ex_seq_k fun K5 hK5 => ?_
    refine ex_region ttOK (by rfl) ?_
    refine rl_assign rfl ?_
    refine hK5 _ _ ?_
    clear hK5 K5
    refine ex_ret ⟨.inr rfl, ?_⟩
    clear hK2 K2
    refine ret_pv rfl ?_ rfl
    first
    | exact eqF1 (by omega)
    | exact eqF2 hx hy (by first | assumption | (intro e; subst e; simp_all))
    | exact eqT h3 (by omega) (by omega)
  · try simp at hc4
    refine ex_skip ?_
    refine hK2 _ _ ?_
    clear hK2 K2
    refine ex_seq_k fun K6 hK6 => ?_
    refine ex_seq_k fun K7 hK7 => ?_
    refine ex_region ttOK (by rfl) ?_
    refine rl_assign rfl ?_
    refine hK7 _ _ ?_
    clear hK7 K7
    refine ex_block ?_
    refine ex_loopK (ι := Nat) (fun i γ1 => [(5, .pv (.int .i64 (i : Int)))]) (fun i γ1 => []) (fun i => i ≤ l.length ∧ l.length = l'.length ∧ l.take i = l'.take i) (fun i => l.length - i) (Cov.cons (t := 0) rfl (Cov.cons (t := 1) rfl Cov.nil)) HE.nil 0 ⟨by omega, by omega, rfl⟩ [] (Cov.cons (t := 5) rfl Cov.nil) HE.nil rfl fun i γ1 hi => ?_
    try dsimp only [List.cons_append, List.nil_append]
    obtain ⟨h1, h2, h3⟩ := hi
    refine ex_seq_k fun K8 hK8 => ?_
    refine ex_seq_k fun K9 hK9 => ?_
    refine ex_region ttOK (by rfl) ?_
    refine rl_move rfl ?_
    refine rl_move rfl ?_
    first | refine rl_lenm rfl tt_27 rfl ?_ | refine rl_lenr rfl tt_27 rfl rfl (by first | exact List.length_map _ | rfl) ?_ | refine rl_len rfl tt_27 rfl rfl (by intro s hs; cases hs) rfl ?_
    refine rl_bin rfl rfl rfl ?_
    refine hK9 _ _ ?_
    clear hK9 K9
    refine ex_cond rfl (fun hc10 => ?_) (fun hc10 => ?_)
    · try simp at hc10
      refine ex_skip ?_
      refine hK8 _ _ ?_
      clear hK8 K8
      refine ex_seq_k fun K11 hK11 => ?_
      refine ex_block ?_
      refine ex_seq_k fun K12 hK12 => ?_
      refine ex_region_any ttOK mixed (by rfl) ?_
      refine rl_move rfl ?_
      refine rl_move rfl ?_
      obtain ⟨x, hx⟩ : ∃ x, l[i]? = some x := ⟨_, List.getElem?_eq_getElem (by omega)⟩
      refine rl_idxm rfl rfl tt_27 rfl tt_131 rfl hx ?_
      first | refine rl_loadA_ptr rfl tt_131 rfl rfl rfl ?_ | refine rl_loadA_iel rfl tt_131 rfl rfl ?_ | refine rl_load_ptr rfl tt_131 rfl rfl ?_ | refine rl_load_iel rfl tt_131 rfl ?_ | refine rl_loadEA rfl tt_131 rfl (by assumption) rfl rfl ?_
      refine rl_move rfl ?_
      refine rl_move rfl ?_
      obtain ⟨y, hy⟩ : ∃ y, l'[i]? = some y := ⟨_, List.getElem?_eq_getElem (by omega)⟩
      refine rl_idxm rfl rfl tt_27 rfl tt_131 rfl hy ?_
      first | refine rl_loadA_ptr rfl tt_131 rfl rfl rfl ?_ | refine rl_loadA_iel rfl tt_131 rfl rfl ?_ | refine rl_load_ptr rfl tt_131 rfl rfl ?_ | refine rl_load_iel rfl tt_131 rfl ?_ | refine rl_loadEA rfl tt_131 rfl (by assumption) rfl rfl ?_
      refine rl_eq rfl rfl (by intro a c h; cases h) (.inr rfl) (eqOu _ _ _ _) ?_
      refine ⟨by kernel_rfl, ?_⟩
      refine hK12 _ _ ?_
      clear hK12 K12
      refine ex_cond rfl (fun hc13 => ?_) (fun hc13 => ?_)
      · try simp at hc13
        refine ex_seq_k fun K14 hK14 => ?_
        refine ex_region ttOK (by rfl) ?_
        refine rl_assign rfl ?_
        refine hK14 _ _ ?_
        clear hK14 K14
        refine ex_ret ⟨.inr rfl, ?_⟩
        clear hK11 K11 hK6 K6
        refine ret_pv rfl ?_ rfl
        first
        | exact eqF1 (by omega)
        | exact eqF2 hx hy (by first | assumption | (intro e; subst e; simp_all))
        | exact eqT h3 (by omega) (by omega)
      · try simp at hc13
        refine ex_skip ?_
        refine hK11 _ _ ?_
        clear hK11 K11
        refine ex_region ttOK (by rfl) ?_
        refine rl_move rfl ?_
        refine rl_binE (.int .i64 ((i + 1 : Nat) : Int)) rfl rfl rfl (wrapE rfl (by omega) (by omega) (by have := hlen; omega)) ?_
        refine rl_assign rfl ?_
        exact ⟨i + 1, ⟨⟨by omega, h2, take_step h3 hx hy (by first | assumption | (cases x; cases y; simp_all))⟩, by omega⟩, [], (Cov.cons (t := 5) rfl Cov.nil), (Cov.cons (t := 0) rfl (Cov.cons (t := 1) rfl Cov.nil)), HE.nil, HE.nil, rfl⟩
    · try simp at hc10
      refine ex_exit ?_
      refine hK6 _ _ ?_
      clear hK8 K8 hK6 K6
      refine ex_seq_k fun K15 hK15 => ?_
      refine ex_region ttOK (by rfl) ?_
      refine rl_assign rfl ?_
      refine hK15 _ _ ?_
      clear hK15 K15
      refine ex_ret ⟨.inr rfl, ?_⟩
      refine ret_pv rfl ?_ rfl
      first
      | exact eqF1 (by omega)
      | exact eqF2 hx hy (by first | assumption | (intro e; subst e; simp_all))
      | exact eqT h3 (by omega) (by omega)

theorem F_laws_ltPasts (c c' : Bool) (l l' : List Pa) : Pure Try.prog 116 [rPas c l, rPas c' l'] (.pv (.bool (decide (l = l')))) := by
  refine pure_of_ex ttOK (fn := Try.f116) (by kernel_rfl) (by kernel_rfl) rfl (outs := [.pv (.bool (decide (l = l')))]) (by rfl) (Nat.le_of_ble_eq_true rfl) 0 ?_
  refine ex_rowlenm 0 rfl fun hlen => ?_
  refine ex_seq_k fun K1 hK1 => ?_
  refine ex_region ttOK (by rfl) ?_
  refine rl_assign rfl ?_
  refine hK1 _ _ ?_
  clear hK1 K1
  refine ex_seq_k fun K2 hK2 => ?_
  refine ex_seq_k fun K3 hK3 => ?_
  refine ex_region ttOK (by rfl) ?_
  refine rl_move rfl ?_
  first | refine rl_lenm rfl tt_35 rfl ?_ | refine rl_lenr rfl tt_35 rfl rfl (by first | exact List.length_map _ | rfl) ?_ | refine rl_len rfl tt_35 rfl rfl (by intro s hs; cases hs) rfl ?_
  refine rl_move rfl ?_
  first | refine rl_lenm rfl tt_35 rfl ?_ | refine rl_lenr rfl tt_35 rfl rfl (by first | exact List.length_map _ | rfl) ?_ | refine rl_len rfl tt_35 rfl rfl (by intro s hs; cases hs) rfl ?_
  refine rl_bin rfl rfl rfl ?_
  refine hK3 _ _ ?_
  clear hK3 K3
  refine ex_cond rfl (fun hc4 => ?_) (fun hc4 => ?_)
  · try simp at hc4
    refine ex_seq_k fun K5 hK5 => ?_
    refine ex_region ttOK (by rfl) ?_
    refine rl_assign rfl ?_
    refine hK5 _ _ ?_
    clear hK5 K5
    refine ex_ret ⟨.inr rfl, ?_⟩
    clear hK2 K2
    refine ret_pv rfl ?_ rfl
    first
    | exact eqF1 (by omega)
    | exact eqF2 hx hy (by first | assumption | (intro e; subst e; simp_all))
    | exact eqT h3 (by omega) (by omega)
  · try simp at hc4
    refine ex_skip ?_
    refine hK2 _ _ ?_
    clear hK2 K2
    refine ex_seq_k fun K6 hK6 => ?_
    refine ex_seq_k fun K7 hK7 => ?_
    refine ex_region ttOK (by rfl) ?_
    refine rl_assign rfl ?_
    refine hK7 _ _ ?_
    clear hK7 K7
    refine ex_block ?_
    refine ex_loopK (ι := Nat) (fun i γ1 => [(5, .pv (.int .i64 (i : Int)))]) (fun i γ1 => []) (fun i => i ≤ l.length ∧ l.length = l'.length ∧ l.take i = l'.take i) (fun i => l.length - i) (Cov.cons (t := 0) rfl (Cov.cons (t := 1) rfl Cov.nil)) HE.nil 0 ⟨by omega, by omega, rfl⟩ [] (Cov.cons (t := 5) rfl Cov.nil) HE.nil rfl fun i γ1 hi => ?_
    try dsimp only [List.cons_append, List.nil_append]
    obtain ⟨h1, h2, h3⟩ := hi
    refine ex_seq_k fun K8 hK8 => ?_
    refine ex_seq_k fun K9 hK9 => ?_
    refine ex_region ttOK (by rfl) ?_
    refine rl_move rfl ?_
    refine rl_move rfl ?_
    first | refine rl_lenm rfl tt_35 rfl ?_ | refine rl_lenr rfl tt_35 rfl rfl (by first | exact List.length_map _ | rfl) ?_ | refine rl_len rfl tt_35 rfl rfl (by intro s hs; cases hs) rfl ?_
    refine rl_bin rfl rfl rfl ?_
    refine hK9 _ _ ?_
    clear hK9 K9
    refine ex_cond rfl (fun hc10 => ?_) (fun hc10 => ?_)
    · try simp at hc10
      refine ex_skip ?_
      refine hK8 _ _ ?_
      clear hK8 K8
      refine ex_seq_k fun K11 hK11 => ?_
      refine ex_block ?_
      refine ex_seq_k fun K12 hK12 => ?_
      refine ex_region_any ttOK mixed (by rfl) ?_
      refine rl_move rfl ?_
      refine rl_move rfl ?_
      obtain ⟨x, hx⟩ : ∃ x, l[i]? = some x := ⟨_, List.getElem?_eq_getElem (by omega)⟩
      refine rl_idxm rfl rfl tt_35 rfl tt_154 rfl hx ?_
      refine rl_fieldAddr rfl tt_154 rfl rfl tt_60 rfl rfl ?_
      refine rl_load_iel (out := .agg (encEv x.ev)) rfl tt_60 rfl ?_
      refine rl_move rfl ?_
      refine rl_move rfl ?_
      obtain ⟨y, hy⟩ : ∃ y, l'[i]? = some y := ⟨_, List.getElem?_eq_getElem (by omega)⟩
      refine rl_idxm rfl rfl tt_35 rfl tt_154 rfl hy ?_
      refine rl_fieldAddr rfl tt_154 rfl rfl tt_60 rfl rfl ?_
      refine rl_load_iel (out := .agg (encEv y.ev)) rfl tt_60 rfl ?_
      refine rl_eq rfl rfl (by intro a c h; cases h) (.inr rfl) (eqEv _ _ _ _) ?_
      refine rl_move rfl ?_
      refine rl_g rfl rfl (fun hg13 => ?_) (fun hg13 => ?_)
      · try simp at hg13
        refine rl_move rfl ?_
        refine rl_gT rfl rfl ?_
        refine rl_move rfl ?_
        refine rl_gT rfl rfl ?_
        refine rl_idxm rfl rfl tt_35 rfl tt_154 rfl hx ?_
        refine rl_gT rfl rfl ?_
        refine rl_fieldAddr rfl tt_154 rfl rfl tt_34 rfl rfl ?_
        refine rl_gT rfl rfl ?_
        refine rl_load_iel (out := .agg (encSt x.after)) rfl tt_34 rfl ?_
        refine rl_gT rfl rfl ?_
        refine rl_move rfl ?_
        refine rl_gT rfl rfl ?_
        refine rl_move rfl ?_
        refine rl_gT rfl rfl ?_
        refine rl_idxm rfl rfl tt_35 rfl tt_154 rfl hy ?_
        refine rl_gT rfl rfl ?_
        refine rl_fieldAddr rfl tt_154 rfl rfl tt_34 rfl rfl ?_
        refine rl_gT rfl rfl ?_
        refine rl_load_iel (out := .agg (encSt y.after)) rfl tt_34 rfl ?_
        refine rl_gT rfl rfl ?_
        refine rl_eq rfl rfl (by intro a c h; cases h) (.inr rfl) (eqSt _ _ _ _) ?_
        refine rl_pickF rfl rfl ?_
        refine rl_move rfl ?_
        refine rl_g rfl rfl (fun hg14 => ?_) (fun hg14 => ?_)
        · try simp at hg14
          refine rl_move rfl ?_
          refine rl_gT rfl rfl ?_
          refine rl_move rfl ?_
          refine rl_gT rfl rfl ?_
          refine rl_idxm rfl rfl tt_35 rfl tt_154 rfl hx ?_
          refine rl_gT rfl rfl ?_
          refine rl_fieldAddr rfl tt_154 rfl rfl tt_26 rfl rfl ?_
          refine rl_gT rfl rfl ?_
          first | refine rl_load_ptr rfl tt_26 rfl rfl ?_ | refine rl_load_iel rfl tt_26 rfl ?_
          refine rl_gT rfl rfl ?_
          refine rl_move rfl ?_
          refine rl_gT rfl rfl ?_
          refine rl_move rfl ?_
          refine rl_gT rfl rfl ?_
          refine rl_idxm rfl rfl tt_35 rfl tt_154 rfl hy ?_
          refine rl_gT rfl rfl ?_
          refine rl_fieldAddr rfl tt_154 rfl rfl tt_26 rfl rfl ?_
          refine rl_gT rfl rfl ?_
          first | refine rl_load_ptr rfl tt_26 rfl rfl ?_ | refine rl_load_iel rfl tt_26 rfl ?_
          refine rl_gT rfl rfl ?_
          refine rl_call rfl rfl rfl (F_laws_ltEvents ..) ?_
          refine rl_gT rfl rfl ?_
          refine rl_not rfl ?_
          refine rl_pickF rfl rfl ?_
          refine rl_move rfl ?_
          refine rl_g rfl rfl (fun hg15 => ?_) (fun hg15 => ?_)
          · try simp at hg15
            refine rl_move rfl ?_
            refine rl_gT rfl rfl ?_
            refine rl_move rfl ?_
            refine rl_gT rfl rfl ?_
            refine rl_idxm rfl rfl tt_35 rfl tt_154 rfl hx ?_
            refine rl_gT rfl rfl ?_
            refine rl_fieldAddr rfl tt_154 rfl rfl tt_27 rfl rfl ?_
            refine rl_gT rfl rfl ?_
            first | refine rl_load_ptr rfl tt_27 rfl rfl ?_ | refine rl_load_iel rfl tt_27 rfl ?_
            refine rl_gT rfl rfl ?_
            refine rl_move rfl ?_
            refine rl_gT rfl rfl ?_
            refine rl_move rfl ?_
            refine rl_gT rfl rfl ?_
            refine rl_idxm rfl rfl tt_35 rfl tt_154 rfl hy ?_
            refine rl_gT rfl rfl ?_
            refine rl_fieldAddr rfl tt_154 rfl rfl tt_27 rfl rfl ?_
            refine rl_gT rfl rfl ?_
            first | refine rl_load_ptr rfl tt_27 rfl rfl ?_ | refine rl_load_iel rfl tt_27 rfl ?_
            refine rl_gT rfl rfl ?_
            refine rl_call rfl rfl rfl (F_laws_ltOuts ..) ?_
            refine rl_gT rfl rfl ?_
            refine rl_not rfl ?_
            refine rl_pickF rfl rfl ?_
            refine ⟨by kernel_rfl, ?_⟩
            refine hK12 _ _ ?_
            clear hK12 K12
            refine ex_cond rfl (fun hc16 => ?_) (fun hc16 => ?_)
            · try simp at hc16
              refine ex_seq_k fun K17 hK17 => ?_
              refine ex_region ttOK (by rfl) ?_
              refine rl_assign rfl ?_
              refine hK17 _ _ ?_
              clear hK17 K17
              refine ex_ret ⟨.inr rfl, ?_⟩
              clear hK11 K11 hK6 K6
              refine ret_pv rfl ?_ rfl
              first
              | exact eqF1 (by omega)
              | exact eqF2 hx hy (by first | assumption | (intro e; subst e; simp_all))
              | exact eqT h3 (by omega) (by omega)
            · try simp at hc16
              refine ex_skip ?_
              refine hK11 _ _ ?_
              clear hK11 K11
              refine ex_region ttOK (by rfl) ?_
              refine rl_move rfl ?_
              refine rl_binE (.int .i64 ((i + 1 : Nat) : Int)) rfl rfl rfl (wrapE rfl (by omega) (by omega) (by have := hlen; omega)) ?_
              refine rl_assign rfl ?_
              exact ⟨i + 1, ⟨⟨by omega, h2, take_step h3 hx hy (by first | assumption | (cases x; cases y; simp_all))⟩, by omega⟩, [], (Cov.cons (t := 5) rfl Cov.nil), (Cov.cons (t := 0) rfl (Cov.cons (t := 1) rfl Cov.nil)), HE.nil, HE.nil, rfl⟩
          · try simp at hg15
            refine rl_gF rfl rfl ?_
            refine rl_gF rfl rfl ?_
            refine rl_gF rfl rfl ?_
            refine rl_gF rfl rfl ?_
            refine rl_gF rfl rfl ?_
            refine rl_gF rfl rfl ?_
            refine rl_gF rfl rfl ?_
            refine rl_gF rfl rfl ?_
            refine rl_gF rfl rfl ?_
            refine rl_gF rfl rfl ?_
            refine rl_gF rfl rfl ?_
            refine rl_pickT rfl rfl ?_
            refine ⟨by kernel_rfl, ?_⟩
            refine hK12 _ _ ?_
            clear hK12 K12
            refine ex_cond rfl (fun hc18 => ?_) (fun hc18 => ?_)
            · try simp at hc18
              refine ex_seq_k fun K19 hK19 => ?_
              refine ex_region ttOK (by rfl) ?_
              refine rl_assign rfl ?_
              refine hK19 _ _ ?_
              clear hK19 K19
              refine ex_ret ⟨.inr rfl, ?_⟩
              clear hK11 K11 hK6 K6
              refine ret_pv rfl ?_ rfl
              first
              | exact eqF1 (by omega)
              | exact eqF2 hx hy (by first | assumption | (intro e; subst e; simp_all))
              | exact eqT h3 (by omega) (by omega)
            · simp at hc18
        · try simp at hg14
          refine rl_gF rfl rfl ?_
          refine rl_gF rfl rfl ?_
          refine rl_gF rfl rfl ?_
          refine rl_gF rfl rfl ?_
          refine rl_gF rfl rfl ?_
          refine rl_gF rfl rfl ?_
          refine rl_gF rfl rfl ?_
          refine rl_gF rfl rfl ?_
          refine rl_gF rfl rfl ?_
          refine rl_gF rfl rfl ?_
          refine rl_gF rfl rfl ?_
          refine rl_pickT rfl rfl ?_
          refine rl_move rfl ?_
          refine rl_gF rfl rfl ?_
          refine rl_gF rfl rfl ?_
          refine rl_gF rfl rfl ?_
          refine rl_gF rfl rfl ?_
          refine rl_gF rfl rfl ?_
          refine rl_gF rfl rfl ?_
          refine rl_gF rfl rfl ?_
          refine rl_gF rfl rfl ?_
          refine rl_gF rfl rfl ?_
          refine rl_gF rfl rfl ?_
          refine rl_gF rfl rfl ?_
          refine rl_gF rfl rfl ?_
          refine rl_pickT rfl rfl ?_
          refine ⟨by kernel_rfl, ?_⟩
          refine hK12 _ _ ?_
          clear hK12 K12
          refine ex_cond rfl (fun hc20 => ?_) (fun hc20 => ?_)
          · try simp at hc20
            refine ex_seq_k fun K21 hK21 => ?_
            refine ex_region ttOK (by rfl) ?_
            refine rl_assign rfl ?_
            refine hK21 _ _ ?_
            clear hK21 K21
            refine ex_ret ⟨.inr rfl, ?_⟩
            clear hK11 K11 hK6 K6
            refine ret_pv rfl ?_ rfl
            first
            | exact eqF1 (by omega)
            | exact eqF2 hx hy (by first | assumption | (intro e; subst e; simp_all))
            | exact eqT h3 (by omega) (by omega)
          · simp at hc20
      · try simp at hg13
        refine rl_gF rfl rfl ?_
        refine rl_gF rfl rfl ?_
        refine rl_gF rfl rfl ?_
        refine rl_gF rfl rfl ?_
        refine rl_gF rfl rfl ?_
        refine rl_gF rfl rfl ?_
        refine rl_gF rfl rfl ?_
        refine rl_gF rfl rfl ?_
        refine rl_gF rfl rfl ?_
        refine rl_gF rfl rfl ?_
        refine rl_pickT rfl rfl ?_
        refine rl_move rfl ?_
        refine rl_gF rfl rfl ?_
        refine rl_gF rfl rfl ?_
        refine rl_gF rfl rfl ?_
        refine rl_gF rfl rfl ?_
        refine rl_gF rfl rfl ?_
        refine rl_gF rfl rfl ?_
        refine rl_gF rfl rfl ?_
        refine rl_gF rfl rfl ?_
        refine rl_gF rfl rfl ?_
        refine rl_gF rfl rfl ?_
        refine rl_gF rfl rfl ?_
        refine rl_gF rfl rfl ?_
        refine rl_pickT rfl rfl ?_
        refine rl_move rfl ?_
        refine rl_gF rfl rfl ?_
        refine rl_gF rfl rfl ?_
        refine rl_gF rfl rfl ?_
        refine rl_gF rfl rfl ?_
        refine rl_gF rfl rfl ?_
        refine rl_gF rfl rfl ?_
        refine rl_gF rfl rfl ?_
        refine rl_gF rfl rfl ?_
        refine rl_gF rfl rfl ?_
        refine rl_gF rfl rfl ?_
        refine rl_gF rfl rfl ?_
        refine rl_gF rfl rfl ?_
        refine rl_pickT rfl rfl ?_
        refine ⟨by kernel_rfl, ?_⟩
        refine hK12 _ _ ?_
        clear hK12 K12
        refine ex_cond rfl (fun hc22 => ?_) (fun hc22 => ?_)
        · try simp at hc22
          refine ex_seq_k fun K23 hK23 => ?_
          refine ex_region ttOK (by rfl) ?_
          refine rl_assign rfl ?_
          refine hK23 _ _ ?_
          clear hK23 K23
          refine ex_ret ⟨.inr rfl, ?_⟩
          clear hK11 K11 hK6 K6
          refine ret_pv rfl ?_ rfl
          first
          | exact eqF1 (by omega)
          | exact eqF2 hx hy (by first | assumption | (intro e; subst e; simp_all))
          | exact eqT h3 (by omega) (by omega)
        · simp at hc22
    · try simp at hc10
      refine ex_exit ?_
      refine hK6 _ _ ?_
      clear hK8 K8 hK6 K6
      refine ex_seq_k fun K24 hK24 => ?_
      refine ex_region ttOK (by rfl) ?_
      refine rl_assign rfl ?_
      refine hK24 _ _ ?_
      clear hK24 K24
      refine ex_ret ⟨.inr rfl, ?_⟩
      refine ret_pv rfl ?_ rfl
      first
      | exact eqF1 (by omega)
      | exact eqF2 hx hy (by first | assumption | (intro e; subst e; simp_all))
      | exact eqT h3 (by omega) (by omega)

theorem F_laws_ltViews (c c' : Bool) (l l' : List Vi) : Pure Try.prog 40 [rVis c l, rVis c' l'] (.pv (.bool (decide (l = l')))) := by
  refine pure_of_ex ttOK (fn := Try.f40) (by kernel_rfl) (by kernel_rfl) rfl (outs := [.pv (.bool (decide (l = l')))]) (by rfl) (Nat.le_of_ble_eq_true rfl) 0 ?_
  refine ex_rowlenm 0 rfl fun hlen => ?_
  refine ex_seq_k fun K1 hK1 => ?_
  refine ex_region ttOK (by rfl) ?_
  refine rl_assign rfl ?_
  refine hK1 _ _ ?_
  clear hK1 K1
  refine ex_seq_k fun K2 hK2 => ?_
  refine ex_seq_k fun K3 hK3 => ?_
  refine ex_region ttOK (by rfl) ?_
  refine rl_move rfl ?_
  first | refine rl_lenm rfl tt_28 rfl ?_ | refine rl_lenr rfl tt_28 rfl rfl (by first | exact List.length_map _ | rfl) ?_ | refine rl_len rfl tt_28 rfl rfl (by intro s hs; cases hs) rfl ?_
  refine rl_move rfl ?_
  first | refine rl_lenm rfl tt_28 rfl ?_ | refine rl_lenr rfl tt_28 rfl rfl (by first | exact List.length_map _ | rfl) ?_ | refine rl_len rfl tt_28 rfl rfl (by intro s hs; cases hs) rfl ?_
  refine rl_bin rfl rfl rfl ?_
  refine hK3 _ _ ?_
  clear hK3 K3
  refine ex_cond rfl (fun hc4 => ?_) (fun hc4 => ?_)
  · try simp at hc4
    refine ex_seq_k fun K5 hK5 => ?_
    refine ex_region ttOK (by rfl) ?_
    refine rl_assign rfl ?_
    refine hK5 _ _ ?_
    clear hK5 K5
    refine ex_ret ⟨.inr rfl, ?_⟩
    clear hK2 K2
    refine ret_pv rfl ?_ rfl
    first
    | exact eqF1 (by omega)
    | exact eqF2 hx hy (by first | assumption | (intro e; subst e; simp_all))
    | exact eqT h3 (by omega) (by omega)
  · try simp at hc4
    refine ex_skip ?_
    refine hK2 _ _ ?_
    clear hK2 K2
    refine ex_seq_k fun K6 hK6 => ?_
    refine ex_seq_k fun K7 hK7 => ?_
    refine ex_region ttOK (by rfl) ?_
    refine rl_assign rfl ?_
    refine hK7 _ _ ?_
    clear hK7 K7
    refine ex_block ?_
    refine ex_loopK (ι := Nat) (fun i γ1 => [(5, .pv (.int .i64 (i : Int)))]) (fun i γ1 => []) (fun i => i ≤ l.length ∧ l.length = l'.length ∧ l.take i = l'.take i) (fun i => l.length - i) (Cov.cons (t := 0) rfl (Cov.cons (t := 1) rfl Cov.nil)) HE.nil 0 ⟨by omega, by omega, rfl⟩ [] (Cov.cons (t := 5) rfl Cov.nil) HE.nil rfl fun i γ1 hi => ?_
    try dsimp only [List.cons_append, List.nil_append]
    obtain ⟨h1, h2, h3⟩ := hi
    refine ex_seq_k fun K8 hK8 => ?_
    refine ex_seq_k fun K9 hK9 => ?_
    refine ex_region ttOK (by rfl) ?_
    refine rl_move rfl ?_
    refine rl_move rfl ?_
    first | refine rl_lenm rfl tt_28 rfl ?_ | refine rl_lenr rfl tt_28 rfl rfl (by first | exact List.length_map _ | rfl) ?_ | refine rl_len rfl tt_28 rfl rfl (by intro s hs; cases hs) rfl ?_
    refine rl_bin rfl rfl rfl ?_
    refine hK9 _ _ ?_
    clear hK9 K9
    refine ex_cond rfl (fun hc10 => ?_) (fun hc10 => ?_)
    · try simp at hc10
      refine ex_skip ?_
      refine hK8 _ _ ?_
      clear hK8 K8
      refine ex_seq_k fun K11 hK11 => ?_
      refine ex_block ?_
      refine ex_seq_k fun K12 hK12 => ?_
      refine ex_region_any ttOK mixed (by rfl) ?_
      refine rl_move rfl ?_
      refine rl_move rfl ?_
      obtain ⟨x, hx⟩ : ∃ x, l[i]? = some x := ⟨_, List.getElem?_eq_getElem (by omega)⟩
      refine rl_idxm rfl rfl tt_28 rfl tt_123 rfl hx ?_
      refine rl_fieldAddr rfl tt_123 rfl rfl tt_3 rfl rfl ?_
      first | refine rl_load_ptr rfl tt_3 rfl rfl ?_ | refine rl_load_iel rfl tt_3 rfl ?_
      refine rl_move rfl ?_
      refine rl_move rfl ?_
      obtain ⟨y, hy⟩ : ∃ y, l'[i]? = some y := ⟨_, List.getElem?_eq_getElem (by omega)⟩
      refine rl_idxm rfl rfl tt_28 rfl tt_123 rfl hy ?_
      refine rl_fieldAddr rfl tt_123 rfl rfl tt_3 rfl rfl ?_
      first | refine rl_load_ptr rfl tt_3 rfl rfl ?_ | refine rl_load_iel rfl tt_3 rfl ?_
      refine rl_bin rfl rfl rfl ?_
      refine rl_move rfl ?_
      refine rl_g rfl rfl (fun hg13 => ?_) (fun hg13 => ?_)
      · try simp at hg13
        refine rl_move rfl ?_
        refine rl_gT rfl rfl ?_
        refine rl_move rfl ?_
        refine rl_gT rfl rfl ?_
        refine rl_idxm rfl rfl tt_28 rfl tt_123 rfl hx ?_
        refine rl_gT rfl rfl ?_
        refine rl_fieldAddr rfl tt_123 rfl rfl tt_3 rfl rfl ?_
        refine rl_gT rfl rfl ?_
        first | refine rl_load_ptr rfl tt_3 rfl rfl ?_ | refine rl_load_iel rfl tt_3 rfl ?_
        refine rl_gT rfl rfl ?_
        refine rl_move rfl ?_
        refine rl_gT rfl rfl ?_
        refine rl_move rfl ?_
        refine rl_gT rfl rfl ?_
        refine rl_idxm rfl rfl tt_28 rfl tt_123 rfl hy ?_
        refine rl_gT rfl rfl ?_
        refine rl_fieldAddr rfl tt_123 rfl rfl tt_3 rfl rfl ?_
        refine rl_gT rfl rfl ?_
        first | refine rl_load_ptr rfl tt_3 rfl rfl ?_ | refine rl_load_iel rfl tt_3 rfl ?_
        refine rl_gT rfl rfl ?_
        refine rl_bin rfl rfl rfl ?_
        refine rl_pickF rfl rfl ?_
        refine rl_move rfl ?_
        refine rl_g rfl rfl (fun hg14 => ?_) (fun hg14 => ?_)
        · try simp at hg14
          refine rl_move rfl ?_
          refine rl_gT rfl rfl ?_
          refine rl_move rfl ?_
          refine rl_gT rfl rfl ?_
          refine rl_idxm rfl rfl tt_28 rfl tt_123 rfl hx ?_
          refine rl_gT rfl rfl ?_
          refine rl_fieldAddr rfl tt_123 rfl rfl tt_26 rfl rfl ?_
          refine rl_gT rfl rfl ?_
          first | refine rl_load_ptr rfl tt_26 rfl rfl ?_ | refine rl_load_iel rfl tt_26 rfl ?_
          refine rl_gT rfl rfl ?_
          refine rl_move rfl ?_
          refine rl_gT rfl rfl ?_
          refine rl_move rfl ?_
          refine rl_gT rfl rfl ?_
          refine rl_idxm rfl rfl tt_28 rfl tt_123 rfl hy ?_
          refine rl_gT rfl rfl ?_
          refine rl_fieldAddr rfl tt_123 rfl rfl tt_26 rfl rfl ?_
          refine rl_gT rfl rfl ?_
          first | refine rl_load_ptr rfl tt_26 rfl rfl ?_ | refine rl_load_iel rfl tt_26 rfl ?_
          refine rl_gT rfl rfl ?_
          refine rl_call rfl rfl rfl (F_laws_ltEvents ..) ?_
          refine rl_gT rfl rfl ?_
          refine rl_not rfl ?_
          refine rl_pickF rfl rfl ?_
          refine ⟨by kernel_rfl, ?_⟩
          refine hK12 _ _ ?_
          clear hK12 K12
          refine ex_cond rfl (fun hc15 => ?_) (fun hc15 => ?_)
          · try simp at hc15
            refine ex_seq_k fun K16 hK16 => ?_
            refine ex_region ttOK (by rfl) ?_
            refine rl_assign rfl ?_
            refine hK16 _ _ ?_
            clear hK16 K16
            refine ex_ret ⟨.inr rfl, ?_⟩
            clear hK11 K11 hK6 K6
            refine ret_pv rfl ?_ rfl
            first
            | exact eqF1 (by omega)
            | exact eqF2 hx hy (by first | assumption | (intro e; subst e; simp_all))
            | exact eqT h3 (by omega) (by omega)
          · try simp at hc15
            refine ex_skip ?_
            refine hK11 _ _ ?_
            clear hK11 K11
            refine ex_region ttOK (by rfl) ?_
            refine rl_move rfl ?_
            refine rl_binE (.int .i64 ((i + 1 : Nat) : Int)) rfl rfl rfl (wrapE rfl (by omega) (by omega) (by have := hlen; omega)) ?_
            refine rl_assign rfl ?_
            exact ⟨i + 1, ⟨⟨by omega, h2, take_step h3 hx hy (by first | assumption | (cases x; cases y; simp_all))⟩, by omega⟩, [], (Cov.cons (t := 5) rfl Cov.nil), (Cov.cons (t := 0) rfl (Cov.cons (t := 1) rfl Cov.nil)), HE.nil, HE.nil, rfl⟩
        · try simp at hg14
          refine rl_gF rfl rfl ?_
          refine rl_gF rfl rfl ?_
          refine rl_gF rfl rfl ?_
          refine rl_gF rfl rfl ?_
          refine rl_gF rfl rfl ?_
          refine rl_gF rfl rfl ?_
          refine rl_gF rfl rfl ?_
          refine rl_gF rfl rfl ?_
          refine rl_gF rfl rfl ?_
          refine rl_gF rfl rfl ?_
          refine rl_gF rfl rfl ?_
          refine rl_pickT rfl rfl ?_
          refine ⟨by kernel_rfl, ?_⟩
          refine hK12 _ _ ?_
          clear hK12 K12
          refine ex_cond rfl (fun hc17 => ?_) (fun hc17 => ?_)
          · try simp at hc17
            refine ex_seq_k fun K18 hK18 => ?_
            refine ex_region ttOK (by rfl) ?_
            refine rl_assign rfl ?_
            refine hK18 _ _ ?_
            clear hK18 K18
            refine ex_ret ⟨.inr rfl, ?_⟩
            clear hK11 K11 hK6 K6
            refine ret_pv rfl ?_ rfl
            first
            | exact eqF1 (by omega)
            | exact eqF2 hx hy (by first | assumption | (intro e; subst e; simp_all))
            | exact eqT h3 (by omega) (by omega)
          · simp at hc17
      · try simp at hg13
        refine rl_gF rfl rfl ?_
        refine rl_gF rfl rfl ?_
        refine rl_gF rfl rfl ?_
        refine rl_gF rfl rfl ?_
        refine rl_gF rfl rfl ?_
        refine rl_gF rfl rfl ?_
        refine rl_gF rfl rfl ?_
        refine rl_gF rfl rfl ?_
        refine rl_gF rfl rfl ?_
        refine rl_gF rfl rfl ?_
        refine rl_pickT rfl rfl ?_
        refine rl_move rfl ?_
        refine rl_gF rfl rfl ?_
        refine rl_gF rfl rfl ?_
        refine rl_gF rfl rfl ?_
        refine rl_gF rfl rfl ?_
        refine rl_gF rfl rfl ?_
        refine rl_gF rfl rfl ?_
        refine rl_gF rfl rfl ?_
        refine rl_gF rfl rfl ?_
        refine rl_gF rfl rfl ?_
        refine rl_gF rfl rfl ?_
        refine rl_gF rfl rfl ?_
        refine rl_gF rfl rfl ?_
        refine rl_pickT rfl rfl ?_
        refine ⟨by kernel_rfl, ?_⟩
        refine hK12 _ _ ?_
        clear hK12 K12
        refine ex_cond rfl (fun hc19 => ?_) (fun hc19 => ?_)
        · try simp at hc19
          refine ex_seq_k fun K20 hK20 => ?_
          refine ex_region ttOK (by rfl) ?_
          refine rl_assign rfl ?_
          refine hK20 _ _ ?_
          clear hK20 K20
          refine ex_ret ⟨.inr rfl, ?_⟩
          clear hK11 K11 hK6 K6
          refine ret_pv rfl ?_ rfl
          first
          | exact eqF1 (by omega)
          | exact eqF2 hx hy (by first | assumption | (intro e; subst e; simp_all))
          | exact eqT h3 (by omega) (by omega)
        · simp at hc19
    · try simp at hc10
      refine ex_exit ?_
      refine hK6 _ _ ?_
      clear hK8 K8 hK6 K6
      refine ex_seq_k fun K21 hK21 => ?_
      refine ex_region ttOK (by rfl) ?_
      refine rl_assign rfl ?_
      refine hK21 _ _ ?_
      clear hK21 K21
      refine ex_ret ⟨.inr rfl, ?_⟩
      refine ret_pv rfl ?_ rfl
      first
      | exact eqF1 (by omega)
      | exact eqF2 hx hy (by first | assumption | (intro e; subst e; simp_all))
      | exact eqT h3 (by omega) (by omega)

theorem F_laws_ltLane (c c' : Bool) (a b : La) : Pure Try.prog 86 [.agg (encLa c a), .agg (encLa c' b)] (.pv (.bool (decide (a = b)))) := by
  refine pure_of_ex ttOK (fn := Try.f86) (by kernel_rfl) (by kernel_rfl) rfl (outs := [.pv (.bool (decide (a = b)))]) (by rfl) (Nat.le_of_ble_eq_true rfl) 2 ?_
  refine ex_seq_k fun K1 hK1 => ?_
  refine ex_region ttOK (by rfl) ?_
  refine rl_boxA (id := 0) rfl rfl rfl ?_
  refine rl_boxA (id := 1) rfl rfl rfl ?_
  refine rl_assign rfl ?_
  refine hK1 _ _ ?_
  clear hK1 K1
  refine ex_seq_k fun K2 hK2 => ?_
  refine ex_region ttOK (by rfl) ?_
  refine rl_fieldAddr rfl tt_37 rfl rfl tt_3 rfl rfl ?_
  first | refine rl_load_ptr rfl tt_3 rfl rfl ?_ | refine rl_load_iel rfl tt_3 rfl ?_
  refine rl_fieldAddr rfl tt_37 rfl rfl tt_3 rfl rfl ?_
  first | refine rl_load_ptr rfl tt_3 rfl rfl ?_ | refine rl_load_iel rfl tt_3 rfl ?_
  refine rl_bin rfl rfl rfl ?_
  refine rl_move rfl ?_
  refine rl_g rfl rfl (fun hg3 => ?_) (fun hg3 => ?_)
  · try simp at hg3
    refine rl_fieldAddr rfl tt_37 rfl rfl tt_34 rfl rfl ?_
    refine rl_gT rfl rfl ?_
    refine rl_load_ptr (out := .agg (encSt a.base)) rfl tt_34 rfl rfl ?_
    refine rl_gT rfl rfl ?_
    refine rl_fieldAddr rfl tt_37 rfl rfl tt_34 rfl rfl ?_
    refine rl_gT rfl rfl ?_
    refine rl_load_ptr (out := .agg (encSt b.base)) rfl tt_34 rfl rfl ?_
    refine rl_gT rfl rfl ?_
    refine rl_eq rfl rfl (by intro a c h; cases h) (.inl rfl) (eqSt _ _ _ _) ?_
    refine rl_pickT rfl rfl ?_
    refine rl_move rfl ?_
    refine rl_g rfl rfl (fun hg4 => ?_) (fun hg4 => ?_)
    · try simp at hg4
      refine rl_fieldAddr rfl tt_37 rfl rfl tt_35 rfl rfl ?_
      refine rl_gT rfl rfl ?_
      first | refine rl_load_ptr rfl tt_35 rfl rfl ?_ | refine rl_load_iel rfl tt_35 rfl ?_
      refine rl_gT rfl rfl ?_
      refine rl_fieldAddr rfl tt_37 rfl rfl tt_35 rfl rfl ?_
      refine rl_gT rfl rfl ?_
      first | refine rl_load_ptr rfl tt_35 rfl rfl ?_ | refine rl_load_iel rfl tt_35 rfl ?_
      refine rl_gT rfl rfl ?_
      refine rl_call rfl rfl rfl (F_laws_ltPasts ..) ?_
      refine rl_pickT rfl rfl ?_
      refine rl_assign rfl ?_
      refine hK2 _ _ ?_
      clear hK2 K2
      refine ex_ret ⟨.inr rfl, ?_⟩
      refine ret_pv rfl ?_ rfl
      cases a; cases b; simp_all [litOp]
    · try simp at hg4
      refine rl_gF rfl rfl ?_
      refine rl_gF rfl rfl ?_
      refine rl_gF rfl rfl ?_
      refine rl_gF rfl rfl ?_
      refine rl_pickF rfl rfl ?_
      refine rl_assign rfl ?_
      refine hK2 _ _ ?_
      clear hK2 K2
      refine ex_ret ⟨.inr rfl, ?_⟩
      refine ret_pv rfl ?_ rfl
      cases a; cases b; simp_all [litOp]
  · try simp at hg3
    refine rl_gF rfl rfl ?_
    refine rl_gF rfl rfl ?_
    refine rl_gF rfl rfl ?_
    refine rl_gF rfl rfl ?_
    refine rl_pickF rfl rfl ?_
    refine rl_move rfl ?_
    refine rl_gF rfl rfl ?_
    refine rl_gF rfl rfl ?_
    refine rl_gF rfl rfl ?_
    refine rl_gF rfl rfl ?_
    refine rl_gF rfl rfl ?_
    refine rl_pickF rfl rfl ?_
    refine rl_assign rfl ?_
    refine hK2 _ _ ?_
    clear hK2 K2
    refine ex_ret ⟨.inr rfl, ?_⟩
    refine ret_pv rfl ?_ rfl
    cases a; cases b; simp_all [litOp]

theorem F_laws_ltDone (c c' : Bool) (a b : Nd) : Pure Try.prog 39 [.agg (encNd c a), .agg (encNd c' b)] (.pv (.bool (decide (a.lanes = b.lanes)))) := by
  refine pure_of_ex ttOK (fn := Try.f39) (by kernel_rfl) (by kernel_rfl) rfl (outs := [.pv (.bool (decide (a.lanes = b.lanes)))]) (by rfl) (Nat.le_of_ble_eq_true rfl) 2 ?_
  refine ex_seq_k fun K1 hK1 => ?_
  refine ex_region ttOK (by rfl) ?_
  refine rl_boxA (id := 0) rfl rfl rfl ?_
  refine rl_boxA (id := 1) rfl rfl rfl ?_
  refine rl_assign rfl ?_
  refine hK1 _ _ ?_
  clear hK1 K1
  refine ex_seq_k fun K2 hK2 => ?_
  refine ex_seq_k fun K3 hK3 => ?_
  refine ex_region ttOK (by rfl) ?_
  refine rl_fieldAddr rfl tt_31 rfl rfl tt_25 rfl rfl ?_
  first | refine rl_load_ptr rfl tt_25 rfl rfl ?_ | refine rl_load_iel rfl tt_25 rfl ?_
  first | refine rl_lenm rfl tt_25 rfl ?_ | refine rl_lenr rfl tt_25 rfl rfl (by first | exact List.length_map _ | rfl) ?_ | refine rl_len rfl tt_25 rfl rfl (by intro s hs; cases hs) rfl ?_
  refine rl_fieldAddr rfl tt_31 rfl rfl tt_25 rfl rfl ?_
  first | refine rl_load_ptr rfl tt_25 rfl rfl ?_ | refine rl_load_iel rfl tt_25 rfl ?_
  first | refine rl_lenm rfl tt_25 rfl ?_ | refine rl_lenr rfl tt_25 rfl rfl (by first | exact List.length_map _ | rfl) ?_ | refine rl_len rfl tt_25 rfl rfl (by intro s hs; cases hs) rfl ?_
  refine rl_bin rfl rfl rfl ?_
  refine hK3 _ _ ?_
  clear hK3 K3
  refine ex_cond rfl (fun hc4 => ?_) (fun hc4 => ?_)
  · try simp at hc4
    refine ex_seq_k fun K5 hK5 => ?_
    refine ex_region ttOK (by rfl) ?_
    refine rl_assign rfl ?_
    refine hK5 _ _ ?_
    clear hK5 K5
    refine ex_ret ⟨.inr rfl, ?_⟩
    clear hK2 K2
    refine ret_pv rfl ?_ rfl
    first
    | exact eqF1 (by omega)
    | exact eqF2 hx hy (by first | assumption | (intro e; subst e; simp_all))
    | exact eqT h3 (by omega) (by omega)
  · try simp at hc4
    refine ex_skip ?_
    refine hK2 _ _ ?_
    clear hK2 K2
    refine ex_seq_k fun K6 hK6 => ?_
    refine ex_seq_k fun K7 hK7 => ?_
    refine ex_region ttOK (by rfl) ?_
    refine rl_assign rfl ?_
    refine hK7 _ _ ?_
    clear hK7 K7
    refine ex_block ?_
    refine ex_rowlenm 7 rfl fun hlen => ?_
    refine ex_loopK (ι := Nat) (fun i γ1 => [(5, .pv (.int .i64 (i : Int)))]) (fun i γ1 => []) (fun i => i ≤ a.lanes.length ∧ a.lanes.length = b.lanes.length ∧ a.lanes.take i = b.lanes.take i) (fun i => a.lanes.length - i) (Cov.cons (t := 2) rfl (Cov.cons (t := 3) rfl Cov.nil)) (HE.same (id := 0) rfl (HE.same (id := 1) rfl HE.nil)) 0 ⟨by omega, by omega, rfl⟩ [] (Cov.cons (t := 5) rfl Cov.nil) HE.nil rfl fun i γ1 hi => ?_
    try dsimp only [List.cons_append, List.nil_append]
    obtain ⟨h1, h2, h3⟩ := hi
    refine ex_seq_k fun K8 hK8 => ?_
    refine ex_seq_k fun K9 hK9 => ?_
    refine ex_region ttOK (by rfl) ?_
    refine rl_move rfl ?_
    refine rl_fieldAddr rfl tt_31 rfl rfl tt_25 rfl rfl ?_
    first | refine rl_load_ptr rfl tt_25 rfl rfl ?_ | refine rl_load_iel rfl tt_25 rfl ?_
    first | refine rl_lenm rfl tt_25 rfl ?_ | refine rl_lenr rfl tt_25 rfl rfl (by first | exact List.length_map _ | rfl) ?_ | refine rl_len rfl tt_25 rfl rfl (by intro s hs; cases hs) rfl ?_
    refine rl_bin rfl rfl rfl ?_
    refine hK9 _ _ ?_
    clear hK9 K9
    refine ex_cond rfl (fun hc10 => ?_) (fun hc10 => ?_)
    · try simp at hc10
      refine ex_skip ?_
      refine hK8 _ _ ?_
      clear hK8 K8
      refine ex_seq_k fun K11 hK11 => ?_
      refine ex_block ?_
      refine ex_seq_k fun K12 hK12 => ?_
      refine ex_region_any ttOK mixed (by rfl) ?_
      refine rl_fieldAddr rfl tt_31 rfl rfl tt_25 rfl rfl ?_
      first | refine rl_load_ptr rfl tt_25 rfl rfl ?_ | refine rl_load_iel rfl tt_25 rfl ?_
      refine rl_move rfl ?_
      obtain ⟨x, hx⟩ : ∃ x, a.lanes[i]? = some x := ⟨_, List.getElem?_eq_getElem (by omega)⟩
      refine rl_idxm rfl rfl tt_25 rfl tt_37 rfl hx ?_
      first | refine rl_loadA_ptr rfl tt_37 rfl rfl rfl ?_ | refine rl_loadA_iel rfl tt_37 rfl rfl ?_ | refine rl_load_ptr rfl tt_37 rfl rfl ?_ | refine rl_load_iel rfl tt_37 rfl ?_ | refine rl_loadEA rfl tt_37 rfl (by assumption) rfl rfl ?_
      refine rl_fieldAddr rfl tt_31 rfl rfl tt_25 rfl rfl ?_
      first | refine rl_load_ptr rfl tt_25 rfl rfl ?_ | refine rl_load_iel rfl tt_25 rfl ?_
      refine rl_move rfl ?_
      obtain ⟨y, hy⟩ : ∃ y, b.lanes[i]? = some y := ⟨_, List.getElem?_eq_getElem (by omega)⟩
      refine rl_idxm rfl rfl tt_25 rfl tt_37 rfl hy ?_
      first | refine rl_loadA_ptr rfl tt_37 rfl rfl rfl ?_ | refine rl_loadA_iel rfl tt_37 rfl rfl ?_ | refine rl_load_ptr rfl tt_37 rfl rfl ?_ | refine rl_load_iel rfl tt_37 rfl ?_ | refine rl_loadEA rfl tt_37 rfl (by assumption) rfl rfl ?_
      refine rl_call rfl rfl rfl (F_laws_ltLane ..) ?_
      refine rl_not rfl ?_
      refine ⟨by kernel_rfl, ?_⟩
      refine hK12 _ _ ?_
      clear hK12 K12
      refine ex_cond rfl (fun hc13 => ?_) (fun hc13 => ?_)
      · try simp at hc13
        refine ex_seq_k fun K14 hK14 => ?_
        refine ex_region ttOK (by rfl) ?_
        refine rl_assign rfl ?_
        refine hK14 _ _ ?_
        clear hK14 K14
        refine ex_ret ⟨.inr rfl, ?_⟩
        clear hK11 K11 hK6 K6
        refine ret_pv rfl ?_ rfl
        first
        | exact eqF1 (by omega)
        | exact eqF2 hx hy (by first | assumption | (intro e; subst e; simp_all))
        | exact eqT h3 (by omega) (by omega)
      · try simp at hc13
        refine ex_skip ?_
        refine hK11 _ _ ?_
        clear hK11 K11
        refine ex_region ttOK (by rfl) ?_
        refine rl_move rfl ?_
        refine rl_binE (.int .i64 ((i + 1 : Nat) : Int)) rfl rfl rfl (wrapE rfl (by omega) (by omega) (by have := hlen; omega)) ?_
        refine rl_assign rfl ?_
        exact ⟨i + 1, ⟨⟨by omega, h2, take_step h3 hx hy (by first | assumption | (cases x; cases y; simp_all))⟩, by omega⟩, [], (Cov.cons (t := 5) rfl Cov.nil), (Cov.cons (t := 2) rfl (Cov.cons (t := 3) rfl Cov.nil)), HE.nil, (HE.same (id := 0) rfl (HE.same (id := 1) rfl HE.nil)), rfl⟩
    · try simp at hc10
      refine ex_exit ?_
      refine hK6 _ _ ?_
      clear hK8 K8 hK6 K6
      refine ex_seq_k fun K15 hK15 => ?_
      refine ex_region ttOK (by rfl) ?_
      refine rl_assign rfl ?_
      refine hK15 _ _ ?_
      clear hK15 K15
      refine ex_ret ⟨.inr rfl, ?_⟩
      refine ret_pv rfl ?_ rfl
      first
      | exact eqF1 (by omega)
      | exact eqF2 hx hy (by first | assumption | (intro e; subst e; simp_all))
      | exact eqT h3 (by omega) (by omega)

theorem F_laws_ltKept (c c' : Bool) (a b : Nd) : Pure Try.prog 38 [.agg (encNd c a), .agg (encNd c' b)] (.pv (.bool (decide (keptP a b)))) := by
  refine pure_of_ex ttOK (fn := Try.f38) (by kernel_rfl) (by kernel_rfl) rfl (outs := [.pv (.bool (decide (keptP a b)))]) (by rfl) (Nat.le_of_ble_eq_true rfl) 2 ?_
  refine ex_seq_k fun K1 hK1 => ?_
  refine ex_region ttOK (by rfl) ?_
  refine rl_boxA (id := 0) rfl rfl rfl ?_
  refine rl_boxA (id := 1) rfl rfl rfl ?_
  refine rl_assign rfl ?_
  refine hK1 _ _ ?_
  clear hK1 K1
  refine ex_seq_k fun K2 hK2 => ?_
  refine ex_seq_k fun K3 hK3 => ?_
  refine ex_region ttOK (by rfl) ?_
  refine rl_fieldAddr rfl tt_31 rfl rfl tt_3 rfl rfl ?_
  first | refine rl_load_ptr rfl tt_3 rfl rfl ?_ | refine rl_load_iel rfl tt_3 rfl ?_
  refine rl_fieldAddr rfl tt_31 rfl rfl tt_3 rfl rfl ?_
  first | refine rl_load_ptr rfl tt_3 rfl rfl ?_ | refine rl_load_iel rfl tt_3 rfl ?_
  refine rl_bin rfl rfl rfl ?_
  refine rl_move rfl ?_
  refine rl_g rfl rfl (fun hg4 => ?_) (fun hg4 => ?_)
  · try simp at hg4
    refine rl_fieldAddr rfl tt_31 rfl rfl tt_3 rfl rfl ?_
    refine rl_gT rfl rfl ?_
    first | refine rl_load_ptr rfl tt_3 rfl rfl ?_ | refine rl_load_iel rfl tt_3 rfl ?_
    refine rl_gT rfl rfl ?_
    refine rl_fieldAddr rfl tt_31 rfl rfl tt_3 rfl rfl ?_
    refine rl_gT rfl rfl ?_
    first | refine rl_load_ptr rfl tt_3 rfl rfl ?_ | refine rl_load_iel rfl tt_3 rfl ?_
    refine rl_gT rfl rfl ?_
    refine rl_bin rfl rfl rfl ?_
    refine rl_pickF rfl rfl ?_
    refine rl_move rfl ?_
    refine rl_g rfl rfl (fun hg5 => ?_) (fun hg5 => ?_)
    · try simp at hg5
      refine rl_fieldAddr rfl tt_31 rfl rfl tt_3 rfl rfl ?_
      refine rl_gT rfl rfl ?_
      first | refine rl_load_ptr rfl tt_3 rfl rfl ?_ | refine rl_load_iel rfl tt_3 rfl ?_
      refine rl_gT rfl rfl ?_
      refine rl_fieldAddr rfl tt_31 rfl rfl tt_3 rfl rfl ?_
      refine rl_gT rfl rfl ?_
      first | refine rl_load_ptr rfl tt_3 rfl rfl ?_ | refine rl_load_iel rfl tt_3 rfl ?_
      refine rl_gT rfl rfl ?_
      refine rl_bin rfl rfl rfl ?_
      refine rl_pickF rfl rfl ?_
      refine rl_move rfl ?_
      refine rl_g rfl rfl (fun hg6 => ?_) (fun hg6 => ?_)
      · try simp at hg6
        refine rl_fieldAddr rfl tt_31 rfl rfl tt_3 rfl rfl ?_
        refine rl_gT rfl rfl ?_
        first | refine rl_load_ptr rfl tt_3 rfl rfl ?_ | refine rl_load_iel rfl tt_3 rfl ?_
        refine rl_gT rfl rfl ?_
        refine rl_fieldAddr rfl tt_31 rfl rfl tt_3 rfl rfl ?_
        refine rl_gT rfl rfl ?_
        first | refine rl_load_ptr rfl tt_3 rfl rfl ?_ | refine rl_load_iel rfl tt_3 rfl ?_
        refine rl_gT rfl rfl ?_
        refine rl_bin rfl rfl rfl ?_
        refine rl_pickF rfl rfl ?_
        refine rl_move rfl ?_
        refine rl_g rfl rfl (fun hg7 => ?_) (fun hg7 => ?_)
        · try simp at hg7
          refine rl_fieldAddr rfl tt_31 rfl rfl tt_26 rfl rfl ?_
          refine rl_gT rfl rfl ?_
          first | refine rl_load_ptr rfl tt_26 rfl rfl ?_ | refine rl_load_iel rfl tt_26 rfl ?_
          refine rl_gT rfl rfl ?_
          refine rl_fieldAddr rfl tt_31 rfl rfl tt_26 rfl rfl ?_
          refine rl_gT rfl rfl ?_
          first | refine rl_load_ptr rfl tt_26 rfl rfl ?_ | refine rl_load_iel rfl tt_26 rfl ?_
          refine rl_gT rfl rfl ?_
          refine rl_call rfl rfl rfl (F_laws_ltEvents ..) ?_
          refine rl_gT rfl rfl ?_
          refine rl_not rfl ?_
          refine rl_pickF rfl rfl ?_
          refine rl_move rfl ?_
          refine rl_g rfl rfl (fun hg8 => ?_) (fun hg8 => ?_)
          · try simp at hg8
            refine rl_fieldAddr rfl tt_31 rfl rfl tt_27 rfl rfl ?_
            refine rl_gT rfl rfl ?_
            first | refine rl_load_ptr rfl tt_27 rfl rfl ?_ | refine rl_load_iel rfl tt_27 rfl ?_
            refine rl_gT rfl rfl ?_
            refine rl_fieldAddr rfl tt_31 rfl rfl tt_27 rfl rfl ?_
            refine rl_gT rfl rfl ?_
            first | refine rl_load_ptr rfl tt_27 rfl rfl ?_ | refine rl_load_iel rfl tt_27 rfl ?_
            refine rl_gT rfl rfl ?_
            refine rl_call rfl rfl rfl (F_laws_ltOuts ..) ?_
            refine rl_gT rfl rfl ?_
            refine rl_not rfl ?_
            refine rl_pickF rfl rfl ?_
            refine rl_move rfl ?_
            refine rl_g rfl rfl (fun hg9 => ?_) (fun hg9 => ?_)
            · try simp at hg9
              refine rl_fieldAddr rfl tt_31 rfl rfl tt_25 rfl rfl ?_
              refine rl_gT rfl rfl ?_
              first | refine rl_load_ptr rfl tt_25 rfl rfl ?_ | refine rl_load_iel rfl tt_25 rfl ?_
              refine rl_gT rfl rfl ?_
              first | refine rl_lenm rfl tt_25 rfl ?_ | refine rl_lenr rfl tt_25 rfl rfl (by first | exact List.length_map _ | rfl) ?_ | refine rl_len rfl tt_25 rfl rfl (by intro s hs; cases hs) rfl ?_
              refine rl_gT rfl rfl ?_
              refine rl_fieldAddr rfl tt_31 rfl rfl tt_25 rfl rfl ?_
              refine rl_gT rfl rfl ?_
              first | refine rl_load_ptr rfl tt_25 rfl rfl ?_ | refine rl_load_iel rfl tt_25 rfl ?_
              refine rl_gT rfl rfl ?_
              first | refine rl_lenm rfl tt_25 rfl ?_ | refine rl_lenr rfl tt_25 rfl rfl (by first | exact List.length_map _ | rfl) ?_ | refine rl_len rfl tt_25 rfl rfl (by intro s hs; cases hs) rfl ?_
              refine rl_gT rfl rfl ?_
              refine rl_bin rfl rfl rfl ?_
              refine rl_pickF rfl rfl ?_
              refine hK3 _ _ ?_
              clear hK3 K3
              refine ex_cond rfl (fun hc10 => ?_) (fun hc10 => ?_)
              · try simp at hc10
                refine ex_seq_k fun K11 hK11 => ?_
                refine ex_region ttOK (by rfl) ?_
                refine rl_assign rfl ?_
                refine hK11 _ _ ?_
                clear hK11 K11
                refine ex_ret ⟨.inr rfl, ?_⟩
                clear hK2 K2
                refine ret_pv rfl ?_ rfl
                first
                | exact kF (by intro h; have := map_get h.2.2.2.2.2.2 hx hy; simp_all [bp])
                | exact kF (by intro h; have h7 := congrArg List.length h.2.2.2.2.2.2; simp only [List.length_map] at h7; first | omega | (simp_all [keptP]; done))
                | exact kT (by rw [List.take_of_length_le (by simp; omega), List.take_of_length_le (by simp; omega)] at h3; simp_all [keptP])
              · try simp at hc10
                refine ex_skip ?_
                refine hK2 _ _ ?_
                clear hK2 K2
                refine ex_seq_k fun K12 hK12 => ?_
                refine ex_seq_k fun K13 hK13 => ?_
                refine ex_region ttOK (by rfl) ?_
                refine rl_assign rfl ?_
                refine hK13 _ _ ?_
                clear hK13 K13
                refine ex_block ?_
                refine ex_rowlenm 50 rfl fun hlen => ?_
                refine ex_loopK (ι := Nat) (fun i γ1 => [(5, .pv (.int .i64 (i : Int)))]) (fun i γ1 => []) (fun i => i ≤ a.lanes.length ∧ a.lanes.length = b.lanes.length ∧ (a.lanes.map bp).take i = (b.lanes.map bp).take i) (fun i => a.lanes.length - i) (Cov.cons (t := 2) rfl (Cov.cons (t := 3) rfl Cov.nil)) (HE.same (id := 0) rfl (HE.same (id := 1) rfl HE.nil)) 0 ⟨by omega, by omega, rfl⟩ [] (Cov.cons (t := 5) rfl Cov.nil) HE.nil rfl fun i γ1 hi => ?_
                try dsimp only [List.cons_append, List.nil_append]
                obtain ⟨h1, h2, h3⟩ := hi
                refine ex_seq_k fun K14 hK14 => ?_
                refine ex_seq_k fun K15 hK15 => ?_
                refine ex_region ttOK (by rfl) ?_
                refine rl_move rfl ?_
                refine rl_fieldAddr rfl tt_31 rfl rfl tt_25 rfl rfl ?_
                first | refine rl_load_ptr rfl tt_25 rfl rfl ?_ | refine rl_load_iel rfl tt_25 rfl ?_
                first | refine rl_lenm rfl tt_25 rfl ?_ | refine rl_lenr rfl tt_25 rfl rfl (by first | exact List.length_map _ | rfl) ?_ | refine rl_len rfl tt_25 rfl rfl (by intro s hs; cases hs) rfl ?_
                refine rl_bin rfl rfl rfl ?_
                refine hK15 _ _ ?_
                clear hK15 K15
                refine ex_cond rfl (fun hc16 => ?_) (fun hc16 => ?_)
                · try simp at hc16
                  refine ex_skip ?_
                  refine hK14 _ _ ?_
                  clear hK14 K14
                  refine ex_seq_k fun K17 hK17 => ?_
                  refine ex_block ?_
                  refine ex_seq_k fun K18 hK18 => ?_
                  refine ex_region_any ttOK mixed (by rfl) ?_
                  refine rl_fieldAddr rfl tt_31 rfl rfl tt_25 rfl rfl ?_
                  first | refine rl_load_ptr rfl tt_25 rfl rfl ?_ | refine rl_load_iel rfl tt_25 rfl ?_
                  refine rl_move rfl ?_
                  obtain ⟨x, hx⟩ : ∃ x, a.lanes[i]? = some x := ⟨_, List.getElem?_eq_getElem (by omega)⟩
                  refine rl_idxm rfl rfl tt_25 rfl tt_37 rfl hx ?_
                  refine rl_fieldAddr rfl tt_37 rfl rfl tt_34 rfl rfl ?_
                  refine rl_load_iel (out := .agg (encSt x.base)) rfl tt_34 rfl ?_
                  refine rl_fieldAddr rfl tt_31 rfl rfl tt_25 rfl rfl ?_
                  first | refine rl_load_ptr rfl tt_25 rfl rfl ?_ | refine rl_load_iel rfl tt_25 rfl ?_
                  refine rl_move rfl ?_
                  obtain ⟨y, hy⟩ : ∃ y, b.lanes[i]? = some y := ⟨_, List.getElem?_eq_getElem (by omega)⟩
                  refine rl_idxm rfl rfl tt_25 rfl tt_37 rfl hy ?_
                  refine rl_fieldAddr rfl tt_37 rfl rfl tt_34 rfl rfl ?_
                  refine rl_load_iel (out := .agg (encSt y.base)) rfl tt_34 rfl ?_
                  refine rl_eq rfl rfl (by intro a c h; cases h) (.inr rfl) (eqSt _ _ _ _) ?_
                  refine rl_move rfl ?_
                  refine rl_g rfl rfl (fun hg19 => ?_) (fun hg19 => ?_)
                  · try simp at hg19
                    refine rl_fieldAddr rfl tt_31 rfl rfl tt_25 rfl rfl ?_
                    refine rl_gT rfl rfl ?_
                    first | refine rl_load_ptr rfl tt_25 rfl rfl ?_ | refine rl_load_iel rfl tt_25 rfl ?_
                    refine rl_gT rfl rfl ?_
                    refine rl_move rfl ?_
                    refine rl_gT rfl rfl ?_
                    refine rl_idxm rfl rfl tt_25 rfl tt_37 rfl hx ?_
                    refine rl_gT rfl rfl ?_
                    refine rl_fieldAddr rfl tt_37 rfl rfl tt_3 rfl rfl ?_
                    refine rl_gT rfl rfl ?_
                    first | refine rl_load_ptr rfl tt_3 rfl rfl ?_ | refine rl_load_iel rfl tt_3 rfl ?_
                    refine rl_gT rfl rfl ?_
                    refine rl_fieldAddr rfl tt_31 rfl rfl tt_25 rfl rfl ?_
                    refine rl_gT rfl rfl ?_
                    first | refine rl_load_ptr rfl tt_25 rfl rfl ?_ | refine rl_load_iel rfl tt_25 rfl ?_
                    refine rl_gT rfl rfl ?_
                    refine rl_move rfl ?_
                    refine rl_gT rfl rfl ?_
                    refine rl_idxm rfl rfl tt_25 rfl tt_37 rfl hy ?_
                    refine rl_gT rfl rfl ?_
                    refine rl_fieldAddr rfl tt_37 rfl rfl tt_3 rfl rfl ?_
                    refine rl_gT rfl rfl ?_
                    first | refine rl_load_ptr rfl tt_3 rfl rfl ?_ | refine rl_load_iel rfl tt_3 rfl ?_
                    refine rl_gT rfl rfl ?_
                    refine rl_bin rfl rfl rfl ?_
                    refine rl_pickF rfl rfl ?_
                    refine ⟨by kernel_rfl, ?_⟩
                    refine hK18 _ _ ?_
                    clear hK18 K18
                    refine ex_cond rfl (fun hc20 => ?_) (fun hc20 => ?_)
                    · try simp at hc20
                      refine ex_seq_k fun K21 hK21 => ?_
                      refine ex_region ttOK (by rfl) ?_
                      refine rl_assign rfl ?_
                      refine hK21 _ _ ?_
                      clear hK21 K21
                      refine ex_ret ⟨.inr rfl, ?_⟩
                      clear hK17 K17 hK12 K12
                      refine ret_pv rfl ?_ rfl
                      first
                      | exact kF (by intro h; have := map_get h.2.2.2.2.2.2 hx hy; simp_all [bp])
                      | exact kF (by intro h; have h7 := congrArg List.length h.2.2.2.2.2.2; simp only [List.length_map] at h7; first | omega | (simp_all [keptP]; done))
                      | exact kT (by rw [List.take_of_length_le (by simp; omega), List.take_of_length_le (by simp; omega)] at h3; simp_all [keptP])
                    · try simp at hc20
                      refine ex_skip ?_
                      refine hK17 _ _ ?_
                      clear hK17 K17
                      refine ex_region ttOK (by rfl) ?_
                      refine rl_move rfl ?_
                      refine rl_binE (.int .i64 ((i + 1 : Nat) : Int)) rfl rfl rfl (wrapE rfl (by omega) (by omega) (by have := hlen; omega)) ?_
                      refine rl_assign rfl ?_
                      exact ⟨i + 1, ⟨⟨by omega, h2, take_step h3 (get_map hx) (get_map hy) (by simp_all [bp])⟩, by omega⟩, [], (Cov.cons (t := 5) rfl Cov.nil), (Cov.cons (t := 2) rfl (Cov.cons (t := 3) rfl Cov.nil)), HE.nil, (HE.same (id := 0) rfl (HE.same (id := 1) rfl HE.nil)), rfl⟩
                  · try simp at hg19
                    refine rl_gF rfl rfl ?_
                    refine rl_gF rfl rfl ?_
                    refine rl_gF rfl rfl ?_
                    refine rl_gF rfl rfl ?_
                    refine rl_gF rfl rfl ?_
                    refine rl_gF rfl rfl ?_
                    refine rl_gF rfl rfl ?_
                    refine rl_gF rfl rfl ?_
                    refine rl_gF rfl rfl ?_
                    refine rl_gF rfl rfl ?_
                    refine rl_gF rfl rfl ?_
                    refine rl_gF rfl rfl ?_
                    refine rl_pickT rfl rfl ?_
                    refine ⟨by kernel_rfl, ?_⟩
                    refine hK18 _ _ ?_
                    clear hK18 K18
                    refine ex_cond rfl (fun hc22 => ?_) (fun hc22 => ?_)
                    · try simp at hc22
                      refine ex_seq_k fun K23 hK23 => ?_
                      refine ex_region ttOK (by rfl) ?_
                      refine rl_assign rfl ?_
                      refine hK23 _ _ ?_
                      clear hK23 K23
                      refine ex_ret ⟨.inr rfl, ?_⟩
                      clear hK17 K17 hK12 K12
                      refine ret_pv rfl ?_ rfl
                      first
                      | exact kF (by intro h; have := map_get h.2.2.2.2.2.2 hx hy; simp_all [bp])
                      | exact kF (by intro h; have h7 := congrArg List.length h.2.2.2.2.2.2; simp only [List.length_map] at h7; first | omega | (simp_all [keptP]; done))
                      | exact kT (by rw [List.take_of_length_le (by simp; omega), List.take_of_length_le (by simp; omega)] at h3; simp_all [keptP])
                    · simp at hc22
                · try simp at hc16
                  refine ex_exit ?_
                  refine hK12 _ _ ?_
                  clear hK14 K14 hK12 K12
                  refine ex_seq_k fun K24 hK24 => ?_
                  refine ex_region ttOK (by rfl) ?_
                  refine rl_assign rfl ?_
                  refine hK24 _ _ ?_
                  clear hK24 K24
                  refine ex_ret ⟨.inr rfl, ?_⟩
                  refine ret_pv rfl ?_ rfl
                  first
                  | exact kF (by intro h; have := map_get h.2.2.2.2.2.2 hx hy; simp_all [bp])
                  | exact kF (by intro h; have h7 := congrArg List.length h.2.2.2.2.2.2; simp only [List.length_map] at h7; first | omega | (simp_all [keptP]; done))
                  | exact kT (by rw [List.take_of_length_le (by simp; omega), List.take_of_length_le (by simp; omega)] at h3; simp_all [keptP])
            · try simp at hg9
              refine rl_gF rfl rfl ?_
              refine rl_gF rfl rfl ?_
              refine rl_gF rfl rfl ?_
              refine rl_gF rfl rfl ?_
              refine rl_gF rfl rfl ?_
              refine rl_gF rfl rfl ?_
              refine rl_pickT rfl rfl ?_
              refine hK3 _ _ ?_
              clear hK3 K3
              refine ex_cond rfl (fun hc25 => ?_) (fun hc25 => ?_)
              · try simp at hc25
                refine ex_seq_k fun K26 hK26 => ?_
                refine ex_region ttOK (by rfl) ?_
                refine rl_assign rfl ?_
                refine hK26 _ _ ?_
                clear hK26 K26
                refine ex_ret ⟨.inr rfl, ?_⟩
                clear hK2 K2
                refine ret_pv rfl ?_ rfl
                first
                | exact kF (by intro h; have := map_get h.2.2.2.2.2.2 hx hy; simp_all [bp])
                | exact kF (by intro h; have h7 := congrArg List.length h.2.2.2.2.2.2; simp only [List.length_map] at h7; first | omega | (simp_all [keptP]; done))
                | exact kT (by rw [List.take_of_length_le (by simp; omega), List.take_of_length_le (by simp; omega)] at h3; simp_all [keptP])
              · simp at hc25
          · try simp at hg8
            refine rl_gF rfl rfl ?_
            refine rl_gF rfl rfl ?_
            refine rl_gF rfl rfl ?_
            refine rl_gF rfl rfl ?_
            refine rl_gF rfl rfl ?_
            refine rl_pickT rfl rfl ?_
            refine rl_move rfl ?_
            refine rl_gF rfl rfl ?_
            refine rl_gF rfl rfl ?_
            refine rl_gF rfl rfl ?_
            refine rl_gF rfl rfl ?_
            refine rl_gF rfl rfl ?_
            refine rl_gF rfl rfl ?_
            refine rl_gF rfl rfl ?_
            refine rl_pickT rfl rfl ?_
            refine hK3 _ _ ?_
            clear hK3 K3
            refine ex_cond rfl (fun hc27 => ?_) (fun hc27 => ?_)
            · try simp at hc27
              refine ex_seq_k fun K28 hK28 => ?_
              refine ex_region ttOK (by rfl) ?_
              refine rl_assign rfl ?_
              refine hK28 _ _ ?_
              clear hK28 K28
              refine ex_ret ⟨.inr rfl, ?_⟩
              clear hK2 K2
              refine ret_pv rfl ?_ rfl
              first
              | exact kF (by intro h; have := map_get h.2.2.2.2.2.2 hx hy; simp_all [bp])
              | exact kF (by intro h; have h7 := congrArg List.length h.2.2.2.2.2.2; simp only [List.length_map] at h7; first | omega | (simp_all [keptP]; done))
              | exact kT (by rw [List.take_of_length_le (by simp; omega), List.take_of_length_le (by simp; omega)] at h3; simp_all [keptP])
            · simp at hc27
        · try simp at hg7
          refine rl_gF rfl rfl ?_
          refine rl_gF rfl rfl ?_
          refine rl_gF rfl rfl ?_
          refine rl_gF rfl rfl ?_
          refine rl_gF rfl rfl ?_
          refine rl_pickT rfl rfl ?_
          refine rl_move rfl ?_
          refine rl_gF rfl rfl ?_
          refine rl_gF rfl rfl ?_
          refine rl_gF rfl rfl ?_
          refine rl_gF rfl rfl ?_
          refine rl_gF rfl rfl ?_
          refine rl_gF rfl rfl ?_
          refine rl_pickT rfl rfl ?_
          refine rl_move rfl ?_
          refine rl_gF rfl rfl ?_
          refine rl_gF rfl rfl ?_
          refine rl_gF rfl rfl ?_
          refine rl_gF rfl rfl ?_
          refine rl_gF rfl rfl ?_
          refine rl_gF rfl rfl ?_
          refine rl_gF rfl rfl ?_
          refine rl_pickT rfl rfl ?_
          refine hK3 _ _ ?_
          clear hK3 K3
          refine ex_cond rfl (fun hc29 => ?_) (fun hc29 => ?_)
          · try simp at hc29
            refine ex_seq_k fun K30 hK30 => ?_
            refine ex_region ttOK (by rfl) ?_
            refine rl_assign rfl ?_
            refine hK30 _ _ ?_
            clear hK30 K30
            refine ex_ret ⟨.inr rfl, ?_⟩
            clear hK2 K2
            refine ret_pv rfl ?_ rfl
            first
            | exact kF (by intro h; have := map_get h.2.2.2.2.2.2 hx hy; simp_all [bp])
            | exact kF (by intro h; have h7 := congrArg List.length h.2.2.2.2.2.2; simp only [List.length_map] at h7; first | omega | (simp_all [keptP]; done))
            | exact kT (by rw [List.take_of_length_le (by simp; omega), List.take_of_length_le (by simp; omega)] at h3; simp_all [keptP])
          · simp at hc29
      · try simp at hg6
        refine rl_gF rfl rfl ?_
        refine rl_gF rfl rfl ?_
        refine rl_gF rfl rfl ?_
        refine rl_gF rfl rfl ?_
        refine rl_pickT rfl rfl ?_
        refine rl_move rfl ?_
        refine rl_gF rfl rfl ?_
        refine rl_gF rfl rfl ?_
        refine rl_gF rfl rfl ?_
        refine rl_gF rfl rfl ?_
        refine rl_gF rfl rfl ?_
        refine rl_gF rfl rfl ?_
        refine rl_pickT rfl rfl ?_
        refine rl_move rfl ?_
        refine rl_gF rfl rfl ?_
        refine rl_gF rfl rfl ?_
        refine rl_gF rfl rfl ?_
        refine rl_gF rfl rfl ?_
        refine rl_gF rfl rfl ?_
        refine rl_gF rfl rfl ?_
        refine rl_pickT rfl rfl ?_
        refine rl_move rfl ?_
        refine rl_gF rfl rfl ?_
        refine rl_gF rfl rfl ?_
        refine rl_gF rfl rfl ?_
        refine rl_gF rfl rfl ?_
        refine rl_gF rfl rfl ?_
        refine rl_gF rfl rfl ?_
        refine rl_gF rfl rfl ?_
        refine rl_pickT rfl rfl ?_
        refine hK3 _ _ ?_
        clear hK3 K3
        refine ex_cond rfl (fun hc31 => ?_) (fun hc31 => ?_)
        · try simp at hc31
          refine ex_seq_k fun K32 hK32 => ?_
          refine ex_region ttOK (by rfl) ?_
          refine rl_assign rfl ?_
          refine hK32 _ _ ?_
          clear hK32 K32
          refine ex_ret ⟨.inr rfl, ?_⟩
          clear hK2 K2
          refine ret_pv rfl ?_ rfl
          first
          | exact kF (by intro h; have := map_get h.2.2.2.2.2.2 hx hy; simp_all [bp])
          | exact kF (by intro h; have h7 := congrArg List.length h.2.2.2.2.2.2; simp only [List.length_map] at h7; first | omega | (simp_all [keptP]; done))
          | exact kT (by rw [List.take_of_length_le (by simp; omega), List.take_of_length_le (by simp; omega)] at h3; simp_all [keptP])
        · simp at hc31
    · try simp at hg5
      refine rl_gF rfl rfl ?_
      refine rl_gF rfl rfl ?_
      refine rl_gF rfl rfl ?_
      refine rl_gF rfl rfl ?_
      refine rl_pickT rfl rfl ?_
      refine rl_move rfl ?_
      refine rl_gF rfl rfl ?_
      refine rl_gF rfl rfl ?_
      refine rl_gF rfl rfl ?_
      refine rl_gF rfl rfl ?_
      refine rl_gF rfl rfl ?_
      refine rl_pickT rfl rfl ?_
      refine rl_move rfl ?_
      refine rl_gF rfl rfl ?_
      refine rl_gF rfl rfl ?_
      refine rl_gF rfl rfl ?_
      refine rl_gF rfl rfl ?_
      refine rl_gF rfl rfl ?_
      refine rl_gF rfl rfl ?_
      refine rl_pickT rfl rfl ?_
      refine rl_move rfl ?_
      refine rl_gF rfl rfl ?_
      refine rl_gF rfl rfl ?_
      refine rl_gF rfl rfl ?_
      refine rl_gF rfl rfl ?_
      refine rl_gF rfl rfl ?_
      refine rl_gF rfl rfl ?_
      refine rl_pickT rfl rfl ?_
      refine rl_move rfl ?_
      refine rl_gF rfl rfl ?_
      refine rl_gF rfl rfl ?_
      refine rl_gF rfl rfl ?_
      refine rl_gF rfl rfl ?_
      refine rl_gF rfl rfl ?_
      refine rl_gF rfl rfl ?_
      refine rl_gF rfl rfl ?_
      refine rl_pickT rfl rfl ?_
      refine hK3 _ _ ?_
      clear hK3 K3
      refine ex_cond rfl (fun hc33 => ?_) (fun hc33 => ?_)
      · try simp at hc33
        refine ex_seq_k fun K34 hK34 => ?_
        refine ex_region ttOK (by rfl) ?_
        refine rl_assign rfl ?_
        refine hK34 _ _ ?_
        clear hK34 K34
        refine ex_ret ⟨.inr rfl, ?_⟩
        clear hK2 K2
        refine ret_pv rfl ?_ rfl
        first
        | exact kF (by intro h; have := map_get h.2.2.2.2.2.2 hx hy; simp_all [bp])
        | exact kF (by intro h; have h7 := congrArg List.length h.2.2.2.2.2.2; simp only [List.length_map] at h7; first | omega | (simp_all [keptP]; done))
        | exact kT (by rw [List.take_of_length_le (by simp; omega), List.take_of_length_le (by simp; omega)] at h3; simp_all [keptP])
      · simp at hc33
  · try simp at hg4
    refine rl_gF rfl rfl ?_
    refine rl_gF rfl rfl ?_
    refine rl_gF rfl rfl ?_
    refine rl_gF rfl rfl ?_
    refine rl_pickT rfl rfl ?_
    refine rl_move rfl ?_
    refine rl_gF rfl rfl ?_
    refine rl_gF rfl rfl ?_
    refine rl_gF rfl rfl ?_
    refine rl_gF rfl rfl ?_
    refine rl_gF rfl rfl ?_
    refine rl_pickT rfl rfl ?_
    refine rl_move rfl ?_
    refine rl_gF rfl rfl ?_
    refine rl_gF rfl rfl ?_
    refine rl_gF rfl rfl ?_
    refine rl_gF rfl rfl ?_
    refine rl_gF rfl rfl ?_
    refine rl_pickT rfl rfl ?_
    refine rl_move rfl ?_
    refine rl_gF rfl rfl ?_
    refine rl_gF rfl rfl ?_
    refine rl_gF rfl rfl ?_
    refine rl_gF rfl rfl ?_
    refine rl_gF rfl rfl ?_
    refine rl_gF rfl rfl ?_
    refine rl_pickT rfl rfl ?_
    refine rl_move rfl ?_
    refine rl_gF rfl rfl ?_
    refine rl_gF rfl rfl ?_
    refine rl_gF rfl rfl ?_
    refine rl_gF rfl rfl ?_
    refine rl_gF rfl rfl ?_
    refine rl_gF rfl rfl ?_
    refine rl_pickT rfl rfl ?_
    refine rl_move rfl ?_
    refine rl_gF rfl rfl ?_
    refine rl_gF rfl rfl ?_
    refine rl_gF rfl rfl ?_
    refine rl_gF rfl rfl ?_
    refine rl_gF rfl rfl ?_
    refine rl_gF rfl rfl ?_
    refine rl_gF rfl rfl ?_
    refine rl_pickT rfl rfl ?_
    refine hK3 _ _ ?_
    clear hK3 K3
    refine ex_cond rfl (fun hc35 => ?_) (fun hc35 => ?_)
    · try simp at hc35
      refine ex_seq_k fun K36 hK36 => ?_
      refine ex_region ttOK (by rfl) ?_
      refine rl_assign rfl ?_
      refine hK36 _ _ ?_
      clear hK36 K36
      refine ex_ret ⟨.inr rfl, ?_⟩
      clear hK2 K2
      refine ret_pv rfl ?_ rfl
      first
      | exact kF (by intro h; have := map_get h.2.2.2.2.2.2 hx hy; simp_all [bp])
      | exact kF (by intro h; have h7 := congrArg List.length h.2.2.2.2.2.2; simp only [List.length_map] at h7; first | omega | (simp_all [keptP]; done))
      | exact kT (by rw [List.take_of_length_le (by simp; omega), List.take_of_length_le (by simp; omega)] at h3; simp_all [keptP])
    · simp at hc35

theorem F_laws_ltNode (c c' : Bool) (a b : Nd) : Pure Try.prog 11 [.agg (encNd c a), .agg (encNd c' b)] (.pv (.bool (decide (a = b)))) := by
  refine pure_of_ex ttOK (fn := Try.f11) (by kernel_rfl) (by kernel_rfl) rfl (outs := [.pv (.bool (decide (a = b)))]) (by rfl) (Nat.le_of_ble_eq_true rfl) 2 ?_
  refine ex_seq_k fun K1 hK1 => ?_
  refine ex_region ttOK (by rfl) ?_
  refine rl_boxA (id := 0) rfl rfl rfl ?_
  refine rl_boxA (id := 1) rfl rfl rfl ?_
  refine rl_assign rfl ?_
  refine hK1 _ _ ?_
  clear hK1 K1
  refine ex_seq_k fun K2 hK2 => ?_
  refine ex_region ttOK (by rfl) ?_
  refine rl_fieldAddr rfl tt_31 rfl rfl tt_4 rfl rfl ?_
  first | refine rl_load_ptr rfl tt_4 rfl rfl ?_ | refine rl_load_iel rfl tt_4 rfl ?_
  refine rl_fieldAddr rfl tt_31 rfl rfl tt_4 rfl rfl ?_
  first | refine rl_load_ptr rfl tt_4 rfl rfl ?_ | refine rl_load_iel rfl tt_4 rfl ?_
  refine rl_eq rfl rfl (by intro p q h h'; cases h; cases h'; rfl) (.inl rfl) (eqA_bool Try.underlying4 _ _ _ _) ?_
  refine rl_move rfl ?_
  refine rl_g rfl rfl (fun hg3 => ?_) (fun hg3 => ?_)
  · try simp at hg3
    first | refine rl_loadA_ptr rfl tt_31 rfl rfl rfl ?_ | refine rl_loadA_iel rfl tt_31 rfl rfl ?_ | refine rl_load_ptr rfl tt_31 rfl rfl ?_ | refine rl_load_iel rfl tt_31 rfl ?_ | refine rl_loadEA rfl tt_31 rfl (by assumption) rfl rfl ?_
    refine rl_gT rfl rfl ?_
    first | refine rl_loadA_ptr rfl tt_31 rfl rfl rfl ?_ | refine rl_loadA_iel rfl tt_31 rfl rfl ?_ | refine rl_load_ptr rfl tt_31 rfl rfl ?_ | refine rl_load_iel rfl tt_31 rfl ?_ | refine rl_loadEA rfl tt_31 rfl (by assumption) rfl rfl ?_
    refine rl_gT rfl rfl ?_
    refine rl_call rfl rfl rfl (F_laws_ltKept ..) ?_
    refine rl_pickT rfl rfl ?_
    refine rl_move rfl ?_
    refine rl_g rfl rfl (fun hg4 => ?_) (fun hg4 => ?_)
    · try simp at hg4
      first | refine rl_loadA_ptr rfl tt_31 rfl rfl rfl ?_ | refine rl_loadA_iel rfl tt_31 rfl rfl ?_ | refine rl_load_ptr rfl tt_31 rfl rfl ?_ | refine rl_load_iel rfl tt_31 rfl ?_ | refine rl_loadEA rfl tt_31 rfl (by assumption) rfl rfl ?_
      refine rl_gT rfl rfl ?_
      first | refine rl_loadA_ptr rfl tt_31 rfl rfl rfl ?_ | refine rl_loadA_iel rfl tt_31 rfl rfl ?_ | refine rl_load_ptr rfl tt_31 rfl rfl ?_ | refine rl_load_iel rfl tt_31 rfl ?_ | refine rl_loadEA rfl tt_31 rfl (by assumption) rfl rfl ?_
      refine rl_gT rfl rfl ?_
      refine rl_call rfl rfl rfl (F_laws_ltDone ..) ?_
      refine rl_pickT rfl rfl ?_
      refine rl_move rfl ?_
      refine rl_g rfl rfl (fun hg5 => ?_) (fun hg5 => ?_)
      · try simp at hg5
        refine rl_fieldAddr rfl tt_31 rfl rfl tt_3 rfl rfl ?_
        refine rl_gT rfl rfl ?_
        first | refine rl_load_ptr rfl tt_3 rfl rfl ?_ | refine rl_load_iel rfl tt_3 rfl ?_
        refine rl_gT rfl rfl ?_
        refine rl_fieldAddr rfl tt_31 rfl rfl tt_3 rfl rfl ?_
        refine rl_gT rfl rfl ?_
        first | refine rl_load_ptr rfl tt_3 rfl rfl ?_ | refine rl_load_iel rfl tt_3 rfl ?_
        refine rl_gT rfl rfl ?_
        refine rl_bin rfl rfl rfl ?_
        refine rl_pickT rfl rfl ?_
        refine rl_move rfl ?_
        refine rl_g rfl rfl (fun hg6 => ?_) (fun hg6 => ?_)
        · try simp at hg6
          refine rl_fieldAddr rfl tt_31 rfl rfl tt_28 rfl rfl ?_
          refine rl_gT rfl rfl ?_
          first | refine rl_load_ptr rfl tt_28 rfl rfl ?_ | refine rl_load_iel rfl tt_28 rfl ?_
          refine rl_gT rfl rfl ?_
          refine rl_fieldAddr rfl tt_31 rfl rfl tt_28 rfl rfl ?_
          refine rl_gT rfl rfl ?_
          first | refine rl_load_ptr rfl tt_28 rfl rfl ?_ | refine rl_load_iel rfl tt_28 rfl ?_
          refine rl_gT rfl rfl ?_
          refine rl_call rfl rfl rfl (F_laws_ltViews ..) ?_
          refine rl_pickT rfl rfl ?_
          refine rl_move rfl ?_
          refine rl_g rfl rfl (fun hg7 => ?_) (fun hg7 => ?_)
          · try simp at hg7
            refine rl_fieldAddr rfl tt_31 rfl rfl tt_29 rfl rfl ?_
            refine rl_gT rfl rfl ?_
            first | refine rl_load_ptr rfl tt_29 rfl rfl ?_ | refine rl_load_iel rfl tt_29 rfl ?_
            refine rl_gT rfl rfl ?_
            refine rl_fieldAddr rfl tt_31 rfl rfl tt_29 rfl rfl ?_
            refine rl_gT rfl rfl ?_
            first | refine rl_load_ptr rfl tt_29 rfl rfl ?_ | refine rl_load_iel rfl tt_29 rfl ?_
            refine rl_gT rfl rfl ?_
            refine rl_call rfl rfl rfl (F_laws_ltInts ..) ?_
            refine rl_pickT rfl rfl ?_
            refine rl_move rfl ?_
            refine rl_g rfl rfl (fun hg8 => ?_) (fun hg8 => ?_)
            · try simp at hg8
              refine rl_fieldAddr rfl tt_31 rfl rfl tt_3 rfl rfl ?_
              refine rl_gT rfl rfl ?_
              first | refine rl_load_ptr rfl tt_3 rfl rfl ?_ | refine rl_load_iel rfl tt_3 rfl ?_
              refine rl_gT rfl rfl ?_
              refine rl_fieldAddr rfl tt_31 rfl rfl tt_3 rfl rfl ?_
              refine rl_gT rfl rfl ?_
              first | refine rl_load_ptr rfl tt_3 rfl rfl ?_ | refine rl_load_iel rfl tt_3 rfl ?_
              refine rl_gT rfl rfl ?_
              refine rl_bin rfl rfl rfl ?_
              refine rl_pickT rfl rfl ?_
              refine rl_move rfl ?_
              refine rl_g rfl rfl (fun hg9 => ?_) (fun hg9 => ?_)
              · try simp at hg9
                refine rl_fieldAddr rfl tt_31 rfl rfl tt_3 rfl rfl ?_
                refine rl_gT rfl rfl ?_
                first | refine rl_load_ptr rfl tt_3 rfl rfl ?_ | refine rl_load_iel rfl tt_3 rfl ?_
                refine rl_gT rfl rfl ?_
                refine rl_fieldAddr rfl tt_31 rfl rfl tt_3 rfl rfl ?_
                refine rl_gT rfl rfl ?_
                first | refine rl_load_ptr rfl tt_3 rfl rfl ?_ | refine rl_load_iel rfl tt_3 rfl ?_
                refine rl_gT rfl rfl ?_
                refine rl_bin rfl rfl rfl ?_
                refine rl_pickT rfl rfl ?_
                refine rl_assign rfl ?_
                refine hK2 _ _ ?_
                clear hK2 K2
                refine ex_ret ⟨.inr rfl, ?_⟩
                refine ret_pv rfl ?_ rfl
                first
                | exact kF (by intro h; subst h; simp_all [keptP, litOp])
                | (cases a; cases b; simp_all [keptP, litOp]; rfl)
              · try simp at hg9
                refine rl_gF rfl rfl ?_
                refine rl_gF rfl rfl ?_
                refine rl_gF rfl rfl ?_
                refine rl_gF rfl rfl ?_
                refine rl_pickF rfl rfl ?_
                refine rl_assign rfl ?_
                refine hK2 _ _ ?_
                clear hK2 K2
                refine ex_ret ⟨.inr rfl, ?_⟩
                refine ret_pv rfl ?_ rfl
                first
                | exact kF (by intro h; subst h; simp_all [keptP, litOp])
                | (cases a; cases b; simp_all [keptP, litOp]; rfl)
            · try simp at hg8
              refine rl_gF rfl rfl ?_
              refine rl_gF rfl rfl ?_
              refine rl_gF rfl rfl ?_
              refine rl_gF rfl rfl ?_
              refine rl_pickF rfl rfl ?_
              refine rl_move rfl ?_
              refine rl_gF rfl rfl ?_
              refine rl_gF rfl rfl ?_
              refine rl_gF rfl rfl ?_
              refine rl_gF rfl rfl ?_
              refine rl_gF rfl rfl ?_
              refine rl_pickF rfl rfl ?_
              refine rl_assign rfl ?_
              refine hK2 _ _ ?_
              clear hK2 K2
              refine ex_ret ⟨.inr rfl, ?_⟩
              refine ret_pv rfl ?_ rfl
              first
              | exact kF (by intro h; subst h; simp_all [keptP, litOp])
              | (cases a; cases b; simp_all [keptP, litOp]; rfl)
          · try simp at hg7
            refine rl_gF rfl rfl ?_
            refine rl_gF rfl rfl ?_
            refine rl_gF rfl rfl ?_
            refine rl_gF rfl rfl ?_
            refine rl_pickF rfl rfl ?_
            refine rl_move rfl ?_
            refine rl_gF rfl rfl ?_
            refine rl_gF rfl rfl ?_
            refine rl_gF rfl rfl ?_
            refine rl_gF rfl rfl ?_
            refine rl_gF rfl rfl ?_
            refine rl_pickF rfl rfl ?_
            refine rl_move rfl ?_
            refine rl_gF rfl rfl ?_
            refine rl_gF rfl rfl ?_
            refine rl_gF rfl rfl ?_
            refine rl_gF rfl rfl ?_
            refine rl_gF rfl rfl ?_
            refine rl_pickF rfl rfl ?_
            refine rl_assign rfl ?_
            refine hK2 _ _ ?_
            clear hK2 K2
            refine ex_ret ⟨.inr rfl, ?_⟩
            refine ret_pv rfl ?_ rfl
            first
            | exact kF (by intro h; subst h; simp_all [keptP, litOp])
            | (cases a; cases b; simp_all [keptP, litOp]; rfl)
        · try simp at hg6
          refine rl_gF rfl rfl ?_
          refine rl_gF rfl rfl ?_
          refine rl_gF rfl rfl ?_
          refine rl_gF rfl rfl ?_
          refine rl_pickF rfl rfl ?_
          refine rl_move rfl ?_
          refine rl_gF rfl rfl ?_
          refine rl_gF rfl rfl ?_
          refine rl_gF rfl rfl ?_
          refine rl_gF rfl rfl ?_
          refine rl_gF rfl rfl ?_
          refine rl_pickF rfl rfl ?_
          refine rl_move rfl ?_
          refine rl_gF rfl rfl ?_
          refine rl_gF rfl rfl ?_
          refine rl_gF rfl rfl ?_
          refine rl_gF rfl rfl ?_
          refine rl_gF rfl rfl ?_
          refine rl_pickF rfl rfl ?_
          refine rl_move rfl ?_
          refine rl_gF rfl rfl ?_
          refine rl_gF rfl rfl ?_
          refine rl_gF rfl rfl ?_
          refine rl_gF rfl rfl ?_
          refine rl_gF rfl rfl ?_
          refine rl_pickF rfl rfl ?_
          refine rl_assign rfl ?_
          refine hK2 _ _ ?_
          clear hK2 K2
          refine ex_ret ⟨.inr rfl, ?_⟩
          refine ret_pv rfl ?_ rfl
          first
          | exact kF (by intro h; subst h; simp_all [keptP, litOp])
          | (cases a; cases b; simp_all [keptP, litOp]; rfl)
      · try simp at hg5
        refine rl_gF rfl rfl ?_
        refine rl_gF rfl rfl ?_
        refine rl_gF rfl rfl ?_
        refine rl_gF rfl rfl ?_
        refine rl_pickF rfl rfl ?_
        refine rl_move rfl ?_
        refine rl_gF rfl rfl ?_
        refine rl_gF rfl rfl ?_
        refine rl_gF rfl rfl ?_
        refine rl_gF rfl rfl ?_
        refine rl_gF rfl rfl ?_
        refine rl_pickF rfl rfl ?_
        refine rl_move rfl ?_
        refine rl_gF rfl rfl ?_
        refine rl_gF rfl rfl ?_
        refine rl_gF rfl rfl ?_
        refine rl_gF rfl rfl ?_
        refine rl_gF rfl rfl ?_
        refine rl_pickF rfl rfl ?_
        refine rl_move rfl ?_
        refine rl_gF rfl rfl ?_
        refine rl_gF rfl rfl ?_
        refine rl_gF rfl rfl ?_
        refine rl_gF rfl rfl ?_
        refine rl_gF rfl rfl ?_
        refine rl_pickF rfl rfl ?_
        refine rl_move rfl ?_
        refine rl_gF rfl rfl ?_
        refine rl_gF rfl rfl ?_
        refine rl_gF rfl rfl ?_
        refine rl_gF rfl rfl ?_
        refine rl_gF rfl rfl ?_
        refine rl_pickF rfl rfl ?_
        refine rl_assign rfl ?_
        refine hK2 _ _ ?_
        clear hK2 K2
        refine ex_ret ⟨.inr rfl, ?_⟩
        refine ret_pv rfl ?_ rfl
        first
        | exact kF (by intro h; subst h; simp_all [keptP, litOp])
        | (cases a; cases b; simp_all [keptP, litOp]; rfl)
    · try simp at hg4
      refine rl_gF rfl rfl ?_
      refine rl_gF rfl rfl ?_
      refine rl_pickF rfl rfl ?_
      refine rl_move rfl ?_
      refine rl_gF rfl rfl ?_
      refine rl_gF rfl rfl ?_
      refine rl_gF rfl rfl ?_
      refine rl_gF rfl rfl ?_
      refine rl_gF rfl rfl ?_
      refine rl_pickF rfl rfl ?_
      refine rl_move rfl ?_
      refine rl_gF rfl rfl ?_
      refine rl_gF rfl rfl ?_
      refine rl_gF rfl rfl ?_
      refine rl_gF rfl rfl ?_
      refine rl_gF rfl rfl ?_
      refine rl_pickF rfl rfl ?_
      refine rl_move rfl ?_
      refine rl_gF rfl rfl ?_
      refine rl_gF rfl rfl ?_
      refine rl_gF rfl rfl ?_
      refine rl_gF rfl rfl ?_
      refine rl_gF rfl rfl ?_
      refine rl_pickF rfl rfl ?_
      refine rl_move rfl ?_
      refine rl_gF rfl rfl ?_
      refine rl_gF rfl rfl ?_
      refine rl_gF rfl rfl ?_
      refine rl_gF rfl rfl ?_
      refine rl_gF rfl rfl ?_
      refine rl_pickF rfl rfl ?_
      refine rl_move rfl ?_
      refine rl_gF rfl rfl ?_
      refine rl_gF rfl rfl ?_
      refine rl_gF rfl rfl ?_
      refine rl_gF rfl rfl ?_
      refine rl_gF rfl rfl ?_
      refine rl_pickF rfl rfl ?_
      refine rl_assign rfl ?_
      refine hK2 _ _ ?_
      clear hK2 K2
      refine ex_ret ⟨.inr rfl, ?_⟩
      refine ret_pv rfl ?_ rfl
      first
      | exact kF (by intro h; subst h; simp_all [keptP, litOp])
      | (cases a; cases b; simp_all [keptP, litOp]; rfl)
  · try simp at hg3
    refine rl_gF rfl rfl ?_
    refine rl_gF rfl rfl ?_
    refine rl_pickF rfl rfl ?_
    refine rl_move rfl ?_
    refine rl_gF rfl rfl ?_
    refine rl_gF rfl rfl ?_
    refine rl_gF rfl rfl ?_
    refine rl_pickF rfl rfl ?_
    refine rl_move rfl ?_
    refine rl_gF rfl rfl ?_
    refine rl_gF rfl rfl ?_
    refine rl_gF rfl rfl ?_
    refine rl_gF rfl rfl ?_
    refine rl_gF rfl rfl ?_
    refine rl_pickF rfl rfl ?_
    refine rl_move rfl ?_
    refine rl_gF rfl rfl ?_
    refine rl_gF rfl rfl ?_
    refine rl_gF rfl rfl ?_
    refine rl_gF rfl rfl ?_
    refine rl_gF rfl rfl ?_
    refine rl_pickF rfl rfl ?_
    refine rl_move rfl ?_
    refine rl_gF rfl rfl ?_
    refine rl_gF rfl rfl ?_
    refine rl_gF rfl rfl ?_
    refine rl_gF rfl rfl ?_
    refine rl_gF rfl rfl ?_
    refine rl_pickF rfl rfl ?_
    refine rl_move rfl ?_
    refine rl_gF rfl rfl ?_
    refine rl_gF rfl rfl ?_
    refine rl_gF rfl rfl ?_
    refine rl_gF rfl rfl ?_
    refine rl_gF rfl rfl ?_
    refine rl_pickF rfl rfl ?_
    refine rl_move rfl ?_
    refine rl_gF rfl rfl ?_
    refine rl_gF rfl rfl ?_
    refine rl_gF rfl rfl ?_
    refine rl_gF rfl rfl ?_
    refine rl_gF rfl rfl ?_
    refine rl_pickF rfl rfl ?_
    refine rl_assign rfl ?_
    refine hK2 _ _ ?_
    clear hK2 K2
    refine ex_ret ⟨.inr rfl, ?_⟩
    refine ret_pv rfl ?_ rfl
    first
    | exact kF (by intro h; subst h; simp_all [keptP, litOp])
    | (cases a; cases b; simp_all [keptP, litOp]; rfl)

end Go.Proofs.Ytcleiaibcfocdaa.Am
