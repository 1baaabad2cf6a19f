/- Part 6 of the texts that the proof of LawFnExactNodeTend leans on, merged by program. -/
import Derived.Test.YtpadkogpeobboaaGreatKh5
set_option linter.unusedVariables false
set_option linter.unusedSimpArgs false
namespace Go.Proofs.YtpadkogpeobboaaGreat.Am
open Go Go.RowKit
set_option maxHeartbeats 2000000 in
theorem F_laws_FnExactNodeTend (n : Nd) : Pure Tryz.prog 4 [.agg (encNd true n)] (.pv (.bool (true))) := by
  refine pure_of_ex ttOK (fn := Tryz.f4) (by kernel_rfl) (by kernel_rfl) rfl (outs := [.pv (.bool (true))]) (by rfl) (Nat.le_of_ble_eq_true rfl) 28 ?_
  refine ex_rs ttOK (by rfl) ?_
  refine rl_boxA (id := 0) rfl rfl rfl ?_
  refine rl_assign rfl ?_
  refine ex_rs ttOK (by rfl) ?_
  refine rl_assign rfl ?_
  refine ex_rs ttOK (by rfl) ?_
  refine rl_loadA_ptr rfl tt_42 rfl rfl rfl ?_
  refine rl_move rfl ?_
  refine rl_call rfl rfl rfl (F_laws_szNode true n 1048576 (by omega)) ?_
  refine rl_assign rfl ?_
  refine ex_seq_k fun K1 hK1 => ?_
  refine ex_rs ttOK (by rfl) ?_
  refine rl_move rfl ?_
  refine rl_bin rfl rfl rfl ?_
  refine ex_cond rfl (fun hc2 => ?_) (fun hc2 => ?_)
  · try simp at hc2
    refine ex_rs ttOK (by rfl) ?_
    refine rl_assign rfl ?_
    refine ex_ret ⟨.inr rfl, ?_⟩
    clear hK1 K1
    exact ret_pv rfl rfl rfl
  try simp at hc2
  have hl : cNd n ≤ 1048576 := lf_ge (by omega)
  have hz : 1 + zNd n ≤ 1000000000 := by have := zNd_le n; omega
  have hz2 : 1 + szs zWo (tendL n) ≤ 1000000000 := by have := tendL_sz n; omega
  refine ex_skip ?_
  refine hK1 _ _ ?_
  clear hK1 K1
  refine ex_rs ttOK (by rfl) ?_
  refine rl_loadA_ptr rfl tt_42 rfl rfl rfl ?_
  refine rl_meth [12, 13, 14, 15, 16] [_, _, _, _, _] (F_laws_toNode true n hl) rfl rfl rfl (by decide) rfl rfl (by repeat (first | exact InH.nil | refine InH.cons rfl ?_)) (by (simp only [pI, List.map_cons, List.map_nil, insAll, insEnc, gl, nx, memN, Nat.beq, Nat.add_eq, List.getD_cons_zero, List.getD_cons_succ, List.getD_nil, Bool.or_false, Bool.false_or, Bool.true_or, Bool.or_true, Nat.add_zero, Nat.zero_add]; rfl)) (by (simp only [pI, List.map_cons, List.map_nil, insAll, insEnc, gl, nx, memN, Nat.beq, Nat.add_eq, List.getD_cons_zero, List.getD_cons_succ, List.getD_nil, Bool.or_false, Bool.false_or, Bool.true_or, Bool.or_true, Nat.add_zero, Nat.zero_add]; rfl)) ?_
  refine rl_lend rfl rfl rfl (by (refine lendNd (T := []) rfl rfl rfl rfl rfl ?_; exact .nil)) (F_spec_NodeTend false n) (by exact strictWos _) ?_
  refine rl_assign rfl ?_
  refine ex_rs ttOK (by rfl) ?_
  refine rl_loadA_ptr rfl tt_42 rfl rfl rfl ?_
  refine rl_meth [5, 6, 7, 8, 9] [_, _, _, _, _] (F_laws_toNode true n hl) rfl rfl rfl (by decide) rfl rfl (by repeat (first | exact InH.nil | refine InH.cons rfl ?_)) (by (simp only [pI, List.map_cons, List.map_nil, insAll, insEnc, gl, nx, memN, Nat.beq, Nat.add_eq, List.getD_cons_zero, List.getD_cons_succ, List.getD_nil, Bool.or_false, Bool.false_or, Bool.true_or, Bool.or_true, Nat.add_zero, Nat.zero_add]; rfl)) (by (simp only [pI, List.map_cons, List.map_nil, insAll, insEnc, gl, nx, memN, Nat.beq, Nat.add_eq, List.getD_cons_zero, List.getD_cons_succ, List.getD_nil, Bool.or_false, Bool.false_or, Bool.true_or, Bool.or_true, Nat.add_zero, Nat.zero_add]; rfl)) ?_
  refine rl_alloc (id := 1) tt_28 za_28 rfl ?_
  refine rl_storeA rfl rfl tt_28 rfl rfl rfl rfl ?_
  refine ex_rs ttOK (by rfl) ?_
  refine rl_loadA_ptr rfl tt_28 rfl rfl rfl ?_
  refine rl_methL [10] [_] (F_impl_NodeTend false n) rfl rfl rfl (LendM.base (lendNd rfl rfl rfl rfl rfl .nil)) rfl (by decide) rfl rfl (by repeat (first | exact InH.nil | refine InH.cons rfl ?_)) (by (simp only [pI, List.map_cons, List.map_nil, insAll, insEnc, gl, nx, memN, Nat.beq, Nat.add_eq, List.getD_cons_zero, List.getD_cons_succ, List.getD_nil, Bool.or_false, Bool.false_or, Bool.true_or, Bool.or_true, Nat.add_zero, Nat.zero_add]; rfl)) (by (simp only [pI, List.map_cons, List.map_nil, insAll, insEnc, gl, nx, memN, Nat.beq, Nat.add_eq, List.getD_cons_zero, List.getD_cons_succ, List.getD_nil, Bool.or_false, Bool.false_or, Bool.true_or, Bool.or_true, Nat.add_zero, Nat.zero_add]; rfl)) rfl rfl (str_of rfl) (by repeat (first | exact StrH.nil | refine StrH.dead ?_)) (by exact .row (StrC.map strWoO _) .nil) ?_
  refine rl_assign rfl ?_
  refine ex_seq_k fun K3 hK3 => ?_
  refine ex_rs ttOK (by rfl) ?_
  refine rl_move rfl ?_
  refine rl_move rfl ?_
  refine rl_lend rfl rfl rfl (by exact (.ref rfl (Le.ow_map2 _ nf (encWoO_leK nf)) (.cl rfl .nil))) (F_laws_eqWordS false true (tendL n) (tendL n)) (by exact .pv _) ?_
  refine rl_not rfl ?_
  refine ex_cond rfl (fun hc4 => ?_) (fun hc4 => ?_)
  · (simp at hc4; done)
  try simp at hc4
  refine ex_skip ?_
  refine hK3 _ _ ?_
  clear hK3 K3
  refine ex_seq_k fun K5 hK5 => ?_
  refine ex_rsD ttOK mixed (by rfl) ?_
  refine rl_loadA_ptr rfl tt_28 rfl rfl rfl ?_
  refine rl_loadA_ptr rfl tt_42 rfl rfl rfl ?_
  refine rl_meth [17, 18, 19, 20, 21] [_, _, _, _, _] (F_laws_toNode true n hl) rfl rfl rfl (by decide) rfl rfl (by repeat (first | exact InH.nil | refine InH.cons rfl ?_)) (by (simp only [pI, List.map_cons, List.map_nil, insAll, insEnc, gl, nx, memN, Nat.beq, Nat.add_eq, List.getD_cons_zero, List.getD_cons_succ, List.getD_nil, Bool.or_false, Bool.false_or, Bool.true_or, Bool.or_true, Nat.add_zero, Nat.zero_add]; rfl)) (by (simp only [pI, List.map_cons, List.map_nil, insAll, insEnc, gl, nx, memN, Nat.beq, Nat.add_eq, List.getD_cons_zero, List.getD_cons_succ, List.getD_nil, Bool.or_false, Bool.false_or, Bool.true_or, Bool.or_true, Nat.add_zero, Nat.zero_add]; rfl)) ?_
  refine rl_lend rfl rfl rfl (by exact lendNd rfl rfl rfl rfl rfl (lendNd rfl rfl rfl rfl rfl .nil)) (F_laws_eqNode false false n n) (by exact .pv _) ?_
  refine rl_not rfl ?_
  refine ⟨by kernel_rfl, ?_⟩
  refine ex_cond rfl (fun hc6 => ?_) (fun hc6 => ?_)
  · (simp at hc6; done)
  try simp at hc6
  refine ex_skip ?_
  refine hK5 _ _ ?_
  clear hK5 K5
  refine ex_rs ttOK (by rfl) ?_
  refine rl_assign rfl ?_
  refine ex_rs ttOK (by rfl) ?_
  refine rl_loadA_ptr rfl tt_28 rfl rfl rfl ?_
  refine rl_move rfl ?_
  refine rl_meth [5, 6, 7, 8, 9] [_, _, _, _, _] (F_laws_markNode n 1 hz) rfl rfl rfl (by decide) rfl rfl (by repeat (first | exact InH.nil | refine InH.cons rfl ?_)) (by (simp only [pI, List.map_cons, List.map_nil, insAll, insEnc, gl, nx, memN, Nat.beq, Nat.add_eq, List.getD_cons_zero, List.getD_cons_succ, List.getD_nil, Bool.or_false, Bool.false_or, Bool.true_or, Bool.or_true, Nat.add_zero, Nat.zero_add]; rfl)) (by (simp only [pI, List.map_cons, List.map_nil, insAll, insEnc, gl, nx, memN, Nat.beq, Nat.add_eq, List.getD_cons_zero, List.getD_cons_succ, List.getD_nil, Bool.or_false, Bool.false_or, Bool.true_or, Bool.or_true, Nat.add_zero, Nat.zero_add]; rfl)) ?_
  refine rl_assign rfl ?_
  refine ex_seq_k fun K7 hK7 => ?_
  refine ex_rs ttOK (by rfl) ?_
  refine rl_move rfl ?_
  refine rl_bin rfl rfl rfl ?_
  refine rl_move rfl ?_
  refine rl_g rfl rfl (fun hg8 => ?_) (fun hg8 => ?_)
  rotate_left
  · try simp at hg8
    refine rl_gF rfl rfl ?_
    refine rl_gF rfl rfl ?_
    refine rl_gF rfl rfl ?_
    refine rl_pickT rfl rfl ?_
    refine ex_cond rfl (fun hc20 => ?_) (fun hc20 => ?_)
    · (simp at hc20; omega)
    (simp at hc20; done)
  try simp at hg8
  refine rl_move rfl ?_
  refine rl_gT rfl rfl ?_
  refine rl_move rfl ?_
  refine rl_gT rfl rfl ?_
  refine rl_lend rfl rfl rfl (by exact (.ref rfl (Le.ow_map2 _ nf (encWoO_leK nf)) (.cl rfl .nil))) (F_laws_eqWordS false true (tendL n) (tendL n)) (by exact .pv _) ?_
  refine rl_gT rfl rfl ?_
  refine rl_not rfl ?_
  refine rl_pickF rfl rfl ?_
  refine ex_cond rfl (fun hc9 => ?_) (fun hc9 => ?_)
  · (simp at hc9; done)
  try simp at hc9
  refine ex_skip ?_
  refine hK7 _ _ ?_
  clear hK7 K7
  refine ex_rs ttOK (by rfl) ?_
  refine rl_assign rfl ?_
  refine ex_rs ttOK (by rfl) ?_
  refine rl_move rfl ?_
  refine rl_move rfl ?_
  refine rl_meth [10] [_] (F_laws_markWordS (tendL n) 1 hz2) rfl rfl rfl (by decide) rfl rfl (by repeat (first | exact InH.nil | refine InH.cons rfl ?_)) (by (simp only [pI, List.map_cons, List.map_nil, insAll, insEnc, gl, nx, memN, Nat.beq, Nat.add_eq, List.getD_cons_zero, List.getD_cons_succ, List.getD_nil, Bool.or_false, Bool.false_or, Bool.true_or, Bool.or_true, Nat.add_zero, Nat.zero_add]; rfl)) (by (simp only [pI, List.map_cons, List.map_nil, insAll, insEnc, gl, nx, memN, Nat.beq, Nat.add_eq, List.getD_cons_zero, List.getD_cons_succ, List.getD_nil, Bool.or_false, Bool.false_or, Bool.true_or, Bool.or_true, Nat.add_zero, Nat.zero_add]; rfl)) ?_
  refine rl_assign rfl ?_
  refine ex_rs ttOK (by rfl) ?_
  refine rl_assign rfl ?_
  refine ex_rs ttOK (by rfl) ?_
  refine rl_move rfl ?_
  refine rl_move rfl ?_
  refine rl_lend rfl rfl rfl (by exact (.ref rfl (Le.ow_map2 _ nf (encWoO_leK nf)) (.cl rfl .nil))) (F_laws_heldWordS false (tendL n) 1 hz2) (by exact .pv _) ?_
  refine rl_assign rfl ?_
  refine ex_seq_k fun K10 hK10 => ?_
  refine ex_rs ttOK (by rfl) ?_
  refine rl_move rfl ?_
  refine rl_bin rfl rfl rfl ?_
  refine ex_cond rfl (fun hc11 => ?_) (fun hc11 => ?_)
  · (simp at hc11; omega)
  try simp at hc11
  refine ex_skip ?_
  refine hK10 _ _ ?_
  clear hK10 K10
  refine ex_seq_k fun K12 hK12 => ?_
  refine ex_rs ttOK (by rfl) ?_
  refine rl_move rfl ?_
  refine rl_move rfl ?_
  refine rl_bin rfl rfl rfl ?_
  refine ex_cond rfl (fun hc13 => ?_) (fun hc13 => ?_)
  · (simp at hc13; done)
  try simp at hc13
  refine ex_skip ?_
  refine hK12 _ _ ?_
  clear hK12 K12
  refine ex_rs ttOK (by rfl) ?_
  refine rl_loadA_ptr rfl tt_42 rfl rfl rfl ?_
  refine rl_meth [22, 23, 24, 25, 26] [_, _, _, _, _] (F_laws_toNode true n hl) rfl rfl rfl (by decide) rfl rfl (by repeat (first | exact InH.nil | refine InH.cons rfl ?_)) (by (simp only [pI, List.map_cons, List.map_nil, insAll, insEnc, gl, nx, memN, Nat.beq, Nat.add_eq, List.getD_cons_zero, List.getD_cons_succ, List.getD_nil, Bool.or_false, Bool.false_or, Bool.true_or, Bool.or_true, Nat.add_zero, Nat.zero_add]; rfl)) (by (simp only [pI, List.map_cons, List.map_nil, insAll, insEnc, gl, nx, memN, Nat.beq, Nat.add_eq, List.getD_cons_zero, List.getD_cons_succ, List.getD_nil, Bool.or_false, Bool.false_or, Bool.true_or, Bool.or_true, Nat.add_zero, Nat.zero_add]; rfl)) ?_
  refine rl_methL [11] [_] (F_impl_NodeTend false n) rfl rfl rfl (LendM.base (lendNd rfl rfl rfl rfl rfl .nil)) rfl (by decide) rfl rfl (by repeat (first | exact InH.nil | refine InH.cons rfl ?_)) (by (simp only [pI, List.map_cons, List.map_nil, insAll, insEnc, gl, nx, memN, Nat.beq, Nat.add_eq, List.getD_cons_zero, List.getD_cons_succ, List.getD_nil, Bool.or_false, Bool.false_or, Bool.true_or, Bool.or_true, Nat.add_zero, Nat.zero_add]; rfl)) (by (simp only [pI, List.map_cons, List.map_nil, insAll, insEnc, gl, nx, memN, Nat.beq, Nat.add_eq, List.getD_cons_zero, List.getD_cons_succ, List.getD_nil, Bool.or_false, Bool.false_or, Bool.true_or, Bool.or_true, Nat.add_zero, Nat.zero_add]; rfl)) rfl rfl (str_of rfl) (by repeat (first | exact StrH.nil | refine StrH.dead ?_)) (by exact .row (StrC.map strWoO _) .nil) ?_
  refine rl_assign rfl ?_
  refine ex_seq_k fun K14 hK14 => ?_
  refine ex_rs ttOK (by rfl) ?_
  refine rl_move rfl ?_
  refine rl_move rfl ?_
  refine rl_lend rfl rfl rfl (by exact (.ref rfl (Le.ow_map2 _ nf (encWoO_leK nf)) (.cl rfl .nil))) (F_laws_eqWordS false true (tendL n) (tendL n)) (by exact .pv _) ?_
  refine rl_not rfl ?_
  refine ex_cond rfl (fun hc15 => ?_) (fun hc15 => ?_)
  · (simp at hc15; done)
  try simp at hc15
  refine ex_skip ?_
  refine hK14 _ _ ?_
  clear hK14 K14
  refine ex_rs ttOK (by rfl) ?_
  refine rl_assign rfl ?_
  refine ex_rs ttOK (by rfl) ?_
  refine rl_move rfl ?_
  refine rl_move rfl ?_
  refine rl_lend rfl rfl rfl (by exact (.ref rfl (Le.ow_map2 _ nf (encWoO_leK nf)) (.cl rfl .nil))) (F_laws_heldWordS false (tendL n) 1 hz2) (by exact .pv _) ?_
  refine rl_assign rfl ?_
  refine ex_seq_k fun K16 hK16 => ?_
  refine ex_rs ttOK (by rfl) ?_
  refine rl_move rfl ?_
  refine rl_bin rfl rfl rfl ?_
  refine ex_cond rfl (fun hc17 => ?_) (fun hc17 => ?_)
  · (simp at hc17; omega)
  try simp at hc17
  refine ex_skip ?_
  refine hK16 _ _ ?_
  clear hK16 K16
  refine ex_seq_k fun K18 hK18 => ?_
  refine ex_rs ttOK (by rfl) ?_
  refine rl_move rfl ?_
  refine rl_move rfl ?_
  refine rl_bin rfl rfl rfl ?_
  refine ex_cond rfl (fun hc19 => ?_) (fun hc19 => ?_)
  · (simp at hc19; done)
  try simp at hc19
  refine ex_skip ?_
  refine hK18 _ _ ?_
  clear hK18 K18
  refine ex_rs ttOK (by rfl) ?_
  refine rl_assign rfl ?_
  refine ex_ret ⟨.inr rfl, ?_⟩
  exact ret_pv rfl rfl rfl
end Go.Proofs.YtpadkogpeobboaaGreat.Am
namespace Go.Proofs.YtpadkogpeobboaaGreat.Am
open Go Go.RowKit
def X0 (w : World) : Cx := ⟨fun b => b < w.heap.size, fun b => b < w.heap.size, fun _ _ => none, fun _ _ => none⟩
theorem start_sr (w : World) : SRh (X0 w) ⟨w, fun _ => False, fun b => b < w.heap.size, fun b => b < w.heap.size⟩ (fun _ => none) w := by
  refine ⟨fun _ => [], ?_, ?_, ?_, ?_, ?_, ?_, ?_, ?_, ?_, rfl, rfl, rfl, Nat.le_refl _, fun _ _ _ => rfl⟩
  · intro id g e h; cases h
  · intro id ge b h; cases h
  · intro id id' ge ge' b h; cases h
  · intro b hb; exact ⟨hb, fun id ge h => by cases h⟩
  · intro b hb; exact hb
  · intro b hb; exact .inl hb
  · intro b hb; exact .inl hb
  · intro id ge b h; cases h
  · intro id g h; exact ⟨rfl, rfl⟩
theorem start_calls {P : Program} {f : FuncId} {avs : List AV} {u : Value} (hC : Pure P f avs (.pv u)) (w : World) (vs : List Value) (hl : vs.length = avs.length) (hr : ∀ (i : Nat) (a : AV) (v : Value), avs[i]? = some a → vs[i]? = some v → VR (X0 w) w a v) :
    Calls P f vs.toArray w fun e w' => e = .returned u ∧ Below w.heap.size w w' :=
  (hC.2 (X0 w) _ (fun _ => none) w vs (start_sr w) hl hr (fun id ge h => by cases h)).mono fun e w' ⟨v, he, X', hX, hS, hk, hv⟩ => by
    rw [hv.pv_inv] at he
    obtain ⟨F, hS⟩ := hS
    exact ⟨he, hS.os, hS.tape, hS.output, hS.size, fun k hk => hS.keep k hk (fun h => h)⟩
def IsRow (k : IntKind) (w : World) (a : Option Addr) (len cap : Nat) (zs : List Int) : Prop :=
  (a = none ∧ len = 0 ∧ cap = 0 ∧ zs = []) ∨
  ∃ x, a = some x ∧ len ≤ cap ∧ cap ≤ maxLen ∧ zs.length = cap ∧ (∀ i, i < zs.length → w.cell? (x.add i) = some (.int k (zs.getD i 0))) ∧ ∀ n ∈ zs, (Lit.int k n).wf = true
end Go.Proofs.YtpadkogpeobboaaGreat.Am
namespace Go.Proofs.YtpadkogpeobboaaGreat.Am
open Go Go.RowKit
variable {H : Type} (enc : TypeId × Value → H) (w : World)
theorem rd_State : Rd enc Tryz.prog w 210 3 (fun x : St => encSt x) := by
  refine ⟨by rw [(ttOK _ _ tt_210).cells]; rfl, fun fuel cs x hx => ?_⟩
  obtain ⟨hl, hf⟩ := rd_fields (ttOK _ _ tt_210) rfl hx
  obtain ⟨a0, l0, h0⟩ := hf (j := 0) rfl (rd_int (ttOK _ _ tt_3) rfl)
  obtain ⟨a1, l1, h1⟩ := hf (j := 1) rfl (rd_int (ttOK _ _ tt_3) rfl)
  obtain ⟨a2, l2, h2⟩ := hf (j := 2) rfl (rd_int (ttOK _ _ tt_3) rfl)
  exact ⟨⟨a0, a1, a2⟩, rfl, (crs_seg (o := 0) h0 l0 (crs_seg (o := 1) h1 l1 (crs_seg (o := 2) h2 l2 (crs_end hl))))⟩
theorem rd_Event : Rd enc Tryz.prog w 163 7 (fun x : Ev => encEv x) := by
  refine ⟨by rw [(ttOK _ _ tt_163).cells]; rfl, fun fuel cs x hx => ?_⟩
  obtain ⟨hl, hf⟩ := rd_fields (ttOK _ _ tt_163) rfl hx
  obtain ⟨a0, l0, h0⟩ := hf (j := 0) rfl (rd_int (ttOK _ _ tt_3) rfl)
  obtain ⟨a1, l1, h1⟩ := hf (j := 1) rfl (rd_int (ttOK _ _ tt_3) rfl)
  obtain ⟨a2, l2, h2⟩ := hf (j := 2) rfl (rd_int (ttOK _ _ tt_3) rfl)
  obtain ⟨a3, l3, h3⟩ := hf (j := 3) rfl (rd_int (ttOK _ _ tt_3) rfl)
  obtain ⟨a4, l4, h4⟩ := hf (j := 4) rfl (rd_int (ttOK _ _ tt_3) rfl)
  obtain ⟨a5, l5, h5⟩ := hf (j := 5) rfl (rd_int (ttOK _ _ tt_3) rfl)
  obtain ⟨a6, l6, h6⟩ := hf (j := 6) rfl (rd_int (ttOK _ _ tt_3) rfl)
  exact ⟨⟨a0, a1, a2, a3, a4, a5, a6⟩, rfl, (crs_seg (o := 0) h0 l0 (crs_seg (o := 1) h1 l1 (crs_seg (o := 2) h2 l2 (crs_seg (o := 3) h3 l3 (crs_seg (o := 4) h4 l4 (crs_seg (o := 5) h5 l5 (crs_seg (o := 6) h6 l6 (crs_end hl))))))))⟩
theorem rd_Out : Rd enc Tryz.prog w 220 5 (fun x : Ou => encOu x) := by
  refine ⟨by rw [(ttOK _ _ tt_220).cells]; rfl, fun fuel cs x hx => ?_⟩
  obtain ⟨hl, hf⟩ := rd_fields (ttOK _ _ tt_220) rfl hx
  obtain ⟨a0, l0, h0⟩ := hf (j := 0) rfl (rd_int (ttOK _ _ tt_3) rfl)
  obtain ⟨a1, l1, h1⟩ := hf (j := 1) rfl (rd_int (ttOK _ _ tt_3) rfl)
  obtain ⟨a2, l2, h2⟩ := hf (j := 2) rfl (rd_int (ttOK _ _ tt_3) rfl)
  obtain ⟨a3, l3, h3⟩ := hf (j := 3) rfl (rd_int (ttOK _ _ tt_3) rfl)
  obtain ⟨a4, l4, h4⟩ := hf (j := 4) rfl (rd_int (ttOK _ _ tt_3) rfl)
  exact ⟨⟨a0, a1, a2, a3, a4⟩, rfl, (crs_seg (o := 0) h0 l0 (crs_seg (o := 1) h1 l1 (crs_seg (o := 2) h2 l2 (crs_seg (o := 3) h3 l3 (crs_seg (o := 4) h4 l4 (crs_end hl))))))⟩
theorem rd_Past : Rd enc Tryz.prog w 282 12 (fun x : Pa => encPa true x) := by
  refine ⟨by rw [(ttOK _ _ tt_282).cells]; rfl, fun fuel cs x hx => ?_⟩
  obtain ⟨hl, hf⟩ := rd_fields (ttOK _ _ tt_282) rfl hx
  obtain ⟨a0, l0, h0⟩ := hf (j := 0) rfl (rd_Event enc w)
  obtain ⟨a1, l1, h1⟩ := hf (j := 1) rfl (rd_State enc w)
  obtain ⟨a2, l2, h2⟩ := hf (j := 2) rfl (rd_slice 76 (by decide) (ttOK _ _ tt_38) rfl (rd_Event enc w))
  obtain ⟨a3, l3, h3⟩ := hf (j := 3) rfl (rd_slice 104 (by decide) (ttOK _ _ tt_39) rfl (rd_Out enc w))
  exact ⟨⟨a0, a1, a2, a3⟩, rfl, (crs_seg (o := 0) h0 l0 (crs_seg (o := 7) h1 l1 (crs_seg (o := 10) h2 l2 (crs_seg (o := 11) h3 l3 (crs_end hl)))))⟩
theorem rd_Lane : Rd enc Tryz.prog w 213 5 (fun x : La => encLa true x) := by
  refine ⟨by rw [(ttOK _ _ tt_213).cells]; rfl, fun fuel cs x hx => ?_⟩
  obtain ⟨hl, hf⟩ := rd_fields (ttOK _ _ tt_213) rfl hx
  obtain ⟨a0, l0, h0⟩ := hf (j := 0) rfl (rd_int (ttOK _ _ tt_3) rfl)
  obtain ⟨a1, l1, h1⟩ := hf (j := 1) rfl (rd_State enc w)
  obtain ⟨a2, l2, h2⟩ := hf (j := 2) rfl (rd_slice 78 (by decide) (ttOK _ _ tt_211) rfl (rd_Past enc w))
  exact ⟨⟨a0, a1, a2⟩, rfl, (crs_seg (o := 0) h0 l0 (crs_seg (o := 1) h1 l1 (crs_seg (o := 4) h2 l2 (crs_end hl))))⟩
theorem rd_View : Rd enc Tryz.prog w 216 3 (fun x : Vi => encVi true x) := by
  refine ⟨by rw [(ttOK _ _ tt_216).cells]; rfl, fun fuel cs x hx => ?_⟩
  obtain ⟨hl, hf⟩ := rd_fields (ttOK _ _ tt_216) rfl hx
  obtain ⟨a0, l0, h0⟩ := hf (j := 0) rfl (rd_int (ttOK _ _ tt_3) rfl)
  obtain ⟨a1, l1, h1⟩ := hf (j := 1) rfl (rd_int (ttOK _ _ tt_3) rfl)
  obtain ⟨a2, l2, h2⟩ := hf (j := 2) rfl (rd_slice 76 (by decide) (ttOK _ _ tt_38) rfl (rd_Event enc w))
  exact ⟨⟨a0, a1, a2⟩, rfl, (crs_seg (o := 0) h0 l0 (crs_seg (o := 1) h1 l1 (crs_seg (o := 2) h2 l2 (crs_end hl))))⟩
theorem rd_Node : Rd enc Tryz.prog w 42 13 (fun x : Nd => encNd true x) := by
  refine ⟨by rw [(ttOK _ _ tt_42).cells]; rfl, fun fuel cs x hx => ?_⟩
  obtain ⟨hl, hf⟩ := rd_fields (ttOK _ _ tt_42) rfl hx
  obtain ⟨a0, l0, h0⟩ := hf (j := 0) rfl (rd_int (ttOK _ _ tt_3) rfl)
  obtain ⟨a1, l1, h1⟩ := hf (j := 1) rfl (rd_bool Tryz.underlying4 (by kernel_rfl))
  obtain ⟨a2, l2, h2⟩ := hf (j := 2) rfl (rd_int (ttOK _ _ tt_3) rfl)
  obtain ⟨a3, l3, h3⟩ := hf (j := 3) rfl (rd_int (ttOK _ _ tt_3) rfl)
  obtain ⟨a4, l4, h4⟩ := hf (j := 4) rfl (rd_slice 65 (by decide) (ttOK _ _ tt_37) rfl (rd_Lane enc w))
  obtain ⟨a5, l5, h5⟩ := hf (j := 5) rfl (rd_slice 76 (by decide) (ttOK _ _ tt_38) rfl (rd_Event enc w))
  obtain ⟨a6, l6, h6⟩ := hf (j := 6) rfl (rd_slice 104 (by decide) (ttOK _ _ tt_39) rfl (rd_Out enc w))
  obtain ⟨a7, l7, h7⟩ := hf (j := 7) rfl (rd_int (ttOK _ _ tt_3) rfl)
  obtain ⟨a8, l8, h8⟩ := hf (j := 8) rfl (rd_int (ttOK _ _ tt_3) rfl)
  obtain ⟨a9, l9, h9⟩ := hf (j := 9) rfl (rd_slice 141 (by decide) (ttOK _ _ tt_40) rfl (rd_View enc w))
  obtain ⟨a10, l10, h10⟩ := hf (j := 10) rfl (rd_slice 3 (by decide) (ttOK _ _ tt_22) rfl (rd_int (ttOK _ _ tt_3) rfl))
  obtain ⟨a11, l11, h11⟩ := hf (j := 11) rfl (rd_int (ttOK _ _ tt_3) rfl)
  obtain ⟨a12, l12, h12⟩ := hf (j := 12) rfl (rd_int (ttOK _ _ tt_3) rfl)
  exact ⟨⟨a0, a1, a2, a3, a4, a5, a6, a7, a8, a9, a10, a11, a12⟩, rfl, (crs_seg (o := 0) h0 l0 (crs_seg (o := 1) h1 l1 (crs_seg (o := 2) h2 l2 (crs_seg (o := 3) h3 l3 (crs_seg (o := 4) h4 l4 (crs_seg (o := 5) h5 l5 (crs_seg (o := 6) h6 l6 (crs_seg (o := 7) h7 l7 (crs_seg (o := 8) h8 l8 (crs_seg (o := 9) h9 l9 (crs_seg (o := 10) h10 l10 (crs_seg (o := 11) h11 l11 (crs_seg (o := 12) h12 l12 (crs_end hl))))))))))))))⟩
variable {enc} {w}
theorem rd_agg {α : Type} {e : α → List AV} {t sz : Nat} {P : Program} (hr : Rd enc P w t sz e) {cs : Array Value} {d : DataW H} {p : List MemPlace} (h : DataW.Trod enc P w 0 (fun _ => true) true t (.agg cs) d p) : ∃ a, VR (X0 w) w (.agg (e a)) (.agg cs) := by
  obtain ⟨fuel, hf⟩ := h
  obtain ⟨a, _, h2⟩ := hr.2 _ _ _ hf
  refine ⟨a, .cl ?_⟩
  have := CR.agg (ok1 := ltw w) (ok2 := ltw w) (w := w) (cs := e a) cs.toList h2.len h2.one h2.rel
  have e : cs.toList.toArray = cs := by simp
  rw [e] at this
  exact this
end Go.Proofs.YtpadkogpeobboaaGreat.Am
