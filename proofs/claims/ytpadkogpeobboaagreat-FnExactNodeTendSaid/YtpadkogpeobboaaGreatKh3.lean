/- Part 3 of the texts that the proof of LawFnExactNodeTend leans on, merged by program. -/
import Derived.Test.YtpadkogpeobboaaGreatKh2
set_option linter.unusedVariables false
set_option linter.unusedSimpArgs false
namespace Go.Proofs.YtpadkogpeobboaaGreat.Am
open Go Go.RowKit
variable {P : Program} {ev : Operand → Option AV}
abbrev Blk := List (Nat × TypeId × List AV)
abbrev PQ (b off : Nat) : AV := .pv (.pointer (some ⟨b, off, none⟩))
theorem eqA_ptr {t : TypeId} (hu : P.underlying t = some (.pointer (P.pointee t))) (x y : Operand) (A : Option Addr) : EqA P t x y (.pv (.pointer A)) (.pv (.pointer none)) A.isNone := by
  intro X w u v h12 h1 h2 op hop
  have e1 := h1.pv_inv
  have e2 := h2.pv_inv
  subst e1 e2
  have he : (Op.equal t (.pointer A) (.pointer none)).run P w = .ok A.isNone w := run_equal_pointer_nil w t A hu
  rcases hop with rfl | rfl
  · simp [eqGuard, binOp, he, litOp]
  · simp [eqGuard, binOp, he, litOp]
theorem load_cells {tt : TT} (htt : TTOk P tt) {o : Oper} {a : Act} {X : Cx} {w : World} {t : Nat} {x : Operand} {s : TS} {out : AV} {cs : List AV} {ad : Addr} (ho : o.op = .load t x) (e : a.eval x = .pointer (some ad)) (hs : tt t = some s) (hc : Cells X w ad cs) (hl : ldv s cs = some out) :
    ∃ v, (execOp a.eval o).run P w = .ok (.value v) w ∧ VR X w out v := by
  have S := htt _ _ hs
  obtain ⟨us, hus, hcell⟩ := hc.list
  unfold ldv at hl
  split at hl
  · rename_i hagg
    split at hl
    · rename_i hn
      cases hl
      have hlen : (us.take s.size).length = s.size := by rw [List.length_take, hus.len]; omega
      have hld := run_loadCells_list (P := P) w ad (us.take s.size) (fun j v hv => by
        rw [List.getElem?_take] at hv
        split at hv
        · exact hcell j v hv
        · cases hv)
      rw [hlen] at hld
      refine ⟨.agg (us.take s.size).toArray, ?_, (hus.take _).agg⟩
      simp [execOp, ho, e, Instr.loadAt, Instr.sureAddr, loadVar, S.isAgg, S.sizeOf, hagg, hld]
    · cases hl
  · rename_i hagg
    cases cs with
    | nil => cases hl
    | cons c r =>
      cases hl
      obtain ⟨h1, u, h2, h3⟩ := hc.get 0 _ rfl
      have hag : s.agg = false := by simpa using hagg
      refine ⟨u, ?_, h3⟩
      have h2' : w.cell? ad = some u := h2
      simp [execOp, ho, e, Instr.loadAt, Instr.sureAddr, loadVar, S.isAgg, hag, load, Sem.run, h2']
theorem blk_cells {X : Cx} {w : World} {id g : Nat} {F : List Nat} {l : Blk} (h : BlkOK X w id g F l) {b ty off : Nat} {cs : List AV} (hm : (b, ty, cs) ∈ l) : Cells X w ⟨b, off, none⟩ (cs.drop off) := by
  obtain ⟨us, h1, h2⟩ := h.2.2.2 _ hm
  refine ⟨fun i y hy => ?_⟩
  rw [List.getElem?_drop] at hy
  have hl : off + i < us.length := by have := (List.getElem?_eq_some_iff.1 hy).1; rw [h2.len]; exact this
  refine ⟨h2.one _ _ hy, us[off + i], ?_, .cl (h2.rel _ _ _ hy (List.getElem?_eq_getElem hl))⟩
  rw [Addr.add_mid, cell_of_row w b (off + i) _ _ _ h1]
  simp [hl]
/-- A load through a block's number. -/
theorem ops_loadQ {o : Oper} {tt : TT} (htt : TTOk P tt) {t : Nat} {x : Operand} {s : TS} {id g b off ty : Nat} {l : Blk} {cs : List AV} {out : AV} (ho : o.op = .load t x) (hx : ev x = some (PQ b off)) (hs : tt t = some s) (hm : (b, ty, cs) ∈ l) (hl : ldv s (cs.drop off) = some out) :
    OpS P o ev [(id, (g, .blk l))] [] out :=
  .quiet fun X B hF a w hS hop hT => by
    have e := (hop x (by simp [ho, Op.operands]) _ hx).pv_inv
    obtain ⟨F, hS⟩ := hS
    exact load_cells htt ho e hs (blk_cells (hS.ent _ _ _ (hT id _ (List.mem_singleton.2 rfl))) hm) hl
/-- A load through the entry's own pointer. -/
theorem ops_loadK {o : Oper} {tt : TT} (htt : TTOk P tt) {t : Nat} {x : Operand} {s : TS} {id g b off ty : Nat} {l : Blk} {cs : List AV} {out : AV} (ho : o.op = .load t x) (hx : ev x = some (.ptr id g off)) (hs : tt t = some s) (hl : ldv s (cs.drop off) = some out) :
    OpS P o ev [(id, (g, .blk ((b, ty, cs) :: l)))] [] out :=
  .quiet fun X B hF a w hS hop hT => by
    obtain ⟨b', e, hb⟩ := (hop x (by simp [ho, Op.operands]) _ hx).ptr_inv
    obtain ⟨F, hS⟩ := hS
    have hE := hS.ent _ _ _ (hT id _ (List.mem_singleton.2 rfl))
    have : b' = b := by
      have h1 := hE.1 _ rfl
      rw [hb] at h1
      exact Option.some.inj h1
    subst this
    exact load_cells htt ho e hs (blk_cells hE (List.mem_cons_self ..)) hl
/-- The address of a field, through a block's number. -/
theorem ops_fieldAddrQ {o : Oper} {tt : TT} (htt : TTOk P tt) {t f : Nat} {x : Operand} {s sf : TS} {b k : Nat} {flds : List (Nat × Nat)} {off ft : Nat} (ho : o.op = .fieldAddr t x f) (hx : ev x = some (PQ b k)) (hs : tt t = some s)
    (hk : s.kind = .st flds) (hf : flds[f]? = some (off, ft)) (hft : tt ft = some sf) (hne : sf.size ≠ 0) : OpS P o ev [] [] (PQ b (k + off)) :=
  .quiet fun X B hF a w hS hop hT => by
    have e := (hop x (by simp [ho, Op.operands]) _ hx).pv_inv
    obtain ⟨d, h1, h2⟩ := (htt _ _ hs).desc
    rw [hk] at h2
    obtain ⟨fs, rfl, _, h3⟩ := h2
    obtain ⟨fd, h4, h5, h6⟩ := h3 f off ft hf
    have S := htt _ _ hft
    refine ⟨.pointer (some ((⟨b, k, none⟩ : Addr).add off)), ?_, by rw [Addr.add_mid]; exact .pv _⟩
    simp [execOp, ho, e, Instr.fieldAt, Instr.sureAddr, run_underlying h1, h4, fieldPlace, h6, S.sizeOf, hne, h5]
theorem ops_nilCheckQ {o : Oper} {x : Operand} {b k : Nat} (ho : o.op = .nilCheck x) (hx : ev x = some (PQ b k)) : OpS P o ev [] [] (PQ b k) :=
  .quiet fun X B hF a w hS hop hT => by
    have hv := hop x (by simp [ho, Op.operands]) _ hx
    exact ⟨a.eval x, by simp [execOp, ho, hv.pv_inv], hv⟩
theorem CRs.set {o1 o2 : Nat → Prop} {w : World} {cs : List AV} {us : List Value} (h : CRs o1 o2 w cs us) (k : Nat) {c : AV} {u : Value} (hc : c.one = true) (hr : CR o1 o2 w c u) : CRs o1 o2 w (cs.set k c) (us.set k u) := by
  refine ⟨by simp [h.len], fun i y hy => ?_, fun i y v hy hv => ?_⟩
  · rw [List.getElem?_set] at hy
    split at hy
    · split at hy
      · cases hy; exact hc
      · cases hy
    · exact h.one i y hy
  · rw [List.getElem?_set] at hy hv
    split at hy
    · rename_i e
      rw [if_pos e] at hv
      split at hy
      · split at hv
        · cases hy; cases hv; exact hr
        · cases hv
      · cases hy
    · rename_i e
      rw [if_neg e] at hv
      exact h.rel i y v hy hv
/-- One cell of a block is written. -/
theorem blk_set {X : Cx} {B : Base} {h : HF} {F : Nat → List Nat} {w : World} (hS : SRf X B h F w) {id g b ty off : Nat} {l1 l2 : Blk} {cs : List AV} {c : AV} {u : Value} (he : h id = some (g, .blk (l1 ++ (b, ty, cs) :: l2))) (hc : c.cl = true) (hr : VR X w c u) :
    ∃ us : List Value, w.heap[b]? = some (.cells us.toArray ty (0, 0)) ∧ us.length = cs.length ∧ SRh X B (upd h id (g, .blk (l1 ++ (b, ty, cs.set off c) :: l2))) (w.setRow b (us.set off u).toArray) ∧ (∀ k, X.ok2 k → (w.setRow b (us.set off u).toArray).heap[k]? = w.heap[k]?) := by
  have hE : BlkOK X w id g (F id) (l1 ++ (b, ty, cs) :: l2) := hS.ent _ _ _ he
  have hmem : (b, ty, cs) ∈ l1 ++ (b, ty, cs) :: l2 := List.mem_append_right _ (List.mem_cons_self ..)
  obtain ⟨us, h1, h2⟩ := hE.2.2.2 _ hmem
  have hbF : b ∈ F id := hE.2.2.1 _ hmem
  have hok : ∀ k, X.ok2 k → (w.setRow b (us.set off u).toArray).heap[k]? = w.heap[k]? := fun k hk => setRow_other w b k _ (fun e => (hS.ok2 k hk).2 id _ he (e ▸ hbF))
  have hcc := hr.closed hc
  have hnd : ((l1 ++ (b, ty, cs) :: l2).map (·.1)).Nodup := hE.2.1
  have hne : ∀ p, p ∈ l1 ∨ p ∈ l2 → p.1 ≠ b := fun p hp e => by
    rw [List.map_append, List.map_cons, List.nodup_append] at hnd
    rcases hp with hp | hp
    · exact hnd.2.2 p.1 (List.mem_map_of_mem hp) b (List.mem_cons_self ..) e
    · have hm : p.1 ∈ l2.map (·.1) := List.mem_map_of_mem hp
      rw [e] at hm
      exact (List.nodup_cons.1 hnd.2.1).1 hm
  have cases3 : ∀ q, q ∈ l1 ++ (b, ty, cs.set off c) :: l2 → (q ∈ l1 ∨ q ∈ l2) ∨ q = (b, ty, cs.set off c) := fun q hq => by
    rcases List.mem_append.1 hq with hq | hq
    · exact .inl (.inl hq)
    · rcases List.mem_cons.1 hq with hq | hq
      · exact .inr hq
      · exact .inl (.inr hq)
  have old : ∀ q, q ∈ l1 ∨ q ∈ l2 → q ∈ l1 ++ (b, ty, cs) :: l2 := fun q hq => by
    rcases hq with hq | hq
    · exact List.mem_append_left _ hq
    · exact List.mem_append_right _ (List.mem_cons_of_mem _ hq)
  refine ⟨us, h1, h2.len, ⟨_, hS.turn he (Cx.le.refl X) rfl rfl (fun _ _ _ => ⟨rfl, rfl⟩) (Nat.le_refl g) (f := F id) ((grown_setRow w b _).mono (by simpa using hbF)) (e' := .blk (l1 ++ (b, ty, cs.set off c) :: l2)) ?_ (fun k hk => ⟨.inl hk, by simpa using hS.blk id _ k he hk⟩)⟩, hok⟩
  refine ⟨fun p hp => ?_, by simpa using hnd, fun p hp => ?_, fun p hp => ?_⟩
  · cases l1 with
    | nil =>
      simp only [List.nil_append, List.head?_cons, Option.some.injEq] at hp
      subst hp
      exact hE.1 (b, ty, cs) rfl
    | cons q r => exact hE.1 p hp
  · rcases cases3 p hp with hq | rfl
    · exact hE.2.2.1 p (old p hq)
    · exact hbF
  · rcases cases3 p hp with hq | rfl
    · obtain ⟨vs, g1, g2⟩ := hE.2.2.2 p (old p hq)
      exact ⟨vs, (setRow_other w b p.1 _ (hne p hq)).trans g1, g2.mono (fun _ h => h) (fun _ h => h) hS.ok12 hok⟩
    · exact ⟨us.set off u, setRow_heap w b _ _ _ _ h1, (h2.mono (fun _ h => h) (fun _ h => h) hS.ok12 hok).set off hcc.2 (hcc.1.mono (fun _ h => h) (fun _ h => h) hS.ok12 hok)⟩
theorem set_at1 {α : Type} {l : List α} {k : Nat} {v : α} (h : k < l.length) : l.take k ++ [v] ++ l.drop (k + [v].length) = l.set k v := by
  rw [List.set_eq_take_append_cons_drop, if_pos h]; simp
/-- One cell, through a block's number. -/
theorem ops_storeQ {o : Oper} {tt : TT} (htt : TTOk P tt) {t id g b off ty : Nat} {x y : Operand} {S : TS} {c : AV} {l1 l2 : Blk} {cs : List AV} (ho : o.op = .store t x y) (hx : ev x = some (PQ b off)) (hy : ev y = some c) (hs : tt t = some S) (hn : S.size = 1) (hc : c.cl = true) (hl : off < cs.length) :
    OpS P o ev [(id, (g, .blk (l1 ++ (b, ty, cs) :: l2)))] [(id, (g, .blk (l1 ++ (b, ty, cs.set off c) :: l2)))] (.pv undef) := by
  rintro X B hF a w Q K ⟨F, hS⟩ hop hT hK
  have hid := hT id _ (List.mem_singleton.2 rfl)
  have e1 := (hop x (by simp [ho, Op.operands]) _ hx).pv_inv
  have hv := hop y (by simp [ho, Op.operands]) _ hy
  obtain ⟨us, h1, h2, h3, h4⟩ := blk_set (off := off) hS hid hc hv
  have hone : (a.eval y).oneCell' = true := hv.oneCell (hv.closed hc).2
  have hr := store_run htt hs w b off ty us [a.eval y] _ (cells_one hone) (by rw [hn]; rfl) h1 (by simp; omega) (fun u hu => by rw [List.mem_singleton] at hu; subst hu; exact hone)
  rw [set_at1 (by omega)] at hr
  unfold Oper.wp
  have hx2 : (execOp a.eval o).run P w = .ok .skip (w.setRow b (us.set off (a.eval y)).toArray) := by
    simp only [execOp, ho, e1, Sem.run_bind, hr, Result.andThen_ok, Sem.run_pure]
  rw [hx2, Oper.upon_skip]
  exact hK X _ undef (Cx.le.refl X) (by rw [upds_one]; exact h3) h4 (.pv undef)
/-- One cell, through the entry's own pointer. -/
theorem ops_storeK {o : Oper} {tt : TT} (htt : TTOk P tt) {t id g b off ty : Nat} {x y : Operand} {S : TS} {c : AV} {l2 : Blk} {cs : List AV} (ho : o.op = .store t x y) (hx : ev x = some (.ptr id g off)) (hy : ev y = some c) (hs : tt t = some S) (hn : S.size = 1) (hc : c.cl = true) (hl : off < cs.length) :
    OpS P o ev [(id, (g, .blk ((b, ty, cs) :: l2)))] [(id, (g, .blk ((b, ty, cs.set off c) :: l2)))] (.pv undef) := by
  rintro X B hF a w Q K ⟨F, hS⟩ hop hT hK
  have hid := hT id _ (List.mem_singleton.2 rfl)
  obtain ⟨b', e1, hb⟩ := (hop x (by simp [ho, Op.operands]) _ hx).ptr_inv
  have : b' = b := by
    have hE : BlkOK X w id g (F id) ((b, ty, cs) :: l2) := hS.ent _ _ _ hid
    have h1 := hE.1 _ rfl
    rw [hb] at h1
    exact Option.some.inj h1
  subst this
  have hv := hop y (by simp [ho, Op.operands]) _ hy
  obtain ⟨us, h1, h2, h3, h4⟩ := blk_set (off := off) (l1 := []) hS hid hc hv
  have hone : (a.eval y).oneCell' = true := hv.oneCell (hv.closed hc).2
  have hr := store_run htt hs w b' off ty us [a.eval y] _ (cells_one hone) (by rw [hn]; rfl) h1 (by simp; omega) (fun u hu => by rw [List.mem_singleton] at hu; subst hu; exact hone)
  rw [set_at1 (by omega)] at hr
  unfold Oper.wp
  have hx2 : (execOp a.eval o).run P w = .ok .skip (w.setRow b' (us.set off (a.eval y)).toArray) := by
    simp only [execOp, ho, e1, Sem.run_bind, hr, Result.andThen_ok, Sem.run_pure]
  rw [hx2, Oper.upon_skip]
  exact hK X _ undef (Cx.le.refl X) (by rw [upds_one]; exact h3) h4 (.pv undef)
theorem lnkB_keys {lty : TypeId} {nx : Option Nat} : ∀ {bs : List Nat} {xs : List (List AV)}, bs.length = xs.length → (lnkB lty nx bs xs).map (·.1) = bs
  | [], [], _ => rfl
  | [], _ :: _, h => by cases h
  | _ :: _, [], h => by cases h
  | b :: bs, x :: xs, h => by simp [lnkB, lnkB_keys (bs := bs) (xs := xs) (by simpa using h)]
theorem lnkB_mid {lty : TypeId} {nx : Option Nat} {b : Nat} {bs2 : List Nat} {x : List AV} {xs2 : List (List AV)} : ∀ {bs1 : List Nat} {xs1 : List (List AV)}, bs1.length = xs1.length →
    lnkB lty nx (bs1 ++ b :: bs2) (xs1 ++ x :: xs2) = lnkB lty (some b) bs1 xs1 ++ (b, lty, x ++ [.pv (ptrOf (bs2.head?.or nx))]) :: lnkB lty nx bs2 xs2
  | [], [], _ => rfl
  | [], _ :: _, h => by cases h
  | _ :: _, [], h => by cases h
  | c :: bs, y :: xs, h => by
    simp only [List.cons_append, lnkB]
    rw [lnkB_mid (bs1 := bs) (xs1 := xs) (by simpa using h)]
    cases bs <;> rfl
theorem split_at {α : Type} {l : List α} {i : Nat} {a : α} (h : l[i]? = some a) : l = l.take i ++ a :: l.drop (i + 1) ∧ (l.take i).length = i := by
  obtain ⟨hi, rfl⟩ := List.getElem?_eq_some_iff.1 h
  exact ⟨by rw [List.getElem_cons_drop, List.take_append_drop], by simp; omega⟩
theorem head_drop {α : Type} (l : List α) (i : Nat) : (l.drop i).head? = l[i]? := by rw [List.head?_drop]
/-- A link of a list. -/
theorem lnkB_get {lty : TypeId} {bs : List Nat} {xs : List (List AV)} (hl : bs.length = xs.length) {i b : Nat} {x : List AV} (hb : bs[i]? = some b) (hx : xs[i]? = some x) : (b, lty, x ++ [.pv (ptrOf bs[i + 1]?)]) ∈ lnkB lty none bs xs := by
  obtain ⟨e1, l1⟩ := split_at hb
  obtain ⟨e2, l2⟩ := split_at hx
  have e3 : (bs.drop (i + 1)).head?.or none = bs[i + 1]? := by rw [head_drop, Option.or_none]
  rw [e1, e2, lnkB_mid (by rw [l1, l2]), ← e1, e3]
  exact List.mem_append_right _ (List.mem_cons_self ..)
theorem chB_get {b0 ty lty : Nat} {bs : List Nat} {xs : List (List AV)} (hl : bs.length = xs.length) {i b : Nat} {x : List AV} (hb : bs[i]? = some b) (hx : xs[i]? = some x) : (b, lty, x ++ [.pv (ptrOf bs[i + 1]?)]) ∈ chB b0 ty lty bs xs :=
  List.mem_cons_of_mem _ (lnkB_get hl hb hx)
theorem chB_snoc {b0 ty lty bn : Nat} {x : List AV} {bs : List Nat} {xs : List (List AV)} (hl : bs.length = xs.length) : chB b0 ty lty (bs ++ [bn]) (xs ++ [x]) = (b0, ty, [.pv (ptrOf (bs.head?.or (some bn))), PQ bn 0]) :: (lnkB lty (some bn) bs xs ++ [(bn, lty, x ++ [.pv (.pointer none)])]) := by
  rw [chB, lnkB_mid hl, List.getLast?_concat]
  cases bs <;> rfl
theorem lnkB_snoc {lty bl : Nat} {nx : Option Nat} {x : List AV} {bs : List Nat} {xs : List (List AV)} (hl : bs.length = xs.length) : lnkB lty nx (bs ++ [bl]) (xs ++ [x]) = lnkB lty (some bl) bs xs ++ [(bl, lty, x ++ [.pv (ptrOf nx)])] := by
  rw [lnkB_mid hl]; rfl
theorem HE.chn {h : Hp} {id g ty lty : Nat} {xs xs' : List (List AV)} {r : Hp} (he : wfind h id = some (g, .chn ty lty xs)) (e : xs = xs') (t : HE h r) : HE h ((id, (g, .chn ty lty xs')) :: r) := by subst e; exact .same he t
theorem snoc_of {α : Type} {l : List α} (h : l ≠ []) : ∃ r a, l = r ++ [a] := ⟨l.dropLast, l.getLast h, (List.dropLast_concat_getLast h).symm⟩
variable {n : Nat} {fr : Fr} {h : Hp} {Q : Exit → Fr → Hp → Prop}
theorem ex_chn {c : Code} (id : Nat) {g ty lty : Nat} {xs : List (List AV)} (hh : wfind h id = some (g, .chn ty lty xs)) (k : ∀ b bs, bs.length = xs.length → ((b :: bs) : List Nat).Nodup → Ex P n c fr ((id, (g, .blk (chB b ty lty bs xs))) :: h) Q) : Ex P n c fr h Q := fun X B a w hS hF hd => by
  obtain ⟨F, hS⟩ := hS
  obtain ⟨b, bs, h1, h2⟩ := hS.ent id g _ hh
  have hN : (b :: bs).Nodup := by
    have := h2.2.1
    rwa [chB, List.map_cons, lnkB_keys h1] at this
  have hS' : SRh X B (hf ((id, (g, .blk (chB b ty lty bs xs))) :: h)) w := by
    rw [hf_cons]
    exact ⟨_, hS.turn (f := F id) (e' := .blk (chB b ty lty bs xs)) hh (Cx.le.refl X) rfl rfl (fun _ _ _ => ⟨rfl, rfl⟩) (Nat.le_refl g) (Grew.refl w _) h2 (fun b hb => ⟨.inl hb, hS.blk _ _ b hh hb⟩)⟩
  exact k b bs h1 hN X B a w hS' hF hd
abbrev SRto (P : Program) (h h' : Hp) : Prop := ∀ (X : Cx) (B : Base) (w : World), SRh X B (hf h) w → ∃ Y, X.le Y ∧ Y.ok2 = X.ok2 ∧ SRh Y B (hf h') w
theorem sr_toChn (id b ty lty : Nat) (bs : List Nat) (xs : List (List AV)) {g : Nat} {l : Blk} (hh : wfind h id = some (g, .blk l)) (hl : bs.length = xs.length) (he : l = chB b ty lty bs xs) : SRto P h ((id, (g, .chn ty lty xs)) :: h) := by
  subst he
  rintro X B w ⟨F, hS⟩
  refine ⟨X, Cx.le.refl X, rfl, ?_⟩
  rw [hf_cons]
  exact hS.re hh fun hE => ⟨b, bs, hl, hE⟩
theorem ex_toChn {c : Code} (id b ty lty : Nat) (bs : List Nat) (xs : List (List AV)) {g : Nat} {l : Blk} (hh : wfind h id = some (g, .blk l)) (hl : bs.length = xs.length) (he : l = chB b ty lty bs xs) (k : Ex P n c fr ((id, (g, .chn ty lty xs)) :: h) Q) : Ex P n c fr h Q :=
  ex_of_sr (sr_toChn (P := P) id b ty lty bs xs hh hl he) k
/-- What is known of the heap of ids at the end, said otherwise. -/
def Conv (P : Program) (h : Hp) (K : Hp → Prop) : Prop := ∃ h', SRto P h h' ∧ K h'
theorem Conv.done {K : Hp → Prop} (hk : K h) : Conv P h K := ⟨h, fun X B w hS => ⟨X, Cx.le.refl X, rfl, hS⟩, hk⟩
theorem Conv.step {h' : Hp} {K : Hp → Prop} (s : SRto P h h') (k : Conv P h' K) : Conv P h K := by
  obtain ⟨h'', s', hk⟩ := k
  refine ⟨h'', fun X B w hS => ?_, hk⟩
  obtain ⟨Y, k1, k2, k3⟩ := s X B w hS
  obtain ⟨Z, g1, g2, g3⟩ := s' Y B w k3
  exact ⟨Z, k1.trans g1, g2.trans k2, g3⟩
theorem ex_conv {c : Code} (hx : Ex P n c fr h (fun e fr' h' => Conv P h' (fun h'' => Q e fr' h''))) : Ex P n c fr h Q := fun X B a w hS hF hd =>
  wp_mono (hx X B a w hS hF hd) fun e a' w' ⟨fr', h', X', ⟨h'', s, q⟩, q2, q3, q4, q5, q6⟩ => by
    obtain ⟨Y, k1, k2, k3⟩ := s X' B w' q3
    exact ⟨fr', h'', Y, q, q2.trans k1, k3, q4.mono k1 q3.ok12 (fun _ _ => rfl), q5, q6⟩
/-- A new list. -/
theorem ex_newChn {c : Code} (id lty : Nat) {g ty : Nat} (hh : wfind h id = some (g, .box ty [.pv (.pointer none), .pv (.pointer none)])) (k : Ex P n c fr ((id, (g, .chn ty lty [])) :: h) Q) : Ex P n c fr h Q := by
  refine ex_of_sr (fun X B w hS => ⟨X, Cx.le.refl X, rfl, ?_⟩) k
  obtain ⟨F, hS⟩ := hS
  rw [hf_cons]
  refine hS.re hh fun hE => ?_
  obtain ⟨b, us, S, h1, h2, h3, h4, h5⟩ := hE
  have hv := h3.vrs
  refine ⟨b, [], rfl, fun p hp => by cases hp; exact h1, by simp [chB, lnkB], fun p hp => ?_, fun p hp => ?_⟩
  · simp only [chB, lnkB, List.mem_singleton] at hp; subst hp; exact h5 _ (List.mem_cons_self ..)
  · simp only [chB, lnkB, List.mem_singleton] at hp
    subst hp
    refine ⟨us, h2, hv.len, hv.one, fun i y u hy hu => ?_⟩
    have : ∀ z ∈ ([.pv (.pointer none), .pv (.pointer none)] : List AV), z.cl = true := fun z hz => by simp at hz; subst hz; rfl
    exact ((hv.rel i y u hy hu).closed (this y (List.mem_of_getElem? hy))).1
/-- A box goes over to the blocks of another entry; what pointed to it is a block's number. -/
theorem ex_absorb {c : Code} (t id id' : Nat) {g g' lty : Nat} {l : Blk} {cs : List AV} (ht : fr.get t = some (.ptr id' g' 0)) (hh : wfind h id = some (g, .blk l)) (hl : l ≠ []) (hd : wfind h id' = some (g', .box lty cs)) (hc : (cs.all AV.cl) = true) (hne : Nat.beq id id' = false)
    (k : ∀ b, b ∉ l.map (·.1) → Ex P n c ((t, PQ b 0) :: fr) ((id, (g, .blk (l ++ [(b, lty, cs)]))) :: (id', (g', .dead)) :: h) Q) : Ex P n c fr h Q := fun X B a w hS hF hdf => by
  have hne' : id ≠ id' := fun e => by subst e; rw [Nat.beq_refl] at hne; cases hne
  obtain ⟨F, H⟩ := hS
  have hE : BlkOK X w id g (F id) l := H.ent _ _ _ hh
  obtain ⟨b, us, S, h1, h2, h3, h4, h5⟩ := H.ent _ _ _ hd
  have hbF' : b ∈ F id' := h5 _ (List.mem_cons_self ..)
  have hbl : b ∉ l.map (·.1) := fun hm => by
    obtain ⟨p, hp, rfl⟩ := List.mem_map.1 hm
    exact hne' (H.sep _ _ _ _ _ hh hd (hE.2.2.1 p hp) hbF')
  have hv := h3.vrs
  have hcc : CRs X.ok1 X.ok2 w cs us := ⟨hv.len, hv.one, fun i y u hy hu => ((hv.rel i y u hy hu).closed (List.all_eq_true.1 hc y (List.mem_of_getElem? hy))).1⟩
  have hS1 := H.kill hd
  have hS2 := hS1.merge (id := id) (j := id') (g := g') (ge := (g, .blk l)) (upd_same _ _ _) (by rw [upd_other _ hne']; exact hh) hne'
  have fid : updF (updF F id' []) id (F id ++ F id') id = F id ++ F id' := by simp [updF]
  have hE2 : BlkOK X w id g (F id ++ F id') (l ++ [(b, lty, cs)]) := by
    refine ⟨fun p hp => ?_, ?_, fun p hp => ?_, fun p hp => ?_⟩
    · cases l with
      | nil => exact absurd rfl hl
      | cons q r => exact hE.1 p hp
    · rw [List.map_append, List.nodup_append]
      refine ⟨hE.2.1, by simp, fun x hx y hy e => ?_⟩
      simp only [List.map_cons, List.map_nil, List.mem_singleton] at hy
      subst e hy
      exact hbl hx
    · rcases List.mem_append.1 hp with hp | hp
      · exact List.mem_append_left _ (hE.2.2.1 p hp)
      · rw [List.mem_singleton] at hp; subst hp; exact List.mem_append_right _ hbF'
    · rcases List.mem_append.1 hp with hp | hp
      · exact hE.2.2.2 p hp
      · rw [List.mem_singleton] at hp; subst hp; exact ⟨us, h2, hcc⟩
  have hlt : ∀ b ∈ F id ++ F id', b < w.heap.size := fun b hb => by
    rcases List.mem_append.1 hb with hb | hb
    · exact H.blk _ _ b hh hb
    · exact H.blk _ _ b hd hb
  have := hS2.turn (id := id) (g := g) (g' := g) (e := .blk l) (e' := .blk (l ++ [(b, lty, cs)])) (f := F id ++ F id') (by rw [upd_other _ hne']; exact hh) (Cx.le.refl X) rfl rfl (fun _ _ _ => ⟨rfl, rfl⟩) (Nat.le_refl g) (Grew.refl w _) hE2 (fun b hb => ⟨.inl (by rw [fid]; exact hb), hlt b hb⟩)
  refine k b hbl X B a w ⟨_, by rw [hf2]; exact this⟩ ⟨hF.size, fun s av hs => ?_⟩ hdf
  simp only [Fr.get_cons] at hs
  split at hs
  · rename_i e
    subst e
    cases hs
    obtain ⟨v, k1, k2⟩ := hF.slot _ _ ht
    obtain ⟨b', rfl, hb⟩ := k2.ptr_inv
    rw [h1] at hb
    cases hb
    exact ⟨_, k1, .pv _⟩
  · exact hF.slot s av hs
variable {tt : TT} {ops : Array Oper} {r : List Oper} {lg : Log} {K : Fr → Hp → Log → Prop} {d : Nat} {ty : TypeId} {pos : String} {af : Array Edge}
theorem rl_loadQ (htt : TTOk P tt) {t : Nat} {x : Operand} {s : TS} {b off bty : Nat} {l : Blk} {cs : List AV} {out : AV} (id : Nat) {g : Nat} (hx : evO fr x = some (PQ b off)) (hs : tt t = some s) (hh : wfind h id = some (g, .blk l)) (hm : (b, bty, cs) ∈ l) (hl : ldv s (cs.drop off) = some out) (k : RunL P tt ops r ((d, out) :: fr) h (([id], []) :: lg) K) :
    RunL P tt ops (⟨some d, .load t x, ty, pos, af, none⟩ :: r) fr h lg K :=
  rl_ops (ops_loadQ htt rfl hx hs hm hl) (InH.one hh) Sub.nil k
theorem rl_loadK (htt : TTOk P tt) {t : Nat} {x : Operand} {s : TS} {id g b off bty : Nat} {l : Blk} {cs : List AV} {out : AV} (hx : evO fr x = some (.ptr id g off)) (hs : tt t = some s) (hh : wfind h id = some (g, .blk ((b, bty, cs) :: l))) (hl : ldv s (cs.drop off) = some out) (k : RunL P tt ops r ((d, out) :: fr) h (([id], []) :: lg) K) :
    RunL P tt ops (⟨some d, .load t x, ty, pos, af, none⟩ :: r) fr h lg K :=
  rl_ops (ops_loadK htt rfl hx hs hl) (InH.one hh) Sub.nil k
theorem rl_fieldAddrQ (htt : TTOk P tt) {t f : Nat} {x : Operand} {S sf : TS} {b j : Nat} {flds : List (Nat × Nat)} {p : Nat × Nat} (hx : evO fr x = some (PQ b j)) (hs : tt t = some S) (hk : S.kind = .st flds) (hf : flds[f]? = some p) (hft : tt p.2 = some sf) (hne : Nat.beq sf.size 0 = false) (k : RunL P tt ops r ((d, PQ b (j + p.1)) :: fr) h (([], []) :: lg) K) :
    RunL P tt ops (⟨some d, .fieldAddr t x f, ty, pos, af, none⟩ :: r) fr h lg K :=
  rl_ops (ops_fieldAddrQ htt rfl hx hs hk (off := p.1) (ft := p.2) hf hft (fun e => by rw [e] at hne; cases hne)) InH.nil Sub.nil k
theorem rl_nilQ {x : Operand} {b j : Nat} (hx : evO fr x = some (PQ b j)) (k : RunL P tt ops r ((d, PQ b j) :: fr) h (([], []) :: lg) K) : RunL P tt ops (⟨some d, .nilCheck x, ty, pos, af, none⟩ :: r) fr h lg K :=
  rl_ops (ops_nilCheckQ rfl hx) InH.nil Sub.nil k
theorem Sub.one1 {id : Nat} {ge ge' : Nat × Ent} : Sub [(id, ge)] [(id, ge')] := fun p hp => by rw [List.mem_singleton] at hp; subst hp; exact ⟨ge', List.mem_singleton.2 rfl⟩
theorem rl_storeQ (htt : TTOk P tt) {t : Nat} {x y : Operand} {S : TS} {b off bty : Nat} {c : AV} {l l' : Blk} (l1 l2 : Blk) {cs : List AV} (id : Nat) {g : Nat} (hx : evO fr x = some (PQ b off)) (hy : evO fr y = some c) (hs : tt t = some S) (hn : S.size = 1) (hc : c.cl = true) (hh : wfind h id = some (g, .blk l)) (he : l = l1 ++ (b, bty, cs) :: l2) (hl : off < cs.length) (he' : l1 ++ (b, bty, cs.set off c) :: l2 = l')
    (k : RunL P tt ops r fr ((id, (g, .blk l')) :: h) (([id], [id]) :: lg) K) : RunL P tt ops (⟨none, .store t x y, ty, pos, af, none⟩ :: r) fr h lg K := by
  subst he he'
  exact rl_opsN (ops_storeQ htt rfl hx hy hs hn hc hl) (InH.one hh) Sub.one1 k
theorem rl_storeK (htt : TTOk P tt) {t : Nat} {x y : Operand} {S : TS} {id g b off bty : Nat} {c : AV} {l : Blk} {cs cs' : List AV} (hx : evO fr x = some (.ptr id g off)) (hy : evO fr y = some c) (hs : tt t = some S) (hn : S.size = 1) (hc : c.cl = true) (hh : wfind h id = some (g, .blk ((b, bty, cs) :: l))) (hl : Nat.blt off cs.length = true) (he' : cs.set off c = cs')
    (k : RunL P tt ops r fr ((id, (g, .blk ((b, bty, cs') :: l))) :: h) (([id], [id]) :: lg) K) : RunL P tt ops (⟨none, .store t x y, ty, pos, af, none⟩ :: r) fr h lg K := by
  subst he'
  exact rl_opsN (ops_storeK htt rfl hx hy hs hn hc (Nat.le_of_ble_eq_true hl)) (InH.one hh) Sub.one1 k
end Go.Proofs.YtpadkogpeobboaaGreat.Am
namespace Go.Proofs.YtpadkogpeobboaaGreat.Am
open Go Go.RowKit
variable {P : Program} {H : Type} {enc : TypeId × Value → H} {w : World}
def ltw (w : World) : Nat → Prop := fun b => b < w.heap.size
/-- What is read az data of the type t is e of something. -/
def Rd (enc : TypeId × Value → H) (P : Program) (w : World) (t : TypeId) (sz : Nat) {α : Type} (e : α → List AV) : Prop :=
  P.cellsOf t = sz ∧ ∀ (fuel : Nat) (cs : List Value) (x : DataW H × List MemPlace), DataW.trod enc P w 0 (fun _ => true) true fuel t cs = some x → ∃ a : α, (e a).length = sz ∧ CRs (ltw w) (ltw w) w (e a) cs
theorem TSOk.cells {t : Nat} {s : TS} (h : TSOk P t s) : P.cellsOf t = s.size := by
  obtain ⟨i, h1, h2, _⟩ := h.info
  simp [Program.cellsOf, h1, h2]
theorem crs1 {o1 o2 : Nat → Prop} {w : World} {a : AV} {v : Value} (h1 : a.one = true) (h : CR o1 o2 w a v) : CRs o1 o2 w [a] [v] := .cons h1 h .nil
theorem rd_int {t : Nat} {s : TS} (h : TSOk P t s) (hk : s.kind = .int .i64) : Rd enc P w t 1 (fun n : Int => [AV.pv (.int .i64 n)]) := by
  obtain ⟨d, h1, h2⟩ := h.desc
  rw [hk] at h2
  subst h2
  refine ⟨by rw [h.cells]; exact h.sc (by simp [TS.agg, hk]), fun fuel cs x hx => ?_⟩
  obtain ⟨n, rfl, _⟩ := DataW.trod_int h1 hx
  exact ⟨n, rfl, crs1 rfl (.pv _)⟩
theorem rd_bool {t : Nat} (h : P.underlying t = some .bool) (hc : P.cellsOf t = 1) : Rd enc P w t 1 (fun b : Bool => [AV.pv (.bool b)]) := by
  refine ⟨hc, fun fuel cs x hx => ?_⟩
  obtain ⟨b, rfl, _⟩ := DataW.trod_bool h hx
  exact ⟨b, rfl, crs1 rfl (.pv _)⟩
theorem cells?_len {base : Nat} {a : Addr} {n : Nat} {cs : List Value} (h : w.cells? base a n = some cs) : cs.length = n ∧ ∀ i, i < n → w.cell? (a.add i) = cs[i]? := by
  obtain ⟨_, h1, h2⟩ := World.cells?_some h
  exact ⟨h1, h2⟩
theorem pick_list {α : Type} {n : Nat} {p : Nat → α → Prop} (h : ∀ i, i < n → ∃ a, p i a) : ∃ l : List α, l.length = n ∧ ∀ (i : Nat) (a : α), l[i]? = some a → p i a := by
  induction n with
  | zero => exact ⟨[], rfl, fun i a h => by simp at h⟩
  | succ n ih =>
    obtain ⟨l, h1, h2⟩ := ih fun i hi => h i (Nat.lt_succ_of_lt hi)
    obtain ⟨a, ha⟩ := h n (Nat.lt_succ_self n)
    refine ⟨l ++ [a], by simp [h1], fun i b hb => ?_⟩
    rw [List.getElem?_append] at hb
    split at hb
    · exact h2 i b hb
    · rename_i hi
      have : i = n := by
        have := (List.getElem?_eq_some_iff.1 hb).1
        simp at this; omega
      subst this
      rw [h1, Nat.sub_self] at hb
      cases hb
      exact ha
theorem rd_slice {α : Type} {e : α → List AV} {t te sz : Nat} (ty : Nat) (hpos : 0 < sz) {s : TS} (h : TSOk P t s) (hk : s.kind = .sl te) (hr : Rd enc P w te sz e) : Rd enc P w t 1 (fun l : List α => [AV.row (.rd true) ty sz (l.map e)]) := by
  obtain ⟨d, h1, h2⟩ := h.desc
  rw [hk] at h2
  subst h2
  refine ⟨by rw [h.cells]; exact h.sc (by simp [TS.agg, hk]), fun fuel cs x hx => ?_⟩
  obtain ⟨hsz, hr⟩ := hr
  rcases DataW.trod_slice h1 hx with ⟨rfl, _⟩ | ⟨a, len, cap, elems, rest, m, _, rfl, _, _, hl, hm, hel, hg, _⟩
  · exact ⟨[], rfl, crs1 rfl (.row none 0 (fun _ _ => undef) (Nat.le_refl _) (Nat.zero_le _) (fun j x hx => by simp at hx) (fun j i x y hx => by simp at hx) (fun h => by simp at h) (fun ad j i x y hA => by cases hA) (fun j i x y hx => by simp at hx))⟩
  · rw [hsz] at hg
    have each : ∀ i, i < len → ∃ b : α, ∃ cs, (e b).length = sz ∧ CRs (ltw w) (ltw w) w (e b) cs ∧ ∀ k, k < sz → w.cell? ((a.add (i * sz)).add k) = cs[k]? := fun i hi => by
      have h3 := hg i hi
      rw [List.getElem?_eq_getElem (by omega), Option.bind_eq_some_iff] at h3
      obtain ⟨cs, h4, h5⟩ := h3
      obtain ⟨b, h6, h7⟩ := hr _ _ _ h5
      obtain ⟨h8, h9⟩ := cells?_len h4
      exact ⟨b, cs, h6, h7, h9⟩
    obtain ⟨l, hl1, hl2⟩ := pick_list each
    have hget : ∀ (j : Nat) (x : List AV), (l.map e)[j]? = some x → ∃ b, l[j]? = some b ∧ x = e b := fun j x hj => by
      rw [List.getElem?_map] at hj
      cases hb : l[j]? with
      | none => rw [hb] at hj; cases hj
      | some b => rw [hb] at hj; exact ⟨b, rfl, (Option.some.inj hj).symm⟩
    have hcell : ∀ (j i : Nat) (x : List AV) (y : AV), (l.map e)[j]? = some x → x[i]? = some y → ∃ u, w.cell? (a.add (j * sz + i)) = some u ∧ y.one = true ∧ CR (ltw w) (ltw w) w y u := fun j i x y hj hy => by
      obtain ⟨b, hb, rfl⟩ := hget j x hj
      obtain ⟨cs, g1, g2, g3⟩ := hl2 j b hb
      have hi := (List.getElem?_eq_some_iff.1 hy).1
      have h4 := g3 i (by omega)
      have hlt : i < cs.length := by rw [g2.len]; exact hi
      rw [List.getElem?_eq_getElem hlt, add_add] at h4
      exact ⟨_, h4, g2.one i y hy, g2.rel i y _ hy (List.getElem?_eq_getElem hlt)⟩
    have key := CR.row (ok1 := ltw w) (ok2 := ltw w) (w := w) (m := true) (ty := ty) (sz := sz) (xs := l.map e) (some a) cap (fun j i => (w.cell? (a.add (j * sz + i))).getD undef)
      (by rw [List.length_map, hl1]; exact hl) hm (fun j x hj => by
        obtain ⟨b, hb, rfl⟩ := hget j x hj
        obtain ⟨cs, g1, _⟩ := hl2 j b hb
        exact g1)
      (fun j i x y hj hy => by obtain ⟨u, _, g, _⟩ := hcell j i x y hj hy; exact g)
      (fun hp => ?_)
      (fun ad j i x y hA hj hy => by
        cases hA
        obtain ⟨u, g, _, _⟩ := hcell j i x y hj hy
        rw [g]; rfl)
      (fun j i x y hj hy => by
        obtain ⟨u, g, _, g2⟩ := hcell j i x y hj hy
        rw [g]; exact g2)
    · rw [List.length_map, hl1] at key
      exact ⟨l, rfl, crs1 rfl key⟩
    · rw [List.length_map, hl1] at hp
      obtain ⟨b, hb⟩ : ∃ b, l[0]? = some b := ⟨_, List.getElem?_eq_getElem (by omega)⟩
      obtain ⟨cs, g1, g2, g3⟩ := hl2 0 b hb
      refine ⟨a, rfl, ?_⟩
      have hz := hg 0 hp
      rw [List.getElem?_eq_getElem (by omega), Option.bind_eq_some_iff] at hz
      obtain ⟨cs', h4, h5⟩ := hz
      by_cases hs : 0 < sz
      · have := g3 0 hs
        rw [List.getElem?_eq_getElem (by rw [g2.len, g1]; exact hs)] at this
        have h2 := World.block_lt_of_cell? w _ this
        rwa [add_block', add_block'] at h2
      · exfalso
        omega
/-- Cells, part by part. -/
theorem crs_seg {o1 o2 : Nat → Prop} {w : World} {e1 r : List AV} {cs : List Value} {o s : Nat} (h1 : CRs o1 o2 w e1 ((cs.drop o).take s)) (hs : e1.length = s) (h2 : CRs o1 o2 w r (cs.drop (o + s))) : CRs o1 o2 w (e1 ++ r) (cs.drop o) := by
  have hl : ((cs.drop o).take s).length = s := by rw [h1.len, hs]
  have e : cs.drop o = (cs.drop o).take s ++ cs.drop (o + s) := by rw [← List.drop_drop, List.take_append_drop]
  rw [e]
  refine ⟨by rw [List.length_append, List.length_append, h1.len, h2.len], fun i y hy => ?_, fun i y u hy hu => ?_⟩
  · rw [List.getElem?_append] at hy
    split at hy
    · exact h1.one i y hy
    · exact h2.one _ y hy
  · rw [List.getElem?_append] at hy hu
    rw [hl] at hu
    rw [hs] at hy
    split at hy
    · rename_i hi
      rw [if_pos hi] at hu
      exact h1.rel i y u hy hu
    · rename_i hi
      rw [if_neg hi] at hu
      exact h2.rel _ y u hy hu
theorem crs_end {o1 o2 : Nat → Prop} {w : World} {cs : List Value} {n : Nat} (h : cs.length = n) : CRs o1 o2 w [] (cs.drop n) := by
  rw [List.drop_of_length_le (by omega)]; exact .nil
/-- The fields of a struct. -/
theorem rd_fields {t : Nat} {s : TS} {flds : List (Nat × Nat)} (h : TSOk P t s) (hk : s.kind = .st flds) {fuel : Nat} {cs : List Value} {x : DataW H × List MemPlace} (hx : DataW.trod enc P w 0 (fun _ => true) true fuel t cs = some x) :
    cs.length = s.size ∧ ∀ {j off ft sz : Nat} {α : Type} {e : α → List AV}, flds[j]? = some (off, ft) → Rd enc P w ft sz e → ∃ a : α, (e a).length = sz ∧ CRs (ltw w) (ltw w) w (e a) ((cs.drop off).take sz) := by
  obtain ⟨d, h1, h2⟩ := h.desc
  rw [hk] at h2
  obtain ⟨fs, rfl, hl, hf⟩ := h2
  obtain ⟨xs, n, _, _, h3, h4, h5⟩ := DataW.trod_struct h1 hx
  refine ⟨by rw [h3, h.cells], fun {j off ft sz α e} hj hr => ?_⟩
  obtain ⟨f, g1, g2, g3⟩ := hf j off ft hj
  have := h5 j f g1
  have hlt : j < xs.length := by
    have := (List.getElem?_eq_some_iff.1 hj).1
    omega
  rw [List.getElem?_eq_getElem hlt, g2, g3, hr.1] at this
  exact hr.2 _ _ _ this
end Go.Proofs.YtpadkogpeobboaaGreat.Am
namespace Go.Proofs.YtpadkogpeobboaaGreat.Am
open Go Go.RowKit
variable {P : Program} {ev : Operand → Option AV}
theorem upd_upd (h : HF) (id : Nat) (a b : Nat × Ent) : upd (upd h id a) id b = upd h id b := by
  funext k
  by_cases e : k = id <;> simp [upd, e]
theorem OpS.frz {o : Oper} {T : TL} {id g ty sz : Nat} {zs zs' : List (List AV)} (h : OpS P o ev T [(id, (g, .row ty sz zs))] (.ref id g)) (hle : Le true (.row .ow ty sz zs) (.row (.rd true) ty sz zs')) : OpS P o ev T [(id, (g, .dead))] (.row (.rd true) ty sz zs') := by
  intro X B hp a w Q K hS hop hT hK
  refine h X B hp a w Q K hS hop hT fun X' w' v hX hS' hok hv => ?_
  rw [upds_one] at hS'
  obtain ⟨Y, k1, k2, k3⟩ := hS'.freeze (upd_same _ _ _) hle
  rw [upd_upd] at k2
  exact hK Y w' v (hX.trans k1) (by rw [upds_one]; exact k2) hok (k3 v hv)
theorem cl_one {a : AV} (h : a.cl = true) : a.one = true := by
  cases a with
  | pv v => exact h
  | row m _ _ _ => rfl
  | ifc => rfl
  | _ => cases h
/-- A row that nobody's is read az one that is lent. -/
theorem Le.low {k c : Bool} {ty sz : Nat} {xs : List (List AV)} (h : ∀ x ∈ xs, ∀ y ∈ x, y.cl = true) : Le k (.row (.rd true) ty sz xs) (.row (.rd c) ty sz xs) :=
  .rd (fun _ => rfl) rfl (fun j x x' hx hx' => by rw [hx] at hx'; cases hx'; rfl)
    (fun j i x x' y y' hx hx' hy hy' => cl_one (h x' (List.mem_of_getElem? hx') y' (List.mem_of_getElem? hy')))
    (fun j i x x' y y' hx hx' hy hy' => by
      rw [hx] at hx'; cases hx'
      rw [hy] at hy'; cases hy'
      exact .cl (h x (List.mem_of_getElem? hx) y (List.mem_of_getElem? hy)))
variable {tt : TT} {ops : Array Oper} {r : List Oper} {fr : Fr} {h : Hp} {lg : Log} {K : Fr → Hp → Log → Prop} {d : Nat} {ty : TypeId} {pos : String} {af : Array Edge}
theorem Sub.one' {id : Nat} {ge ge' : Nat × Ent} {T : TL} : Sub [(id, ge)] ((id, ge') :: T) := fun p hp => by rw [List.mem_singleton] at hp; subst hp; exact ⟨ge', List.mem_cons_self ..⟩
/-- What is appended is closed; so is the answer. -/
theorem rl_appF (htt : TTOk P tt) {t e : Nat} {x y : Operand} {S E : TS} {xs ys zs zs' : List (List AV)} {id g ty2 : Nat} {m : Bool} (hx : evO fr x = some (.ref id g)) (hy : evO fr y = some (.row (.rd m) ty2 E.size ys)) (hs : tt t = some S) (hk : S.kind = .sl e) (he : tt e = some E) (h2 : Nat.ble 1 E.size = true) (h3 : Nat.ble 1 E.bytes = true) (hh : wfind h id = some (g, .row e E.size xs))
    (how : (ys.flatten.all fun c => !c.isOw) = true) (hz : xs ++ ys = zs) (h4 : zs.length * E.bytes ≤ 140737488355328) (hle : Le true (.row .ow e E.size zs) (.row (.rd true) e E.size zs')) (k : RunL P tt ops r ((d, .row (.rd true) e E.size zs') :: fr) ((id, (g + 1, .dead)) :: h) (([id], [id]) :: lg) K) :
    RunL P tt ops (⟨some d, .call { callee := .builtin .append, args := #[x, y], argTypes := #[t, t] }, ty, pos, af, none⟩ :: r) fr h lg K := by
  subst hz
  exact rl_ops (OpS.frz (ops_append (T := []) htt (h := h) rfl hs hk he hx hy (.inl rfl) how (Nat.le_of_ble_eq_true h2) (Nat.le_of_ble_eq_true h3) (by rw [← List.length_append]; exact h4)) hle) (InH.one hh) Sub.one' k
inductive LeCs : List AV → List AV → Prop
  | nil : LeCs [] []
  | same {c : AV} {r r' : List AV} (t : LeCs r r') : LeCs (c :: r) (c :: r')
  | le {a b : AV} {r r' : List AV} (hc : a.cl = true) (hl : Le false a b) (hb : b.isOw = false) (t : LeCs r r') : LeCs (a :: r) (b :: r')
theorem LeCs.refl : ∀ l : List AV, LeCs l l
  | [] => .nil
  | _ :: l => .same (LeCs.refl l)
theorem LeCs.app {a a' b b' : List AV} (h : LeCs a a') (k : LeCs b b') : LeCs (a ++ b) (a' ++ b') := by
  induction h with
  | nil => exact k
  | same _ ih => exact .same ih
  | le h1 h2 h3 _ ih => exact .le h1 h2 h3 ih
theorem LeCs.len {a b : List AV} (h : LeCs a b) : a.length = b.length := by
  induction h with
  | nil => rfl
  | same _ ih => simp [ih]
  | le _ _ _ _ ih => simp [ih]
theorem LeCs.flatten {α : Type} {f f' : α → List AV} (h : ∀ a, LeCs (f a) (f' a)) : ∀ l : List α, LeCs (l.map f).flatten (l.map f').flatten
  | [] => .nil
  | a :: l => by simpa using (h a).app (LeCs.flatten h l)
theorem TRs.leC {cs cs' : List AV} (h : LeCs cs cs') : ∀ {X : Cx} {w : World} {us : List Value} {S : List Nat}, (∀ b, X.ok1 b → X.ok2 b) → TRs X w cs us S → TRs X w cs' us S := by
  induction h with
  | nil => exact fun _ h => h
  | same _ ih =>
    intro X w us S h12 h
    cases h with
    | vr h1 h2 h t => exact .vr h1 h2 h (ih h12 t)
    | own h1 h2 h3 t => exact .own h1 h2 h3 (ih h12 t)
  | le hc hl hb _ ih =>
    intro X w us S h12 h
    cases h with
    | vr h1 h2 h t => exact .vr (hl.one h1) hb (.cl ((h.closed hc).1.le h12 hl)) (ih h12 t)
    | own h1 h2 h3 t => cases hc
variable {n : Nat} {Q : Exit → Fr → Hp → Prop}
theorem ex_leM {α : Type} {f f' : α → List AV} {l : List α} {c : Code} (id : Nat) {g ty sz : Nat} (hh : wfind h id = some (g, .row ty sz (l.map f))) (hf' : ∀ a, LeCs (f a) (f' a)) (k : Ex P n c fr ((id, (g, .row ty sz (l.map f'))) :: h) Q) : Ex P n c fr h Q := by
  refine ex_of_sr (fun X B w hS => ⟨X, Cx.le.refl X, rfl, ?_⟩) k
  obtain ⟨F, hS⟩ := hS
  rw [hf_cons]
  refine hS.re hh fun hE => ?_
  obtain ⟨v, us, S, h1, h2, h3, h4, h5, h6⟩ := hE
  refine ⟨v, us, S, h1, by rw [List.length_map] at h2 ⊢; exact h2, fun j y hj => ?_, TRs.leC (LeCs.flatten hf' l) hS.ok12 h4, h5, h6⟩
  rw [List.getElem?_map] at hj
  cases hl : l[j]? with
  | none => rw [hl] at hj; cases hj
  | some a =>
    rw [hl] at hj
    cases hj
    rw [← (hf' a).len]
    exact h3 j (f a) (by rw [List.getElem?_map, hl]; rfl)
theorem ex_hp_row {c : Code} (id : Nat) {g ty sz : Nat} {xs xs' : List (List AV)} (hh : wfind h id = some (g, .row ty sz xs)) (he : xs = xs') (k : Ex P n c fr ((id, (g, .row ty sz xs')) :: h) Q) : Ex P n c fr h Q := by
  subst he
  refine ex_of_sr (fun X B w hS => ⟨X, Cx.le.refl X, rfl, ?_⟩) k
  obtain ⟨F, hS⟩ := hS
  rw [hf_cons]
  exact hS.re hh fun hE => hE
end Go.Proofs.YtpadkogpeobboaaGreat.Am
namespace Go.Proofs.YtpadkogpeobboaaGreat.Am
open Go Go.RowKit
def strB : AV → Bool
  | .pv _ => true
  | .row .ow _ _ _ => true
  | .ref _ _ => true
  | .bsl _ _ _ _ => true
  | .cut _ _ _ _ => true
  | .ptr _ _ _ => true
  | .elt _ _ _ _ => true
  | .mp _ _ => true
  | _ => false
theorem strB_ok {a : AV} (h : strB a = true) : Str a := by
  cases a with
  | pv v => exact .pv v
  | row m ty sz xs => cases m with
    | ow => exact .ow
    | rd => cases h
  | ref => exact .ref _ _
  | bsl => exact .bsl _ _ _ _
  | cut => exact .cut _ _ _ _
  | ptr => exact .ptr _ _ _
  | elt => exact .elt _ _ _ _
  | mp => exact .mp _ _
  | _ => cases h
def strA : AV → Bool
  | .agg cs => cs.all strB
  | a => strB a
theorem strA_ok {a : AV} (h : strA a = true) : Str a := by
  cases a with
  | agg cs => exact .agg fun y hy => strB_ok (List.all_eq_true.1 h y hy)
  | _ => exact strB_ok h
def strT : AV → Bool
  | .tup cs => cs.all strA
  | a => strA a
theorem str_of {a : AV} (h : strT a = true) : Str a := by
  cases a with
  | tup cs => exact .tup fun y hy => strA_ok (List.all_eq_true.1 h y hy)
  | _ => exact strA_ok h
end Go.Proofs.YtpadkogpeobboaaGreat.Am
namespace Go.Proofs.YtpadkogpeobboaaGreat.Am
open Go Go.RowKit
variable {P : Program} {n : Nat} {fr : Fr} {h : Hp} {Q : Exit → Fr → Hp → Prop}
theorem ex_rs {tt : TT} (htt : TTOk P tt) {id : Nat} {ops : Array Oper} {c : Code} (hd : (ops.toList.all fun o => match o.dst with | some d => decide (d < n) | none => true) = true) (hr : RunL P tt ops ops.toList fr h [] fun fr' h' _ => Ex P n c fr' h' Q) : Ex P n (.seq (.region id ops false) c) fr h Q :=
  ex_seq (fun fr h => Ex P n c fr h Q) (ex_region htt hd hr) (fun _ _ h => h)
theorem ex_rsD {tt : TT} (htt : TTOk P tt) (hm : P.follows .mixedOrders = true) {id : Nat} {ops : Array Oper} {c : Code} (hd : (ops.toList.all fun o => match o.dst with | some d => decide (d < n) | none => true) = true) (hr : RunL P tt ops ops.toList fr h [] fun fr' h' lg => chk ops lg.reverse = true ∧ Ex P n c fr' h' Q) : Ex P n (.seq (.region id ops true) c) fr h Q :=
  ex_seq (fun fr h => Ex P n c fr h Q) (ex_region_any htt hm hd hr) (fun _ _ h => h)
end Go.Proofs.YtpadkogpeobboaaGreat.Am
namespace Go.Proofs.YtpadkogpeobboaaGreat.Am
open Go Go.RowKit
variable {P : Program}
/-- Nil slices in elements' cells taken for rows of one's own. -/
inductive NilLs : List (List AV) → List (List AV) → Prop
  | refl (l : List (List AV)) : NilLs l l
  | cons {x x' : List AV} {r r' : List (List AV)} (h : NilL x x') (t : NilLs r r') : NilLs (x :: r) (x' :: r')
theorem NilL.refl : ∀ l : List AV, NilL l l
  | [] => .nil
  | _ :: l => .same (NilL.refl l)
theorem NilL.app {a a' b b' : List AV} (h : NilL a a') (k : NilL b b') : NilL (a ++ b) (a' ++ b') := by
  induction h with
  | nil => exact k
  | same _ ih => exact .same ih
  | own _ ih => exact .own ih
theorem NilLs.snoc {x x' : List AV} (h : NilL x x') : ∀ l : List (List AV), NilLs (l ++ [x]) (l ++ [x'])
  | [] => .cons h (.refl _)
  | y :: l => .cons (NilL.refl y) (NilLs.snoc h l)
theorem NilLs.flat {a b : List (List AV)} (h : NilLs a b) : NilL a.flatten b.flatten := by
  induction h with
  | refl l => exact NilL.refl _
  | cons h _ ih => simpa using h.app ih
theorem NilLs.lens {sz : Nat} {a b : List (List AV)} (h : NilLs a b) : Lens sz a → Lens sz b := by
  induction h with
  | refl l => exact fun h => h
  | cons h _ ih =>
    intro hl j y hj
    cases j with
    | zero =>
      simp only [List.getElem?_cons_zero, Option.some.injEq] at hj
      subst hj
      rw [h.len]; exact hl 0 _ rfl
    | succ j => exact ih (fun j y hj => hl (j + 1) y (by simpa using hj)) j y (by simpa using hj)
theorem NilLs.len {a b : List (List AV)} (h : NilLs a b) : a.length = b.length := by
  induction h with
  | refl l => rfl
  | cons _ _ ih => simp [ih]
variable {n : Nat} {fr : Fr} {h : Hp} {Q : Exit → Fr → Hp → Prop}
theorem ex_nilE {c : Code} (id : Nat) {g ty sz : Nat} {xs xs' : List (List AV)} (hh : wfind h id = some (g, .row ty sz xs)) (hl : NilLs xs xs') (k : Ex P n c fr ((id, (g, .row ty sz xs')) :: h) Q) : Ex P n c fr h Q := by
  refine ex_of_sr (fun X B w hS => ⟨X, Cx.le.refl X, rfl, ?_⟩) k
  obtain ⟨F, hS⟩ := hS
  rw [hf_cons]
  refine hS.re hh fun hE => ?_
  obtain ⟨v, us, S, h1, h2, h3, h4, h5, h6⟩ := hE
  exact ⟨v, us, S, h1, by rw [← hl.len]; exact h2, hl.lens h3, TRs.nilL hl.flat h4, h5, h6⟩
/-- Closed cells in elements taken for others. -/
inductive LeLs : List (List AV) → List (List AV) → Prop
  | refl (l : List (List AV)) : LeLs l l
  | cons {x x' : List AV} {r r' : List (List AV)} (h : LeCs x x') (t : LeLs r r') : LeLs (x :: r) (x' :: r')
theorem LeLs.snoc {x x' : List AV} (h : LeCs x x') : ∀ l : List (List AV), LeLs (l ++ [x]) (l ++ [x'])
  | [] => .cons h (.refl _)
  | y :: l => .cons (LeCs.refl y) (LeLs.snoc h l)
theorem LeLs.flat {a b : List (List AV)} (h : LeLs a b) : LeCs a.flatten b.flatten := by
  induction h with
  | refl l => exact LeCs.refl _
  | cons h _ ih => simpa using h.app ih
theorem LeLs.lens {sz : Nat} {a b : List (List AV)} (h : LeLs a b) : Lens sz a → Lens sz b := by
  induction h with
  | refl l => exact fun h => h
  | cons h _ ih =>
    intro hl j y hj
    cases j with
    | zero =>
      simp only [List.getElem?_cons_zero, Option.some.injEq] at hj
      subst hj
      rw [← h.len]; exact hl 0 _ rfl
    | succ j => exact ih (fun j y hj => hl (j + 1) y (by simpa using hj)) j y (by simpa using hj)
theorem LeLs.len {a b : List (List AV)} (h : LeLs a b) : a.length = b.length := by
  induction h with
  | refl l => rfl
  | cons _ _ ih => simp [ih]
theorem ex_leE {c : Code} (id : Nat) {g ty sz : Nat} {xs xs' : List (List AV)} (hh : wfind h id = some (g, .row ty sz xs)) (hl : LeLs xs xs') (k : Ex P n c fr ((id, (g, .row ty sz xs')) :: h) Q) : Ex P n c fr h Q := by
  refine ex_of_sr (fun X B w hS => ⟨X, Cx.le.refl X, rfl, ?_⟩) k
  obtain ⟨F, hS⟩ := hS
  rw [hf_cons]
  refine hS.re hh fun hE => ?_
  obtain ⟨v, us, S, h1, h2, h3, h4, h5, h6⟩ := hE
  exact ⟨v, us, S, h1, by rw [← hl.len]; exact h2, hl.lens h3, TRs.leC hl.flat hS.ok12 h4, h5, h6⟩
variable {tt : TT} {ops : Array Oper} {r : List Oper} {lg : Log} {K : Fr → Hp → Log → Prop} {d : Nat} {ty : TypeId} {pos : String} {af : Array Edge}
theorem Sub.two {i j : Nat} {a a' b b' : Nat × Ent} : Sub [(i, a), (j, b)] [(i, a'), (j, b')] := fun p hp => by
  simp only [List.mem_cons, List.not_mem_nil, or_false] at hp
  rcases hp with rfl | rfl
  · exact ⟨a', List.mem_cons_self ..⟩
  · exact ⟨b', List.mem_cons_of_mem _ (List.mem_cons_self ..)⟩
/-- A row of one's own is appended, and goes over with what it owns. -/
theorem rl_app_mv (htt : TTOk P tt) {t e : Nat} {x y : Operand} {S E : TS} {xs ys zs : List (List AV)} {id g id2 g2 ty2 : Nat} (hx : evO fr x = some (.ref id g)) (hy : evO fr y = some (.ref id2 g2)) (hs : tt t = some S) (hk : S.kind = .sl e) (he : tt e = some E) (hne : Nat.beq id id2 = false) (h2 : Nat.ble 1 E.size = true) (h3 : Nat.ble 1 E.bytes = true) (hh : wfind h id = some (g, .row e E.size xs)) (hh2 : wfind h id2 = some (g2, .row ty2 E.size ys))
    (hz : xs ++ ys = zs) (h4 : zs.length * E.bytes ≤ 140737488355328) (k : RunL P tt ops r ((d, .ref id (g + 1)) :: fr) ((id, (g + 1, .row e E.size zs)) :: (id2, (g2, .dead)) :: h) (([id, id2], [id, id2]) :: lg) K) :
    RunL P tt ops (⟨some d, .call { callee := .builtin .append, args := #[x, y], argTypes := #[t, t] }, ty, pos, af, none⟩ :: r) fr h lg K := by
  subst hz
  exact rl_ops (ops_append_move htt rfl hs hk he hx hy (fun e => by subst e; rw [Nat.beq_refl] at hne; cases hne) (Nat.le_of_ble_eq_true h2) (Nat.le_of_ble_eq_true h3) (by rw [← List.length_append]; exact h4)) (InH.cons hh (InH.one hh2)) Sub.two k
end Go.Proofs.YtpadkogpeobboaaGreat.Am
namespace Go.Proofs.YtpadkogpeobboaaGreat.Am
open Go Go.RowKit
theorem insAll : (∀ ρ c i g e, insH ρ c (i, (g, e)) = (ρ i, (c i, inE ρ c e))) ∧
  (∀ ρ c, inB ρ c (.any) = .any) ∧
  (∀ ρ c, inD ρ c (.any) = .any) ∧
  (∀ ρ c, inC ρ c (.any) = .any) ∧
  (∀ ρ c, inA ρ c (.any) = .any) ∧
  (∀ ρ c, inT ρ c (.any) = .any) ∧
  (∀ ρ c v, inB ρ c (.pv v) = .pv v) ∧
  (∀ ρ c v, inD ρ c (.pv v) = .pv v) ∧
  (∀ ρ c v, inC ρ c (.pv v) = .pv v) ∧
  (∀ ρ c v, inA ρ c (.pv v) = .pv v) ∧
  (∀ ρ c v, inT ρ c (.pv v) = .pv v) ∧
  (∀ ρ c m ty sz xs, inB ρ c (.row m ty sz xs) = .row m ty sz xs) ∧
  (∀ ρ c m ty sz xs, inD ρ c (.row m ty sz xs) = .row m ty sz xs) ∧
  (∀ ρ c m ty sz xs, inC ρ c (.row m ty sz xs) = .row m ty sz xs) ∧
  (∀ ρ c m ty sz xs, inA ρ c (.row m ty sz xs) = .row m ty sz xs) ∧
  (∀ ρ c m ty sz xs, inT ρ c (.row m ty sz xs) = .row m ty sz xs) ∧
  (∀ ρ c i g, inB ρ c (.ref i g) = .ref (ρ i) (c i)) ∧
  (∀ ρ c i g, inD ρ c (.ref i g) = .ref (ρ i) (c i)) ∧
  (∀ ρ c i g, inC ρ c (.ref i g) = .ref (ρ i) (c i)) ∧
  (∀ ρ c i g, inA ρ c (.ref i g) = .ref (ρ i) (c i)) ∧
  (∀ ρ c i g, inT ρ c (.ref i g) = .ref (ρ i) (c i)) ∧
  (∀ ρ c i g a b, inB ρ c (.bsl i g a b) = .bsl (ρ i) (c i) a b) ∧
  (∀ ρ c i g a b, inD ρ c (.bsl i g a b) = .bsl (ρ i) (c i) a b) ∧
  (∀ ρ c i g a b, inC ρ c (.bsl i g a b) = .bsl (ρ i) (c i) a b) ∧
  (∀ ρ c i g a b, inA ρ c (.bsl i g a b) = .bsl (ρ i) (c i) a b) ∧
  (∀ ρ c i g a b, inT ρ c (.bsl i g a b) = .bsl (ρ i) (c i) a b) ∧
  (∀ ρ c i g a b, inB ρ c (.cut i g a b) = .cut (ρ i) (c i) a b) ∧
  (∀ ρ c i g a b, inD ρ c (.cut i g a b) = .cut (ρ i) (c i) a b) ∧
  (∀ ρ c i g a b, inC ρ c (.cut i g a b) = .cut (ρ i) (c i) a b) ∧
  (∀ ρ c i g a b, inA ρ c (.cut i g a b) = .cut (ρ i) (c i) a b) ∧
  (∀ ρ c i g a b, inT ρ c (.cut i g a b) = .cut (ρ i) (c i) a b) ∧
  (∀ ρ c i g a, inB ρ c (.ptr i g a) = .ptr (ρ i) (c i) a) ∧
  (∀ ρ c i g a, inD ρ c (.ptr i g a) = .ptr (ρ i) (c i) a) ∧
  (∀ ρ c i g a, inC ρ c (.ptr i g a) = .ptr (ρ i) (c i) a) ∧
  (∀ ρ c i g a, inA ρ c (.ptr i g a) = .ptr (ρ i) (c i) a) ∧
  (∀ ρ c i g a, inT ρ c (.ptr i g a) = .ptr (ρ i) (c i) a) ∧
  (∀ ρ c i g a b, inB ρ c (.elt i g a b) = .elt (ρ i) (c i) a b) ∧
  (∀ ρ c i g a b, inD ρ c (.elt i g a b) = .elt (ρ i) (c i) a b) ∧
  (∀ ρ c i g a b, inC ρ c (.elt i g a b) = .elt (ρ i) (c i) a b) ∧
  (∀ ρ c i g a b, inA ρ c (.elt i g a b) = .elt (ρ i) (c i) a b) ∧
  (∀ ρ c i g a b, inT ρ c (.elt i g a b) = .elt (ρ i) (c i) a b) ∧
  (∀ ρ c cs, inB ρ c (.iel cs) = .iel cs) ∧
  (∀ ρ c cs, inD ρ c (.iel cs) = .iel cs) ∧
  (∀ ρ c cs, inC ρ c (.iel cs) = .iel cs) ∧
  (∀ ρ c cs, inA ρ c (.iel cs) = .iel cs) ∧
  (∀ ρ c cs, inT ρ c (.iel cs) = .iel cs) ∧
  (∀ ρ c cs, inB ρ c (.agg cs) = .agg cs) ∧
  (∀ ρ c cs, inD ρ c (.agg cs) = .agg (cs.map (inB ρ c))) ∧
  (∀ ρ c cs, inC ρ c (.agg cs) = .agg cs) ∧
  (∀ ρ c cs, inA ρ c (.agg cs) = .agg (cs.map (inC ρ c))) ∧
  (∀ ρ c cs, inT ρ c (.agg cs) = .agg (cs.map (inC ρ c))) ∧
  (∀ ρ c cs, inB ρ c (.tup cs) = .tup cs) ∧
  (∀ ρ c cs, inD ρ c (.tup cs) = .tup cs) ∧
  (∀ ρ c cs, inC ρ c (.tup cs) = .tup cs) ∧
  (∀ ρ c cs, inA ρ c (.tup cs) = .tup cs) ∧
  (∀ ρ c cs, inT ρ c (.tup cs) = .tup (cs.map (inA ρ c))) ∧
  (∀ ρ c f a b, inB ρ c (.fn f a b) = .fn f a b) ∧
  (∀ ρ c f a b, inD ρ c (.fn f a b) = .fn f a b) ∧
  (∀ ρ c f a b, inC ρ c (.fn f a b) = .fn f (a.map (inB ρ c)) (b.map (inB ρ c))) ∧
  (∀ ρ c f a b, inA ρ c (.fn f a b) = .fn f (a.map (inB ρ c)) (b.map (inB ρ c))) ∧
  (∀ ρ c f a b, inT ρ c (.fn f a b) = .fn f (a.map (inB ρ c)) (b.map (inB ρ c))) ∧
  (∀ ρ c t a, inB ρ c (.ifc t a) = .ifc t a) ∧
  (∀ ρ c t a, inD ρ c (.ifc t a) = .ifc t a) ∧
  (∀ ρ c t a, inC ρ c (.ifc t a) = .ifc t (inD ρ c a)) ∧
  (∀ ρ c t a, inA ρ c (.ifc t a) = .ifc t (inD ρ c a)) ∧
  (∀ ρ c t a, inT ρ c (.ifc t a) = .ifc t (inD ρ c a)) ∧
  (∀ ρ c i g, inB ρ c (.mp i g) = .mp (ρ i) (c i)) ∧
  (∀ ρ c i g, inD ρ c (.mp i g) = .mp (ρ i) (c i)) ∧
  (∀ ρ c i g, inC ρ c (.mp i g) = .mp (ρ i) (c i)) ∧
  (∀ ρ c i g, inA ρ c (.mp i g) = .mp (ρ i) (c i)) ∧
  (∀ ρ c i g, inT ρ c (.mp i g) = .mp (ρ i) (c i)) ∧
  (∀ ρ c, inE ρ c (.dead) = .dead) ∧
  (∀ ρ c ty cs, inE ρ c (.box ty cs) = .box ty (cs.map (inC ρ c))) ∧
  (∀ ρ c ty sz xs, inE ρ c (.row ty sz xs) = .row ty sz xs) ∧
  (∀ ρ c es, inE ρ c (.map es) = .map es) ∧
  (∀ ρ c ty lty xs, inE ρ c (.chn ty lty xs) = .chn ty lty xs) ∧
  (∀ ρ c l, inE ρ c (.blk l) = .blk l) := by
  refine ⟨?_, ?_, ?_, ?_, ?_, ?_, ?_, ?_, ?_, ?_, ?_, ?_, ?_, ?_, ?_, ?_, ?_, ?_, ?_, ?_, ?_, ?_, ?_, ?_, ?_, ?_, ?_, ?_, ?_, ?_, ?_, ?_, ?_, ?_, ?_, ?_, ?_, ?_, ?_, ?_, ?_, ?_, ?_, ?_, ?_, ?_, ?_, ?_, ?_, ?_, ?_, ?_, ?_, ?_, ?_, ?_, ?_, ?_, ?_, ?_, ?_, ?_, ?_, ?_, ?_, ?_, ?_, ?_, ?_, ?_, ?_, ?_, ?_, ?_, ?_, ?_, ?_⟩ <;> intros <;> rfl
end Go.Proofs.YtpadkogpeobboaaGreat.Am
namespace Go.Proofs.YtpadkogpeobboaaGreat.Am
def lexB : List Int → List Int → Bool
  | a :: az, b :: bs => if a < b then true else if b < a then false else lexB az bs
  | _, _ => false
theorem lexB_cons (a b : Int) (az bs : List Int) : lexB (a :: az) (b :: bs) = if a < b then true else if b < a then false else lexB az bs := rfl
theorem lexB_irr : ∀ az, lexB az az = false
  | [] => rfl
  | a :: az => by rw [lexB_cons, if_neg (by omega), if_neg (by omega)]; exact lexB_irr az
theorem lexB_trans : ∀ az bs cs, lexB az bs = true → lexB bs cs = true → lexB az cs = true
  | [], _, _, h, _ => by simp [lexB] at h
  | _ :: _, [], _, h, _ => by simp [lexB] at h
  | _ :: _, _ :: _, [], _, h => by simp [lexB] at h
  | a :: az, b :: bs, c :: cs, h, k => by
    rw [lexB_cons] at *
    by_cases h1 : a < b <;> by_cases h2 : b < a <;> by_cases h3 : b < c <;> by_cases h4 : c < b <;> simp only [h1, h2, h3, h4, if_true, if_false] at h k <;> first | omega | (cases h; done) | (cases k; done) | (rw [if_pos (by omega)]; done) | (rw [if_neg (by omega), if_neg (by omega)]; exact lexB_trans _ _ _ h k)
theorem lexB_tot : ∀ az bs : List Int, az.length = bs.length → az ≠ bs → lexB az bs = true ∨ lexB bs az = true
  | [], [], _, h => absurd rfl h
  | [], _ :: _, h, _ => by simp at h
  | _ :: _, [], h, _ => by simp at h
  | a :: az, b :: bs, hl, hne => by
    rw [lexB_cons, lexB_cons]
    by_cases h1 : a < b
    · exact .inl (if_pos h1)
    · by_cases h2 : b < a
      · exact .inr (if_pos h2)
      · have e : a = b := by omega
        subst e
        rw [if_neg h1, if_neg h1, if_neg h1, if_neg h1]
        exact lexB_tot az bs (by simpa using hl) (fun e => hne (by rw [e]))
structure STO {α : Type} (lt : α → α → Bool) : Prop where
  irr : ∀ a, lt a a = false
  trans : ∀ a b c, lt a b = true → lt b c = true → lt a c = true
  tot : ∀ a b, a ≠ b → lt a b = true ∨ lt b a = true
theorem STO.asymm {α : Type} {lt : α → α → Bool} (O : STO lt) {a b : α} (h : lt a b = true) : lt b a = false := by
  cases hb : lt b a
  · rfl
  · have := O.trans _ _ _ h hb; rw [O.irr] at this; cases this
theorem STO.eq {α : Type} {lt : α → α → Bool} (O : STO lt) {a b : α} (h : lt a b = false) (k : lt b a = false) : a = b := by
  apply Classical.byContradiction
  intro hne
  rcases O.tot a b hne with h1 | h1
  · rw [h] at h1; cases h1
  · rw [k] at h1; cases h1
theorem STO.ntrans {α : Type} {lt : α → α → Bool} (O : STO lt) {a b c : α} (h : lt b a = false) (k : lt c b = false) : lt c a = false := by
  cases hc : lt c a
  · rfl
  · by_cases e : a = b
    · subst e; rw [hc] at k; cases k
    · rcases O.tot a b e with h1 | h1
      · rw [O.trans _ _ _ hc h1] at k; cases k
      · rw [h] at h1; cases h1
theorem STO.lt_of {α : Type} {lt : α → α → Bool} (O : STO lt) {a b : α} (h : lt b a = false) (hne : a ≠ b) : lt a b = true := by
  rcases O.tot a b hne with h1 | h1
  · exact h1
  · rw [h] at h1; cases h1
section
variable {α : Type} {lt : α → α → Bool}
/-- Strictly ascending. -/
def SS (lt : α → α → Bool) (l : List α) : Prop := l.Pairwise (fun a b => lt a b = true)
/-- Ascending, those that are the same staying. -/
def WS (lt : α → α → Bool) (l : List α) : Prop := l.Pairwise (fun a b => lt b a = false)
theorem SS.uniq (O : STO lt) : ∀ {l l' : List α}, SS lt l → SS lt l' → (∀ x, x ∈ l ↔ x ∈ l') → l = l'
  | [], [], _, _, _ => rfl
  | [], b :: bs, _, _, h => absurd ((h b).2 (by simp)) (by simp)
  | a :: az, [], _, _, h => absurd ((h a).1 (by simp)) (by simp)
  | a :: az, b :: bs, h1, h2, h => by
    obtain ⟨h3, h4⟩ := List.pairwise_cons.1 h1
    obtain ⟨h5, h6⟩ := List.pairwise_cons.1 h2
    have e : a = b := by
      have hab := (h a).1 (by simp)
      have hba := (h b).2 (by simp)
      rcases List.mem_cons.1 hab with e | hm
      · exact e
      · rcases List.mem_cons.1 hba with e | hm'
        · exact e.symm
        · have := O.trans _ _ _ (h3 b hm') (h5 a hm); rw [O.irr] at this; cases this
    subst e
    rw [SS.uniq O h4 h6 (fun x => ?_)]
    have hx := h x
    simp only [List.mem_cons] at hx
    constructor
    · intro hm
      rcases hx.1 (.inr hm) with e | e
      · subst e; have := h3 x hm; rw [O.irr] at this; cases this
      · exact e
    · intro hm
      rcases hx.2 (.inr hm) with e | e
      · subst e; have := h5 x hm; rw [O.irr] at this; cases this
      · exact e
theorem WS.uniq (O : STO lt) : ∀ {l l' : List α}, WS lt l → WS lt l' → l.Perm l' → l = l'
  | [], l', _, _, h => (List.nil_perm.1 h).symm ▸ rfl
  | a :: az, [], _, _, h => absurd h.symm (by simp)
  | a :: az, b :: bs, h1, h2, h => by
    obtain ⟨h3, h4⟩ := List.pairwise_cons.1 h1
    obtain ⟨h5, h6⟩ := List.pairwise_cons.1 h2
    have e : a = b := by
      have hab : a ∈ b :: bs := h.mem_iff.1 (by simp)
      have hba : b ∈ a :: az := h.mem_iff.2 (by simp)
      rcases List.mem_cons.1 hab with e | hm
      · exact e
      · rcases List.mem_cons.1 hba with e | hm'
        · exact e.symm
        · exact O.eq (h5 a hm) (h3 b hm')
    subst e
    rw [WS.uniq O h4 h6 ((List.perm_cons a).1 h)]
theorem SS.ws (O : STO lt) {l : List α} (h : SS lt l) : WS lt l := List.Pairwise.imp (fun h => O.asymm h) h
/-- Into a row in order, if it is not there. -/
def insU [DecidableEq α] (lt : α → α → Bool) (x : α) : List α → List α
  | [] => [x]
  | y :: r => if x = y then y :: r else if lt x y then x :: y :: r else y :: insU lt x r
def srtU [DecidableEq α] (lt : α → α → Bool) (l : List α) : List α := l.foldl (fun acc x => insU lt x acc) []
theorem insU_mem [DecidableEq α] (x z : α) : ∀ l : List α, z ∈ insU lt x l ↔ z = x ∨ z ∈ l
  | [] => by simp [insU]
  | y :: r => by
    unfold insU
    by_cases e : x = y
    · subst e; rw [if_pos rfl]; simp only [List.mem_cons]; constructor
      · exact .inr
      · rintro (h | h | h)
        · exact .inl h
        · exact .inl h
        · exact .inr h
    · rw [if_neg e]
      by_cases h : lt x y = true
      · rw [if_pos h]; simp
      · rw [if_neg h]; simp only [List.mem_cons, insU_mem x z r]; constructor
        · rintro (h | h | h)
          · exact .inr (.inl h)
          · exact .inl h
          · exact .inr (.inr h)
        · rintro (h | h | h)
          · exact .inr (.inl h)
          · exact .inl h
          · exact .inr (.inr h)
theorem insU_ss [DecidableEq α] (O : STO lt) (x : α) : ∀ l : List α, SS lt l → SS lt (insU lt x l)
  | [], _ => by simp [insU, SS]
  | y :: r, h => by
    unfold insU
    obtain ⟨h1, h2⟩ := List.pairwise_cons.1 h
    by_cases e : x = y
    · rw [if_pos e]; exact h
    · rw [if_neg e]
      by_cases hx : lt x y = true
      · rw [if_pos hx]
        refine List.pairwise_cons.2 ⟨fun z hz => ?_, h⟩
        rcases List.mem_cons.1 hz with rfl | hz
        · exact hx
        · exact O.trans _ _ _ hx (h1 z hz)
      · rw [if_neg hx]
        refine List.pairwise_cons.2 ⟨fun z hz => ?_, insU_ss O x r h2⟩
        rcases (insU_mem x z r).1 hz with rfl | hz
        · exact O.lt_of (by simpa using hx) (Ne.symm e)
        · exact h1 z hz
theorem foldl_insU_ss [DecidableEq α] (O : STO lt) : ∀ (l acc : List α), SS lt acc → SS lt (l.foldl (fun acc x => insU lt x acc) acc)
  | [], _, h => h
  | x :: l, acc, h => foldl_insU_ss O l _ (insU_ss O x acc h)
theorem foldl_insU_mem [DecidableEq α] (z : α) : ∀ (l acc : List α), z ∈ l.foldl (fun acc x => insU lt x acc) acc ↔ z ∈ acc ∨ z ∈ l
  | [], acc => by simp
  | x :: l, acc => by
    rw [List.foldl_cons, foldl_insU_mem z l, insU_mem]
    simp only [List.mem_cons]
    constructor
    · rintro ((h | h) | h)
      · exact .inr (.inl h)
      · exact .inl h
      · exact .inr (.inr h)
    · rintro (h | h | h)
      · exact .inl (.inr h)
      · exact .inl (.inl h)
      · exact .inr h
theorem srtU_ss [DecidableEq α] (O : STO lt) (l : List α) : SS lt (srtU lt l) := foldl_insU_ss O l [] .nil
theorem srtU_mem [DecidableEq α] (z : α) (l : List α) : z ∈ srtU lt l ↔ z ∈ l := by rw [srtU, foldl_insU_mem]; simp
/-- What is in order with just these is that. -/
theorem srtU_eq [DecidableEq α] (O : STO lt) {l s : List α} (h : SS lt s) (hm : ∀ x, x ∈ s ↔ x ∈ l) : s = srtU lt l :=
  SS.uniq O h (srtU_ss O l) (fun x => (hm x).trans (srtU_mem x l).symm)
/-- Into a row in order, behind those that are the same. -/
def insW (lt : α → α → Bool) (x : α) : List α → List α
  | [] => [x]
  | y :: r => if lt x y then x :: y :: r else y :: insW lt x r
def srtW (lt : α → α → Bool) (l : List α) : List α := l.foldl (fun acc x => insW lt x acc) []
theorem insW_perm (x : α) : ∀ l : List α, (insW lt x l).Perm (x :: l)
  | [] => List.Perm.refl _
  | y :: r => by
    unfold insW
    split
    · exact List.Perm.refl _
    · exact ((insW_perm x r).cons y).trans (List.Perm.swap x y r)
theorem insW_ws (O : STO lt) (x : α) : ∀ l : List α, WS lt l → WS lt (insW lt x l)
  | [], _ => by simp [insW, WS]
  | y :: r, h => by
    unfold insW
    obtain ⟨h1, h2⟩ := List.pairwise_cons.1 h
    split
    · rename_i hx
      refine List.pairwise_cons.2 ⟨fun z hz => ?_, h⟩
      rcases List.mem_cons.1 hz with rfl | hz
      · exact O.asymm hx
      · exact O.ntrans (O.asymm hx) (h1 z hz)
    · rename_i hx
      refine List.pairwise_cons.2 ⟨fun z hz => ?_, insW_ws O x r h2⟩
      rcases List.mem_cons.1 ((insW_perm x r).mem_iff.1 hz) with rfl | hz
      · simpa using hx
      · exact h1 z hz
theorem foldl_insW_ws (O : STO lt) : ∀ (l acc : List α), WS lt acc → WS lt (l.foldl (fun acc x => insW lt x acc) acc)
  | [], _, h => h
  | x :: l, acc, h => foldl_insW_ws O l _ (insW_ws O x acc h)
theorem foldl_insW_perm : ∀ (l acc : List α), (l.foldl (fun acc x => insW lt x acc) acc).Perm (acc ++ l)
  | [], acc => by simp
  | x :: l, acc => (foldl_insW_perm l _).trans (((insW_perm x acc).append_right l).trans (by
      have := List.perm_middle (a := x) (l₁ := acc) (l₂ := l)
      exact this.symm))
theorem srtW_ws (O : STO lt) (l : List α) : WS lt (srtW lt l) := foldl_insW_ws O l [] .nil
theorem srtW_perm (l : List α) : (srtW lt l).Perm l := foldl_insW_perm l []
theorem srtW_eq (O : STO lt) {l s : List α} (h : WS lt s) (hp : s.Perm l) : s = srtW lt l := WS.uniq O h (srtW_ws O l) (hp.trans (srtW_perm l).symm)
theorem srtW_congr (O : STO lt) {l l' : List α} (h : l.Perm l') : srtW lt l = srtW lt l' := srtW_eq O (srtW_ws O l) ((srtW_perm l).trans h)
end
end Go.Proofs.YtpadkogpeobboaaGreat.Am
namespace Go.Proofs.YtpadkogpeobboaaGreat.Am
section
variable {α : Type} {lt : α → α → Bool}
/-- Two elements change places. -/
def sw (l : List α) (i j : Nat) : List α := match l[i]?, l[j]? with
  | some a, some b => (l.set i b).set j a
  | _, _ => l
theorem sw_eq {l : List α} {i j : Nat} {a b : α} (hi : l[i]? = some a) (hj : l[j]? = some b) : sw l i j = (l.set i b).set j a := by simp [sw, hi, hj]
theorem sw_len (l : List α) (i j : Nat) : (sw l i j).length = l.length := by
  unfold sw; split <;> simp
theorem sw_get {l : List α} {i j : Nat} {a b : α} (hi : l[i]? = some a) (hj : l[j]? = some b) (k : Nat) : (sw l i j)[k]? = if k = j then some a else if k = i then some b else l[k]? := by
  have h1 := (List.getElem?_eq_some_iff.1 hi).1
  have h2 := (List.getElem?_eq_some_iff.1 hj).1
  rw [sw_eq hi hj, List.getElem?_set, List.getElem?_set]
  by_cases e : k = j
  · subst e; simp [h2]
  · rw [if_neg (Ne.symm e), if_neg e]
    by_cases e2 : k = i
    · subst e2; simp [h1]
    · rw [if_neg (Ne.symm e2), if_neg e2]
theorem sw_perm (l : List α) (i j : Nat) : (sw l i j).Perm l := by
  unfold sw
  split
  · rename_i a b hi hj
    obtain ⟨h1, e1⟩ := List.getElem?_eq_some_iff.1 hi
    obtain ⟨h2, e2⟩ := List.getElem?_eq_some_iff.1 hj
    have := Array.swap_perm (xs := l.toArray) (i := i) (j := j) (by simpa using h1) (by simpa using h2)
    have e : (l.toArray.swap i j (by simpa using h1) (by simpa using h2)).toList = (l.set i b).set j a := by
      simp [Array.swap, e1, e2]
    have := this.toList
    rw [e] at this
    simpa using this
  · exact List.Perm.refl _
def Heap (lt : α → α → Bool) (l : List α) : Prop := ∀ i a b, 0 < i → l[i]? = some a → l[(i - 1) / 2]? = some b → lt a b = false
/-- Up, from a place on. -/
def siftUp (lt : α → α → Bool) (l : List α) (k : Nat) : List α :=
  if h : 0 < k then match l[k]?, l[(k - 1) / 2]? with
    | some a, some b => if lt a b then siftUp lt (sw l k ((k - 1) / 2)) ((k - 1) / 2) else l
    | _, _ => l
  else l
termination_by k
decreasing_by omega
theorem siftUp_step {l : List α} {k : Nat} {a b : α} (h : 0 < k) (ha : l[k]? = some a) (hb : l[(k - 1) / 2]? = some b) (hl : lt a b = true) : siftUp lt l k = siftUp lt (sw l k ((k - 1) / 2)) ((k - 1) / 2) := by
  rw [siftUp, dif_pos h, ha, hb]; simp [hl]
theorem siftUp_stop {l : List α} {k : Nat} {a b : α} (ha : l[k]? = some a) (hb : l[(k - 1) / 2]? = some b) (hl : lt a b = false) : siftUp lt l k = l := by
  rw [siftUp]; split
  · rw [ha, hb]; simp [hl]
  · rfl
theorem siftUp_zero {l : List α} : siftUp lt l 0 = l := by rw [siftUp]; simp
def HU (lt : α → α → Bool) (l : List α) (k : Nat) : Prop :=
  (∀ i a b, 0 < i → i ≠ k → l[i]? = some a → l[(i - 1) / 2]? = some b → lt a b = false) ∧
  (∀ i a b, 0 < k → 0 < i → (i - 1) / 2 = k → l[i]? = some a → l[(k - 1) / 2]? = some b → lt a b = false)
theorem siftUp_heap (O : STO lt) (k : Nat) : ∀ (l : List α), k < l.length → HU lt l k → Heap lt (siftUp lt l k) ∧ (siftUp lt l k).Perm l := by
  induction k using Nat.strongRecOn with
  | _ k ih =>
  intro l hk h
  by_cases h0 : 0 < k
  · obtain ⟨a, ha⟩ : ∃ a, l[k]? = some a := ⟨_, List.getElem?_eq_getElem hk⟩
    obtain ⟨b, hb⟩ : ∃ b, l[(k - 1) / 2]? = some b := ⟨_, List.getElem?_eq_getElem (by omega)⟩
    cases hl : lt a b
    · rw [siftUp_stop ha hb hl]
      refine ⟨fun i c d hi hc hd => ?_, List.Perm.refl _⟩
      by_cases e : i = k
      · subst e; rw [ha] at hc; rw [hb] at hd; cases hc; cases hd; exact hl
      · exact h.1 i c d hi e hc hd
    · rw [siftUp_step h0 ha hb hl]
      have hg := sw_get ha hb
      have := ih ((k - 1) / 2) (by omega) (sw l k ((k - 1) / 2)) (by rw [sw_len]; omega) ⟨fun i c d hi hne hc hd => ?_, fun i c d hu hi hp hc hd => ?_⟩
      · exact ⟨this.1, this.2.trans (sw_perm _ _ _)⟩
      · rw [hg, if_neg hne] at hc
        rw [hg] at hd
        by_cases e : i = k
        · subst e
          rw [if_pos rfl] at hc
          rw [if_pos rfl] at hd
          cases hc; cases hd
          exact O.asymm hl
        · rw [if_neg e] at hc
          by_cases e1 : (i - 1) / 2 = (k - 1) / 2
          · rw [if_pos e1] at hd
            cases hd
            have h1 := h.1 i c b hi e hc (by rw [e1]; exact hb)
            cases hc' : lt c a
            · rfl
            · rw [O.trans _ _ _ hc' hl] at h1; cases h1
          · rw [if_neg e1] at hd
            by_cases e2 : (i - 1) / 2 = k
            · rw [if_pos e2] at hd
              cases hd
              exact h.2 i c b h0 hi e2 hc hb
            · rw [if_neg e2] at hd
              exact h.1 i c d hi e hc hd
      · have hd' : l[((k - 1) / 2 - 1) / 2]? = some d := by
          rw [hg, if_neg (by omega), if_neg (by omega)] at hd; exact hd
        have hbd := h.1 ((k - 1) / 2) b d hu (by omega) hb hd'
        rw [hg, if_neg (by omega)] at hc
        by_cases e : i = k
        · rw [if_pos e] at hc; cases hc; exact hbd
        · rw [if_neg e] at hc
          exact O.ntrans hbd (h.1 i c b hi e hc (by rw [hp]; exact hb))
  · have : k = 0 := by omega
    subst this
    rw [siftUp_zero]
    exact ⟨fun i c d hi hc hd => h.1 i c d hi (by omega) hc hd, List.Perm.refl _⟩
def hpush (lt : α → α → Bool) (l : List α) (x : α) : List α := siftUp lt (l ++ [x]) l.length
theorem hpush_heap (O : STO lt) {l : List α} (h : Heap lt l) (x : α) : Heap lt (hpush lt l x) ∧ (hpush lt l x).Perm (l ++ [x]) := by
  refine siftUp_heap O _ _ (by simp) ⟨fun i a b hi hne ha hb => ?_, fun i a b _ hi hp ha hb => ?_⟩
  · have hlt := (List.getElem?_eq_some_iff.1 ha).1
    simp only [List.length_append, List.length_cons, List.length_nil] at hlt
    rw [List.getElem?_append_left (by omega)] at ha
    rw [List.getElem?_append_left (by omega)] at hb
    exact h i a b hi ha hb
  · have hlt := (List.getElem?_eq_some_iff.1 ha).1
    simp only [List.length_append, List.length_cons, List.length_nil] at hlt
    omega
theorem siftUp_len (k : Nat) : ∀ l : List α, (siftUp lt l k).length = l.length := by
  induction k using Nat.strongRecOn with
  | _ k ih =>
  intro l
  rw [siftUp]
  split
  · split
    · split
      · rw [ih _ (by omega), sw_len]
      · rfl
    · rfl
  · rfl
theorem hpush_len (l : List α) (x : α) : (hpush lt l x).length = l.length + 1 := by rw [hpush, siftUp_len]; simp
/-- The lesser child of a place that has one. -/
def child (lt : α → α → Bool) (l : List α) (k : Nat) : Nat := match l[2 * k + 2]?, l[2 * k + 1]? with
  | some c, some d => if lt c d then 2 * k + 2 else 2 * k + 1
  | _, _ => 2 * k + 1
theorem child_or (l : List α) (k : Nat) : child lt l k = 2 * k + 1 ∨ (child lt l k = 2 * k + 2 ∧ 2 * k + 2 < l.length) := by
  unfold child
  split
  · rename_i c d h1 h2
    split
    · exact .inr ⟨rfl, (List.getElem?_eq_some_iff.1 h1).1⟩
    · exact .inl rfl
  · exact .inl rfl
theorem child_T {l : List α} {k : Nat} {c d : α} (hc : l[2 * k + 2]? = some c) (hd : l[2 * k + 1]? = some d) (h : lt c d = true) : child lt l k = 2 * k + 2 := by
  unfold child; rw [hc, hd]; simp [h]
theorem child_F {l : List α} {k : Nat} {c d : α} (hc : l[2 * k + 2]? = some c) (hd : l[2 * k + 1]? = some d) (h : lt c d = false) : child lt l k = 2 * k + 1 := by
  unfold child; rw [hc, hd]; simp [h]
theorem child_N {l : List α} {k : Nat} (h : ¬ 2 * k + 2 < l.length) : child lt l k = 2 * k + 1 := by
  unfold child; rw [List.getElem?_eq_none (by omega)]
/-- Down, from a place on. -/
def siftDown (lt : α → α → Bool) (l : List α) (k : Nat) : List α :=
  if h : 2 * k + 1 < l.length then match l[child lt l k]?, l[k]? with
    | some a, some b => if lt a b then siftDown lt (sw l (child lt l k) k) (child lt l k) else l
    | _, _ => l
  else l
termination_by l.length - k
decreasing_by
  rw [sw_len]
  rcases child_or (lt := lt) l k with h1 | h1 <;> omega
theorem siftDown_leaf {l : List α} {k : Nat} (h : ¬ 2 * k + 1 < l.length) : siftDown lt l k = l := by rw [siftDown, dif_neg h]
theorem siftDown_step {l : List α} {k : Nat} {a b : α} (h : 2 * k + 1 < l.length) (ha : l[child lt l k]? = some a) (hb : l[k]? = some b) (hl : lt a b = true) : siftDown lt l k = siftDown lt (sw l (child lt l k) k) (child lt l k) := by
  rw [siftDown, dif_pos h, ha, hb]; simp [hl]
theorem siftDown_stop {l : List α} {k : Nat} {a b : α} (ha : l[child lt l k]? = some a) (hb : l[k]? = some b) (hl : lt a b = false) : siftDown lt l k = l := by
  rw [siftDown]; split
  · rw [ha, hb]; simp [hl]
  · rfl
theorem child_le (O : STO lt) {l : List α} {k i : Nat} {c d : α} (hi : 0 < i) (hp : (i - 1) / 2 = k) (hc : l[i]? = some c) (hd : l[child lt l k]? = some d) : lt c d = false := by
  have hlt := (List.getElem?_eq_some_iff.1 hc).1
  unfold child at hd
  split at hd
  · rename_i x y h1 h2
    split at hd
    · rename_i hxy
      rw [h1] at hd; cases hd
      rcases (show i = 2 * k + 1 ∨ i = 2 * k + 2 by omega) with e | e
      · subst e; rw [h2] at hc; cases hc; exact O.asymm hxy
      · subst e; rw [h1] at hc; cases hc; exact O.irr _
    · rename_i hxy
      rw [h2] at hd; cases hd
      rcases (show i = 2 * k + 1 ∨ i = 2 * k + 2 by omega) with e | e
      · subst e; rw [h2] at hc; cases hc; exact O.irr _
      · subst e; rw [h1] at hc; cases hc; simpa using hxy
  · rename_i hno
    rcases (show i = 2 * k + 1 ∨ i = 2 * k + 2 by omega) with e | e
    · subst e; rw [hc] at hd; cases hd; exact O.irr _
    · subst e; exact absurd hd (fun h => hno c d hc h)
def HD (lt : α → α → Bool) (l : List α) (k : Nat) : Prop :=
  (∀ i a b, 0 < i → (i - 1) / 2 ≠ k → l[i]? = some a → l[(i - 1) / 2]? = some b → lt a b = false) ∧
  (∀ i a b, 0 < k → 0 < i → (i - 1) / 2 = k → l[i]? = some a → l[(k - 1) / 2]? = some b → lt a b = false)
theorem siftDown_heap (O : STO lt) : ∀ (n k : Nat) (l : List α), l.length - k ≤ n → HD lt l k → Heap lt (siftDown lt l k) ∧ (siftDown lt l k).Perm l := by
  intro n
  induction n with
  | zero =>
    intro k l hn h
    rw [siftDown_leaf (by omega)]
    refine ⟨fun i c d hi hc hd => ?_, List.Perm.refl _⟩
    have := (List.getElem?_eq_some_iff.1 hc).1
    exact h.1 i c d hi (by omega) hc hd
  | succ n ih =>
    intro k l hn h
    by_cases h0 : 2 * k + 1 < l.length
    · have hcl : child lt l k < l.length := by rcases child_or (lt := lt) l k with h1 | h1 <;> omega
      have hcp : (child lt l k - 1) / 2 = k := by rcases child_or (lt := lt) l k with h1 | h1 <;> omega
      have hc0 : 0 < child lt l k := by rcases child_or (lt := lt) l k with h1 | h1 <;> omega
      obtain ⟨a, ha⟩ : ∃ a, l[child lt l k]? = some a := ⟨_, List.getElem?_eq_getElem hcl⟩
      obtain ⟨b, hb⟩ : ∃ b, l[k]? = some b := ⟨_, List.getElem?_eq_getElem (by omega)⟩
      have hch := fun i c (hi : 0 < i) hp hc => child_le O (l := l) (k := k) (i := i) (c := c) hi hp hc ha
      cases hl : lt a b
      · rw [siftDown_stop ha hb hl]
        refine ⟨fun i c d hi hc hd => ?_, List.Perm.refl _⟩
        by_cases e : (i - 1) / 2 = k
        · rw [e, hb] at hd; cases hd
          exact O.ntrans hl (hch i c hi e hc)
        · exact h.1 i c d hi e hc hd
      · rw [siftDown_step h0 ha hb hl]
        have hg := sw_get ha hb
        generalize hm : child lt l k = m at *
        have := ih m (sw l m k) (by rw [sw_len]; omega) ⟨fun i c d hi hne hc hd => ?_, fun i c d hm0 hi hp hc hd => ?_⟩
        · exact ⟨this.1, this.2.trans (sw_perm _ _ _)⟩
        · rw [hg] at hc hd
          by_cases e : (i - 1) / 2 = k
          · rw [if_pos e] at hd; cases hd
            rw [if_neg (by omega)] at hc
            by_cases e1 : i = m
            · rw [if_pos e1] at hc; cases hc; exact O.asymm hl
            · rw [if_neg e1] at hc; exact hch i c hi e hc
          · rw [if_neg e, if_neg hne] at hd
            by_cases e1 : i = k
            · rw [if_pos e1] at hc; cases hc
              subst e1
              exact h.2 m a d hi hc0 hcp ha hd
            · rw [if_neg e1] at hc
              by_cases e2 : i = m
              · subst e2; exact absurd hcp e
              · rw [if_neg e2] at hc
                exact h.1 i c d hi e hc hd
        · rw [hg] at hc hd
          rw [if_neg (by omega), if_neg (by omega)] at hc
          rw [if_pos (by omega)] at hd
          cases hd
          exact h.1 i c a hi (by omega) hc (by rw [hp]; exact ha)
    · rw [siftDown_leaf h0]
      refine ⟨fun i c d hi hc hd => ?_, List.Perm.refl _⟩
      have := (List.getElem?_eq_some_iff.1 hc).1
      exact h.1 i c d hi (by omega) hc hd
theorem siftDown_len (n k : Nat) : ∀ l : List α, l.length - k ≤ n → (siftDown lt l k).length = l.length := by
  induction n generalizing k with
  | zero => intro l h; rw [siftDown_leaf (by omega)]
  | succ n ih =>
    intro l h
    rw [siftDown]
    split
    · split
      · split
        · rw [ih _ _ (by rw [sw_len]; rcases child_or (lt := lt) l k with h1 | h1 <;> omega), sw_len]
        · rfl
      · rfl
    · rfl
/-- What is left of a heap when its first goes: the last takes its place, and goes down. -/
def hrest (lt : α → α → Bool) : List α → List α
  | [] => []
  | m :: r => siftDown lt (((m :: r).set 0 ((m :: r).getLast (by simp))).take r.length) 0
theorem set_last_perm (m : α) (r : List α) : (((m :: r).set 0 ((m :: r).getLast (by simp))).take r.length).Perm r := by
  rcases List.eq_nil_or_concat r with rfl | ⟨mid, x, rfl⟩
  · simp
  · simp only [List.set_cons_zero]
    have e : (m :: (mid.concat x)).getLast (by simp) = x := by simp [List.concat_eq_append, List.getLast_cons]
    rw [e]
    have e2 : (x :: mid.concat x).take (mid.concat x).length = x :: mid := by
      simp [List.concat_eq_append]
    rw [e2, List.concat_eq_append]
    exact (List.perm_append_comm (l₁ := [x]) (l₂ := mid))
theorem hrest_heap (O : STO lt) {m : α} {r : List α} (h : Heap lt (m :: r)) : Heap lt (hrest lt (m :: r)) ∧ (hrest lt (m :: r)).Perm r := by
  have := siftDown_heap O _ 0 (((m :: r).set 0 ((m :: r).getLast (by simp))).take r.length) (Nat.le_refl _) ⟨fun i a b hi hne ha hb => ?_, fun i a b h0 => by omega⟩
  · exact ⟨this.1, this.2.trans (set_last_perm m r)⟩
  · rw [List.getElem?_take] at ha hb
    split at ha
    · split at hb
      · rw [List.getElem?_set_ne (by omega)] at ha hb
        exact h i a b hi ha hb
      · cases hb
    · cases ha
theorem hrest_len : ∀ l : List α, (hrest lt l).length = l.length - 1
  | [] => rfl
  | m :: r => by
    rw [hrest, siftDown_len _ _ _ (Nat.le_refl _)]
    simp
theorem heap_min (O : STO lt) {m : α} {r : List α} (h : Heap lt (m :: r)) : ∀ (i : Nat) (a : α), (m :: r)[i]? = some a → lt a m = false := by
  intro i
  induction i using Nat.strongRecOn with
  | _ i ih =>
  intro a ha
  by_cases h0 : i = 0
  · subst h0; simp at ha; subst ha; exact O.irr _
  · have hlt := (List.getElem?_eq_some_iff.1 ha).1
    obtain ⟨b, hb⟩ : ∃ b, (m :: r)[(i - 1) / 2]? = some b := ⟨_, List.getElem?_eq_getElem (by omega)⟩
    exact O.ntrans (ih _ (by omega) b hb) (h i a b (by omega) ha hb)
def hdrain (lt : α → α → Bool) : Nat → List α → List α
  | 0, _ => []
  | k + 1, l => match l with
    | [] => []
    | m :: r => m :: hdrain lt k (hrest lt (m :: r))
theorem hdrain_ok (O : STO lt) : ∀ (k : Nat) (l : List α), l.length ≤ k → Heap lt l → WS lt (hdrain lt k l) ∧ (hdrain lt k l).Perm l
  | 0, l, hk, _ => by
    have : l = [] := List.length_eq_zero_iff.1 (by omega)
    subst this; exact ⟨.nil, List.Perm.refl _⟩
  | k + 1, [], _, _ => ⟨.nil, List.Perm.refl _⟩
  | k + 1, m :: r, hk, h => by
    obtain ⟨h1, h2⟩ := hrest_heap O h
    obtain ⟨h3, h4⟩ := hdrain_ok O k (hrest lt (m :: r)) (by rw [hrest_len]; simpa using hk) h1
    refine ⟨List.pairwise_cons.2 ⟨fun z hz => ?_, h3⟩, (h4.trans h2).cons m⟩
    have hz' : z ∈ m :: r := List.mem_cons_of_mem _ ((h4.trans h2).mem_iff.1 hz)
    obtain ⟨i, hi⟩ := List.getElem?_of_mem hz'
    exact heap_min O h i z hi
theorem hdrain_eq (O : STO lt) {l : List α} (h : Heap lt l) {k : Nat} (hk : l.length ≤ k) : hdrain lt k l = srtW lt l := srtW_eq O (hdrain_ok O k l hk h).1 (hdrain_ok O k l hk h).2
/-- One heap out of a list. -/
theorem hdrain_le : ∀ (k : Nat) (l : List α), (hdrain lt k l).length ≤ k
  | 0, _ => Nat.le_refl _
  | k + 1, [] => Nat.zero_le _
  | k + 1, m :: r => by simp only [hdrain, List.length_cons]; have := hdrain_le k (hrest lt (m :: r)); omega
def hfill (lt : α → α → Bool) (l : List α) : List α := l.foldl (hpush lt) []
theorem hfill_snoc (l : List α) (x : α) : hfill lt (l ++ [x]) = hpush lt (hfill lt l) x := by simp [hfill]
theorem heap_nil : Heap lt ([] : List α) := fun i a b _ h => by simp at h
theorem foldl_hpush (O : STO lt) : ∀ (l acc : List α), Heap lt acc → Heap lt (l.foldl (hpush lt) acc) ∧ (l.foldl (hpush lt) acc).Perm (acc ++ l)
  | [], acc, h => ⟨h, by simp⟩
  | x :: l, acc, h => by
    obtain ⟨h1, h2⟩ := hpush_heap O h x
    obtain ⟨h3, h4⟩ := foldl_hpush O l _ h1
    refine ⟨h3, h4.trans ((h2.append_right l).trans ?_)⟩
    simp
theorem hfill_ok (O : STO lt) (l : List α) : Heap lt (hfill lt l) ∧ (hfill lt l).Perm l := foldl_hpush O l [] heap_nil
theorem hfill_len (l : List α) : (hfill lt l).length = l.length := by
  have : ∀ (l acc : List α), (l.foldl (hpush lt) acc).length = acc.length + l.length := by
    intro l
    induction l with
    | nil => simp
    | cons x l ih => intro acc; rw [List.foldl_cons, ih, hpush_len]; simp; omega
  rw [hfill, this]; simp
/-- All of a heap: the list in its order. -/
theorem hsort_eq (O : STO lt) (l : List α) : hdrain lt l.length (hfill lt l) = srtW lt l := by
  rw [hdrain_eq O (hfill_ok O l).1 (by rw [hfill_len]; exact Nat.le_refl _)]
  exact srtW_congr O (hfill_ok O l).2
theorem srtW_srtU [DecidableEq α] (O : STO lt) {l l' : List α} (hn : l'.Nodup) (hm : ∀ x, x ∈ l' ↔ x ∈ l) : srtW lt l' = srtU lt l := by
  refine srtU_eq O ?_ fun x => ((srtW_perm l').mem_iff).trans (hm x)
  have h1 := srtW_ws O l'
  have h2 : (srtW lt l').Nodup := (srtW_perm l').nodup_iff.2 hn
  exact (List.Pairwise.and h1 h2).imp fun {a b} h => O.lt_of h.1 h.2
end
end Go.Proofs.YtpadkogpeobboaaGreat.Am
namespace Go.Proofs.YtpadkogpeobboaaGreat.Am
structure Ev where
  time : Int
  to : Int
  from' : Int
  count : Int
  n : Int
  kind : Int
  arg : Int
  deriving DecidableEq, Inhabited
structure Ou where
  time : Int
  proc : Int
  count : Int
  n : Int
  value : Int
  deriving DecidableEq, Inhabited
structure St where
  x : Int
  y : Int
  count : Int
  deriving DecidableEq, Inhabited
structure Pa where
  ev : Ev
  after : St
  sends : List Ev
  outs : List Ou
  deriving DecidableEq, Inhabited
structure La where
  proc : Int
  base : St
  done : List Pa
  deriving DecidableEq, Inhabited
structure Vi where
  inc : Int
  version : Int
  events : List Ev
  deriving DecidableEq, Inhabited
structure Nd where
  id : Int
  up : Bool
  inc : Int
  g : Int
  lanes : List La
  kept : List Ev
  outs : List Ou
  led : Int
  version : Int
  views : List Vi
  known : List Int
  round : Int
  low : Int
  deriving DecidableEq, Inhabited
def evN (e : Ev) : List Int := [e.time, e.to, e.from', e.count, e.n, e.kind, e.arg]
def ouL (o : Ou) : List Int := [o.time, o.proc, o.count, o.n, o.value]
def stL (s : St) : List Int := [s.x, s.y, s.count]
theorem evN_inj {a b : Ev} (h : evN a = evN b) : a = b := by
  cases a; cases b; simp [evN] at h; simp [h]
def cmpL : List Int → List Int → Int
  | a :: az, b :: bs => if a < b then -1 else if b < a then 1 else cmpL az bs
  | [], [] => 0
  | [], _ :: _ => -1
  | _ :: _, [] => 1
theorem cmpL_cons (a b : Int) (az bs : List Int) : cmpL (a :: az) (b :: bs) = if a < b then -1 else if b < a then 1 else cmpL az bs := rfl
theorem cmpL_lex : ∀ az bs : List Int, az.length = bs.length → decide (cmpL az bs < 0) = lexB az bs
  | [], [], _ => rfl
  | [], _ :: _, h => by simp at h
  | _ :: _, [], h => by simp at h
  | a :: az, b :: bs, h => by
    rw [cmpL_cons, lexB_cons]
    by_cases h1 : a < b
    · rw [if_pos h1, if_pos h1]; rfl
    · rw [if_neg h1, if_neg h1]
      by_cases h2 : b < a
      · rw [if_pos h2, if_pos h2]; rfl
      · rw [if_neg h2, if_neg h2]; exact cmpL_lex az bs (by simpa using h)
theorem cmpL_drop {az bs : List Int} {i : Nat} {a b : Int} (ha : az[i]? = some a) (hb : bs[i]? = some b) : cmpL (az.drop i) (bs.drop i) = if a < b then -1 else if b < a then 1 else cmpL (az.drop (i + 1)) (bs.drop (i + 1)) := by
  obtain ⟨h1, e1⟩ := List.getElem?_eq_some_iff.1 ha
  obtain ⟨h2, e2⟩ := List.getElem?_eq_some_iff.1 hb
  rw [List.drop_eq_getElem_cons h1, List.drop_eq_getElem_cons h2, e1, e2, cmpL_cons]
def evLt (a b : Ev) : Bool := lexB (evN a) (evN b)
def ouLt (a b : Ou) : Bool := lexB (ouL a) (ouL b)
theorem evSTO : STO evLt := ⟨fun a => lexB_irr _, fun a b c => lexB_trans _ _ _, fun a b h => lexB_tot _ _ rfl (fun e => h (evN_inj e))⟩
/-- Events in their order, each once. -/
def evSort (l : List Ev) : List Ev := srtU evLt l
def ouSort (l : List Ou) : List Ou := srtW ouLt l
/-- Events, each once, az they come first. -/
def evOnce : List Ev → List Ev := List.foldl (fun acc e => if e ∈ acc then acc else acc ++ [e]) []
theorem foldl_once (x : Ev) : ∀ (l acc : List Ev), x ∈ l.foldl (fun acc e => if e ∈ acc then acc else acc ++ [e]) acc ↔ x ∈ acc ∨ x ∈ l
  | [], acc => by simp
  | e :: l, acc => by
    rw [List.foldl_cons, foldl_once x l]
    split
    · rename_i h
      simp only [List.mem_cons]
      constructor
      · rintro (h' | h')
        · exact .inl h'
        · exact .inr (.inr h')
      · rintro (h' | h' | h')
        · exact .inl h'
        · subst h'; exact .inl h
        · exact .inr h'
    · simp only [List.mem_append, List.mem_cons, List.not_mem_nil, or_false, or_assoc]
theorem foldl_once_nodup : ∀ (l acc : List Ev), acc.Nodup → (l.foldl (fun acc e => if e ∈ acc then acc else acc ++ [e]) acc).Nodup
  | [], acc, h => h
  | e :: l, acc, h => by
    rw [List.foldl_cons]
    refine foldl_once_nodup l _ ?_
    split
    · exact h
    · rename_i hne
      exact List.nodup_append.2 ⟨h, by simp, fun a ha b hb => by
        rw [List.mem_singleton] at hb; subst hb; rintro rfl; exact hne ha⟩
theorem evOnce_mem (x : Ev) (l : List Ev) : x ∈ evOnce l ↔ x ∈ l := by rw [evOnce, foldl_once]; simp
theorem evOnce_nodup (l : List Ev) : (evOnce l).Nodup := foldl_once_nodup l [] .nil
theorem evOnce_snoc (l : List Ev) (e : Ev) : evOnce (l ++ [e]) = if e ∈ evOnce l then evOnce l else evOnce l ++ [e] := by
  simp only [evOnce, List.foldl_append, List.foldl_cons, List.foldl_nil]
  rfl
theorem evOnce_len (l : List Ev) : (evOnce l).length ≤ l.length := by
  have : ∀ (l acc : List Ev), (l.foldl (fun acc e => if e ∈ acc then acc else acc ++ [e]) acc).length ≤ acc.length + l.length := by
    intro l
    induction l with
    | nil => simp
    | cons e l ih =>
      intro acc
      rw [List.foldl_cons]
      refine Nat.le_trans (ih _) ?_
      split <;> simp <;> omega
  have := this l []
  simpa [evOnce] using this
/-- What a heap makes of events, each once. -/
theorem evSort_heap (l : List Ev) : hdrain evLt (evOnce l).length (hfill evLt (evOnce l)) = evSort l := by
  rw [hsort_eq evSTO, srtW_srtU evSTO (evOnce_nodup l) (fun x => evOnce_mem x l)]; rfl
def nodeOf (p : Int) : Int := if 0 ≤ p ∧ p ≤ 3 then p.tmod 3 else -1
def appFirst (p : Int) : Ev := if 0 ≤ p ∧ p ≤ 3 then ⟨0, p, -1, 0, p, 0, p⟩ else ⟨0, 0, 0, 0, 0, 0, 0⟩
def procs (id : Int) : Nat → List Int
  | 0 => []
  | k + 1 => if nodeOf (k : Int) = id then procs id k ++ [(k : Int)] else procs id k
theorem procs_succ (id : Int) (k : Nat) : procs id (k + 1) = if nodeOf (k : Int) = id then procs id k ++ [(k : Int)] else procs id k := rfl
theorem procs_len (id : Int) : ∀ k, (procs id k).length ≤ k
  | 0 => Nat.le_refl _
  | k + 1 => by
    have := procs_len id k
    rw [procs_succ]; split <;> simp <;> omega
def pkx (bs : List Nat) (p : Nat) : Nat := bs.getD (p % bs.length) 0 * 131 + bs.getD ((p * 7 + 3) % bs.length) 0 * 1117 + p * 29 + p / bs.length * 53
def pk (bs : List Nat) (p n : Nat) : Nat :=
  if n = 0 ∨ bs.length = 0 then 0
  else if p < bs.length then bs.getD p 0 % n
  else (pkx bs p ^^^ pkx bs p / 64) % n
def lane0 (p : Int) : La := ⟨p, ⟨0, 0, 0⟩, []⟩
def bp (l : La) : St × Int := (l.base, l.proc)
def keptP (a b : Nd) : Prop := a.id = b.id ∧ a.inc = b.inc ∧ a.g = b.g ∧ a.led = b.led ∧ a.kept = b.kept ∧ a.outs = b.outs ∧ a.lanes.map bp = b.lanes.map bp
instance (a b : Nd) : Decidable (keptP a b) := by unfold keptP; infer_instance
theorem cmp_ne {a b r : Int} (h : ¬ (if a < b then -1 else if b < a then 1 else 0 : Int) = 0) : (if a < b then -1 else if b < a then 1 else r) = (if a < b then -1 else if b < a then 1 else 0 : Int) := by
  split
  · rfl
  · split
    · rfl
    · rename_i h1 h2; rw [if_neg h1, if_neg h2] at h; exact absurd rfl h
theorem cmp_eq {a b r : Int} (h : (if a < b then -1 else if b < a then 1 else 0 : Int) = 0) : (if a < b then -1 else if b < a then 1 else r) = r := by
  split at h
  · omega
  · split at h
    · omega
    · rename_i h1 h2; rw [if_neg h1, if_neg h2]
def nd0 : Nd := ⟨0, false, 0, 0, [], [], [], 0, 0, [], [], 0, 0⟩
def vi0 : Vi := ⟨0, 0, []⟩
def nodeStart (id : Int) : Nd := if 0 ≤ id ∧ id ≤ 2 then ⟨id, true, 1, 0, (procs id 4).map lane0, evSort ((procs id 4).map appFirst), [], 0, 1, [vi0, vi0, vi0], [0, 0, 0], 0, 41⟩ else nd0
def laneBlank (l : La) : La := ⟨l.proc, l.base, []⟩
def nodeBlank (n : Nd) : Nd := ⟨n.id, n.up, n.inc, n.g, n.lanes.map laneBlank, n.kept, n.outs, n.led, 0, [vi0, vi0, vi0], [0, 0, 0], 0, 41⟩
/-- How many of the first nodes have the process. -/
def fnd (p : Int) (i : Nat) : Int := if 0 ≤ nodeOf p ∧ nodeOf p < i then 1 else 0
end Go.Proofs.YtpadkogpeobboaaGreat.Am
namespace Go.Proofs.YtpadkogpeobboaaGreat.Am
section
variable {α : Type} (sz : α → Nat) (mk : Nat → α → α)
def szs : List α → Nat
  | [] => 0
  | p :: r => sz p + szs r
def mks : Nat → List α → List α
  | _, [] => []
  | k, p :: r => mk k p :: mks (k + sz p) r
theorem mks_len (k : Nat) (l : List α) : (mks sz mk k l).length = l.length := by
  induction l generalizing k with
  | nil => rfl
  | cons p r ih => simp [mks, ih]
theorem szs_take {l : List α} {i : Nat} {p : α} (h : l[i]? = some p) : szs sz (l.take (i + 1)) = szs sz (l.take i) + sz p := by
  induction l generalizing i with
  | nil => simp at h
  | cons a r ih =>
    cases i with
    | zero => simp at h; subst h; simp [szs]
    | succ i => simp at h; simp only [List.take_succ_cons, szs, ih h]; omega
theorem szs_take_le (l : List α) (i : Nat) : szs sz (l.take i) ≤ szs sz l := by
  induction l generalizing i with
  | nil => simp
  | cons a r ih =>
    cases i with
    | zero => simp [szs]
    | succ i => simp only [List.take_succ_cons, szs]; have := ih i; omega
theorem szs_at {l : List α} {i : Nat} {p : α} (h : l[i]? = some p) : szs sz (l.take i) + sz p ≤ szs sz l := by
  rw [← szs_take sz h]; exact szs_take_le sz l (i + 1)
theorem szs_len (h : ∀ p, 1 ≤ sz p) (l : List α) : l.length ≤ szs sz l := by
  induction l with
  | nil => exact Nat.zero_le _
  | cons a r ih => have := h a; simp only [szs, List.length_cons]; omega
theorem mks_get {l : List α} {k i : Nat} {p : α} (h : l[i]? = some p) : (mks sz mk k l)[i]? = some (mk (k + szs sz (l.take i)) p) := by
  induction l generalizing i k with
  | nil => simp at h
  | cons a r ih =>
    cases i with
    | zero => simp at h; subst h; simp [mks, szs]
    | succ i => simp at h; simp only [mks, List.getElem?_cons_succ, ih h, List.take_succ_cons, szs]; rw [Nat.add_assoc]
end
theorem take_snoc {α : Type} {l : List α} {i : Nat} {e : α} (h : l[i]? = some e) : l.take (i + 1) = l.take i ++ [e] := by
  rw [List.take_add_one, h]; rfl
theorem drop_cons {α : Type} {l : List α} {i : Nat} {p : α} (h : l[i]? = some p) : l.drop i = p :: l.drop (i + 1) := by
  obtain ⟨hi, rfl⟩ := List.getElem?_eq_some_iff.1 h
  exact List.drop_eq_getElem_cons hi
def mEv (k : Nat) : Ev := ⟨k, (k + 1 : Nat), (k + 1 + 1 : Nat), (k + 1 + 1 + 1 : Nat), (k + 1 + 1 + 1 + 1 : Nat), (k + 1 + 1 + 1 + 1 + 1 : Nat), (k + 1 + 1 + 1 + 1 + 1 + 1 : Nat)⟩
def mOu (k : Nat) : Ou := ⟨k, (k + 1 : Nat), (k + 1 + 1 : Nat), (k + 1 + 1 + 1 : Nat), (k + 1 + 1 + 1 + 1 : Nat)⟩
def mSt (k : Nat) : St := ⟨k, (k + 1 : Nat), (k + 1 + 1 : Nat)⟩
def zI : Int → Nat := fun _ => 1
def kI : Nat → Int → Int := fun k _ => (k : Int)
def zEv : Ev → Nat := fun _ => 7
def kEv : Nat → Ev → Ev := fun k _ => mEv k
def zOu : Ou → Nat := fun _ => 5
def kOu : Nat → Ou → Ou := fun k _ => mOu k
def zPa (p : Pa) : Nat := 10 + szs zEv p.sends + szs zOu p.outs
def kPa (k : Nat) (p : Pa) : Pa := ⟨mEv k, mSt (k + 7), mks zEv kEv (k + 10) p.sends, mks zOu kOu (k + 10 + szs zEv p.sends) p.outs⟩
def zLa (l : La) : Nat := 4 + szs zPa l.done
def kLa (k : Nat) (l : La) : La := ⟨(k : Int), mSt (k + 1), mks zPa kPa (k + 4) l.done⟩
def zVi (v : Vi) : Nat := 2 + szs zEv v.events
def kVi (k : Nat) (v : Vi) : Vi := ⟨(k : Int), (k + 1 : Nat), mks zEv kEv (k + 2) v.events⟩
def zNd (n : Nd) : Nat := szs zLa n.lanes + szs zEv n.kept + szs zOu n.outs + szs zVi n.views + szs zI n.known
def kNd (k : Nat) (n : Nd) : Nd := { n with
  lanes := mks zLa kLa k n.lanes
  kept := mks zEv kEv (k + szs zLa n.lanes) n.kept
  outs := mks zOu kOu (k + szs zLa n.lanes + szs zEv n.kept) n.outs
  views := mks zVi kVi (k + szs zLa n.lanes + szs zEv n.kept + szs zOu n.outs) n.views
  known := mks zI kI (k + szs zLa n.lanes + szs zEv n.kept + szs zOu n.outs + szs zVi n.views) n.known }
end Go.Proofs.YtpadkogpeobboaaGreat.Am
namespace Go.Proofs.YtpadkogpeobboaaGreat.Am
def lf (left c : Nat) : Int := if c ≤ left then ((left - c : Nat) : Int) else -1
theorem lf_pos {left c : Nat} (h : c ≤ left) : lf left c = ((left - c : Nat) : Int) := if_pos h
theorem lf_neg {left c : Nat} (h : ¬ c ≤ left) : lf left c = -1 := if_neg h
theorem lf_lt {left c : Nat} (h : lf left c < 0) : ¬ c ≤ left := fun h2 => by rw [lf_pos h2] at h; omega
theorem lf_ge {left c : Nat} (h : ¬ lf left c < 0) : c ≤ left := Decidable.byContradiction fun h2 => h (by rw [lf_neg h2]; decide)
def cPa (p : Pa) : Nat := p.sends.length + p.outs.length
def cPas (l : List Pa) : Nat := l.length + szs cPa l
def cLa (l : La) : Nat := cPas l.done
def cLas (l : List La) : Nat := l.length + szs cLa l
def cVi (v : Vi) : Nat := v.events.length
def cVis (l : List Vi) : Nat := l.length + szs cVi l
def cNd (n : Nd) : Nat := cLas n.lanes + n.kept.length + n.outs.length + cVis n.views + n.known.length
end Go.Proofs.YtpadkogpeobboaaGreat.Am
namespace Go.Proofs.YtpadkogpeobboaaGreat.Am
def evOk (e : Ev) : Prop := (0 ≤ e.time ∧ e.time ≤ 40) ∧ (0 ≤ e.to ∧ e.to ≤ 3) ∧ (-1 ≤ e.from' ∧ e.from' ≤ 3) ∧ (0 ≤ e.count ∧ e.count ≤ 12) ∧ (0 ≤ e.n ∧ e.n ≤ 3) ∧ (0 ≤ e.kind ∧ e.kind ≤ 3) ∧ (0 ≤ e.arg ∧ e.arg ≤ 999)
instance (e : Ev) : Decidable (evOk e) := by unfold evOk; infer_instance
def stOk (s : St) : Prop := (0 ≤ s.x ∧ s.x ≤ 999) ∧ (0 ≤ s.y ∧ s.y ≤ 999) ∧ (0 ≤ s.count ∧ s.count ≤ 12)
instance (s : St) : Decidable (stOk s) := by unfold stOk; infer_instance
def ouOk (o : Ou) : Prop := (0 ≤ o.time ∧ o.time ≤ 40) ∧ (0 ≤ o.proc ∧ o.proc ≤ 3) ∧ (0 ≤ o.count ∧ o.count ≤ 11) ∧ (0 ≤ o.n ∧ o.n ≤ 1) ∧ (0 ≤ o.value ∧ o.value ≤ 999)
instance (o : Ou) : Decidable (ouOk o) := by unfold ouOk; infer_instance
section
variable {α : Type} (ok : α → Bool) (lt : α → α → Bool)
/-- All are ok, each one ahead of the next. -/
def chk2 : Option α → List α → Bool
  | _, [] => true
  | o, a :: r => ok a && (match o with
    | none => true
    | some b => lt b a) && chk2 (some a) r
theorem chk2_bad {o : Option α} {a : α} {r : List α} (h : ok a = false) : chk2 ok lt o (a :: r) = false := by simp [chk2, h]
theorem chk2_lt {b a : α} {r : List α} (h : lt b a = false) : chk2 ok lt (some b) (a :: r) = false := by simp [chk2, h]
theorem chk2_step {b a : α} {r : List α} (h : ok a = true) (h2 : lt b a = true) : chk2 ok lt (some b) (a :: r) = chk2 ok lt (some a) r := by simp [chk2, h, h2]
theorem chk2_first {a : α} {r : List α} (h : ok a = true) : chk2 ok lt none (a :: r) = chk2 ok lt (some a) r := by simp [chk2, h]
end
def last? {α : Type} (l : List α) (i : Nat) : Option α := match i with
  | 0 => none
  | i + 1 => l[i]?
def lsOk {α : Type} (ok : α → Bool) (lt : α → α → Bool) (l : List α) (most : Int) : Bool := decide ((l.length : Int) ≤ most) && chk2 ok lt none l
theorem lsOk_long {α : Type} {ok : α → Bool} {lt : α → α → Bool} {l : List α} {most : Int} (h : ¬ (l.length : Int) ≤ most) : lsOk ok lt l most = false := by simp [lsOk, h]
theorem lsOk_eq {α : Type} {ok : α → Bool} {lt : α → α → Bool} {l : List α} {most : Int} (h : (l.length : Int) ≤ most) : lsOk ok lt l most = chk2 ok lt none l := by simp [lsOk, h]
def okE (e : Ev) : Bool := decide (evOk e)
def okO (o : Ou) : Bool := decide (ouOk o)
theorem lexB_iff (a b : Int) (x y : List Int) : lexB (a :: x) (b :: y) = true ↔ a < b ∨ (a = b ∧ lexB x y = true) := by
  rw [lexB_cons]
  by_cases h1 : a < b
  · simp [h1]
  · by_cases h2 : b < a
    · simp [h1, h2]; omega
    · have : a = b := by omega
      subst this; simp
def lexE (a b : Ev) : Prop := a.time < b.time ∨ (a.time = b.time ∧ (a.to < b.to ∨ (a.to = b.to ∧ (a.from' < b.from' ∨ (a.from' = b.from' ∧ (a.count < b.count ∨ (a.count = b.count ∧ (a.n < b.n ∨ (a.n = b.n ∧ (a.kind < b.kind ∨ (a.kind = b.kind ∧ a.arg < b.arg)))))))))))
instance (a b : Ev) : Decidable (lexE a b) := by unfold lexE; infer_instance
theorem evLt_dec (a b : Ev) : evLt a b = decide (lexE a b) := by
  rw [Bool.eq_iff_iff, decide_eq_true_iff]
  simp only [evLt, evN, lexB_iff, lexE]
  simp [lexB]
def lexO (a b : Ou) : Prop := a.time < b.time ∨ (a.time = b.time ∧ (a.proc < b.proc ∨ (a.proc = b.proc ∧ (a.count < b.count ∨ (a.count = b.count ∧ (a.n < b.n ∨ (a.n = b.n ∧ a.value < b.value)))))))
instance (a b : Ou) : Decidable (lexO a b) := by unfold lexO; infer_instance
theorem ouLt_dec (a b : Ou) : ouLt a b = decide (lexO a b) := by
  rw [Bool.eq_iff_iff, decide_eq_true_iff]
  simp only [ouLt, ouL, lexB_iff, lexO]
  simp [lexB]
def paOk (proc : Int) (p : Pa) : Bool := decide (evOk p.ev) && decide (p.ev.to = proc) && decide (stOk p.after) && lsOk okE evLt p.sends 2 && lsOk okO ouLt p.outs 2
def paLt (a b : Pa) : Bool := evLt a.ev b.ev
def laOk (l : La) : Bool := decide (0 ≤ l.proc ∧ l.proc ≤ 3) && decide (stOk l.base) && lsOk (paOk l.proc) paLt l.done 100
theorem laOk_go {l : La} (h1 : 0 ≤ l.proc ∧ l.proc ≤ 3) (h2 : stOk l.base) (h3 : l.done.length ≤ 100) : laOk l = chk2 (paOk l.proc) paLt none l.done := by
  rw [laOk, decide_eq_true h1, decide_eq_true h2, lsOk_eq (by omega)]; rfl
theorem laOk_1 {l : La} (h : ¬ (0 ≤ l.proc ∧ l.proc ≤ 3)) : laOk l = false := by rw [laOk, decide_eq_false h]; rfl
theorem laOk_2 {l : La} (h : ¬ stOk l.base) : laOk l = false := by rw [laOk, decide_eq_false h]; simp
theorem laOk_3 {l : La} (h : ¬ l.done.length ≤ 100) : laOk l = false := by rw [laOk, lsOk_long (by omega)]; simp
end Go.Proofs.YtpadkogpeobboaaGreat.Am
namespace Go.Proofs.YtpadkogpeobboaaGreat.Am
noncomputable def kb (p : Prop) : Bool := @decide p (Classical.propDecidable p)
theorem kb_t {p : Prop} (h : p) : true = kb p := by unfold kb; exact (@decide_eq_true p (Classical.propDecidable p) h).symm
theorem kb_f {p : Prop} (h : ¬ p) : false = kb p := by unfold kb; exact (@decide_eq_false p (Classical.propDecidable p) h).symm
theorem kb_iff {p : Prop} : kb p = true ↔ p := ⟨fun h => Classical.byContradiction (fun hn => by rw [← kb_f hn] at h; cases h), fun h => (kb_t h).symm⟩
theorem kb_not {p : Prop} (h : kb p = false) : ¬ p := fun hp => by rw [← kb_t hp] at h; cases h
theorem kb_eq {b : Bool} {p : Prop} (h : b = true ↔ p) : b = kb p := by
  cases b
  · exact kb_f fun hp => by have := h.2 hp; cases this
  · exact kb_t (h.1 rfl)
def numsOk (n : Nd) : Prop := (0 ≤ n.id ∧ n.id ≤ 2) ∧ (1 ≤ n.inc ∧ n.inc ≤ 9999) ∧ (0 ≤ n.g ∧ n.g ≤ 41) ∧ (0 ≤ n.led ∧ n.led ≤ 9999) ∧ (0 ≤ n.version ∧ n.version ≤ 9999) ∧ (0 ≤ n.round ∧ n.round ≤ 9999) ∧ (0 ≤ n.low ∧ n.low ≤ 41)
instance (n : Nd) : Decidable (numsOk n) := by unfold numsOk; infer_instance
def viOk (v : Vi) : Prop := (0 ≤ v.inc ∧ v.inc ≤ 9999) ∧ (0 ≤ v.version ∧ v.version ≤ 9999) ∧ lsOk okE evLt v.events 100 = true
def vksOk (n : Nd) : Prop := ∀ (i : Nat) v k, n.views[i]? = some v → n.known[i]? = some k → viOk v ∧ 0 ≤ k ∧ k ≤ 41
def formsOk (n : Nd) : Prop := n.views.length = 3 ∧ n.known.length = 3 ∧ (0 ≤ n.version ∧ n.version ≤ 9999) ∧ (0 ≤ n.round ∧ n.round ≤ 9999) ∧ (0 ≤ n.low ∧ n.low ≤ 41) ∧ vksOk n
def lnsOk (n : Nd) : Prop := ∀ (i : Nat) l, n.lanes[i]? = some l → (procs n.id 4)[i]? = some l.proc ∧ laOk l = true
def shapeOk (n : Nd) : Prop := numsOk n ∧ lsOk okE evLt n.kept 100 = true ∧ lsOk okO ouLt n.outs 96 = true ∧ (∀ (i : Nat) o, n.outs[i]? = some o → o.time < n.g) ∧ n.lanes.length = (procs n.id 4).length ∧ n.views.length = 3 ∧ n.known.length = 3 ∧ lnsOk n ∧ vksOk n
/-- All ahead of a place are so. -/
def upTo {α : Type} (l : List α) (p : Nat → α → Prop) (i : Nat) : Prop := ∀ (j : Nat) a, j < i → l[j]? = some a → p j a
theorem upTo_zero {α : Type} {l : List α} {p : Nat → α → Prop} : upTo l p 0 := fun j a h => absurd h (Nat.not_lt_zero j)
theorem upTo_step {α : Type} {l : List α} {p : Nat → α → Prop} {i : Nat} {a : α} (h : upTo l p i) (ha : l[i]? = some a) (hp : p i a) : upTo l p (i + 1) := fun j b hj hb => by
  by_cases e : j = i
  · subst e; rw [ha] at hb; cases hb; exact hp
  · exact h j b (by omega) hb
theorem upTo_all {α : Type} {l : List α} {p : Nat → α → Prop} {i : Nat} (h : upTo l p i) (hi : l.length ≤ i) : ∀ (j : Nat) a, l[j]? = some a → p j a := fun j a ha => h j a (by have := (List.getElem?_eq_some_iff.1 ha).1; omega) ha
end Go.Proofs.YtpadkogpeobboaaGreat.Am
namespace Go.Proofs.YtpadkogpeobboaaGreat.Am
def lsent (l : La) : List Ev := l.done.flatMap Pa.sends
def sentL (n : Nd) : List Ev := n.kept ++ n.lanes.flatMap lsent
def viewE (n : Nd) (j : Nat) : List Ev := if (j : Int) = n.id then [] else (n.views.getD j vi0).events
def otherL (n : Nd) (i : Nat) : List Ev := (List.range i).flatMap (viewE n)
def wantC (proc g : Int) (e : Ev) : Bool := decide (e.to = proc ∧ g ≤ e.time)
def cameL (n : Nd) (proc : Int) : List Ev := evSort ((sentL n ++ otherL n 3).filter (wantC proc n.g))
theorem flat_take {α β : Type} {f : α → List β} {l : List α} {i : Nat} {p : α} (h : l[i]? = some p) : (l.take (i + 1)).flatMap f = (l.take i).flatMap f ++ f p := by
  rw [List.take_add_one, h]; simp
theorem flat_part {α β : Type} {f : α → List β} {l : List α} {i : Nat} {p : α} (h : l[i]? = some p) : ((l.take i).flatMap f).length + (f p).length ≤ (l.flatMap f).length := by
  have e : l = l.take i ++ p :: l.drop (i + 1) := by
    rw [← drop_cons h, List.take_append_drop]
  conv => rhs; rw [e]
  simp only [List.flatMap_append, List.flatMap_cons, List.length_append]; omega
theorem sent_part {n : Nd} {i j : Nat} {p : La} {q : Pa} (hp : n.lanes[i]? = some p) (hq : p.done[j]? = some q) : (n.kept ++ (n.lanes.take i).flatMap lsent ++ (p.done.take j).flatMap Pa.sends ++ q.sends).length ≤ (sentL n).length := by
  have h1 := flat_part (f := lsent) hp
  have h2 := flat_part (f := Pa.sends) hq
  have h3 : (lsent p).length = (p.done.flatMap Pa.sends).length := rfl
  simp only [sentL, List.length_append] at *
  omega
theorem otherL_succ (n : Nd) (i : Nat) : otherL n (i + 1) = otherL n i ++ viewE n i := by simp [otherL, List.range_succ]
theorem otherL_le (n : Nd) {i : Nat} (h : i ≤ 3) : (otherL n i).length ≤ (otherL n 3).length := by
  have : i = 0 ∨ i = 1 ∨ i = 2 ∨ i = 3 := by omega
  have h0 : otherL n 0 = [] := rfl
  have h1 := otherL_succ n 0
  have h2 := otherL_succ n 1
  have h3 := otherL_succ n 2
  rcases this with rfl | rfl | rfl | rfl <;> simp only [h3, h2, h1, h0, List.length_append, List.length_nil] <;> omega
theorem filter_take {α : Type} {p : α → Bool} {l : List α} {i : Nat} {a : α} (h : l[i]? = some a) : (l.take (i + 1)).filter p = (l.take i).filter p ++ if p a then [a] else [] := by
  rw [List.take_add_one, h, List.filter_append]
  cases hp : p a <;> simp [hp]
end Go.Proofs.YtpadkogpeobboaaGreat.Am
namespace Go.Proofs.YtpadkogpeobboaaGreat.Am
def same : List Pa → List Ev → Nat
  | p :: r, e :: s => if p.ev = e then same r s + 1 else 0
  | _, _ => 0
theorem same_step {l : List Pa} {s : List Ev} {i : Nat} {p : Pa} {e : Ev} (hp : l[i]? = some p) (he : s[i]? = some e) (h : p.ev = e) : same (l.drop i) (s.drop i) = same (l.drop (i + 1)) (s.drop (i + 1)) + 1 := by
  rw [drop_cons hp, drop_cons he, same, if_pos h]
theorem same_stop {l : List Pa} {s : List Ev} {i : Nat} {p : Pa} {e : Ev} (hp : l[i]? = some p) (he : s[i]? = some e) (h : ¬ p.ev = e) : same (l.drop i) (s.drop i) = 0 := by
  rw [drop_cons hp, drop_cons he, same, if_neg h]
theorem same_end1 {l : List Pa} {s : List Ev} {i : Nat} (h : l.length ≤ i) : same (l.drop i) (s.drop i) = 0 := by
  rw [List.drop_of_length_le h]; rfl
theorem same_end2 {l : List Pa} {s : List Ev} {i : Nat} (h : s.length ≤ i) : same (l.drop i) (s.drop i) = 0 := by
  rw [List.drop_of_length_le h]; cases l.drop i <;> rfl
section
variable {α : Type} [DecidableEq α] {lt : α → α → Bool}
theorem insU_split (O : STO lt) {x : α} : ∀ {a b : List α}, (∀ y ∈ a, lt y x = true) → (∀ y ∈ b, lt x y = true) → insU lt x (a ++ b) = a ++ x :: b
  | [], [], _, _ => rfl
  | [], y :: b, _, hb => by
    have h := hb y (List.mem_cons_self ..)
    have hne : x ≠ y := fun e => by subst e; rw [O.irr] at h; cases h
    simp only [List.nil_append, insU, if_neg hne, h, if_true]
  | y :: a, b, ha, hb => by
    have h := ha y (List.mem_cons_self ..)
    have hne : x ≠ y := fun e => by subst e; rw [O.irr] at h; cases h
    have hn : lt x y = false := O.asymm h
    simp only [List.cons_append, insU, if_neg hne, hn, Bool.false_eq_true, if_false]
    rw [insU_split O (fun z hz => ha z (List.mem_cons_of_mem _ hz)) hb]
theorem insU_in (O : STO lt) {x : α} {o : List α} (h : SS lt o) (hx : x ∈ o) : insU lt x o = o :=
  SS.uniq O (insU_ss O x o h) h fun z => by rw [insU_mem]; exact ⟨fun q => q.elim (fun e => e ▸ hx) id, .inr⟩
/-- The place that is found from the end on. -/
theorem insU_at (O : STO lt) {x : α} {o : List α} {k : Nat} (h : SS lt o) (hk : ∀ (j : Nat) y, k ≤ j → o[j]? = some y → lt x y = true) (hl : ∀ y, 0 < k → o[k - 1]? = some y → lt x y = false ∧ y ≠ x) (hk2 : k ≤ o.length) : insU lt x o = o.take k ++ x :: o.drop k := by
  conv => lhs; rw [← List.take_append_drop k o]
  refine insU_split O (fun y hy => ?_) (fun y hy => ?_)
  · obtain ⟨j, hj⟩ := List.getElem?_of_mem hy
    rw [List.getElem?_take] at hj
    split at hj
    · rename_i hjk
      have hkl : k - 1 < o.length := by omega
      obtain ⟨z, hz⟩ : ∃ z, o[k - 1]? = some z := ⟨_, List.getElem?_eq_getElem hkl⟩
      obtain ⟨q1, q2⟩ := hl z (by omega) hz
      have hzx : lt z x = true := by
        rcases O.tot _ _ q2 with h1 | h1
        · exact h1
        · rw [h1] at q1; cases q1
      by_cases e : j = k - 1
      · subst e; rw [hj] at hz; cases hz; exact hzx
      · have hlt : lt y z = true := by
          obtain ⟨p1, rfl⟩ := List.getElem?_eq_some_iff.1 hj
          obtain ⟨p2, rfl⟩ := List.getElem?_eq_some_iff.1 hz
          exact List.pairwise_iff_getElem.1 h j (k - 1) p1 p2 (by omega)
        exact O.trans _ _ _ hlt hzx
    · cases hj
  · obtain ⟨j, hj⟩ := List.getElem?_of_mem hy
    rw [List.getElem?_drop] at hj
    exact hk (k + j) y (by omega) hj
end
theorem evSort_snoc (l : List Ev) (x : Ev) : evSort (l ++ [x]) = insU evLt x (evSort l) := by simp [evSort, srtU]
theorem evSort_take {l : List Ev} {i : Nat} {x : Ev} (h : l[i]? = some x) : evSort (l.take (i + 1)) = insU evLt x (evSort (l.take i)) := by rw [take_snoc h, evSort_snoc]
theorem evSort_ss (l : List Ev) : SS evLt (evSort l) := srtU_ss evSTO l
theorem evSort_le (l : List Ev) : (evSort l).length ≤ l.length := by
  have := (evSort_heap l)
  rw [← this]
  exact Nat.le_trans (hdrain_le _ _) (evOnce_len l)
section
variable {α : Type} {o : List α} {n : Nat} {w x z : α}
theorem sh_len (hn : n ≤ o.length) : (o.take n).length = n := by rw [List.length_take]; omega
theorem sh_get (hn : n ≤ o.length) (h0 : 0 < n) (hz : o[n - 1]? = some z) : (o.take n ++ w :: o.drop n)[n - 1]? = some z := by
  rw [List.getElem?_append_left (by rw [sh_len hn]; omega), List.getElem?_take, if_pos (by omega), hz]
theorem sh_at (hn : n ≤ o.length) : (o.take n ++ w :: o.drop n)[n]? = some w := by
  rw [List.getElem?_append_right (by rw [sh_len hn]; exact Nat.le_refl _), sh_len hn, Nat.sub_self]; rfl
theorem sh_put (hn : n ≤ o.length) : (o.take n ++ w :: o.drop n).set n x = o.take n ++ x :: o.drop n := by
  rw [List.set_append_right _ _ (by rw [sh_len hn]; exact Nat.le_refl _), sh_len hn, Nat.sub_self, List.set_cons_zero]
theorem sh_set (hn : n ≤ o.length) (h0 : 0 < n) (hz : o[n - 1]? = some z) : (o.take n ++ w :: o.drop n).set n z = o.take (n - 1) ++ z :: o.drop (n - 1) := by
  rw [sh_put hn]
  have e1 : o.take n = o.take (n - 1) ++ [z] := by
    have := take_snoc hz
    rwa [show n - 1 + 1 = n from by omega] at this
  have e2 : o.drop (n - 1) = z :: o.drop n := by
    have := drop_cons hz
    rwa [show n - 1 + 1 = n from by omega] at this
  rw [e1, e2]; simp
end
end Go.Proofs.YtpadkogpeobboaaGreat.Am
namespace Go.Proofs.YtpadkogpeobboaaGreat.Am
section
variable {α : Type} {ok : α → Bool} {lt : α → α → Bool}
theorem chk2_all : ∀ {l : List α} {o : Option α}, chk2 ok lt o l = true → ∀ p ∈ l, ok p = true
  | [], _, _, p, hp => by cases hp
  | a :: r, o, h, p, hp => by
    simp only [chk2, Bool.and_eq_true] at h
    rcases List.mem_cons.1 hp with rfl | hp
    · exact h.1.1
    · exact chk2_all h.2 p hp
theorem lsOk_all {l : List α} {most : Int} (h : lsOk ok lt l most = true) : (l.length : Int) ≤ most ∧ ∀ p ∈ l, ok p = true := by
  simp only [lsOk, Bool.and_eq_true, decide_eq_true_eq] at h
  exact ⟨h.1, chk2_all h.2⟩
end
theorem flat_bound {α β : Type} {f : α → List β} {k : Nat} : ∀ {l : List α}, (∀ a ∈ l, (f a).length ≤ k) → (l.flatMap f).length ≤ l.length * k
  | [], _ => by simp
  | a :: r, h => by
    have h1 := h a (List.mem_cons_self ..)
    have h2 := flat_bound (f := f) (k := k) (l := r) fun b hb => h b (List.mem_cons_of_mem _ hb)
    simp only [List.flatMap_cons, List.length_append, List.length_cons, Nat.add_mul, Nat.one_mul]
    omega
theorem laOk_parts {l : La} (h : laOk l = true) : l.done.length ≤ 100 ∧ ∀ p ∈ l.done, p.sends.length ≤ 2 ∧ p.outs.length ≤ 2 := by
  simp only [laOk, Bool.and_eq_true] at h
  obtain ⟨h1, h2⟩ := lsOk_all h.2
  refine ⟨by omega, fun p hp => ?_⟩
  have := h2 p hp
  simp only [paOk, Bool.and_eq_true] at this
  have a := (lsOk_all this.1.2).1
  have b := (lsOk_all this.2).1
  omega
theorem lsent_le {l : La} (h : laOk l = true) : (lsent l).length ≤ 200 := by
  obtain ⟨h1, h2⟩ := laOk_parts h
  have := flat_bound (f := Pa.sends) (k := 2) (l := l.done) fun p hp => (h2 p hp).1
  simp only [lsent]; omega
theorem sent_le {n : Nd} (hk : lsOk okE evLt n.kept 100 = true) (hl : n.lanes.length ≤ 4) (ho : lnsOk n) : (sentL n).length ≤ 900 := by
  have h1 := (lsOk_all hk).1
  have := flat_bound (f := lsent) (k := 200) (l := n.lanes) fun l hm => by
    obtain ⟨i, hi⟩ := List.getElem?_of_mem hm
    exact lsent_le (ho i l hi).2
  simp only [sentL, List.length_append]; omega
theorem other_le {n : Nd} (h3 : n.views.length = 3) (hk : n.known.length = 3) (hv : vksOk n) : (otherL n 3).length ≤ 300 := by
  have := flat_bound (f := viewE n) (k := 100) (l := List.range 3) fun j hj => by
    rw [List.mem_range] at hj
    unfold viewE
    split
    · simp
    · obtain ⟨v, hv1⟩ : ∃ v, n.views[j]? = some v := ⟨_, List.getElem?_eq_getElem (by omega)⟩
      obtain ⟨k, hk1⟩ : ∃ k, n.known[j]? = some k := ⟨_, List.getElem?_eq_getElem (by omega)⟩
      have := (lsOk_all (hv j v k hv1 hk1).1.2.2).1
      rw [List.getD_eq_getElem?_getD, hv1]
      simp only [Option.getD_some]; omega
  simpa [otherL] using this
def nodeOk (n : Nd) : Prop := shapeOk n ∧ ∀ (i : Nat) p l, (procs n.id 4)[i]? = some p → n.lanes[i]? = some l → l.done.length ≤ same l.done (cameL n p) ∧ (cameL n p).length ≤ 100
/-- In order, the last one is the latest. -/
theorem chk2_pair : ∀ {l : List Ou} {o : Option Ou}, chk2 okO ouLt o l = true → ∀ (i j : Nat) a b, i ≤ j → l[i]? = some a → l[j]? = some b → a.time ≤ b.time
  | [], _, _, i, j, a, b, _, h, _ => by simp at h
  | x :: r, o, h, i, j, a, b, hij, ha, hb => by
    simp only [chk2, Bool.and_eq_true] at h
    have step : ∀ {r : List Ou} {x : Ou}, chk2 okO ouLt (some x) r = true → ∀ y, r[0]? = some y → x.time ≤ y.time := fun {r x} h y hy => by
      cases r with
      | nil => simp at hy
      | cons z r =>
        simp only [List.getElem?_cons_zero, Option.some.injEq] at hy
        subst hy
        simp only [chk2, Bool.and_eq_true] at h
        have := h.1.2
        rw [ouLt_dec, decide_eq_true_iff] at this
        unfold lexO at this
        omega
    cases j with
    | zero =>
      have : i = 0 := by omega
      subst this
      rw [ha] at hb; cases hb; omega
    | succ j =>
      cases i with
      | succ i => exact chk2_pair h.2 i j a b (by omega) (by simpa using ha) (by simpa using hb)
      | zero =>
        simp only [List.getElem?_cons_zero, Option.some.injEq] at ha
        subst ha
        simp only [List.getElem?_cons_succ] at hb
        have hr : 0 < r.length := by have := (List.getElem?_eq_some_iff.1 hb).1; omega
        obtain ⟨y, hy⟩ : ∃ y, r[0]? = some y := ⟨_, List.getElem?_eq_getElem hr⟩
        have h1 := step h.2 y hy
        have h2 := chk2_pair h.2 0 j y b (by omega) hy hb
        omega
theorem outs_last {n : Nd} (ho : lsOk okO ouLt n.outs 96 = true) {o : Ou} (hl : n.outs[n.outs.length - 1]? = some o) (ht : o.time < n.g) : ∀ (i : Nat) a, n.outs[i]? = some a → a.time < n.g := fun i a ha => by
  have h1 := (List.getElem?_eq_some_iff.1 ha).1
  simp only [lsOk, Bool.and_eq_true] at ho
  have := chk2_pair ho.2 i (n.outs.length - 1) a o (by omega) ha hl
  omega
end Go.Proofs.YtpadkogpeobboaaGreat.Am
namespace Go.Proofs.YtpadkogpeobboaaGreat.Am
open Classical in
noncomputable def nodeFall (n : Nd) : Nd := if nodeOk n then { nodeBlank n with up := false } else nd0
open Classical in
noncomputable def nodeRise (n : Nd) : Nd := if nodeOk n then (if n.up = true ∨ 9999 ≤ n.inc then n else { nodeBlank n with up := true, inc := n.inc + 1, version := 1 }) else nd0
theorem szs_bound {α : Type} {sz : α → Nat} {k : Nat} : ∀ {l : List α}, (∀ a ∈ l, sz a ≤ k) → szs sz l ≤ l.length * k
  | [], _ => by simp [szs]
  | a :: r, h => by
    have h1 := h a (List.mem_cons_self ..)
    have h2 := szs_bound (sz := sz) (k := k) (l := r) fun b hb => h b (List.mem_cons_of_mem _ hb)
    simp only [szs, List.length_cons, Nat.add_mul, Nat.one_mul]
    omega
theorem cPas_le {l : List Pa} (h1 : l.length ≤ 100) (h2 : ∀ p ∈ l, p.sends.length ≤ 2 ∧ p.outs.length ≤ 2) : cPas l ≤ 500 := by
  have := szs_bound (sz := cPa) (k := 4) (l := l) fun p hp => by have := h2 p hp; simp only [cPa]; omega
  simp only [cPas]; omega
theorem shape_bound {n : Nd} (h : shapeOk n) : n.lanes.length ≤ 4 ∧ n.kept.length ≤ 100 ∧ n.outs.length ≤ 96 ∧ cLas n.lanes ≤ 2004 ∧ cVis n.views ≤ 303 ∧ cNd n ≤ 2606 := by
  obtain ⟨q1, q2, q3, q4, q5, q6, q7, q8, q9⟩ := h
  have hp := procs_len n.id 4
  have hk := (lsOk_all q2).1
  have ho := (lsOk_all q3).1
  have hl : cLas n.lanes ≤ 2004 := by
    have := szs_bound (sz := cLa) (k := 500) (l := n.lanes) fun l hm => by
      obtain ⟨i, hi⟩ := List.getElem?_of_mem hm
      obtain ⟨g1, g2⟩ := laOk_parts (q8 i l hi).2
      exact cPas_le g1 g2
    simp only [cLas]; omega
  have hv : cVis n.views ≤ 303 := by
    have := szs_bound (sz := cVi) (k := 100) (l := n.views) fun v hm => by
      obtain ⟨i, hi⟩ := List.getElem?_of_mem hm
      have hlt := (List.getElem?_eq_some_iff.1 hi).1
      obtain ⟨k, hk⟩ : ∃ k, n.known[i]? = some k := ⟨_, List.getElem?_eq_getElem (by omega)⟩
      have := (lsOk_all (q9 i v k hi hk).1.2.2).1
      simp only [cVi]; omega
    simp only [cVis]; omega
  refine ⟨by omega, by omega, by omega, hl, hv, ?_⟩
  simp only [cNd]; omega
theorem came_bound {n : Nd} (h : shapeOk n) : (sentL n).length + (otherL n 3).length ≤ 5000000 := by
  obtain ⟨q1, q2, q3, q4, q5, q6, q7, q8, q9⟩ := h
  have hp := procs_len n.id 4
  have := sent_le q2 (by omega) q8
  have := other_le q6 q7 q9
  omega
/-- A lane with so much of what was done. -/
def laneSub (l : La) (f t : Nat) : La := ⟨l.proc, l.base, (l.done.take t).drop f⟩
/-- A lane is not too long. -/
def lb (l : La) : Prop := l.done.length ≤ 1000000 ∧ ∀ p ∈ l.done, p.sends.length ≤ 1000000 ∧ p.outs.length ≤ 1000000
theorem zNd_le (n : Nd) : zNd n ≤ 20 * cNd n := by
  have e1 : ∀ l : List Ev, szs zEv l = 7 * l.length := fun l => by
    induction l with
    | nil => rfl
    | cons a r ih => simp only [szs, ih, List.length_cons, zEv]; omega
  have e2 : ∀ l : List Ou, szs zOu l = 5 * l.length := fun l => by
    induction l with
    | nil => rfl
    | cons a r ih => simp only [szs, ih, List.length_cons, zOu]; omega
  have e3 : ∀ l : List Int, szs zI l = l.length := fun l => by
    induction l with
    | nil => rfl
    | cons a r ih => simp only [szs, ih, List.length_cons, zI]; omega
  have e4 : ∀ l : List Pa, szs zPa l ≤ 10 * cPas l := fun l => by
    induction l with
    | nil => simp [szs, cPas]
    | cons a r ih => simp only [szs, cPas, List.length_cons, zPa, cPa, e1, e2] at ih ⊢; omega
  have e5 : ∀ l : List La, szs zLa l ≤ 20 * cLas l := fun l => by
    induction l with
    | nil => simp [szs, cLas]
    | cons a r ih => have := e4 a.done; simp only [szs, cLas, List.length_cons, zLa, cLa] at ih ⊢; omega
  have e6 : ∀ l : List Vi, szs zVi l ≤ 20 * cVis l := fun l => by
    induction l with
    | nil => simp [szs, cVis]
    | cons a r ih => simp only [szs, cVis, List.length_cons, zVi, cVi, e1] at ih ⊢; omega
  have := e5 n.lanes
  have := e6 n.views
  simp only [zNd, cNd, e1, e2, e3]; omega
/-- What bounds a node's copy. -/
def nb (n : Nd) : Prop := n.lanes.length ≤ 1000000 ∧ n.kept.length ≤ 1000000 ∧ n.outs.length ≤ 1000000 ∧ (∀ l ∈ n.lanes, lb l) ∧ n.views.length ≤ 1000000 ∧ (∀ v ∈ n.views, v.events.length ≤ 1000000) ∧ n.known.length ≤ 1000000
end Go.Proofs.YtpadkogpeobboaaGreat.Am
namespace Go.Proofs.YtpadkogpeobboaaGreat.Am
structure Wo where
  kind : Int
  from' : Int
  to : Int
  inc : Int
  version : Int
  round : Int
  g : Int
  incs : List Int
  versions : List Int
  events : List Ev
  outs : List Ou
  deriving DecidableEq, Inhabited
def wo0 : Wo := ⟨0, 0, 0, 0, 0, 0, 0, [], [], [], []⟩
def zWo (w : Wo) : Nat := 7 + szs zI w.incs + szs zI w.versions + szs zEv w.events + szs zOu w.outs
def kWo (k : Nat) (w : Wo) : Wo := ⟨(k : Int), (k + 1 : Nat), (k + 1 + 1 : Nat), (k + 1 + 1 + 1 : Nat), (k + 1 + 1 + 1 + 1 : Nat), (k + 1 + 1 + 1 + 1 + 1 : Nat), (k + 1 + 1 + 1 + 1 + 1 + 1 : Nat), mks zI kI (k + 7) w.incs, mks zI kI (k + 7 + szs zI w.incs) w.versions, mks zEv kEv (k + 7 + szs zI w.incs + szs zI w.versions) w.events, mks zOu kOu (k + 7 + szs zI w.incs + szs zI w.versions + szs zEv w.events) w.outs⟩
/-- A word whose own numbers stay; its lists are marked. -/
def zWl (w : Wo) : Nat := szs zI w.incs + szs zI w.versions + szs zEv w.events + szs zOu w.outs
def kWl (k : Nat) (w : Wo) : Wo := { w with incs := mks zI kI k w.incs, versions := mks zI kI (k + szs zI w.incs) w.versions, events := mks zEv kEv (k + szs zI w.incs + szs zI w.versions) w.events, outs := mks zOu kOu (k + szs zI w.incs + szs zI w.versions + szs zEv w.events) w.outs }
theorem szs_int (l : List Int) : szs zI l = l.length := by
  induction l with
  | nil => rfl
  | cons a r ih => simp only [szs, ih, List.length_cons, zI]; omega
theorem szs_ev (l : List Ev) : szs zEv l = 7 * l.length := by
  induction l with
  | nil => rfl
  | cons a r ih => simp only [szs, ih, List.length_cons, zEv]; omega
theorem szs_ou (l : List Ou) : szs zOu l = 5 * l.length := by
  induction l with
  | nil => rfl
  | cons a r ih => simp only [szs, ih, List.length_cons, zOu]; omega
def wantT (n : Nd) (to : Int) (e : Ev) : Bool := decide (nodeOf e.to = to ∧ n.known.getD to.toNat 0 ≤ e.time)
def wantK (to kn : Int) (e : Ev) : Bool := decide (nodeOf e.to = to ∧ kn ≤ e.time)
def tellsL (n : Nd) (to : Int) : List Ev := evSort ((sentL n).filter (wantT n to))
theorem wantT_at {n : Nd} {t : Nat} {kn : Int} (h : n.known[t]? = some kn) : wantT n (t : Int) = wantK (t : Int) kn := by
  funext e
  unfold wantT wantK
  rw [Int.toNat_natCast, List.getD_eq_getElem?_getD, h]; rfl
theorem tellsL_at {n : Nd} {t : Nat} {kn : Int} (h : n.known[t]? = some kn) : tellsL n (t : Int) = evSort ((sentL n).filter (wantK (t : Int) kn)) := by
  unfold tellsL; rw [wantT_at h]
theorem evSort_len (l : List Ev) : (evSort l).length ≤ l.length := evSort_le l
theorem tellsL_le {n : Nd} (h : shapeOk n) (to : Int) : (tellsL n to).length ≤ 900 := by
  have hp := procs_len n.id 4
  have hs := sent_le h.2.1 (by have := h.2.2.2.2.1; omega) h.2.2.2.2.2.2.2.1
  exact Nat.le_trans (evSort_len _) (Nat.le_trans (List.length_filter_le _ _) hs)
def wTells (n : Nd) (to : Int) : Wo := ⟨1, n.id, to, n.inc, n.version, 0, n.g, [], [], tellsL n to, []⟩
def wOuts (n : Nd) : Wo := ⟨7, n.id, 0, 0, 0, 0, n.g, [], [], [], n.outs⟩
def tendTo (n : Nd) : Nat → List Wo
  | 0 => []
  | k + 1 => if (k : Int) = n.id then tendTo n k else tendTo n k ++ [wTells n (k : Int)]
theorem tendTo_t {n : Nd} {k : Nat} (h : ¬ (k : Int) = n.id) : tendTo n (k + 1) = tendTo n k ++ [wTells n (k : Int)] := if_neg h
theorem tendTo_f {n : Nd} {k : Nat} (h : (k : Int) = n.id) : tendTo n (k + 1) = tendTo n k := if_pos h
theorem tendTo_le (n : Nd) : ∀ k, (tendTo n k).length ≤ k
  | 0 => Nat.le_refl _
  | k + 1 => by
    have := tendTo_le n k
    unfold tendTo
    split
    · omega
    · simp; omega
open Classical in
noncomputable def tendL (n : Nd) : List Wo := if nodeOk n ∧ n.up = true then (if n.id = 0 then tendTo n 3 else tendTo n 3 ++ [wOuts n]) else []
theorem tendL_f {n : Nd} (h : ¬ (nodeOk n ∧ n.up = true)) : tendL n = [] := if_neg h
theorem tendL_0 {n : Nd} (h : nodeOk n ∧ n.up = true) (h0 : n.id = 0) : tendL n = tendTo n 3 := by unfold tendL; rw [if_pos h, if_pos h0]
theorem tendL_t {n : Nd} (h : nodeOk n ∧ n.up = true) (h0 : ¬ n.id = 0) : tendL n = tendTo n 3 ++ [wOuts n] := by unfold tendL; rw [if_pos h, if_neg h0]
theorem szs_app {α : Type} (sz : α → Nat) (a b : List α) : szs sz (a ++ b) = szs sz a + szs sz b := by
  induction a with
  | nil => simp [szs]
  | cons x r ih => simp only [List.cons_append, szs, ih]; omega
theorem tendTo_sz {n : Nd} (h : shapeOk n) (k : Nat) : szs zWo (tendTo n k) ≤ 6400 * k := by
  induction k with
  | zero => exact Nat.le_refl 0
  | succ k ih =>
    by_cases hk : (k : Int) = n.id
    · rw [tendTo_f hk]; omega
    · have h2 := tellsL_le h (k : Int)
      rw [tendTo_t hk, szs_app]
      have h3 : szs zWo [wTells n (k : Int)] = 7 + 7 * (tellsL n (k : Int)).length := by
        simp only [szs, zWo, wTells, szs_int, szs_ev, szs_ou, List.length_nil]; omega
      omega
theorem tendL_sz (n : Nd) : szs zWo (tendL n) ≤ 30000 := by
  by_cases h : nodeOk n ∧ n.up = true
  · have h3 := tendTo_sz h.1.1 3
    have hb := shape_bound h.1.1
    by_cases h0 : n.id = 0
    · rw [tendL_0 h h0]; omega
    · rw [tendL_t h h0, szs_app]
      simp only [szs, zWo, wOuts, szs_int, szs_ev, szs_ou, List.length_nil]
      omega
  · rw [tendL_f h]; simp [szs]
end Go.Proofs.YtpadkogpeobboaaGreat.Am
namespace Go.Proofs.YtpadkogpeobboaaGreat.Am
open Go Go.RowKit
def encI (p : Int) : List AV := [.pv (.int .i64 p)]
def encB (p : Nat) : List AV := [.pv (.int .u8 (p : Int))]
def encEv (e : Ev) : List AV := (evN e).map pI
def encOu (o : Ou) : List AV := (ouL o).map pI
def encSt (s : St) : List AV := (stL s).map pI
theorem evN_beq (a b : Ev) : (evN a == evN b) = decide (a = b) := by
  rw [Bool.eq_iff_iff]
  cases a; cases b
  simp [evN]
theorem eqEv (x y : Operand) (a b : Ev) : EqA Tryz.prog 76 x y (.agg (encEv a)) (.agg (encEv b)) (decide (a = b)) := by
  rw [← evN_beq]; exact eqA_ints Tryz.underlying76 (by kernel_rfl) (by kernel_rfl) (by kernel_rfl) x y (evN a) (evN b) rfl rfl
def rInts (c : Bool) (l : List Int) : AV := .row (.rd c) 3 1 (l.map encI)
def rBytes (c : Bool) (l : List Nat) : AV := .row (.rd c) 5 1 (l.map encB)
def rEvs (c : Bool) (l : List Ev) : AV := .row (.rd c) 76 7 (l.map encEv)
def rOus (c : Bool) (l : List Ou) : AV := .row (.rd c) 104 5 (l.map encOu)
def encPa (c : Bool) (p : Pa) : List AV := encEv p.ev ++ (encSt p.after ++ [rEvs c p.sends, rOus c p.outs])
def rPas (c : Bool) (l : List Pa) : AV := .row (.rd c) 78 12 (l.map (encPa c))
def encLa (c : Bool) (a : La) : List AV := pI a.proc :: (encSt a.base ++ [rPas c a.done])
def rLas (c : Bool) (l : List La) : AV := .row (.rd c) 65 5 (l.map (encLa c))
def encVi (c : Bool) (v : Vi) : List AV := [pI v.inc, pI v.version, rEvs c v.events]
def rVis (c : Bool) (l : List Vi) : AV := .row (.rd c) 141 3 (l.map (encVi c))
def encNd (c : Bool) (n : Nd) : List AV := [pI n.id, .pv (.bool n.up), pI n.inc, pI n.g, rLas c n.lanes, rEvs c n.kept, rOus c n.outs, pI n.led, pI n.version, rVis c n.views, rInts c n.known, pI n.round, pI n.low]
def encPaO (p : Pa) : List AV := encEv p.ev ++ (encSt p.after ++ [.row .ow 76 7 (p.sends.map encEv), .row .ow 104 5 (p.outs.map encOu)])
def encLaO (a : La) : List AV := pI a.proc :: (encSt a.base ++ [.row .ow 78 12 (a.done.map encPaO)])
def encViO (v : Vi) : List AV := [pI v.inc, pI v.version, .row .ow 76 7 (v.events.map encEv)]
def encVi0 : List AV := [pI 0, pI 0, .pv (.slice none 0 0)]
theorem encPaO_leK {k c : Bool} (hc : c = true → k = true) (p : Pa) : LeL k (encPaO p) (encPa c p) :=
  .cons (.cl rfl) (.cons (.cl rfl) (.cons (.cl rfl) (.cons (.cl rfl) (.cons (.cl rfl) (.cons (.cl rfl) (.cons (.cl rfl) (.cons (.cl rfl) (.cons (.cl rfl) (.cons (.cl rfl) (.cons (Le.ow_map _ hc (fun _ => rfl)) (.cons (Le.ow_map _ hc (fun _ => rfl)) .nil)))))))))))
theorem encLaO_leK {k c : Bool} (hc : c = true → k = true) (a : La) : LeL k (encLaO a) (encLa c a) :=
  .cons (.cl rfl) (.cons (.cl rfl) (.cons (.cl rfl) (.cons (.cl rfl) (.cons (Le.ow_map2 _ hc (encPaO_leK hc)) .nil))))
theorem encViO_leK {k c : Bool} (hc : c = true → k = true) (v : Vi) : LeL k (encViO v) (encVi c v) := .cons (.cl rfl) (.cons (.cl rfl) (.cons (Le.ow_map _ hc (fun _ => rfl)) .nil))
theorem nf {k : Bool} : false = true → k = true := fun h => by cases h
theorem lendNd {h : Hp} {n : Nd} {i0 i1 i2 i3 i4 g0 g1 g2 g3 g4 : Nat} {ls bs : List AV} {T : TL} (h0 : wfind h i0 = some (g0, .row 65 5 (n.lanes.map encLaO))) (h1 : wfind h i1 = some (g1, .row 76 7 (n.kept.map encEv))) (h2 : wfind h i2 = some (g2, .row 104 5 (n.outs.map encOu))) (h3 : wfind h i3 = some (g3, .row 141 3 (n.views.map encViO))) (h4 : wfind h i4 = some (g4, .row 3 1 (n.known.map encI))) (t : LendL h ls bs T) :
    LendL h (.agg [pI n.id, .pv (.bool n.up), pI n.inc, pI n.g, .ref i0 g0, .ref i1 g1, .ref i2 g2, pI n.led, pI n.version, .ref i3 g3, .ref i4 g4, pI n.round, pI n.low] :: ls) (.agg (encNd false n) :: bs)
      ([(i0, (g0, .row 65 5 (n.lanes.map encLaO))), (i1, (g1, .row 76 7 (n.kept.map encEv))), (i2, (g2, .row 104 5 (n.outs.map encOu))), (i3, (g3, .row 141 3 (n.views.map encViO))), (i4, (g4, .row 3 1 (n.known.map encI)))] ++ T) :=
  .agg rfl (.cl rfl (.cl rfl (.cl rfl (.cl rfl (.ref h0 (Le.ow_map2 _ nf (encLaO_leK nf)) (.ref h1 (Le.ow_map _ nf (fun _ => rfl)) (.ref h2 (Le.ow_map _ nf (fun _ => rfl)) (.cl rfl (.cl rfl (.ref h3 (Le.ow_map2 _ nf (encViO_leK nf)) (.ref h4 (Le.ow_map _ nf (fun _ => rfl)) (.cl rfl (.cl rfl .nil))))))))))))) t
theorem abs_pa {h : Hp} {p : Pa} {i j g g' : Nat} (h1 : wfind h i = some (g, .row 76 7 (p.sends.map encEv))) (h2 : wfind ((i, (g, .dead)) :: h) j = some (g', .row 104 5 (p.outs.map encOu))) (hne : Nat.beq i j = false) :
    Abs [pI p.ev.time, pI p.ev.to, pI p.ev.from', pI p.ev.count, pI p.ev.n, pI p.ev.kind, pI p.ev.arg, pI p.after.x, pI p.after.y, pI p.after.count, .ref i g, .ref j g'] h (encPaO p)
      [(i, (g, .row 76 7 (p.sends.map encEv))), (j, (g', .row 104 5 (p.outs.map encOu)))] [(i, (g, .dead)), (j, (g', .dead))] := by
  have hne' : i ≠ j := fun e => by subst e; rw [Nat.beq_refl] at hne; cases hne
  exact .val rfl rfl (.val rfl rfl (.val rfl rfl (.val rfl rfl (.val rfl rfl (.val rfl rfl (.val rfl rfl (.val rfl rfl (.val rfl rfl (.val rfl rfl
    (.ref h1 (flatR_map fun _ => rfl) (.ref h2 (flatR_map fun _ => rfl) .nil rfl rfl) (by rw [wfind_cons, if_neg (Ne.symm hne')]; rfl) (by simp [Ne.symm hne'])))))))))))
theorem abs_la {h : Hp} {a : La} {i g : Nat} (h1 : wfind h i = some (g, .row 78 12 (a.done.map encPaO))) :
    Abs [pI a.proc, pI a.base.x, pI a.base.y, pI a.base.count, .ref i g] h (encLaO a) [(i, (g, .row 78 12 (a.done.map encPaO)))] [(i, (g, .dead))] :=
  .val rfl rfl (.val rfl rfl (.val rfl rfl (.val rfl rfl (.ref h1 (flatR_map fun _ => rfl) .nil rfl rfl))))
theorem abs_vi {h : Hp} {v : Vi} {i g : Nat} (h1 : wfind h i = some (g, .row 76 7 (v.events.map encEv))) :
    Abs [pI v.inc, pI v.version, .ref i g] h (encViO v) [(i, (g, .row 76 7 (v.events.map encEv)))] [(i, (g, .dead))] :=
  .val rfl rfl (.val rfl rfl (.ref h1 (flatR_map fun _ => rfl) .nil rfl rfl))
theorem eqF1 {α : Type} [DecidableEq α] {l l' : List α} (h : ¬ l.length = l'.length) : [AV.pv (.bool false)] = [AV.pv (.bool (decide (l = l')))] := by
  rw [decide_eq_false (fun e => h (by rw [e]))]
theorem eqF2 {α : Type} [DecidableEq α] {l l' : List α} {i : Nat} {x y : α} (hx : l[i]? = some x) (hy : l'[i]? = some y) (h : ¬ x = y) : [AV.pv (.bool false)] = [AV.pv (.bool (decide (l = l')))] := by
  rw [decide_eq_false (fun e => h (by subst e; rw [hx] at hy; exact Option.some.inj hy))]
theorem eqT {α : Type} [DecidableEq α] {l l' : List α} {i : Nat} (h : l.take i = l'.take i) (h1 : l.length ≤ i) (h2 : l'.length ≤ i) : [AV.pv (.bool true)] = [AV.pv (.bool (decide (l = l')))] := by
  rw [List.take_of_length_le h1, List.take_of_length_le h2] at h
  rw [decide_eq_true h]
theorem take_step {α : Type} {l l' : List α} {i : Nat} {x y : α} (h : l.take i = l'.take i) (hx : l[i]? = some x) (hy : l'[i]? = some y) (e : x = y) : l.take (i + 1) = l'.take (i + 1) := by
  subst e
  rw [List.take_add_one, List.take_add_one, h, hx, hy]
def encLaN (p : Int) : List AV := [pI p, pI 0, pI 0, pI 0, .pv (.slice none 0 0)]
theorem encLaN_le (p : Int) : LeL true (encLaN p) (encLa true (lane0 p)) := .cons (.cl rfl) (.cons (.cl rfl) (.cons (.cl rfl) (.cons (.cl rfl) (.cons .nil .nil))))
theorem kF {p : Prop} [Decidable p] (h : ¬ p) : [AV.pv (.bool false)] = [AV.pv (.bool (decide p))] := by rw [decide_eq_false h]
theorem kT {p : Prop} [Decidable p] (h : p) : [AV.pv (.bool true)] = [AV.pv (.bool (decide p))] := by rw [decide_eq_true h]
theorem get_map {α β : Type} {f : α → β} {l : List α} {i : Nat} {x : α} (hx : l[i]? = some x) : (l.map f)[i]? = some (f x) := by simp [hx]
theorem evF : FindK Tryz.prog 179 (fun k => encL (evN k)) := by
  obtain ⟨i, h1, _⟩ := (ttOK _ _ tt_3).info
  exact findK_ints Tryz.underlying179 h1 (by kernel_rfl) Tryz.underlying3 (fun _ => rfl) (fun _ _ h => evN_inj h)
theorem strEv (e : Ev) : StrC (encEv e) := StrC.ints (evN e)
theorem strOu (e : Ou) : StrC (encOu e) := StrC.ints (ouL e)
theorem strI (e : Int) : StrC (encI e) := .cons (.pv _) rfl .nil
theorem sCons {a : AV} {b : List AV} (h : Strict a) (k : ∀ y ∈ b, Strict y) : ∀ y ∈ a :: b, Strict y := fun y hy => by
  rcases List.mem_cons.1 hy with rfl | hy
  · exact h
  · exact k y hy
theorem sNil : ∀ y ∈ ([] : List AV), Strict y := fun y hy => by cases hy
theorem sInts (l : List Int) : ∀ y ∈ l.map pI, Strict y := fun y hy => by
  obtain ⟨n, _, rfl⟩ := List.mem_map.1 hy
  exact .pv _
theorem strictEvs (l : List Ev) : Strict (rEvs true l) := strict_map fun e => sInts (evN e)
theorem strictOus (l : List Ou) : Strict (rOus true l) := strict_map fun e => sInts (ouL e)
theorem strictInts (l : List Int) : Strict (rInts true l) := strict_map fun e => sCons (.pv _) sNil
def encWo (c : Bool) (w : Wo) : List AV := [pI w.kind, pI w.from', pI w.to, pI w.inc, pI w.version, pI w.round, pI w.g, rInts c w.incs, rInts c w.versions, rEvs c w.events, rOus c w.outs]
def rWos (c : Bool) (l : List Wo) : AV := .row (.rd c) 52 11 (l.map (encWo c))
def encWoO (w : Wo) : List AV := [pI w.kind, pI w.from', pI w.to, pI w.inc, pI w.version, pI w.round, pI w.g, .row .ow 3 1 (w.incs.map encI), .row .ow 3 1 (w.versions.map encI), .row .ow 76 7 (w.events.map encEv), .row .ow 104 5 (w.outs.map encOu)]
theorem encWoO_leK {k c : Bool} (hc : c = true → k = true) (w : Wo) : LeL k (encWoO w) (encWo c w) :=
  .cons (.cl rfl) (.cons (.cl rfl) (.cons (.cl rfl) (.cons (.cl rfl) (.cons (.cl rfl) (.cons (.cl rfl) (.cons (.cl rfl) (.cons (Le.ow_map _ hc (fun _ => rfl)) (.cons (Le.ow_map _ hc (fun _ => rfl)) (.cons (Le.ow_map _ hc (fun _ => rfl)) (.cons (Le.ow_map _ hc (fun _ => rfl)) .nil))))))))))
theorem strWoO (w : Wo) : StrC (encWoO w) := .cons (.pv _) rfl (.cons (.pv _) rfl (.cons (.pv _) rfl (.cons (.pv _) rfl (.cons (.pv _) rfl (.cons (.pv _) rfl (.cons (.pv _) rfl (.own (StrC.map strI _) (.own (StrC.map strI _) (.own (StrC.map strEv _) (.own (StrC.map strOu _) .nil))))))))))
theorem sWo (w : Wo) : ∀ y ∈ encWo true w, Strict y :=
  sCons (.pv _) (sCons (.pv _) (sCons (.pv _) (sCons (.pv _) (sCons (.pv _) (sCons (.pv _) (sCons (.pv _) (sCons (strictInts _) (sCons (strictInts _) (sCons (strictEvs _) (sCons (strictOus _) sNil))))))))))
theorem strictWos (l : List Wo) : Strict (rWos true l) := strict_map sWo
theorem insEnc : (∀ ρ g c l, inB ρ g (rInts c l) = rInts c l) ∧ (∀ ρ g c l, inC ρ g (rInts c l) = rInts c l) ∧ (∀ ρ g c l, inA ρ g (rInts c l) = rInts c l) ∧ (∀ ρ g c l, inT ρ g (rInts c l) = rInts c l) ∧ (∀ ρ g c l, inB ρ g (rEvs c l) = rEvs c l) ∧ (∀ ρ g c l, inC ρ g (rEvs c l) = rEvs c l) ∧ (∀ ρ g c l, inA ρ g (rEvs c l) = rEvs c l) ∧ (∀ ρ g c l, inT ρ g (rEvs c l) = rEvs c l) ∧ (∀ ρ g c l, inB ρ g (rOus c l) = rOus c l) ∧ (∀ ρ g c l, inC ρ g (rOus c l) = rOus c l) ∧ (∀ ρ g c l, inA ρ g (rOus c l) = rOus c l) ∧ (∀ ρ g c l, inT ρ g (rOus c l) = rOus c l) ∧ (∀ ρ g c l, inB ρ g (rPas c l) = rPas c l) ∧ (∀ ρ g c l, inC ρ g (rPas c l) = rPas c l) ∧ (∀ ρ g c l, inA ρ g (rPas c l) = rPas c l) ∧ (∀ ρ g c l, inT ρ g (rPas c l) = rPas c l) ∧ (∀ ρ g c l, inB ρ g (rLas c l) = rLas c l) ∧ (∀ ρ g c l, inC ρ g (rLas c l) = rLas c l) ∧ (∀ ρ g c l, inA ρ g (rLas c l) = rLas c l) ∧ (∀ ρ g c l, inT ρ g (rLas c l) = rLas c l) ∧ (∀ ρ g c l, inB ρ g (rVis c l) = rVis c l) ∧ (∀ ρ g c l, inC ρ g (rVis c l) = rVis c l) ∧ (∀ ρ g c l, inA ρ g (rVis c l) = rVis c l) ∧ (∀ ρ g c l, inT ρ g (rVis c l) = rVis c l) ∧ (∀ ρ g c l, inB ρ g (rWos c l) = rWos c l) ∧ (∀ ρ g c l, inC ρ g (rWos c l) = rWos c l) ∧ (∀ ρ g c l, inA ρ g (rWos c l) = rWos c l) ∧ (∀ ρ g c l, inT ρ g (rWos c l) = rWos c l) := by
  refine ⟨?_, ?_, ?_, ?_, ?_, ?_, ?_, ?_, ?_, ?_, ?_, ?_, ?_, ?_, ?_, ?_, ?_, ?_, ?_, ?_, ?_, ?_, ?_, ?_, ?_, ?_, ?_, ?_⟩ <;> intros <;> rfl
end Go.Proofs.YtpadkogpeobboaaGreat.Am
namespace Go.Proofs.YtpadkogpeobboaaGreat.Am
open Go Go.RowKit
theorem F_laws_markIntS (l : List Int) (k : Nat) (hk : k + szs zI l ≤ 1000000000) : Meth Tryz.prog 20 1 [0] [.ref 0 0, .pv (.int .i64 (k : Int))] [(0, (0, .row 3 1 (l.map encI)))] (.pv (.int .i64 ((k + szs zI l : Nat) : Int))) [(0, (0, .row 3 1 ((mks zI kI k l).map encI)))] := by
  refine meth_of_ex ttOK (fn := Tryz.f20) (by kernel_rfl) (by kernel_rfl) rfl (O0 := [.pv (.int .i64 ((k + szs zI l : Nat) : Int))]) 1 0 (Nat.le_of_ble_eq_true rfl) (by rfl) (by repeat (first | exact BndH.nil | refine BndH.row (flatR_map fun _ => rfl) ?_)) (by repeat (first | exact BndH.nil | refine BndH.row (flatR_map fun _ => rfl) ?_)) (by rfl) fun γ => ?_
  show Ex Tryz.prog _ _ [(0, .ref 0 (γ 0)), (1, .pv (.int .i64 (k : Int)))] [(0, ((γ 0), .row 3 1 (l.map encI)))] _
  have hml := mks_len zI kI k l
  have hll := szs_len zI (fun p => by unfold zI; omega) l
  refine ex_rs ttOK (by rfl) ?_
  refine rl_assign rfl ?_
  refine ex_seq_k fun K1 hK1 => ?_
  refine ex_rs ttOK (by rfl) ?_
  refine rl_assign rfl ?_
  refine ex_block ?_
  refine ex_loopK (ι := Nat) (fun i γ1 => [(1, .pv (.int .i64 ((k + szs zI (l.take i) : Nat) : Int))), (5, .pv (.int .i64 (i : Int)))]) (fun i γ1 => [(0, ((γ 0), .row 3 1 (((mks zI kI k l).take i).map encI ++ (l.drop i).map encI)))]) (fun i => i ≤ l.length) (fun i => l.length - i) (Cov.cons (t := 0) rfl Cov.nil) HE.nil 0 (by omega) [] (Cov.cons' (t := 1) rfl (by rw [List.take_zero]; rfl) (Cov.cons (t := 5) rfl Cov.nil)) (HE.row rfl (by rw [List.take_zero, List.drop_zero]; rfl) HE.nil) rfl fun i γ1 hi => ?_
  try dsimp only [List.cons_append, List.nil_append]
  refine ex_seq_k fun K2 hK2 => ?_
  refine ex_rs ttOK (by rfl) ?_
  refine rl_move rfl ?_
  refine rl_move rfl ?_
  refine rl_lenr (n := l.length) rfl tt_22 rfl rfl (by rw [List.length_append, List.length_map, List.length_map, List.length_take, List.length_drop]; omega) ?_
  refine rl_bin rfl rfl rfl ?_
  refine ex_cond rfl (fun hc3 => ?_) (fun hc3 => ?_)
  rotate_left
  · try simp at hc3
    obtain rfl : i = l.length := by omega
    refine ex_exit ?_
    refine hK1 _ _ ?_
    clear hK2 K2 hK1 K1
    refine ex_rs ttOK (by rfl) ?_
    refine rl_move rfl ?_
    refine rl_assign rfl ?_
    refine ex_ret ?_
    exact ⟨.inr rfl, [γ 0], rfl, congrArg (fun v : Nat => some [AV.pv (.int .i64 (v : Int))]) (by rw [List.take_length]), HE.row rfl (by rw [List.take_of_length_le (by omega), List.drop_length, List.map_nil, List.append_nil]) HE.nil⟩
  try simp at hc3
  obtain ⟨p, hp⟩ : ∃ p, l[i]? = some p := ⟨_, List.getElem?_eq_getElem (by omega)⟩
  have hmk := mks_get zI kI (k := k) hp
  have hat := szs_at zI hp
  have hzp : zI p = 1 := rfl
  have hAl : (((mks zI kI k l).take i).map encI).length = i := by rw [List.length_map, List.length_take]; omega
  rw [drop_cons hp, List.map_cons]
  rw [show encI p = [pI p] from rfl]
  obtain ⟨q, hq⟩ : ∃ q, q = k + szs zI (l.take i) := ⟨_, rfl⟩
  rw [← hq] at hmk ⊢
  refine ex_skip ?_
  refine hK2 _ _ ?_
  clear hK2 K2
  refine ex_seq_k fun K4 hK4 => ?_
  refine ex_block ?_
  refine ex_rs ttOK (by rfl) ?_
  refine rl_move rfl ?_
  refine rl_move rfl ?_
  refine rl_move rfl ?_
  refine rl_idxM rfl rfl tt_22 rfl tt_3 rfl rfl hAl ?_
  refine rl_storeM hAl rfl rfl tt_3 rfl rfl rfl rfl rfl rfl rfl (by simp only [List.set_cons_zero, List.set_cons_succ]; rfl) ?_
  refine ex_region ttOK (by rfl) ?_
  refine rl_move rfl ?_
  refine rl_addN (b := 1) rfl rfl (by omega) ?_
  refine rl_assign rfl ?_
  refine hK4 _ _ ?_
  clear hK4 K4
  refine ex_region ttOK (by rfl) ?_
  refine rl_move rfl ?_
  refine rl_addN (b := 1) rfl rfl (by omega) ?_
  refine rl_assign rfl ?_
  exact ⟨i + 1, ⟨by omega, by omega⟩, [], (Cov.cons' (t := 1) rfl (by rw [szs_take zI hp]; exact congrArg (fun v : Nat => AV.pv (.int .i64 (v : Int))) (by omega)) (Cov.cons (t := 5) rfl Cov.nil)), (Cov.cons (t := 0) rfl Cov.nil), (HE.row rfl (by rw [take_snoc hmk, List.map_append, List.append_assoc]; rfl) HE.nil), HE.nil, rfl⟩
theorem F_laws_markEventS (l : List Ev) (k : Nat) (hk : k + szs zEv l ≤ 1000000000) : Meth Tryz.prog 56 1 [0] [.ref 0 0, .pv (.int .i64 (k : Int))] [(0, (0, .row 76 7 (l.map encEv)))] (.pv (.int .i64 ((k + szs zEv l : Nat) : Int))) [(0, (0, .row 76 7 ((mks zEv kEv k l).map encEv)))] := by
  refine meth_of_ex ttOK (fn := Tryz.f56) (by kernel_rfl) (by kernel_rfl) rfl (O0 := [.pv (.int .i64 ((k + szs zEv l : Nat) : Int))]) 1 0 (Nat.le_of_ble_eq_true rfl) (by rfl) (by repeat (first | exact BndH.nil | refine BndH.row (flatR_map fun _ => rfl) ?_)) (by repeat (first | exact BndH.nil | refine BndH.row (flatR_map fun _ => rfl) ?_)) (by rfl) fun γ => ?_
  show Ex Tryz.prog _ _ [(0, .ref 0 (γ 0)), (1, .pv (.int .i64 (k : Int)))] [(0, ((γ 0), .row 76 7 (l.map encEv)))] _
  have hml := mks_len zEv kEv k l
  have hll := szs_len zEv (fun p => by unfold zEv; omega) l
  refine ex_rs ttOK (by rfl) ?_
  refine rl_assign rfl ?_
  refine ex_seq_k fun K1 hK1 => ?_
  refine ex_rs ttOK (by rfl) ?_
  refine rl_assign rfl ?_
  refine ex_block ?_
  refine ex_loopK (ι := Nat) (fun i γ1 => [(1, .pv (.int .i64 ((k + szs zEv (l.take i) : Nat) : Int))), (5, .pv (.int .i64 (i : Int)))]) (fun i γ1 => [(0, ((γ 0), .row 76 7 (((mks zEv kEv k l).take i).map encEv ++ (l.drop i).map encEv)))]) (fun i => i ≤ l.length) (fun i => l.length - i) (Cov.cons (t := 0) rfl Cov.nil) HE.nil 0 (by omega) [] (Cov.cons' (t := 1) rfl (by rw [List.take_zero]; rfl) (Cov.cons (t := 5) rfl Cov.nil)) (HE.row rfl (by rw [List.take_zero, List.drop_zero]; rfl) HE.nil) rfl fun i γ1 hi => ?_
  try dsimp only [List.cons_append, List.nil_append]
  refine ex_seq_k fun K2 hK2 => ?_
  refine ex_rs ttOK (by rfl) ?_
  refine rl_move rfl ?_
  refine rl_move rfl ?_
  refine rl_lenr (n := l.length) rfl tt_24 rfl rfl (by rw [List.length_append, List.length_map, List.length_map, List.length_take, List.length_drop]; omega) ?_
  refine rl_bin rfl rfl rfl ?_
  refine ex_cond rfl (fun hc3 => ?_) (fun hc3 => ?_)
  rotate_left
  · try simp at hc3
    obtain rfl : i = l.length := by omega
    refine ex_exit ?_
    refine hK1 _ _ ?_
    clear hK2 K2 hK1 K1
    refine ex_rs ttOK (by rfl) ?_
    refine rl_move rfl ?_
    refine rl_assign rfl ?_
    refine ex_ret ?_
    exact ⟨.inr rfl, [γ 0], rfl, congrArg (fun v : Nat => some [AV.pv (.int .i64 (v : Int))]) (by rw [List.take_length]), HE.row rfl (by rw [List.take_of_length_le (by omega), List.drop_length, List.map_nil, List.append_nil]) HE.nil⟩
  try simp at hc3
  obtain ⟨p, hp⟩ : ∃ p, l[i]? = some p := ⟨_, List.getElem?_eq_getElem (by omega)⟩
  have hmk := mks_get zEv kEv (k := k) hp
  have hat := szs_at zEv hp
  have hzp : zEv p = 7 := rfl
  have hAl : (((mks zEv kEv k l).take i).map encEv).length = i := by rw [List.length_map, List.length_take]; omega
  rw [drop_cons hp, List.map_cons]
  rw [show encEv p = [pI p.time, pI p.to, pI p.from', pI p.count, pI p.n, pI p.kind, pI p.arg] from rfl]
  obtain ⟨q, hq⟩ : ∃ q, q = k + szs zEv (l.take i) := ⟨_, rfl⟩
  rw [← hq] at hmk ⊢
  refine ex_skip ?_
  refine hK2 _ _ ?_
  clear hK2 K2
  refine ex_seq_k fun K4 hK4 => ?_
  refine ex_block ?_
  refine ex_rs ttOK (by rfl) ?_
  refine rl_move rfl ?_
  refine rl_move rfl ?_
  refine rl_move rfl ?_
  refine rl_idxM rfl rfl tt_24 rfl tt_76 rfl rfl hAl ?_
  refine rl_fieldAddr rfl tt_76 rfl rfl tt_3 rfl rfl ?_
  refine rl_storeM hAl rfl rfl tt_3 rfl rfl rfl rfl rfl rfl rfl (by simp only [List.set_cons_zero, List.set_cons_succ]; rfl) ?_
  refine ex_rs ttOK (by rfl) ?_
  refine rl_move rfl ?_
  refine rl_addN (b := 1) rfl rfl (by omega) ?_
  refine rl_assign rfl ?_
  refine ex_rs ttOK (by rfl) ?_
  refine rl_move rfl ?_
  refine rl_move rfl ?_
  refine rl_move rfl ?_
  refine rl_idxM rfl rfl tt_24 rfl tt_76 rfl rfl hAl ?_
  refine rl_fieldAddr rfl tt_76 rfl rfl tt_3 rfl rfl ?_
  refine rl_storeM hAl rfl rfl tt_3 rfl rfl rfl rfl rfl rfl rfl (by simp only [List.set_cons_zero, List.set_cons_succ]; rfl) ?_
  refine ex_rs ttOK (by rfl) ?_
  refine rl_move rfl ?_
  refine rl_addN (b := 1) rfl rfl (by omega) ?_
  refine rl_assign rfl ?_
  refine ex_rs ttOK (by rfl) ?_
  refine rl_move rfl ?_
  refine rl_move rfl ?_
  refine rl_move rfl ?_
  refine rl_idxM rfl rfl tt_24 rfl tt_76 rfl rfl hAl ?_
  refine rl_fieldAddr rfl tt_76 rfl rfl tt_3 rfl rfl ?_
  refine rl_storeM hAl rfl rfl tt_3 rfl rfl rfl rfl rfl rfl rfl (by simp only [List.set_cons_zero, List.set_cons_succ]; rfl) ?_
  refine ex_rs ttOK (by rfl) ?_
  refine rl_move rfl ?_
  refine rl_addN (b := 1) rfl rfl (by omega) ?_
  refine rl_assign rfl ?_
  refine ex_rs ttOK (by rfl) ?_
  refine rl_move rfl ?_
  refine rl_move rfl ?_
  refine rl_move rfl ?_
  refine rl_idxM rfl rfl tt_24 rfl tt_76 rfl rfl hAl ?_
  refine rl_fieldAddr rfl tt_76 rfl rfl tt_3 rfl rfl ?_
  refine rl_storeM hAl rfl rfl tt_3 rfl rfl rfl rfl rfl rfl rfl (by simp only [List.set_cons_zero, List.set_cons_succ]; rfl) ?_
  refine ex_rs ttOK (by rfl) ?_
  refine rl_move rfl ?_
  refine rl_addN (b := 1) rfl rfl (by omega) ?_
  refine rl_assign rfl ?_
  refine ex_rs ttOK (by rfl) ?_
  refine rl_move rfl ?_
  refine rl_move rfl ?_
  refine rl_move rfl ?_
  refine rl_idxM rfl rfl tt_24 rfl tt_76 rfl rfl hAl ?_
  refine rl_fieldAddr rfl tt_76 rfl rfl tt_3 rfl rfl ?_
  refine rl_storeM hAl rfl rfl tt_3 rfl rfl rfl rfl rfl rfl rfl (by simp only [List.set_cons_zero, List.set_cons_succ]; rfl) ?_
  refine ex_rs ttOK (by rfl) ?_
  refine rl_move rfl ?_
  refine rl_addN (b := 1) rfl rfl (by omega) ?_
  refine rl_assign rfl ?_
  refine ex_rs ttOK (by rfl) ?_
  refine rl_move rfl ?_
  refine rl_move rfl ?_
  refine rl_move rfl ?_
  refine rl_idxM rfl rfl tt_24 rfl tt_76 rfl rfl hAl ?_
  refine rl_fieldAddr rfl tt_76 rfl rfl tt_3 rfl rfl ?_
  refine rl_storeM hAl rfl rfl tt_3 rfl rfl rfl rfl rfl rfl rfl (by simp only [List.set_cons_zero, List.set_cons_succ]; rfl) ?_
  refine ex_rs ttOK (by rfl) ?_
  refine rl_move rfl ?_
  refine rl_addN (b := 1) rfl rfl (by omega) ?_
  refine rl_assign rfl ?_
  refine ex_rs ttOK (by rfl) ?_
  refine rl_move rfl ?_
  refine rl_move rfl ?_
  refine rl_move rfl ?_
  refine rl_idxM rfl rfl tt_24 rfl tt_76 rfl rfl hAl ?_
  refine rl_fieldAddr rfl tt_76 rfl rfl tt_3 rfl rfl ?_
  refine rl_storeM hAl rfl rfl tt_3 rfl rfl rfl rfl rfl rfl rfl (by simp only [List.set_cons_zero, List.set_cons_succ]; rfl) ?_
  refine ex_region ttOK (by rfl) ?_
  refine rl_move rfl ?_
  refine rl_addN (b := 1) rfl rfl (by omega) ?_
  refine rl_assign rfl ?_
  refine hK4 _ _ ?_
  clear hK4 K4
  refine ex_region ttOK (by rfl) ?_
  refine rl_move rfl ?_
  refine rl_addN (b := 1) rfl rfl (by omega) ?_
  refine rl_assign rfl ?_
  exact ⟨i + 1, ⟨by omega, by omega⟩, [], (Cov.cons' (t := 1) rfl (by rw [szs_take zEv hp]; exact congrArg (fun v : Nat => AV.pv (.int .i64 (v : Int))) (by omega)) (Cov.cons (t := 5) rfl Cov.nil)), (Cov.cons (t := 0) rfl Cov.nil), (HE.row rfl (by rw [take_snoc hmk, List.map_append, List.append_assoc]; rfl) HE.nil), HE.nil, rfl⟩
theorem F_laws_markOutS (l : List Ou) (k : Nat) (hk : k + szs zOu l ≤ 1000000000) : Meth Tryz.prog 88 1 [0] [.ref 0 0, .pv (.int .i64 (k : Int))] [(0, (0, .row 104 5 (l.map encOu)))] (.pv (.int .i64 ((k + szs zOu l : Nat) : Int))) [(0, (0, .row 104 5 ((mks zOu kOu k l).map encOu)))] := by
  refine meth_of_ex ttOK (fn := Tryz.f88) (by kernel_rfl) (by kernel_rfl) rfl (O0 := [.pv (.int .i64 ((k + szs zOu l : Nat) : Int))]) 1 0 (Nat.le_of_ble_eq_true rfl) (by rfl) (by repeat (first | exact BndH.nil | refine BndH.row (flatR_map fun _ => rfl) ?_)) (by repeat (first | exact BndH.nil | refine BndH.row (flatR_map fun _ => rfl) ?_)) (by rfl) fun γ => ?_
  show Ex Tryz.prog _ _ [(0, .ref 0 (γ 0)), (1, .pv (.int .i64 (k : Int)))] [(0, ((γ 0), .row 104 5 (l.map encOu)))] _
  have hml := mks_len zOu kOu k l
  have hll := szs_len zOu (fun p => by unfold zOu; omega) l
  refine ex_rs ttOK (by rfl) ?_
  refine rl_assign rfl ?_
  refine ex_seq_k fun K1 hK1 => ?_
  refine ex_rs ttOK (by rfl) ?_
  refine rl_assign rfl ?_
  refine ex_block ?_
  refine ex_loopK (ι := Nat) (fun i γ1 => [(1, .pv (.int .i64 ((k + szs zOu (l.take i) : Nat) : Int))), (5, .pv (.int .i64 (i : Int)))]) (fun i γ1 => [(0, ((γ 0), .row 104 5 (((mks zOu kOu k l).take i).map encOu ++ (l.drop i).map encOu)))]) (fun i => i ≤ l.length) (fun i => l.length - i) (Cov.cons (t := 0) rfl Cov.nil) HE.nil 0 (by omega) [] (Cov.cons' (t := 1) rfl (by rw [List.take_zero]; rfl) (Cov.cons (t := 5) rfl Cov.nil)) (HE.row rfl (by rw [List.take_zero, List.drop_zero]; rfl) HE.nil) rfl fun i γ1 hi => ?_
  try dsimp only [List.cons_append, List.nil_append]
  refine ex_seq_k fun K2 hK2 => ?_
  refine ex_rs ttOK (by rfl) ?_
  refine rl_move rfl ?_
  refine rl_move rfl ?_
  refine rl_lenr (n := l.length) rfl tt_25 rfl rfl (by rw [List.length_append, List.length_map, List.length_map, List.length_take, List.length_drop]; omega) ?_
  refine rl_bin rfl rfl rfl ?_
  refine ex_cond rfl (fun hc3 => ?_) (fun hc3 => ?_)
  rotate_left
  · try simp at hc3
    obtain rfl : i = l.length := by omega
    refine ex_exit ?_
    refine hK1 _ _ ?_
    clear hK2 K2 hK1 K1
    refine ex_rs ttOK (by rfl) ?_
    refine rl_move rfl ?_
    refine rl_assign rfl ?_
    refine ex_ret ?_
    exact ⟨.inr rfl, [γ 0], rfl, congrArg (fun v : Nat => some [AV.pv (.int .i64 (v : Int))]) (by rw [List.take_length]), HE.row rfl (by rw [List.take_of_length_le (by omega), List.drop_length, List.map_nil, List.append_nil]) HE.nil⟩
  try simp at hc3
  obtain ⟨p, hp⟩ : ∃ p, l[i]? = some p := ⟨_, List.getElem?_eq_getElem (by omega)⟩
  have hmk := mks_get zOu kOu (k := k) hp
  have hat := szs_at zOu hp
  have hzp : zOu p = 5 := rfl
  have hAl : (((mks zOu kOu k l).take i).map encOu).length = i := by rw [List.length_map, List.length_take]; omega
  rw [drop_cons hp, List.map_cons]
  rw [show encOu p = [pI p.time, pI p.proc, pI p.count, pI p.n, pI p.value] from rfl]
  obtain ⟨q, hq⟩ : ∃ q, q = k + szs zOu (l.take i) := ⟨_, rfl⟩
  rw [← hq] at hmk ⊢
  refine ex_skip ?_
  refine hK2 _ _ ?_
  clear hK2 K2
  refine ex_seq_k fun K4 hK4 => ?_
  refine ex_block ?_
  refine ex_rs ttOK (by rfl) ?_
  refine rl_move rfl ?_
  refine rl_move rfl ?_
  refine rl_move rfl ?_
  refine rl_idxM rfl rfl tt_25 rfl tt_104 rfl rfl hAl ?_
  refine rl_fieldAddr rfl tt_104 rfl rfl tt_3 rfl rfl ?_
  refine rl_storeM hAl rfl rfl tt_3 rfl rfl rfl rfl rfl rfl rfl (by simp only [List.set_cons_zero, List.set_cons_succ]; rfl) ?_
  refine ex_rs ttOK (by rfl) ?_
  refine rl_move rfl ?_
  refine rl_addN (b := 1) rfl rfl (by omega) ?_
  refine rl_assign rfl ?_
  refine ex_rs ttOK (by rfl) ?_
  refine rl_move rfl ?_
  refine rl_move rfl ?_
  refine rl_move rfl ?_
  refine rl_idxM rfl rfl tt_25 rfl tt_104 rfl rfl hAl ?_
  refine rl_fieldAddr rfl tt_104 rfl rfl tt_3 rfl rfl ?_
  refine rl_storeM hAl rfl rfl tt_3 rfl rfl rfl rfl rfl rfl rfl (by simp only [List.set_cons_zero, List.set_cons_succ]; rfl) ?_
  refine ex_rs ttOK (by rfl) ?_
  refine rl_move rfl ?_
  refine rl_addN (b := 1) rfl rfl (by omega) ?_
  refine rl_assign rfl ?_
  refine ex_rs ttOK (by rfl) ?_
  refine rl_move rfl ?_
  refine rl_move rfl ?_
  refine rl_move rfl ?_
  refine rl_idxM rfl rfl tt_25 rfl tt_104 rfl rfl hAl ?_
  refine rl_fieldAddr rfl tt_104 rfl rfl tt_3 rfl rfl ?_
  refine rl_storeM hAl rfl rfl tt_3 rfl rfl rfl rfl rfl rfl rfl (by simp only [List.set_cons_zero, List.set_cons_succ]; rfl) ?_
  refine ex_rs ttOK (by rfl) ?_
  refine rl_move rfl ?_
  refine rl_addN (b := 1) rfl rfl (by omega) ?_
  refine rl_assign rfl ?_
  refine ex_rs ttOK (by rfl) ?_
  refine rl_move rfl ?_
  refine rl_move rfl ?_
  refine rl_move rfl ?_
  refine rl_idxM rfl rfl tt_25 rfl tt_104 rfl rfl hAl ?_
  refine rl_fieldAddr rfl tt_104 rfl rfl tt_3 rfl rfl ?_
  refine rl_storeM hAl rfl rfl tt_3 rfl rfl rfl rfl rfl rfl rfl (by simp only [List.set_cons_zero, List.set_cons_succ]; rfl) ?_
  refine ex_rs ttOK (by rfl) ?_
  refine rl_move rfl ?_
  refine rl_addN (b := 1) rfl rfl (by omega) ?_
  refine rl_assign rfl ?_
  refine ex_rs ttOK (by rfl) ?_
  refine rl_move rfl ?_
  refine rl_move rfl ?_
  refine rl_move rfl ?_
  refine rl_idxM rfl rfl tt_25 rfl tt_104 rfl rfl hAl ?_
  refine rl_fieldAddr rfl tt_104 rfl rfl tt_3 rfl rfl ?_
  refine rl_storeM hAl rfl rfl tt_3 rfl rfl rfl rfl rfl rfl rfl (by simp only [List.set_cons_zero, List.set_cons_succ]; rfl) ?_
  refine ex_region ttOK (by rfl) ?_
  refine rl_move rfl ?_
  refine rl_addN (b := 1) rfl rfl (by omega) ?_
  refine rl_assign rfl ?_
  refine hK4 _ _ ?_
  clear hK4 K4
  refine ex_region ttOK (by rfl) ?_
  refine rl_move rfl ?_
  refine rl_addN (b := 1) rfl rfl (by omega) ?_
  refine rl_assign rfl ?_
  exact ⟨i + 1, ⟨by omega, by omega⟩, [], (Cov.cons' (t := 1) rfl (by rw [szs_take zOu hp]; exact congrArg (fun v : Nat => AV.pv (.int .i64 (v : Int))) (by omega)) (Cov.cons (t := 5) rfl Cov.nil)), (Cov.cons (t := 0) rfl Cov.nil), (HE.row rfl (by rw [take_snoc hmk, List.map_append, List.append_assoc]; rfl) HE.nil), HE.nil, rfl⟩
theorem F_laws_markPastS (l : List Pa) (k : Nat) (hk : k + szs zPa l ≤ 1000000000) : Meth Tryz.prog 179 1 [0] [.ref 0 0, .pv (.int .i64 (k : Int))] [(0, (0, .row 78 12 (l.map encPaO)))] (.pv (.int .i64 ((k + szs zPa l : Nat) : Int))) [(0, (0, .row 78 12 ((mks zPa kPa k l).map encPaO)))] := by
  refine meth_of_ex ttOK (fn := Tryz.f179) (by kernel_rfl) (by kernel_rfl) rfl (O0 := [.pv (.int .i64 ((k + szs zPa l : Nat) : Int))]) 1 1 (Nat.le_of_ble_eq_true rfl) (by rfl) (by repeat (first | exact BndH.nil | refine BndH.row (flatR_map fun _ => rfl) ?_)) (by repeat (first | exact BndH.nil | refine BndH.row (flatR_map fun _ => rfl) ?_)) (by rfl) fun γ => ?_
  show Ex Tryz.prog _ _ [(0, .ref 0 (γ 0)), (1, .pv (.int .i64 (k : Int)))] [(0, ((γ 0), .row 78 12 (l.map encPaO))), (1, (0, .dead))] _
  have hml := mks_len zPa kPa k l
  have hll := szs_len zPa (fun p => by unfold zPa; omega) l
  refine ex_rs ttOK (by rfl) ?_
  refine rl_assign rfl ?_
  refine ex_seq_k fun K1 hK1 => ?_
  refine ex_rs ttOK (by rfl) ?_
  refine rl_assign rfl ?_
  refine ex_block ?_
  refine ex_loopK (ι := Nat) (fun i γ1 => [(1, .pv (.int .i64 ((k + szs zPa (l.take i) : Nat) : Int))), (5, .pv (.int .i64 (i : Int)))]) (fun i γ1 => [(1, ((γ1 1), .dead)), (0, ((γ 0), .row 78 12 (((mks zPa kPa k l).take i).map encPaO ++ (l.drop i).map encPaO)))]) (fun i => i ≤ l.length) (fun i => l.length - i) (Cov.cons (t := 0) rfl Cov.nil) HE.nil 0 (by omega) [0, _] (Cov.cons' (t := 1) rfl (by rw [List.take_zero]; rfl) (Cov.cons (t := 5) rfl Cov.nil)) (HE.kill rfl (HE.row rfl (by rw [List.take_zero, List.drop_zero]; rfl) HE.nil)) rfl fun i γ1 hi => ?_
  try dsimp only [List.cons_append, List.nil_append]
  refine ex_seq_k fun K2 hK2 => ?_
  refine ex_rs ttOK (by rfl) ?_
  refine rl_move rfl ?_
  refine rl_move rfl ?_
  refine rl_lenr (n := l.length) rfl tt_63 rfl rfl (by rw [List.length_append, List.length_map, List.length_map, List.length_take, List.length_drop]; omega) ?_
  refine rl_bin rfl rfl rfl ?_
  refine ex_cond rfl (fun hc3 => ?_) (fun hc3 => ?_)
  rotate_left
  · try simp at hc3
    obtain rfl : i = l.length := by omega
    refine ex_exit ?_
    refine hK1 _ _ ?_
    clear hK2 K2 hK1 K1
    refine ex_rs ttOK (by rfl) ?_
    refine rl_move rfl ?_
    refine rl_assign rfl ?_
    refine ex_ret ?_
    exact ⟨.inr rfl, [γ 0], rfl, congrArg (fun v : Nat => some [AV.pv (.int .i64 (v : Int))]) (by rw [List.take_length]), HE.row rfl (by rw [List.take_of_length_le (by omega), List.drop_length, List.map_nil, List.append_nil]) HE.nil⟩
  try simp at hc3
  obtain ⟨p, hp⟩ : ∃ p, l[i]? = some p := ⟨_, List.getElem?_eq_getElem (by omega)⟩
  have hmk := mks_get zPa kPa (k := k) hp
  have hat := szs_at zPa hp
  have hzp : zPa p = 10 + szs zEv p.sends + szs zOu p.outs := rfl
  have hAl : (((mks zPa kPa k l).take i).map encPaO).length = i := by rw [List.length_map, List.length_take]; omega
  rw [drop_cons hp, List.map_cons]
  rw [show encPaO p = [pI p.ev.time, pI p.ev.to, pI p.ev.from', pI p.ev.count, pI p.ev.n, pI p.ev.kind, pI p.ev.arg, pI p.after.x, pI p.after.y, pI p.after.count, .row .ow 76 7 (p.sends.map encEv), .row .ow 104 5 (p.outs.map encOu)] from rfl]
  obtain ⟨q, hq⟩ : ∃ q, q = k + szs zPa (l.take i) := ⟨_, rfl⟩
  rw [← hq] at hmk ⊢
  refine ex_skip ?_
  refine hK2 _ _ ?_
  clear hK2 K2
  refine ex_seq_k fun K4 hK4 => ?_
  refine ex_block ?_
  refine ex_rs ttOK (by rfl) ?_
  refine rl_move rfl ?_
  refine rl_move rfl ?_
  refine rl_move rfl ?_
  refine rl_idxM rfl rfl tt_63 rfl tt_78 rfl rfl hAl ?_
  refine rl_fieldAddr rfl tt_78 rfl rfl tt_76 rfl rfl ?_
  refine rl_fieldAddr rfl tt_76 rfl rfl tt_3 rfl rfl ?_
  refine rl_storeM hAl rfl rfl tt_3 rfl rfl rfl rfl rfl rfl rfl (by simp only [List.set_cons_zero, List.set_cons_succ]; rfl) ?_
  refine ex_rs ttOK (by rfl) ?_
  refine rl_move rfl ?_
  refine rl_addN (b := 1) rfl rfl (by omega) ?_
  refine rl_assign rfl ?_
  refine ex_rs ttOK (by rfl) ?_
  refine rl_move rfl ?_
  refine rl_move rfl ?_
  refine rl_move rfl ?_
  refine rl_idxM rfl rfl tt_63 rfl tt_78 rfl rfl hAl ?_
  refine rl_fieldAddr rfl tt_78 rfl rfl tt_76 rfl rfl ?_
  refine rl_fieldAddr rfl tt_76 rfl rfl tt_3 rfl rfl ?_
  refine rl_storeM hAl rfl rfl tt_3 rfl rfl rfl rfl rfl rfl rfl (by simp only [List.set_cons_zero, List.set_cons_succ]; rfl) ?_
  refine ex_rs ttOK (by rfl) ?_
  refine rl_move rfl ?_
  refine rl_addN (b := 1) rfl rfl (by omega) ?_
  refine rl_assign rfl ?_
  refine ex_rs ttOK (by rfl) ?_
  refine rl_move rfl ?_
  refine rl_move rfl ?_
  refine rl_move rfl ?_
  refine rl_idxM rfl rfl tt_63 rfl tt_78 rfl rfl hAl ?_
  refine rl_fieldAddr rfl tt_78 rfl rfl tt_76 rfl rfl ?_
  refine rl_fieldAddr rfl tt_76 rfl rfl tt_3 rfl rfl ?_
  refine rl_storeM hAl rfl rfl tt_3 rfl rfl rfl rfl rfl rfl rfl (by simp only [List.set_cons_zero, List.set_cons_succ]; rfl) ?_
  refine ex_rs ttOK (by rfl) ?_
  refine rl_move rfl ?_
  refine rl_addN (b := 1) rfl rfl (by omega) ?_
  refine rl_assign rfl ?_
  refine ex_rs ttOK (by rfl) ?_
  refine rl_move rfl ?_
  refine rl_move rfl ?_
  refine rl_move rfl ?_
  refine rl_idxM rfl rfl tt_63 rfl tt_78 rfl rfl hAl ?_
  refine rl_fieldAddr rfl tt_78 rfl rfl tt_76 rfl rfl ?_
  refine rl_fieldAddr rfl tt_76 rfl rfl tt_3 rfl rfl ?_
  refine rl_storeM hAl rfl rfl tt_3 rfl rfl rfl rfl rfl rfl rfl (by simp only [List.set_cons_zero, List.set_cons_succ]; rfl) ?_
  refine ex_rs ttOK (by rfl) ?_
  refine rl_move rfl ?_
  refine rl_addN (b := 1) rfl rfl (by omega) ?_
  refine rl_assign rfl ?_
  refine ex_rs ttOK (by rfl) ?_
  refine rl_move rfl ?_
  refine rl_move rfl ?_
  refine rl_move rfl ?_
  refine rl_idxM rfl rfl tt_63 rfl tt_78 rfl rfl hAl ?_
  refine rl_fieldAddr rfl tt_78 rfl rfl tt_76 rfl rfl ?_
  refine rl_fieldAddr rfl tt_76 rfl rfl tt_3 rfl rfl ?_
  refine rl_storeM hAl rfl rfl tt_3 rfl rfl rfl rfl rfl rfl rfl (by simp only [List.set_cons_zero, List.set_cons_succ]; rfl) ?_
  refine ex_rs ttOK (by rfl) ?_
  refine rl_move rfl ?_
  refine rl_addN (b := 1) rfl rfl (by omega) ?_
  refine rl_assign rfl ?_
  refine ex_rs ttOK (by rfl) ?_
  refine rl_move rfl ?_
  refine rl_move rfl ?_
  refine rl_move rfl ?_
  refine rl_idxM rfl rfl tt_63 rfl tt_78 rfl rfl hAl ?_
  refine rl_fieldAddr rfl tt_78 rfl rfl tt_76 rfl rfl ?_
  refine rl_fieldAddr rfl tt_76 rfl rfl tt_3 rfl rfl ?_
  refine rl_storeM hAl rfl rfl tt_3 rfl rfl rfl rfl rfl rfl rfl (by simp only [List.set_cons_zero, List.set_cons_succ]; rfl) ?_
  refine ex_rs ttOK (by rfl) ?_
  refine rl_move rfl ?_
  refine rl_addN (b := 1) rfl rfl (by omega) ?_
  refine rl_assign rfl ?_
  refine ex_rs ttOK (by rfl) ?_
  refine rl_move rfl ?_
  refine rl_move rfl ?_
  refine rl_move rfl ?_
  refine rl_idxM rfl rfl tt_63 rfl tt_78 rfl rfl hAl ?_
  refine rl_fieldAddr rfl tt_78 rfl rfl tt_76 rfl rfl ?_
  refine rl_fieldAddr rfl tt_76 rfl rfl tt_3 rfl rfl ?_
  refine rl_storeM hAl rfl rfl tt_3 rfl rfl rfl rfl rfl rfl rfl (by simp only [List.set_cons_zero, List.set_cons_succ]; rfl) ?_
  refine ex_rs ttOK (by rfl) ?_
  refine rl_move rfl ?_
  refine rl_addN (b := 1) rfl rfl (by omega) ?_
  refine rl_assign rfl ?_
  refine ex_rs ttOK (by rfl) ?_
  refine rl_move rfl ?_
  refine rl_move rfl ?_
  refine rl_move rfl ?_
  refine rl_idxM rfl rfl tt_63 rfl tt_78 rfl rfl hAl ?_
  refine rl_fieldAddr rfl tt_78 rfl rfl tt_62 rfl rfl ?_
  refine rl_fieldAddr rfl tt_62 rfl rfl tt_3 rfl rfl ?_
  refine rl_storeM hAl rfl rfl tt_3 rfl rfl rfl rfl rfl rfl rfl (by simp only [List.set_cons_zero, List.set_cons_succ]; rfl) ?_
  refine ex_rs ttOK (by rfl) ?_
  refine rl_move rfl ?_
  refine rl_addN (b := 1) rfl rfl (by omega) ?_
  refine rl_assign rfl ?_
  refine ex_rs ttOK (by rfl) ?_
  refine rl_move rfl ?_
  refine rl_move rfl ?_
  refine rl_move rfl ?_
  refine rl_idxM rfl rfl tt_63 rfl tt_78 rfl rfl hAl ?_
  refine rl_fieldAddr rfl tt_78 rfl rfl tt_62 rfl rfl ?_
  refine rl_fieldAddr rfl tt_62 rfl rfl tt_3 rfl rfl ?_
  refine rl_storeM hAl rfl rfl tt_3 rfl rfl rfl rfl rfl rfl rfl (by simp only [List.set_cons_zero, List.set_cons_succ]; rfl) ?_
  refine ex_rs ttOK (by rfl) ?_
  refine rl_move rfl ?_
  refine rl_addN (b := 1) rfl rfl (by omega) ?_
  refine rl_assign rfl ?_
  refine ex_rs ttOK (by rfl) ?_
  refine rl_move rfl ?_
  refine rl_move rfl ?_
  refine rl_move rfl ?_
  refine rl_idxM rfl rfl tt_63 rfl tt_78 rfl rfl hAl ?_
  refine rl_fieldAddr rfl tt_78 rfl rfl tt_62 rfl rfl ?_
  refine rl_fieldAddr rfl tt_62 rfl rfl tt_3 rfl rfl ?_
  refine rl_storeM hAl rfl rfl tt_3 rfl rfl rfl rfl rfl rfl rfl (by simp only [List.set_cons_zero, List.set_cons_succ]; rfl) ?_
  refine ex_rs ttOK (by rfl) ?_
  refine rl_move rfl ?_
  refine rl_addN (b := 1) rfl rfl (by omega) ?_
  refine rl_assign rfl ?_
  refine ex_splitM 0 10 1 hAl rfl rfl rfl rfl rfl ?_
  refine ex_rs ttOK (by rfl) ?_
  refine rl_move rfl ?_
  refine rl_move rfl ?_
  refine rl_idxM rfl rfl tt_63 rfl tt_78 rfl rfl hAl ?_
  refine rl_fieldAddr rfl tt_78 rfl rfl tt_24 rfl rfl ?_
  refine rl_loadM hAl rfl tt_24 rfl rfl ?_
  refine rl_move rfl ?_
  refine rl_meth [1] [_] (F_laws_markEventS p.sends (q + 10) (by omega)) rfl rfl rfl (by decide) rfl rfl (by repeat (first | exact InH.nil | refine InH.cons rfl ?_)) (by (simp only [pI, List.map_cons, List.map_nil, insAll, insEnc, gl, nx, memN, Nat.beq, Nat.add_eq, List.getD_cons_zero, List.getD_cons_succ, List.getD_nil, Bool.or_false, Bool.false_or, Bool.true_or, Bool.or_true, Nat.add_zero, Nat.zero_add]; rfl)) (by (simp only [pI, List.map_cons, List.map_nil, insAll, insEnc, gl, nx, memN, Nat.beq, Nat.add_eq, List.getD_cons_zero, List.getD_cons_succ, List.getD_nil, Bool.or_false, Bool.false_or, Bool.true_or, Bool.or_true, Nat.add_zero, Nat.zero_add]; rfl)) ?_
  refine rl_assign rfl ?_
  refine ex_joinM 0 10 1 hAl rfl rfl rfl (flatR_map fun _ => rfl) rfl rfl ?_
  refine ex_splitM 0 11 1 hAl rfl rfl rfl rfl rfl ?_
  refine ex_region ttOK (by rfl) ?_
  refine rl_move rfl ?_
  refine rl_move rfl ?_
  refine rl_idxM rfl rfl tt_63 rfl tt_78 rfl rfl hAl ?_
  refine rl_fieldAddr rfl tt_78 rfl rfl tt_25 rfl rfl ?_
  refine rl_loadM hAl rfl tt_25 rfl rfl ?_
  refine rl_move rfl ?_
  refine rl_meth [1] [_] (F_laws_markOutS p.outs (q + 10 + szs zEv p.sends) (by omega)) rfl rfl rfl (by decide) rfl rfl (by repeat (first | exact InH.nil | refine InH.cons rfl ?_)) (by (simp only [pI, List.map_cons, List.map_nil, insAll, insEnc, gl, nx, memN, Nat.beq, Nat.add_eq, List.getD_cons_zero, List.getD_cons_succ, List.getD_nil, Bool.or_false, Bool.false_or, Bool.true_or, Bool.or_true, Nat.add_zero, Nat.zero_add]; rfl)) (by (simp only [pI, List.map_cons, List.map_nil, insAll, insEnc, gl, nx, memN, Nat.beq, Nat.add_eq, List.getD_cons_zero, List.getD_cons_succ, List.getD_nil, Bool.or_false, Bool.false_or, Bool.true_or, Bool.or_true, Nat.add_zero, Nat.zero_add]; rfl)) ?_
  refine rl_assign rfl ?_
  refine hK4 _ _ ?_
  clear hK4 K4
  refine ex_joinM 0 11 1 hAl rfl rfl rfl (flatR_map fun _ => rfl) rfl rfl ?_
  refine ex_region ttOK (by rfl) ?_
  refine rl_move rfl ?_
  refine rl_addN (b := 1) rfl rfl (by omega) ?_
  refine rl_assign rfl ?_
  exact ⟨i + 1, ⟨by omega, by omega⟩, [0, _], (Cov.cons' (t := 1) rfl (by rw [szs_take zPa hp]; exact congrArg (fun v : Nat => AV.pv (.int .i64 (v : Int))) (by omega)) (Cov.cons (t := 5) rfl Cov.nil)), (Cov.cons (t := 0) rfl Cov.nil), (HE.kill rfl (HE.row rfl (by rw [take_snoc hmk, List.map_append, List.append_assoc]; rfl) HE.nil)), HE.nil, rfl⟩
theorem F_laws_markLaneS (l : List La) (k : Nat) (hk : k + szs zLa l ≤ 1000000000) : Meth Tryz.prog 87 1 [0] [.ref 0 0, .pv (.int .i64 (k : Int))] [(0, (0, .row 65 5 (l.map encLaO)))] (.pv (.int .i64 ((k + szs zLa l : Nat) : Int))) [(0, (0, .row 65 5 ((mks zLa kLa k l).map encLaO)))] := by
  refine meth_of_ex ttOK (fn := Tryz.f87) (by kernel_rfl) (by kernel_rfl) rfl (O0 := [.pv (.int .i64 ((k + szs zLa l : Nat) : Int))]) 1 1 (Nat.le_of_ble_eq_true rfl) (by rfl) (by repeat (first | exact BndH.nil | refine BndH.row (flatR_map fun _ => rfl) ?_)) (by repeat (first | exact BndH.nil | refine BndH.row (flatR_map fun _ => rfl) ?_)) (by rfl) fun γ => ?_
  show Ex Tryz.prog _ _ [(0, .ref 0 (γ 0)), (1, .pv (.int .i64 (k : Int)))] [(0, ((γ 0), .row 65 5 (l.map encLaO))), (1, (0, .dead))] _
  have hml := mks_len zLa kLa k l
  have hll := szs_len zLa (fun p => by unfold zLa; omega) l
  refine ex_rs ttOK (by rfl) ?_
  refine rl_assign rfl ?_
  refine ex_seq_k fun K1 hK1 => ?_
  refine ex_rs ttOK (by rfl) ?_
  refine rl_assign rfl ?_
  refine ex_block ?_
  refine ex_loopK (ι := Nat) (fun i γ1 => [(1, .pv (.int .i64 ((k + szs zLa (l.take i) : Nat) : Int))), (5, .pv (.int .i64 (i : Int)))]) (fun i γ1 => [(1, ((γ1 1), .dead)), (0, ((γ 0), .row 65 5 (((mks zLa kLa k l).take i).map encLaO ++ (l.drop i).map encLaO)))]) (fun i => i ≤ l.length) (fun i => l.length - i) (Cov.cons (t := 0) rfl Cov.nil) HE.nil 0 (by omega) [0, _] (Cov.cons' (t := 1) rfl (by rw [List.take_zero]; rfl) (Cov.cons (t := 5) rfl Cov.nil)) (HE.kill rfl (HE.row rfl (by rw [List.take_zero, List.drop_zero]; rfl) HE.nil)) rfl fun i γ1 hi => ?_
  try dsimp only [List.cons_append, List.nil_append]
  refine ex_seq_k fun K2 hK2 => ?_
  refine ex_rs ttOK (by rfl) ?_
  refine rl_move rfl ?_
  refine rl_move rfl ?_
  refine rl_lenr (n := l.length) rfl tt_23 rfl rfl (by rw [List.length_append, List.length_map, List.length_map, List.length_take, List.length_drop]; omega) ?_
  refine rl_bin rfl rfl rfl ?_
  refine ex_cond rfl (fun hc3 => ?_) (fun hc3 => ?_)
  rotate_left
  · try simp at hc3
    obtain rfl : i = l.length := by omega
    refine ex_exit ?_
    refine hK1 _ _ ?_
    clear hK2 K2 hK1 K1
    refine ex_rs ttOK (by rfl) ?_
    refine rl_move rfl ?_
    refine rl_assign rfl ?_
    refine ex_ret ?_
    exact ⟨.inr rfl, [γ 0], rfl, congrArg (fun v : Nat => some [AV.pv (.int .i64 (v : Int))]) (by rw [List.take_length]), HE.row rfl (by rw [List.take_of_length_le (by omega), List.drop_length, List.map_nil, List.append_nil]) HE.nil⟩
  try simp at hc3
  obtain ⟨p, hp⟩ : ∃ p, l[i]? = some p := ⟨_, List.getElem?_eq_getElem (by omega)⟩
  have hmk := mks_get zLa kLa (k := k) hp
  have hat := szs_at zLa hp
  have hzp : zLa p = 4 + szs zPa p.done := rfl
  have hAl : (((mks zLa kLa k l).take i).map encLaO).length = i := by rw [List.length_map, List.length_take]; omega
  rw [drop_cons hp, List.map_cons]
  rw [show encLaO p = [pI p.proc, pI p.base.x, pI p.base.y, pI p.base.count, .row .ow 78 12 (p.done.map encPaO)] from rfl]
  obtain ⟨q, hq⟩ : ∃ q, q = k + szs zLa (l.take i) := ⟨_, rfl⟩
  rw [← hq] at hmk ⊢
  refine ex_skip ?_
  refine hK2 _ _ ?_
  clear hK2 K2
  refine ex_seq_k fun K4 hK4 => ?_
  refine ex_block ?_
  refine ex_rs ttOK (by rfl) ?_
  refine rl_move rfl ?_
  refine rl_move rfl ?_
  refine rl_move rfl ?_
  refine rl_idxM rfl rfl tt_23 rfl tt_65 rfl rfl hAl ?_
  refine rl_fieldAddr rfl tt_65 rfl rfl tt_3 rfl rfl ?_
  refine rl_storeM hAl rfl rfl tt_3 rfl rfl rfl rfl rfl rfl rfl (by simp only [List.set_cons_zero, List.set_cons_succ]; rfl) ?_
  refine ex_rs ttOK (by rfl) ?_
  refine rl_move rfl ?_
  refine rl_addN (b := 1) rfl rfl (by omega) ?_
  refine rl_assign rfl ?_
  refine ex_rs ttOK (by rfl) ?_
  refine rl_move rfl ?_
  refine rl_move rfl ?_
  refine rl_move rfl ?_
  refine rl_idxM rfl rfl tt_23 rfl tt_65 rfl rfl hAl ?_
  refine rl_fieldAddr rfl tt_65 rfl rfl tt_62 rfl rfl ?_
  refine rl_fieldAddr rfl tt_62 rfl rfl tt_3 rfl rfl ?_
  refine rl_storeM hAl rfl rfl tt_3 rfl rfl rfl rfl rfl rfl rfl (by simp only [List.set_cons_zero, List.set_cons_succ]; rfl) ?_
  refine ex_rs ttOK (by rfl) ?_
  refine rl_move rfl ?_
  refine rl_addN (b := 1) rfl rfl (by omega) ?_
  refine rl_assign rfl ?_
  refine ex_rs ttOK (by rfl) ?_
  refine rl_move rfl ?_
  refine rl_move rfl ?_
  refine rl_move rfl ?_
  refine rl_idxM rfl rfl tt_23 rfl tt_65 rfl rfl hAl ?_
  refine rl_fieldAddr rfl tt_65 rfl rfl tt_62 rfl rfl ?_
  refine rl_fieldAddr rfl tt_62 rfl rfl tt_3 rfl rfl ?_
  refine rl_storeM hAl rfl rfl tt_3 rfl rfl rfl rfl rfl rfl rfl (by simp only [List.set_cons_zero, List.set_cons_succ]; rfl) ?_
  refine ex_rs ttOK (by rfl) ?_
  refine rl_move rfl ?_
  refine rl_addN (b := 1) rfl rfl (by omega) ?_
  refine rl_assign rfl ?_
  refine ex_rs ttOK (by rfl) ?_
  refine rl_move rfl ?_
  refine rl_move rfl ?_
  refine rl_move rfl ?_
  refine rl_idxM rfl rfl tt_23 rfl tt_65 rfl rfl hAl ?_
  refine rl_fieldAddr rfl tt_65 rfl rfl tt_62 rfl rfl ?_
  refine rl_fieldAddr rfl tt_62 rfl rfl tt_3 rfl rfl ?_
  refine rl_storeM hAl rfl rfl tt_3 rfl rfl rfl rfl rfl rfl rfl (by simp only [List.set_cons_zero, List.set_cons_succ]; rfl) ?_
  refine ex_rs ttOK (by rfl) ?_
  refine rl_move rfl ?_
  refine rl_addN (b := 1) rfl rfl (by omega) ?_
  refine rl_assign rfl ?_
  refine ex_splitM 0 4 1 hAl rfl rfl rfl rfl rfl ?_
  refine ex_region ttOK (by rfl) ?_
  refine rl_move rfl ?_
  refine rl_move rfl ?_
  refine rl_idxM rfl rfl tt_23 rfl tt_65 rfl rfl hAl ?_
  refine rl_fieldAddr rfl tt_65 rfl rfl tt_63 rfl rfl ?_
  refine rl_loadM hAl rfl tt_63 rfl rfl ?_
  refine rl_move rfl ?_
  refine rl_meth [1] [_] (F_laws_markPastS p.done (q + 4) (by omega)) rfl rfl rfl (by decide) rfl rfl (by repeat (first | exact InH.nil | refine InH.cons rfl ?_)) (by (simp only [pI, List.map_cons, List.map_nil, insAll, insEnc, gl, nx, memN, Nat.beq, Nat.add_eq, List.getD_cons_zero, List.getD_cons_succ, List.getD_nil, Bool.or_false, Bool.false_or, Bool.true_or, Bool.or_true, Nat.add_zero, Nat.zero_add]; rfl)) (by (simp only [pI, List.map_cons, List.map_nil, insAll, insEnc, gl, nx, memN, Nat.beq, Nat.add_eq, List.getD_cons_zero, List.getD_cons_succ, List.getD_nil, Bool.or_false, Bool.false_or, Bool.true_or, Bool.or_true, Nat.add_zero, Nat.zero_add]; rfl)) ?_
  refine rl_assign rfl ?_
  refine hK4 _ _ ?_
  clear hK4 K4
  refine ex_joinM 0 4 1 hAl rfl rfl rfl (flatR_map fun _ => rfl) rfl rfl ?_
  refine ex_region ttOK (by rfl) ?_
  refine rl_move rfl ?_
  refine rl_addN (b := 1) rfl rfl (by omega) ?_
  refine rl_assign rfl ?_
  exact ⟨i + 1, ⟨by omega, by omega⟩, [0, _], (Cov.cons' (t := 1) rfl (by rw [szs_take zLa hp]; exact congrArg (fun v : Nat => AV.pv (.int .i64 (v : Int))) (by omega)) (Cov.cons (t := 5) rfl Cov.nil)), (Cov.cons (t := 0) rfl Cov.nil), (HE.kill rfl (HE.row rfl (by rw [take_snoc hmk, List.map_append, List.append_assoc]; rfl) HE.nil)), HE.nil, rfl⟩
theorem F_laws_markViewS (l : List Vi) (k : Nat) (hk : k + szs zVi l ≤ 1000000000) : Meth Tryz.prog 89 1 [0] [.ref 0 0, .pv (.int .i64 (k : Int))] [(0, (0, .row 141 3 (l.map encViO)))] (.pv (.int .i64 ((k + szs zVi l : Nat) : Int))) [(0, (0, .row 141 3 ((mks zVi kVi k l).map encViO)))] := by
  refine meth_of_ex ttOK (fn := Tryz.f89) (by kernel_rfl) (by kernel_rfl) rfl (O0 := [.pv (.int .i64 ((k + szs zVi l : Nat) : Int))]) 1 1 (Nat.le_of_ble_eq_true rfl) (by rfl) (by repeat (first | exact BndH.nil | refine BndH.row (flatR_map fun _ => rfl) ?_)) (by repeat (first | exact BndH.nil | refine BndH.row (flatR_map fun _ => rfl) ?_)) (by rfl) fun γ => ?_
  show Ex Tryz.prog _ _ [(0, .ref 0 (γ 0)), (1, .pv (.int .i64 (k : Int)))] [(0, ((γ 0), .row 141 3 (l.map encViO))), (1, (0, .dead))] _
  have hml := mks_len zVi kVi k l
  have hll := szs_len zVi (fun p => by unfold zVi; omega) l
  refine ex_rs ttOK (by rfl) ?_
  refine rl_assign rfl ?_
  refine ex_seq_k fun K1 hK1 => ?_
  refine ex_rs ttOK (by rfl) ?_
  refine rl_assign rfl ?_
  refine ex_block ?_
  refine ex_loopK (ι := Nat) (fun i γ1 => [(1, .pv (.int .i64 ((k + szs zVi (l.take i) : Nat) : Int))), (5, .pv (.int .i64 (i : Int)))]) (fun i γ1 => [(1, ((γ1 1), .dead)), (0, ((γ 0), .row 141 3 (((mks zVi kVi k l).take i).map encViO ++ (l.drop i).map encViO)))]) (fun i => i ≤ l.length) (fun i => l.length - i) (Cov.cons (t := 0) rfl Cov.nil) HE.nil 0 (by omega) [0, _] (Cov.cons' (t := 1) rfl (by rw [List.take_zero]; rfl) (Cov.cons (t := 5) rfl Cov.nil)) (HE.kill rfl (HE.row rfl (by rw [List.take_zero, List.drop_zero]; rfl) HE.nil)) rfl fun i γ1 hi => ?_
  try dsimp only [List.cons_append, List.nil_append]
  refine ex_seq_k fun K2 hK2 => ?_
  refine ex_rs ttOK (by rfl) ?_
  refine rl_move rfl ?_
  refine rl_move rfl ?_
  refine rl_lenr (n := l.length) rfl tt_26 rfl rfl (by rw [List.length_append, List.length_map, List.length_map, List.length_take, List.length_drop]; omega) ?_
  refine rl_bin rfl rfl rfl ?_
  refine ex_cond rfl (fun hc3 => ?_) (fun hc3 => ?_)
  rotate_left
  · try simp at hc3
    obtain rfl : i = l.length := by omega
    refine ex_exit ?_
    refine hK1 _ _ ?_
    clear hK2 K2 hK1 K1
    refine ex_rs ttOK (by rfl) ?_
    refine rl_move rfl ?_
    refine rl_assign rfl ?_
    refine ex_ret ?_
    exact ⟨.inr rfl, [γ 0], rfl, congrArg (fun v : Nat => some [AV.pv (.int .i64 (v : Int))]) (by rw [List.take_length]), HE.row rfl (by rw [List.take_of_length_le (by omega), List.drop_length, List.map_nil, List.append_nil]) HE.nil⟩
  try simp at hc3
  obtain ⟨p, hp⟩ : ∃ p, l[i]? = some p := ⟨_, List.getElem?_eq_getElem (by omega)⟩
  have hmk := mks_get zVi kVi (k := k) hp
  have hat := szs_at zVi hp
  have hzp : zVi p = 2 + szs zEv p.events := rfl
  have hAl : (((mks zVi kVi k l).take i).map encViO).length = i := by rw [List.length_map, List.length_take]; omega
  rw [drop_cons hp, List.map_cons]
  rw [show encViO p = [pI p.inc, pI p.version, .row .ow 76 7 (p.events.map encEv)] from rfl]
  obtain ⟨q, hq⟩ : ∃ q, q = k + szs zVi (l.take i) := ⟨_, rfl⟩
  rw [← hq] at hmk ⊢
  refine ex_skip ?_
  refine hK2 _ _ ?_
  clear hK2 K2
  refine ex_seq_k fun K4 hK4 => ?_
  refine ex_block ?_
  refine ex_rs ttOK (by rfl) ?_
  refine rl_move rfl ?_
  refine rl_move rfl ?_
  refine rl_move rfl ?_
  refine rl_idxM rfl rfl tt_26 rfl tt_141 rfl rfl hAl ?_
  refine rl_fieldAddr rfl tt_141 rfl rfl tt_3 rfl rfl ?_
  refine rl_storeM hAl rfl rfl tt_3 rfl rfl rfl rfl rfl rfl rfl (by simp only [List.set_cons_zero, List.set_cons_succ]; rfl) ?_
  refine ex_rs ttOK (by rfl) ?_
  refine rl_move rfl ?_
  refine rl_addN (b := 1) rfl rfl (by omega) ?_
  refine rl_assign rfl ?_
  refine ex_rs ttOK (by rfl) ?_
  refine rl_move rfl ?_
  refine rl_move rfl ?_
  refine rl_move rfl ?_
  refine rl_idxM rfl rfl tt_26 rfl tt_141 rfl rfl hAl ?_
  refine rl_fieldAddr rfl tt_141 rfl rfl tt_3 rfl rfl ?_
  refine rl_storeM hAl rfl rfl tt_3 rfl rfl rfl rfl rfl rfl rfl (by simp only [List.set_cons_zero, List.set_cons_succ]; rfl) ?_
  refine ex_rs ttOK (by rfl) ?_
  refine rl_move rfl ?_
  refine rl_addN (b := 1) rfl rfl (by omega) ?_
  refine rl_assign rfl ?_
  refine ex_splitM 0 2 1 hAl rfl rfl rfl rfl rfl ?_
  refine ex_region ttOK (by rfl) ?_
  refine rl_move rfl ?_
  refine rl_move rfl ?_
  refine rl_idxM rfl rfl tt_26 rfl tt_141 rfl rfl hAl ?_
  refine rl_fieldAddr rfl tt_141 rfl rfl tt_24 rfl rfl ?_
  refine rl_loadM hAl rfl tt_24 rfl rfl ?_
  refine rl_move rfl ?_
  refine rl_meth [1] [_] (F_laws_markEventS p.events (q + 2) (by omega)) rfl rfl rfl (by decide) rfl rfl (by repeat (first | exact InH.nil | refine InH.cons rfl ?_)) (by (simp only [pI, List.map_cons, List.map_nil, insAll, insEnc, gl, nx, memN, Nat.beq, Nat.add_eq, List.getD_cons_zero, List.getD_cons_succ, List.getD_nil, Bool.or_false, Bool.false_or, Bool.true_or, Bool.or_true, Nat.add_zero, Nat.zero_add]; rfl)) (by (simp only [pI, List.map_cons, List.map_nil, insAll, insEnc, gl, nx, memN, Nat.beq, Nat.add_eq, List.getD_cons_zero, List.getD_cons_succ, List.getD_nil, Bool.or_false, Bool.false_or, Bool.true_or, Bool.or_true, Nat.add_zero, Nat.zero_add]; rfl)) ?_
  refine rl_assign rfl ?_
  refine hK4 _ _ ?_
  clear hK4 K4
  refine ex_joinM 0 2 1 hAl rfl rfl rfl (flatR_map fun _ => rfl) rfl rfl ?_
  refine ex_region ttOK (by rfl) ?_
  refine rl_move rfl ?_
  refine rl_addN (b := 1) rfl rfl (by omega) ?_
  refine rl_assign rfl ?_
  exact ⟨i + 1, ⟨by omega, by omega⟩, [0, _], (Cov.cons' (t := 1) rfl (by rw [szs_take zVi hp]; exact congrArg (fun v : Nat => AV.pv (.int .i64 (v : Int))) (by omega)) (Cov.cons (t := 5) rfl Cov.nil)), (Cov.cons (t := 0) rfl Cov.nil), (HE.kill rfl (HE.row rfl (by rw [take_snoc hmk, List.map_append, List.append_assoc]; rfl) HE.nil)), HE.nil, rfl⟩
theorem F_laws_markNode (n : Nd) (k : Nat) (hk : k + zNd n ≤ 1000000000) : Meth Tryz.prog 21 5 [0, 1, 2, 3, 4] [.agg [pI n.id, .pv (.bool n.up), pI n.inc, pI n.g, .ref 0 0, .ref 1 0, .ref 2 0, pI n.led, pI n.version, .ref 3 0, .ref 4 0, pI n.round, pI n.low], .pv (.int .i64 (k : Int))] [(0, (0, .row 65 5 (n.lanes.map encLaO))), (1, (0, .row 76 7 (n.kept.map encEv))), (2, (0, .row 104 5 (n.outs.map encOu))), (3, (0, .row 141 3 (n.views.map encViO))), (4, (0, .row 3 1 (n.known.map encI)))] (.pv (.int .i64 ((k + zNd n : Nat) : Int))) [(0, (0, .row 65 5 ((kNd k n).lanes.map encLaO))), (1, (0, .row 76 7 ((kNd k n).kept.map encEv))), (2, (0, .row 104 5 ((kNd k n).outs.map encOu))), (3, (0, .row 141 3 ((kNd k n).views.map encViO))), (4, (0, .row 3 1 ((kNd k n).known.map encI)))] := by
  refine meth_of_ex ttOK (fn := Tryz.f21) (by kernel_rfl) (by kernel_rfl) rfl (O0 := [.pv (.int .i64 ((k + zNd n : Nat) : Int))]) 5 1 (Nat.le_of_ble_eq_true rfl) (by rfl) (by repeat (first | exact BndH.nil | refine BndH.row (flatR_map fun _ => rfl) ?_)) (by repeat (first | exact BndH.nil | refine BndH.row (flatR_map fun _ => rfl) ?_)) (by rfl) fun γ => ?_
  show Ex Tryz.prog _ _ [(0, .agg [pI n.id, .pv (.bool n.up), pI n.inc, pI n.g, .ref 0 (γ 0), .ref 1 (γ 1), .ref 2 (γ 2), pI n.led, pI n.version, .ref 3 (γ 3), .ref 4 (γ 4), pI n.round, pI n.low]), (1, .pv (.int .i64 (k : Int)))] [(0, ((γ 0), .row 65 5 (n.lanes.map encLaO))), (1, ((γ 1), .row 76 7 (n.kept.map encEv))), (2, ((γ 2), .row 104 5 (n.outs.map encOu))), (3, ((γ 3), .row 141 3 (n.views.map encViO))), (4, ((γ 4), .row 3 1 (n.known.map encI))), (5, (0, .dead))] _
  have hz : zNd n = szs zLa n.lanes + szs zEv n.kept + szs zOu n.outs + szs zVi n.views + szs zI n.known := rfl
  refine ex_rs ttOK (by rfl) ?_
  refine rl_boxA (id := 5) rfl rfl rfl ?_
  refine rl_assign rfl ?_
  refine ex_rs ttOK (by rfl) ?_
  refine rl_fieldAddr rfl tt_28 rfl rfl tt_23 rfl rfl ?_
  refine rl_load_ptr rfl tt_23 rfl rfl ?_
  refine rl_move rfl ?_
  refine rl_meth [0] [_] (F_laws_markLaneS n.lanes k (by omega)) rfl rfl rfl (by decide) rfl rfl (by repeat (first | exact InH.nil | refine InH.cons rfl ?_)) (by (simp only [pI, List.map_cons, List.map_nil, insAll, insEnc, gl, nx, memN, Nat.beq, Nat.add_eq, List.getD_cons_zero, List.getD_cons_succ, List.getD_nil, Bool.or_false, Bool.false_or, Bool.true_or, Bool.or_true, Nat.add_zero, Nat.zero_add]; rfl)) (by (simp only [pI, List.map_cons, List.map_nil, insAll, insEnc, gl, nx, memN, Nat.beq, Nat.add_eq, List.getD_cons_zero, List.getD_cons_succ, List.getD_nil, Bool.or_false, Bool.false_or, Bool.true_or, Bool.or_true, Nat.add_zero, Nat.zero_add]; rfl)) ?_
  refine rl_assign rfl ?_
  refine ex_rs ttOK (by rfl) ?_
  refine rl_fieldAddr rfl tt_28 rfl rfl tt_24 rfl rfl ?_
  refine rl_load_ptr rfl tt_24 rfl rfl ?_
  refine rl_move rfl ?_
  refine rl_meth [1] [_] (F_laws_markEventS n.kept (k + szs zLa n.lanes) (by omega)) rfl rfl rfl (by decide) rfl rfl (by repeat (first | exact InH.nil | refine InH.cons rfl ?_)) (by (simp only [pI, List.map_cons, List.map_nil, insAll, insEnc, gl, nx, memN, Nat.beq, Nat.add_eq, List.getD_cons_zero, List.getD_cons_succ, List.getD_nil, Bool.or_false, Bool.false_or, Bool.true_or, Bool.or_true, Nat.add_zero, Nat.zero_add]; rfl)) (by (simp only [pI, List.map_cons, List.map_nil, insAll, insEnc, gl, nx, memN, Nat.beq, Nat.add_eq, List.getD_cons_zero, List.getD_cons_succ, List.getD_nil, Bool.or_false, Bool.false_or, Bool.true_or, Bool.or_true, Nat.add_zero, Nat.zero_add]; rfl)) ?_
  refine rl_assign rfl ?_
  refine ex_rs ttOK (by rfl) ?_
  refine rl_fieldAddr rfl tt_28 rfl rfl tt_25 rfl rfl ?_
  refine rl_load_ptr rfl tt_25 rfl rfl ?_
  refine rl_move rfl ?_
  refine rl_meth [2] [_] (F_laws_markOutS n.outs (k + szs zLa n.lanes + szs zEv n.kept) (by omega)) rfl rfl rfl (by decide) rfl rfl (by repeat (first | exact InH.nil | refine InH.cons rfl ?_)) (by (simp only [pI, List.map_cons, List.map_nil, insAll, insEnc, gl, nx, memN, Nat.beq, Nat.add_eq, List.getD_cons_zero, List.getD_cons_succ, List.getD_nil, Bool.or_false, Bool.false_or, Bool.true_or, Bool.or_true, Nat.add_zero, Nat.zero_add]; rfl)) (by (simp only [pI, List.map_cons, List.map_nil, insAll, insEnc, gl, nx, memN, Nat.beq, Nat.add_eq, List.getD_cons_zero, List.getD_cons_succ, List.getD_nil, Bool.or_false, Bool.false_or, Bool.true_or, Bool.or_true, Nat.add_zero, Nat.zero_add]; rfl)) ?_
  refine rl_assign rfl ?_
  refine ex_rs ttOK (by rfl) ?_
  refine rl_fieldAddr rfl tt_28 rfl rfl tt_26 rfl rfl ?_
  refine rl_load_ptr rfl tt_26 rfl rfl ?_
  refine rl_move rfl ?_
  refine rl_meth [3] [_] (F_laws_markViewS n.views (k + szs zLa n.lanes + szs zEv n.kept + szs zOu n.outs) (by omega)) rfl rfl rfl (by decide) rfl rfl (by repeat (first | exact InH.nil | refine InH.cons rfl ?_)) (by (simp only [pI, List.map_cons, List.map_nil, insAll, insEnc, gl, nx, memN, Nat.beq, Nat.add_eq, List.getD_cons_zero, List.getD_cons_succ, List.getD_nil, Bool.or_false, Bool.false_or, Bool.true_or, Bool.or_true, Nat.add_zero, Nat.zero_add]; rfl)) (by (simp only [pI, List.map_cons, List.map_nil, insAll, insEnc, gl, nx, memN, Nat.beq, Nat.add_eq, List.getD_cons_zero, List.getD_cons_succ, List.getD_nil, Bool.or_false, Bool.false_or, Bool.true_or, Bool.or_true, Nat.add_zero, Nat.zero_add]; rfl)) ?_
  refine rl_assign rfl ?_
  refine ex_rs ttOK (by rfl) ?_
  refine rl_fieldAddr rfl tt_28 rfl rfl tt_22 rfl rfl ?_
  refine rl_load_ptr rfl tt_22 rfl rfl ?_
  refine rl_move rfl ?_
  refine rl_meth [4] [_] (F_laws_markIntS n.known (k + szs zLa n.lanes + szs zEv n.kept + szs zOu n.outs + szs zVi n.views) (by omega)) rfl rfl rfl (by decide) rfl rfl (by repeat (first | exact InH.nil | refine InH.cons rfl ?_)) (by (simp only [pI, List.map_cons, List.map_nil, insAll, insEnc, gl, nx, memN, Nat.beq, Nat.add_eq, List.getD_cons_zero, List.getD_cons_succ, List.getD_nil, Bool.or_false, Bool.false_or, Bool.true_or, Bool.or_true, Nat.add_zero, Nat.zero_add]; rfl)) (by (simp only [pI, List.map_cons, List.map_nil, insAll, insEnc, gl, nx, memN, Nat.beq, Nat.add_eq, List.getD_cons_zero, List.getD_cons_succ, List.getD_nil, Bool.or_false, Bool.false_or, Bool.true_or, Bool.or_true, Nat.add_zero, Nat.zero_add]; rfl)) ?_
  refine rl_assign rfl ?_
  refine ex_rs ttOK (by rfl) ?_
  refine rl_move rfl ?_
  refine rl_assign rfl ?_
  refine ex_ret ?_
  exact ⟨.inr rfl, [γ 0, γ 1, γ 2, γ 3, γ 4], rfl, congrArg (fun v : Nat => some [AV.pv (.int .i64 (v : Int))]) (by omega), HE.row rfl rfl (HE.row rfl rfl (HE.row rfl rfl (HE.row rfl rfl (HE.row rfl rfl HE.nil))))⟩
end Go.Proofs.YtpadkogpeobboaaGreat.Am
namespace Go.Proofs.YtpadkogpeobboaaGreat.Am
open Go Go.RowKit
theorem F_laws_eqEvent (a b : Ev) : Pure Tryz.prog 142 [.agg (encEv a), .agg (encEv b)] (.pv (.bool (decide (a = b)))) := by
  refine pure_of_ex ttOK (fn := Tryz.f142) (by kernel_rfl) (by kernel_rfl) rfl (outs := [.pv (.bool (decide (a = b)))]) (by rfl) (Nat.le_of_ble_eq_true rfl) 2 ?_
  refine ex_rs ttOK (by rfl) ?_
  refine rl_boxA (id := 0) rfl rfl rfl ?_
  refine rl_boxA (id := 1) rfl rfl rfl ?_
  refine rl_assign rfl ?_
  refine ex_seq_k fun K1 hK1 => ?_
  refine ex_rs ttOK (by rfl) ?_
  refine rl_fieldAddr rfl tt_76 rfl rfl tt_3 rfl rfl ?_
  refine rl_load_ptr rfl tt_3 rfl rfl ?_
  refine rl_fieldAddr rfl tt_76 rfl rfl tt_3 rfl rfl ?_
  refine rl_load_ptr rfl tt_3 rfl rfl ?_
  refine rl_bin rfl rfl rfl ?_
  refine ex_cond rfl (fun hc2 => ?_) (fun hc2 => ?_)
  · try simp at hc2
    refine ex_rs ttOK (by rfl) ?_
    refine rl_assign rfl ?_
    refine ex_ret ⟨.inr rfl, ?_⟩
    clear hK1 K1
    refine ret_pv rfl ?_ rfl
    exact kF (by intro h; subst h; simp_all)
  try simp at hc2
  refine ex_skip ?_
  refine hK1 _ _ ?_
  clear hK1 K1
  refine ex_seq_k fun K3 hK3 => ?_
  refine ex_rs ttOK (by rfl) ?_
  refine rl_fieldAddr rfl tt_76 rfl rfl tt_3 rfl rfl ?_
  refine rl_load_ptr rfl tt_3 rfl rfl ?_
  refine rl_fieldAddr rfl tt_76 rfl rfl tt_3 rfl rfl ?_
  refine rl_load_ptr rfl tt_3 rfl rfl ?_
  refine rl_bin rfl rfl rfl ?_
  refine ex_cond rfl (fun hc4 => ?_) (fun hc4 => ?_)
  · try simp at hc4
    refine ex_rs ttOK (by rfl) ?_
    refine rl_assign rfl ?_
    refine ex_ret ⟨.inr rfl, ?_⟩
    clear hK3 K3
    refine ret_pv rfl ?_ rfl
    exact kF (by intro h; subst h; simp_all)
  try simp at hc4
  refine ex_skip ?_
  refine hK3 _ _ ?_
  clear hK3 K3
  refine ex_seq_k fun K5 hK5 => ?_
  refine ex_rs ttOK (by rfl) ?_
  refine rl_fieldAddr rfl tt_76 rfl rfl tt_3 rfl rfl ?_
  refine rl_load_ptr rfl tt_3 rfl rfl ?_
  refine rl_fieldAddr rfl tt_76 rfl rfl tt_3 rfl rfl ?_
  refine rl_load_ptr rfl tt_3 rfl rfl ?_
  refine rl_bin rfl rfl rfl ?_
  refine ex_cond rfl (fun hc6 => ?_) (fun hc6 => ?_)
  · try simp at hc6
    refine ex_rs ttOK (by rfl) ?_
    refine rl_assign rfl ?_
    refine ex_ret ⟨.inr rfl, ?_⟩
    clear hK5 K5
    refine ret_pv rfl ?_ rfl
    exact kF (by intro h; subst h; simp_all)
  try simp at hc6
  refine ex_skip ?_
  refine hK5 _ _ ?_
  clear hK5 K5
  refine ex_seq_k fun K7 hK7 => ?_
  refine ex_rs ttOK (by rfl) ?_
  refine rl_fieldAddr rfl tt_76 rfl rfl tt_3 rfl rfl ?_
  refine rl_load_ptr rfl tt_3 rfl rfl ?_
  refine rl_fieldAddr rfl tt_76 rfl rfl tt_3 rfl rfl ?_
  refine rl_load_ptr rfl tt_3 rfl rfl ?_
  refine rl_bin rfl rfl rfl ?_
  refine ex_cond rfl (fun hc8 => ?_) (fun hc8 => ?_)
  · try simp at hc8
    refine ex_rs ttOK (by rfl) ?_
    refine rl_assign rfl ?_
    refine ex_ret ⟨.inr rfl, ?_⟩
    clear hK7 K7
    refine ret_pv rfl ?_ rfl
    exact kF (by intro h; subst h; simp_all)
  try simp at hc8
  refine ex_skip ?_
  refine hK7 _ _ ?_
  clear hK7 K7
  refine ex_seq_k fun K9 hK9 => ?_
  refine ex_rs ttOK (by rfl) ?_
  refine rl_fieldAddr rfl tt_76 rfl rfl tt_3 rfl rfl ?_
  refine rl_load_ptr rfl tt_3 rfl rfl ?_
  refine rl_fieldAddr rfl tt_76 rfl rfl tt_3 rfl rfl ?_
  refine rl_load_ptr rfl tt_3 rfl rfl ?_
  refine rl_bin rfl rfl rfl ?_
  refine ex_cond rfl (fun hc10 => ?_) (fun hc10 => ?_)
  · try simp at hc10
    refine ex_rs ttOK (by rfl) ?_
    refine rl_assign rfl ?_
    refine ex_ret ⟨.inr rfl, ?_⟩
    clear hK9 K9
    refine ret_pv rfl ?_ rfl
    exact kF (by intro h; subst h; simp_all)
  try simp at hc10
  refine ex_skip ?_
  refine hK9 _ _ ?_
  clear hK9 K9
  refine ex_seq_k fun K11 hK11 => ?_
  refine ex_rs ttOK (by rfl) ?_
  refine rl_fieldAddr rfl tt_76 rfl rfl tt_3 rfl rfl ?_
  refine rl_load_ptr rfl tt_3 rfl rfl ?_
  refine rl_fieldAddr rfl tt_76 rfl rfl tt_3 rfl rfl ?_
  refine rl_load_ptr rfl tt_3 rfl rfl ?_
  refine rl_bin rfl rfl rfl ?_
  refine ex_cond rfl (fun hc12 => ?_) (fun hc12 => ?_)
  · try simp at hc12
    refine ex_rs ttOK (by rfl) ?_
    refine rl_assign rfl ?_
    refine ex_ret ⟨.inr rfl, ?_⟩
    clear hK11 K11
    refine ret_pv rfl ?_ rfl
    exact kF (by intro h; subst h; simp_all)
  try simp at hc12
  refine ex_skip ?_
  refine hK11 _ _ ?_
  clear hK11 K11
  refine ex_seq_k fun K13 hK13 => ?_
  refine ex_rs ttOK (by rfl) ?_
  refine rl_fieldAddr rfl tt_76 rfl rfl tt_3 rfl rfl ?_
  refine rl_load_ptr rfl tt_3 rfl rfl ?_
  refine rl_fieldAddr rfl tt_76 rfl rfl tt_3 rfl rfl ?_
  refine rl_load_ptr rfl tt_3 rfl rfl ?_
  refine rl_bin rfl rfl rfl ?_
  refine ex_cond rfl (fun hc14 => ?_) (fun hc14 => ?_)
  · try simp at hc14
    refine ex_rs ttOK (by rfl) ?_
    refine rl_assign rfl ?_
    refine ex_ret ⟨.inr rfl, ?_⟩
    clear hK13 K13
    refine ret_pv rfl ?_ rfl
    exact kF (by intro h; subst h; simp_all)
  try simp at hc14
  refine ex_skip ?_
  refine hK13 _ _ ?_
  clear hK13 K13
  refine ex_rs ttOK (by rfl) ?_
  refine rl_assign rfl ?_
  refine ex_ret ⟨.inr rfl, ?_⟩
  refine ret_pv rfl ?_ rfl
  exact kT (by cases a; cases b; simp_all)
theorem F_laws_eqOut (a b : Ou) : Pure Tryz.prog 177 [.agg (encOu a), .agg (encOu b)] (.pv (.bool (decide (a = b)))) := by
  refine pure_of_ex ttOK (fn := Tryz.f177) (by kernel_rfl) (by kernel_rfl) rfl (outs := [.pv (.bool (decide (a = b)))]) (by rfl) (Nat.le_of_ble_eq_true rfl) 2 ?_
  refine ex_rs ttOK (by rfl) ?_
  refine rl_boxA (id := 0) rfl rfl rfl ?_
  refine rl_boxA (id := 1) rfl rfl rfl ?_
  refine rl_assign rfl ?_
  refine ex_seq_k fun K1 hK1 => ?_
  refine ex_rs ttOK (by rfl) ?_
  refine rl_fieldAddr rfl tt_104 rfl rfl tt_3 rfl rfl ?_
  refine rl_load_ptr rfl tt_3 rfl rfl ?_
  refine rl_fieldAddr rfl tt_104 rfl rfl tt_3 rfl rfl ?_
  refine rl_load_ptr rfl tt_3 rfl rfl ?_
  refine rl_bin rfl rfl rfl ?_
  refine ex_cond rfl (fun hc2 => ?_) (fun hc2 => ?_)
  · try simp at hc2
    refine ex_rs ttOK (by rfl) ?_
    refine rl_assign rfl ?_
    refine ex_ret ⟨.inr rfl, ?_⟩
    clear hK1 K1
    refine ret_pv rfl ?_ rfl
    exact kF (by intro h; subst h; simp_all)
  try simp at hc2
  refine ex_skip ?_
  refine hK1 _ _ ?_
  clear hK1 K1
  refine ex_seq_k fun K3 hK3 => ?_
  refine ex_rs ttOK (by rfl) ?_
  refine rl_fieldAddr rfl tt_104 rfl rfl tt_3 rfl rfl ?_
  refine rl_load_ptr rfl tt_3 rfl rfl ?_
  refine rl_fieldAddr rfl tt_104 rfl rfl tt_3 rfl rfl ?_
  refine rl_load_ptr rfl tt_3 rfl rfl ?_
  refine rl_bin rfl rfl rfl ?_
  refine ex_cond rfl (fun hc4 => ?_) (fun hc4 => ?_)
  · try simp at hc4
    refine ex_rs ttOK (by rfl) ?_
    refine rl_assign rfl ?_
    refine ex_ret ⟨.inr rfl, ?_⟩
    clear hK3 K3
    refine ret_pv rfl ?_ rfl
    exact kF (by intro h; subst h; simp_all)
  try simp at hc4
  refine ex_skip ?_
  refine hK3 _ _ ?_
  clear hK3 K3
  refine ex_seq_k fun K5 hK5 => ?_
  refine ex_rs ttOK (by rfl) ?_
  refine rl_fieldAddr rfl tt_104 rfl rfl tt_3 rfl rfl ?_
  refine rl_load_ptr rfl tt_3 rfl rfl ?_
  refine rl_fieldAddr rfl tt_104 rfl rfl tt_3 rfl rfl ?_
  refine rl_load_ptr rfl tt_3 rfl rfl ?_
  refine rl_bin rfl rfl rfl ?_
  refine ex_cond rfl (fun hc6 => ?_) (fun hc6 => ?_)
  · try simp at hc6
    refine ex_rs ttOK (by rfl) ?_
    refine rl_assign rfl ?_
    refine ex_ret ⟨.inr rfl, ?_⟩
    clear hK5 K5
    refine ret_pv rfl ?_ rfl
    exact kF (by intro h; subst h; simp_all)
  try simp at hc6
  refine ex_skip ?_
  refine hK5 _ _ ?_
  clear hK5 K5
  refine ex_seq_k fun K7 hK7 => ?_
  refine ex_rs ttOK (by rfl) ?_
  refine rl_fieldAddr rfl tt_104 rfl rfl tt_3 rfl rfl ?_
  refine rl_load_ptr rfl tt_3 rfl rfl ?_
  refine rl_fieldAddr rfl tt_104 rfl rfl tt_3 rfl rfl ?_
  refine rl_load_ptr rfl tt_3 rfl rfl ?_
  refine rl_bin rfl rfl rfl ?_
  refine ex_cond rfl (fun hc8 => ?_) (fun hc8 => ?_)
  · try simp at hc8
    refine ex_rs ttOK (by rfl) ?_
    refine rl_assign rfl ?_
    refine ex_ret ⟨.inr rfl, ?_⟩
    clear hK7 K7
    refine ret_pv rfl ?_ rfl
    exact kF (by intro h; subst h; simp_all)
  try simp at hc8
  refine ex_skip ?_
  refine hK7 _ _ ?_
  clear hK7 K7
  refine ex_seq_k fun K9 hK9 => ?_
  refine ex_rs ttOK (by rfl) ?_
  refine rl_fieldAddr rfl tt_104 rfl rfl tt_3 rfl rfl ?_
  refine rl_load_ptr rfl tt_3 rfl rfl ?_
  refine rl_fieldAddr rfl tt_104 rfl rfl tt_3 rfl rfl ?_
  refine rl_load_ptr rfl tt_3 rfl rfl ?_
  refine rl_bin rfl rfl rfl ?_
  refine ex_cond rfl (fun hc10 => ?_) (fun hc10 => ?_)
  · try simp at hc10
    refine ex_rs ttOK (by rfl) ?_
    refine rl_assign rfl ?_
    refine ex_ret ⟨.inr rfl, ?_⟩
    clear hK9 K9
    refine ret_pv rfl ?_ rfl
    exact kF (by intro h; subst h; simp_all)
  try simp at hc10
  refine ex_skip ?_
  refine hK9 _ _ ?_
  clear hK9 K9
  refine ex_rs ttOK (by rfl) ?_
  refine rl_assign rfl ?_
  refine ex_ret ⟨.inr rfl, ?_⟩
  refine ret_pv rfl ?_ rfl
  exact kT (by cases a; cases b; simp_all)
theorem F_laws_eqState (a b : St) : Pure Tryz.prog 224 [.agg (encSt a), .agg (encSt b)] (.pv (.bool (decide (a = b)))) := by
  refine pure_of_ex ttOK (fn := Tryz.f224) (by kernel_rfl) (by kernel_rfl) rfl (outs := [.pv (.bool (decide (a = b)))]) (by rfl) (Nat.le_of_ble_eq_true rfl) 2 ?_
  refine ex_rs ttOK (by rfl) ?_
  refine rl_boxA (id := 0) rfl rfl rfl ?_
  refine rl_boxA (id := 1) rfl rfl rfl ?_
  refine rl_assign rfl ?_
  refine ex_seq_k fun K1 hK1 => ?_
  refine ex_rs ttOK (by rfl) ?_
  refine rl_fieldAddr rfl tt_62 rfl rfl tt_3 rfl rfl ?_
  refine rl_load_ptr rfl tt_3 rfl rfl ?_
  refine rl_fieldAddr rfl tt_62 rfl rfl tt_3 rfl rfl ?_
  refine rl_load_ptr rfl tt_3 rfl rfl ?_
  refine rl_bin rfl rfl rfl ?_
  refine ex_cond rfl (fun hc2 => ?_) (fun hc2 => ?_)
  · try simp at hc2
    refine ex_rs ttOK (by rfl) ?_
    refine rl_assign rfl ?_
    refine ex_ret ⟨.inr rfl, ?_⟩
    clear hK1 K1
    refine ret_pv rfl ?_ rfl
    exact kF (by intro h; subst h; simp_all)
  try simp at hc2
  refine ex_skip ?_
  refine hK1 _ _ ?_
  clear hK1 K1
  refine ex_seq_k fun K3 hK3 => ?_
  refine ex_rs ttOK (by rfl) ?_
  refine rl_fieldAddr rfl tt_62 rfl rfl tt_3 rfl rfl ?_
  refine rl_load_ptr rfl tt_3 rfl rfl ?_
  refine rl_fieldAddr rfl tt_62 rfl rfl tt_3 rfl rfl ?_
  refine rl_load_ptr rfl tt_3 rfl rfl ?_
  refine rl_bin rfl rfl rfl ?_
  refine ex_cond rfl (fun hc4 => ?_) (fun hc4 => ?_)
  · try simp at hc4
    refine ex_rs ttOK (by rfl) ?_
    refine rl_assign rfl ?_
    refine ex_ret ⟨.inr rfl, ?_⟩
    clear hK3 K3
    refine ret_pv rfl ?_ rfl
    exact kF (by intro h; subst h; simp_all)
  try simp at hc4
  refine ex_skip ?_
  refine hK3 _ _ ?_
  clear hK3 K3
  refine ex_seq_k fun K5 hK5 => ?_
  refine ex_rs ttOK (by rfl) ?_
  refine rl_fieldAddr rfl tt_62 rfl rfl tt_3 rfl rfl ?_
  refine rl_load_ptr rfl tt_3 rfl rfl ?_
  refine rl_fieldAddr rfl tt_62 rfl rfl tt_3 rfl rfl ?_
  refine rl_load_ptr rfl tt_3 rfl rfl ?_
  refine rl_bin rfl rfl rfl ?_
  refine ex_cond rfl (fun hc6 => ?_) (fun hc6 => ?_)
  · try simp at hc6
    refine ex_rs ttOK (by rfl) ?_
    refine rl_assign rfl ?_
    refine ex_ret ⟨.inr rfl, ?_⟩
    clear hK5 K5
    refine ret_pv rfl ?_ rfl
    exact kF (by intro h; subst h; simp_all)
  try simp at hc6
  refine ex_skip ?_
  refine hK5 _ _ ?_
  clear hK5 K5
  refine ex_rs ttOK (by rfl) ?_
  refine rl_assign rfl ?_
  refine ex_ret ⟨.inr rfl, ?_⟩
  refine ret_pv rfl ?_ rfl
  exact kT (by cases a; cases b; simp_all)
theorem F_laws_eqIntS (c c' : Bool) (l l' : List Int) : Pure Tryz.prog 19 [rInts c l, rInts c' l'] (.pv (.bool (decide (l = l')))) := by
  refine pure_of_ex ttOK (fn := Tryz.f19) (by kernel_rfl) (by kernel_rfl) rfl (outs := [.pv (.bool (decide (l = l')))]) (by rfl) (Nat.le_of_ble_eq_true rfl) 0 ?_
  refine ex_rowlenm 0 rfl fun hlen => ?_
  refine ex_rs ttOK (by rfl) ?_
  refine rl_assign rfl ?_
  refine ex_seq_k fun K1 hK1 => ?_
  refine ex_rs ttOK (by rfl) ?_
  refine rl_move rfl ?_
  refine rl_lenm rfl tt_22 rfl ?_
  refine rl_move rfl ?_
  refine rl_lenm rfl tt_22 rfl ?_
  refine rl_bin rfl rfl rfl ?_
  refine ex_cond rfl (fun hc2 => ?_) (fun hc2 => ?_)
  · try simp at hc2
    refine ex_rs ttOK (by rfl) ?_
    refine rl_assign rfl ?_
    refine ex_ret ⟨.inr rfl, ?_⟩
    clear hK1 K1
    refine ret_pv rfl ?_ rfl
    exact eqF1 (by omega)
  try simp at hc2
  refine ex_skip ?_
  refine hK1 _ _ ?_
  clear hK1 K1
  refine ex_seq_k fun K3 hK3 => ?_
  refine ex_rs ttOK (by rfl) ?_
  refine rl_assign rfl ?_
  refine ex_block ?_
  refine ex_loopK (ι := Nat) (fun i γ1 => [(5, .pv (.int .i64 (i : Int)))]) (fun i γ1 => []) (fun i => i ≤ l.length ∧ l.length = l'.length ∧ l.take i = l'.take i) (fun i => l.length - i) (Cov.cons (t := 0) rfl (Cov.cons (t := 1) rfl Cov.nil)) HE.nil 0 ⟨by omega, by omega, rfl⟩ [] (Cov.cons (t := 5) rfl Cov.nil) HE.nil rfl fun i γ1 hi => ?_
  try dsimp only [List.cons_append, List.nil_append]
  obtain ⟨h1, h2, h3⟩ := hi
  refine ex_seq_k fun K4 hK4 => ?_
  refine ex_rs ttOK (by rfl) ?_
  refine rl_move rfl ?_
  refine rl_move rfl ?_
  refine rl_lenm rfl tt_22 rfl ?_
  refine rl_bin rfl rfl rfl ?_
  refine ex_cond rfl (fun hc5 => ?_) (fun hc5 => ?_)
  rotate_left
  · try simp at hc5
    refine ex_exit ?_
    refine hK3 _ _ ?_
    clear hK4 K4 hK3 K3
    refine ex_rs ttOK (by rfl) ?_
    refine rl_assign rfl ?_
    refine ex_ret ⟨.inr rfl, ?_⟩
    refine ret_pv rfl ?_ rfl
    exact eqT h3 (by omega) (by omega)
  try simp at hc5
  refine ex_skip ?_
  refine hK4 _ _ ?_
  clear hK4 K4
  refine ex_seq_k fun K6 hK6 => ?_
  refine ex_block ?_
  refine ex_rsD ttOK mixed (by rfl) ?_
  refine rl_move rfl ?_
  refine rl_move rfl ?_
  obtain ⟨x, hx⟩ : ∃ x, l[i]? = some x := ⟨_, List.getElem?_eq_getElem (by omega)⟩
  refine rl_idxm rfl rfl tt_22 rfl tt_3 rfl hx ?_
  refine rl_load_iel rfl tt_3 rfl ?_
  refine rl_move rfl ?_
  refine rl_move rfl ?_
  obtain ⟨y, hy⟩ : ∃ y, l'[i]? = some y := ⟨_, List.getElem?_eq_getElem (by omega)⟩
  refine rl_idxm rfl rfl tt_22 rfl tt_3 rfl hy ?_
  refine rl_load_iel rfl tt_3 rfl ?_
  refine rl_bin rfl rfl rfl ?_
  refine ⟨by kernel_rfl, ?_⟩
  refine ex_cond rfl (fun hc7 => ?_) (fun hc7 => ?_)
  rotate_left
  · try simp at hc7
    refine ex_skip ?_
    refine hK6 _ _ ?_
    clear hK6 K6
    refine ex_region ttOK (by rfl) ?_
    refine rl_move rfl ?_
    refine rl_binE (.int .i64 ((i + 1 : Nat) : Int)) rfl rfl rfl (wrapE rfl (by omega) (by omega) (by have := hlen; omega)) ?_
    refine rl_assign rfl ?_
    exact ⟨i + 1, ⟨⟨by omega, h2, take_step h3 hx hy (by assumption)⟩, by omega⟩, [], (Cov.cons (t := 5) rfl Cov.nil), (Cov.cons (t := 0) rfl (Cov.cons (t := 1) rfl Cov.nil)), HE.nil, HE.nil, rfl⟩
  try simp at hc7
  refine ex_rs ttOK (by rfl) ?_
  refine rl_assign rfl ?_
  refine ex_ret ⟨.inr rfl, ?_⟩
  clear hK6 K6 hK3 K3
  refine ret_pv rfl ?_ rfl
  exact eqF2 hx hy (by assumption)
theorem F_laws_eqEventS (c c' : Bool) (l l' : List Ev) : Pure Tryz.prog 55 [rEvs c l, rEvs c' l'] (.pv (.bool (decide (l = l')))) := by
  refine pure_of_ex ttOK (fn := Tryz.f55) (by kernel_rfl) (by kernel_rfl) rfl (outs := [.pv (.bool (decide (l = l')))]) (by rfl) (Nat.le_of_ble_eq_true rfl) 0 ?_
  refine ex_rowlenm 0 rfl fun hlen => ?_
  refine ex_rs ttOK (by rfl) ?_
  refine rl_assign rfl ?_
  refine ex_seq_k fun K1 hK1 => ?_
  refine ex_rs ttOK (by rfl) ?_
  refine rl_move rfl ?_
  refine rl_lenm rfl tt_24 rfl ?_
  refine rl_move rfl ?_
  refine rl_lenm rfl tt_24 rfl ?_
  refine rl_bin rfl rfl rfl ?_
  refine ex_cond rfl (fun hc2 => ?_) (fun hc2 => ?_)
  · try simp at hc2
    refine ex_rs ttOK (by rfl) ?_
    refine rl_assign rfl ?_
    refine ex_ret ⟨.inr rfl, ?_⟩
    clear hK1 K1
    refine ret_pv rfl ?_ rfl
    exact eqF1 (by omega)
  try simp at hc2
  refine ex_skip ?_
  refine hK1 _ _ ?_
  clear hK1 K1
  refine ex_seq_k fun K3 hK3 => ?_
  refine ex_rs ttOK (by rfl) ?_
  refine rl_assign rfl ?_
  refine ex_block ?_
  refine ex_loopK (ι := Nat) (fun i γ1 => [(5, .pv (.int .i64 (i : Int)))]) (fun i γ1 => []) (fun i => i ≤ l.length ∧ l.length = l'.length ∧ l.take i = l'.take i) (fun i => l.length - i) (Cov.cons (t := 0) rfl (Cov.cons (t := 1) rfl Cov.nil)) HE.nil 0 ⟨by omega, by omega, rfl⟩ [] (Cov.cons (t := 5) rfl Cov.nil) HE.nil rfl fun i γ1 hi => ?_
  try dsimp only [List.cons_append, List.nil_append]
  obtain ⟨h1, h2, h3⟩ := hi
  refine ex_seq_k fun K4 hK4 => ?_
  refine ex_rs ttOK (by rfl) ?_
  refine rl_move rfl ?_
  refine rl_move rfl ?_
  refine rl_lenm rfl tt_24 rfl ?_
  refine rl_bin rfl rfl rfl ?_
  refine ex_cond rfl (fun hc5 => ?_) (fun hc5 => ?_)
  rotate_left
  · try simp at hc5
    refine ex_exit ?_
    refine hK3 _ _ ?_
    clear hK4 K4 hK3 K3
    refine ex_rs ttOK (by rfl) ?_
    refine rl_assign rfl ?_
    refine ex_ret ⟨.inr rfl, ?_⟩
    refine ret_pv rfl ?_ rfl
    exact eqT h3 (by omega) (by omega)
  try simp at hc5
  refine ex_skip ?_
  refine hK4 _ _ ?_
  clear hK4 K4
  refine ex_seq_k fun K6 hK6 => ?_
  refine ex_block ?_
  refine ex_rsD ttOK mixed (by rfl) ?_
  refine rl_move rfl ?_
  refine rl_move rfl ?_
  obtain ⟨x, hx⟩ : ∃ x, l[i]? = some x := ⟨_, List.getElem?_eq_getElem (by omega)⟩
  refine rl_idxm rfl rfl tt_24 rfl tt_76 rfl hx ?_
  refine rl_loadA_iel rfl tt_76 rfl rfl ?_
  refine rl_move rfl ?_
  refine rl_move rfl ?_
  obtain ⟨y, hy⟩ : ∃ y, l'[i]? = some y := ⟨_, List.getElem?_eq_getElem (by omega)⟩
  refine rl_idxm rfl rfl tt_24 rfl tt_76 rfl hy ?_
  refine rl_loadA_iel rfl tt_76 rfl rfl ?_
  refine rl_call rfl rfl rfl (F_laws_eqEvent ..) ?_
  refine rl_not rfl ?_
  refine ⟨by kernel_rfl, ?_⟩
  refine ex_cond rfl (fun hc7 => ?_) (fun hc7 => ?_)
  rotate_left
  · try simp at hc7
    refine ex_skip ?_
    refine hK6 _ _ ?_
    clear hK6 K6
    refine ex_region ttOK (by rfl) ?_
    refine rl_move rfl ?_
    refine rl_binE (.int .i64 ((i + 1 : Nat) : Int)) rfl rfl rfl (wrapE rfl (by omega) (by omega) (by have := hlen; omega)) ?_
    refine rl_assign rfl ?_
    exact ⟨i + 1, ⟨⟨by omega, h2, take_step h3 hx hy (by assumption)⟩, by omega⟩, [], (Cov.cons (t := 5) rfl Cov.nil), (Cov.cons (t := 0) rfl (Cov.cons (t := 1) rfl Cov.nil)), HE.nil, HE.nil, rfl⟩
  try simp at hc7
  refine ex_rs ttOK (by rfl) ?_
  refine rl_assign rfl ?_
  refine ex_ret ⟨.inr rfl, ?_⟩
  clear hK6 K6 hK3 K3
  refine ret_pv rfl ?_ rfl
  exact eqF2 hx hy (by assumption)
theorem F_laws_eqOutS (c c' : Bool) (l l' : List Ou) : Pure Tryz.prog 85 [rOus c l, rOus c' l'] (.pv (.bool (decide (l = l')))) := by
  refine pure_of_ex ttOK (fn := Tryz.f85) (by kernel_rfl) (by kernel_rfl) rfl (outs := [.pv (.bool (decide (l = l')))]) (by rfl) (Nat.le_of_ble_eq_true rfl) 0 ?_
  refine ex_rowlenm 0 rfl fun hlen => ?_
  refine ex_rs ttOK (by rfl) ?_
  refine rl_assign rfl ?_
  refine ex_seq_k fun K1 hK1 => ?_
  refine ex_rs ttOK (by rfl) ?_
  refine rl_move rfl ?_
  refine rl_lenm rfl tt_25 rfl ?_
  refine rl_move rfl ?_
  refine rl_lenm rfl tt_25 rfl ?_
  refine rl_bin rfl rfl rfl ?_
  refine ex_cond rfl (fun hc2 => ?_) (fun hc2 => ?_)
  · try simp at hc2
    refine ex_rs ttOK (by rfl) ?_
    refine rl_assign rfl ?_
    refine ex_ret ⟨.inr rfl, ?_⟩
    clear hK1 K1
    refine ret_pv rfl ?_ rfl
    exact eqF1 (by omega)
  try simp at hc2
  refine ex_skip ?_
  refine hK1 _ _ ?_
  clear hK1 K1
  refine ex_seq_k fun K3 hK3 => ?_
  refine ex_rs ttOK (by rfl) ?_
  refine rl_assign rfl ?_
  refine ex_block ?_
  refine ex_loopK (ι := Nat) (fun i γ1 => [(5, .pv (.int .i64 (i : Int)))]) (fun i γ1 => []) (fun i => i ≤ l.length ∧ l.length = l'.length ∧ l.take i = l'.take i) (fun i => l.length - i) (Cov.cons (t := 0) rfl (Cov.cons (t := 1) rfl Cov.nil)) HE.nil 0 ⟨by omega, by omega, rfl⟩ [] (Cov.cons (t := 5) rfl Cov.nil) HE.nil rfl fun i γ1 hi => ?_
  try dsimp only [List.cons_append, List.nil_append]
  obtain ⟨h1, h2, h3⟩ := hi
  refine ex_seq_k fun K4 hK4 => ?_
  refine ex_rs ttOK (by rfl) ?_
  refine rl_move rfl ?_
  refine rl_move rfl ?_
  refine rl_lenm rfl tt_25 rfl ?_
  refine rl_bin rfl rfl rfl ?_
  refine ex_cond rfl (fun hc5 => ?_) (fun hc5 => ?_)
  rotate_left
  · try simp at hc5
    refine ex_exit ?_
    refine hK3 _ _ ?_
    clear hK4 K4 hK3 K3
    refine ex_rs ttOK (by rfl) ?_
    refine rl_assign rfl ?_
    refine ex_ret ⟨.inr rfl, ?_⟩
    refine ret_pv rfl ?_ rfl
    exact eqT h3 (by omega) (by omega)
  try simp at hc5
  refine ex_skip ?_
  refine hK4 _ _ ?_
  clear hK4 K4
  refine ex_seq_k fun K6 hK6 => ?_
  refine ex_block ?_
  refine ex_rsD ttOK mixed (by rfl) ?_
  refine rl_move rfl ?_
  refine rl_move rfl ?_
  obtain ⟨x, hx⟩ : ∃ x, l[i]? = some x := ⟨_, List.getElem?_eq_getElem (by omega)⟩
  refine rl_idxm rfl rfl tt_25 rfl tt_104 rfl hx ?_
  refine rl_loadA_iel rfl tt_104 rfl rfl ?_
  refine rl_move rfl ?_
  refine rl_move rfl ?_
  obtain ⟨y, hy⟩ : ∃ y, l'[i]? = some y := ⟨_, List.getElem?_eq_getElem (by omega)⟩
  refine rl_idxm rfl rfl tt_25 rfl tt_104 rfl hy ?_
  refine rl_loadA_iel rfl tt_104 rfl rfl ?_
  refine rl_call rfl rfl rfl (F_laws_eqOut ..) ?_
  refine rl_not rfl ?_
  refine ⟨by kernel_rfl, ?_⟩
  refine ex_cond rfl (fun hc7 => ?_) (fun hc7 => ?_)
  rotate_left
  · try simp at hc7
    refine ex_skip ?_
    refine hK6 _ _ ?_
    clear hK6 K6
    refine ex_region ttOK (by rfl) ?_
    refine rl_move rfl ?_
    refine rl_binE (.int .i64 ((i + 1 : Nat) : Int)) rfl rfl rfl (wrapE rfl (by omega) (by omega) (by have := hlen; omega)) ?_
    refine rl_assign rfl ?_
    exact ⟨i + 1, ⟨⟨by omega, h2, take_step h3 hx hy (by assumption)⟩, by omega⟩, [], (Cov.cons (t := 5) rfl Cov.nil), (Cov.cons (t := 0) rfl (Cov.cons (t := 1) rfl Cov.nil)), HE.nil, HE.nil, rfl⟩
  try simp at hc7
  refine ex_rs ttOK (by rfl) ?_
  refine rl_assign rfl ?_
  refine ex_ret ⟨.inr rfl, ?_⟩
  clear hK6 K6 hK3 K3
  refine ret_pv rfl ?_ rfl
  exact eqF2 hx hy (by assumption)
theorem F_laws_eqPast (c c' : Bool) (a b : Pa) : Pure Tryz.prog 251 [.agg (encPa c a), .agg (encPa c' b)] (.pv (.bool (decide (a = b)))) := by
  refine pure_of_ex ttOK (fn := Tryz.f251) (by kernel_rfl) (by kernel_rfl) rfl (outs := [.pv (.bool (decide (a = b)))]) (by rfl) (Nat.le_of_ble_eq_true rfl) 2 ?_
  refine ex_rs ttOK (by rfl) ?_
  refine rl_boxA (id := 0) rfl rfl rfl ?_
  refine rl_boxA (id := 1) rfl rfl rfl ?_
  refine rl_assign rfl ?_
  refine ex_seq_k fun K1 hK1 => ?_
  refine ex_rs ttOK (by rfl) ?_
  refine rl_fieldAddr rfl tt_78 rfl rfl tt_76 rfl rfl ?_
  refine rl_load_ptr (out := .agg (encEv a.ev)) rfl tt_76 rfl rfl ?_
  refine rl_fieldAddr rfl tt_78 rfl rfl tt_76 rfl rfl ?_
  refine rl_load_ptr (out := .agg (encEv b.ev)) rfl tt_76 rfl rfl ?_
  refine rl_call rfl rfl rfl (F_laws_eqEvent ..) ?_
  refine rl_not rfl ?_
  refine ex_cond rfl (fun hc2 => ?_) (fun hc2 => ?_)
  · try simp at hc2
    refine ex_rs ttOK (by rfl) ?_
    refine rl_assign rfl ?_
    refine ex_ret ⟨.inr rfl, ?_⟩
    clear hK1 K1
    refine ret_pv rfl ?_ rfl
    exact kF (by intro h; subst h; simp_all)
  try simp at hc2
  refine ex_skip ?_
  refine hK1 _ _ ?_
  clear hK1 K1
  refine ex_seq_k fun K3 hK3 => ?_
  refine ex_rs ttOK (by rfl) ?_
  refine rl_fieldAddr rfl tt_78 rfl rfl tt_62 rfl rfl ?_
  refine rl_load_ptr (out := .agg (encSt a.after)) rfl tt_62 rfl rfl ?_
  refine rl_fieldAddr rfl tt_78 rfl rfl tt_62 rfl rfl ?_
  refine rl_load_ptr (out := .agg (encSt b.after)) rfl tt_62 rfl rfl ?_
  refine rl_call rfl rfl rfl (F_laws_eqState ..) ?_
  refine rl_not rfl ?_
  refine ex_cond rfl (fun hc4 => ?_) (fun hc4 => ?_)
  · try simp at hc4
    refine ex_rs ttOK (by rfl) ?_
    refine rl_assign rfl ?_
    refine ex_ret ⟨.inr rfl, ?_⟩
    clear hK3 K3
    refine ret_pv rfl ?_ rfl
    exact kF (by intro h; subst h; simp_all)
  try simp at hc4
  refine ex_skip ?_
  refine hK3 _ _ ?_
  clear hK3 K3
  refine ex_seq_k fun K5 hK5 => ?_
  refine ex_rs ttOK (by rfl) ?_
  refine rl_fieldAddr rfl tt_78 rfl rfl tt_24 rfl rfl ?_
  refine rl_load_ptr rfl tt_24 rfl rfl ?_
  refine rl_fieldAddr rfl tt_78 rfl rfl tt_24 rfl rfl ?_
  refine rl_load_ptr rfl tt_24 rfl rfl ?_
  refine rl_call rfl rfl rfl (F_laws_eqEventS ..) ?_
  refine rl_not rfl ?_
  refine ex_cond rfl (fun hc6 => ?_) (fun hc6 => ?_)
  · try simp at hc6
    refine ex_rs ttOK (by rfl) ?_
    refine rl_assign rfl ?_
    refine ex_ret ⟨.inr rfl, ?_⟩
    clear hK5 K5
    refine ret_pv rfl ?_ rfl
    exact kF (by intro h; subst h; simp_all)
  try simp at hc6
  refine ex_skip ?_
  refine hK5 _ _ ?_
  clear hK5 K5
  refine ex_seq_k fun K7 hK7 => ?_
  refine ex_rs ttOK (by rfl) ?_
  refine rl_fieldAddr rfl tt_78 rfl rfl tt_25 rfl rfl ?_
  refine rl_load_ptr rfl tt_25 rfl rfl ?_
  refine rl_fieldAddr rfl tt_78 rfl rfl tt_25 rfl rfl ?_
  refine rl_load_ptr rfl tt_25 rfl rfl ?_
  refine rl_call rfl rfl rfl (F_laws_eqOutS ..) ?_
  refine rl_not rfl ?_
  refine ex_cond rfl (fun hc8 => ?_) (fun hc8 => ?_)
  · try simp at hc8
    refine ex_rs ttOK (by rfl) ?_
    refine rl_assign rfl ?_
    refine ex_ret ⟨.inr rfl, ?_⟩
    clear hK7 K7
    refine ret_pv rfl ?_ rfl
    exact kF (by intro h; subst h; simp_all)
  try simp at hc8
  refine ex_skip ?_
  refine hK7 _ _ ?_
  clear hK7 K7
  refine ex_rs ttOK (by rfl) ?_
  refine rl_assign rfl ?_
  refine ex_ret ⟨.inr rfl, ?_⟩
  refine ret_pv rfl ?_ rfl
  exact kT (by cases a; cases b; simp_all)
theorem F_laws_eqPastS (c c' : Bool) (l l' : List Pa) : Pure Tryz.prog 225 [rPas c l, rPas c' l'] (.pv (.bool (decide (l = l')))) := by
  refine pure_of_ex ttOK (fn := Tryz.f225) (by kernel_rfl) (by kernel_rfl) rfl (outs := [.pv (.bool (decide (l = l')))]) (by rfl) (Nat.le_of_ble_eq_true rfl) 0 ?_
  refine ex_rowlenm 0 rfl fun hlen => ?_
  refine ex_rs ttOK (by rfl) ?_
  refine rl_assign rfl ?_
  refine ex_seq_k fun K1 hK1 => ?_
  refine ex_rs ttOK (by rfl) ?_
  refine rl_move rfl ?_
  refine rl_lenm rfl tt_63 rfl ?_
  refine rl_move rfl ?_
  refine rl_lenm rfl tt_63 rfl ?_
  refine rl_bin rfl rfl rfl ?_
  refine ex_cond rfl (fun hc2 => ?_) (fun hc2 => ?_)
  · try simp at hc2
    refine ex_rs ttOK (by rfl) ?_
    refine rl_assign rfl ?_
    refine ex_ret ⟨.inr rfl, ?_⟩
    clear hK1 K1
    refine ret_pv rfl ?_ rfl
    exact eqF1 (by omega)
  try simp at hc2
  refine ex_skip ?_
  refine hK1 _ _ ?_
  clear hK1 K1
  refine ex_seq_k fun K3 hK3 => ?_
  refine ex_rs ttOK (by rfl) ?_
  refine rl_assign rfl ?_
  refine ex_block ?_
  refine ex_loopK (ι := Nat) (fun i γ1 => [(5, .pv (.int .i64 (i : Int)))]) (fun i γ1 => []) (fun i => i ≤ l.length ∧ l.length = l'.length ∧ l.take i = l'.take i) (fun i => l.length - i) (Cov.cons (t := 0) rfl (Cov.cons (t := 1) rfl Cov.nil)) HE.nil 0 ⟨by omega, by omega, rfl⟩ [] (Cov.cons (t := 5) rfl Cov.nil) HE.nil rfl fun i γ1 hi => ?_
  try dsimp only [List.cons_append, List.nil_append]
  obtain ⟨h1, h2, h3⟩ := hi
  refine ex_seq_k fun K4 hK4 => ?_
  refine ex_rs ttOK (by rfl) ?_
  refine rl_move rfl ?_
  refine rl_move rfl ?_
  refine rl_lenm rfl tt_63 rfl ?_
  refine rl_bin rfl rfl rfl ?_
  refine ex_cond rfl (fun hc5 => ?_) (fun hc5 => ?_)
  rotate_left
  · try simp at hc5
    refine ex_exit ?_
    refine hK3 _ _ ?_
    clear hK4 K4 hK3 K3
    refine ex_rs ttOK (by rfl) ?_
    refine rl_assign rfl ?_
    refine ex_ret ⟨.inr rfl, ?_⟩
    refine ret_pv rfl ?_ rfl
    exact eqT h3 (by omega) (by omega)
  try simp at hc5
  refine ex_skip ?_
  refine hK4 _ _ ?_
  clear hK4 K4
  refine ex_seq_k fun K6 hK6 => ?_
  refine ex_block ?_
  refine ex_rsD ttOK mixed (by rfl) ?_
  refine rl_move rfl ?_
  refine rl_move rfl ?_
  obtain ⟨x, hx⟩ : ∃ x, l[i]? = some x := ⟨_, List.getElem?_eq_getElem (by omega)⟩
  refine rl_idxm rfl rfl tt_63 rfl tt_78 rfl hx ?_
  refine rl_loadA_iel rfl tt_78 rfl rfl ?_
  refine rl_move rfl ?_
  refine rl_move rfl ?_
  obtain ⟨y, hy⟩ : ∃ y, l'[i]? = some y := ⟨_, List.getElem?_eq_getElem (by omega)⟩
  refine rl_idxm rfl rfl tt_63 rfl tt_78 rfl hy ?_
  refine rl_loadA_iel rfl tt_78 rfl rfl ?_
  refine rl_call rfl rfl rfl (F_laws_eqPast ..) ?_
  refine rl_not rfl ?_
  refine ⟨by kernel_rfl, ?_⟩
  refine ex_cond rfl (fun hc7 => ?_) (fun hc7 => ?_)
  rotate_left
  · try simp at hc7
    refine ex_skip ?_
    refine hK6 _ _ ?_
    clear hK6 K6
    refine ex_region ttOK (by rfl) ?_
    refine rl_move rfl ?_
    refine rl_binE (.int .i64 ((i + 1 : Nat) : Int)) rfl rfl rfl (wrapE rfl (by omega) (by omega) (by have := hlen; omega)) ?_
    refine rl_assign rfl ?_
    exact ⟨i + 1, ⟨⟨by omega, h2, take_step h3 hx hy (by assumption)⟩, by omega⟩, [], (Cov.cons (t := 5) rfl Cov.nil), (Cov.cons (t := 0) rfl (Cov.cons (t := 1) rfl Cov.nil)), HE.nil, HE.nil, rfl⟩
  try simp at hc7
  refine ex_rs ttOK (by rfl) ?_
  refine rl_assign rfl ?_
  refine ex_ret ⟨.inr rfl, ?_⟩
  clear hK6 K6 hK3 K3
  refine ret_pv rfl ?_ rfl
  exact eqF2 hx hy (by assumption)
theorem F_laws_eqLane (c c' : Bool) (a b : La) : Pure Tryz.prog 176 [.agg (encLa c a), .agg (encLa c' b)] (.pv (.bool (decide (a = b)))) := by
  refine pure_of_ex ttOK (fn := Tryz.f176) (by kernel_rfl) (by kernel_rfl) rfl (outs := [.pv (.bool (decide (a = b)))]) (by rfl) (Nat.le_of_ble_eq_true rfl) 2 ?_
  refine ex_rs ttOK (by rfl) ?_
  refine rl_boxA (id := 0) rfl rfl rfl ?_
  refine rl_boxA (id := 1) rfl rfl rfl ?_
  refine rl_assign rfl ?_
  refine ex_seq_k fun K1 hK1 => ?_
  refine ex_rs ttOK (by rfl) ?_
  refine rl_fieldAddr rfl tt_65 rfl rfl tt_3 rfl rfl ?_
  refine rl_load_ptr rfl tt_3 rfl rfl ?_
  refine rl_fieldAddr rfl tt_65 rfl rfl tt_3 rfl rfl ?_
  refine rl_load_ptr rfl tt_3 rfl rfl ?_
  refine rl_bin rfl rfl rfl ?_
  refine ex_cond rfl (fun hc2 => ?_) (fun hc2 => ?_)
  · try simp at hc2
    refine ex_rs ttOK (by rfl) ?_
    refine rl_assign rfl ?_
    refine ex_ret ⟨.inr rfl, ?_⟩
    clear hK1 K1
    refine ret_pv rfl ?_ rfl
    exact kF (by intro h; subst h; simp_all)
  try simp at hc2
  refine ex_skip ?_
  refine hK1 _ _ ?_
  clear hK1 K1
  refine ex_seq_k fun K3 hK3 => ?_
  refine ex_rs ttOK (by rfl) ?_
  refine rl_fieldAddr rfl tt_65 rfl rfl tt_62 rfl rfl ?_
  refine rl_load_ptr (out := .agg (encSt a.base)) rfl tt_62 rfl rfl ?_
  refine rl_fieldAddr rfl tt_65 rfl rfl tt_62 rfl rfl ?_
  refine rl_load_ptr (out := .agg (encSt b.base)) rfl tt_62 rfl rfl ?_
  refine rl_call rfl rfl rfl (F_laws_eqState ..) ?_
  refine rl_not rfl ?_
  refine ex_cond rfl (fun hc4 => ?_) (fun hc4 => ?_)
  · try simp at hc4
    refine ex_rs ttOK (by rfl) ?_
    refine rl_assign rfl ?_
    refine ex_ret ⟨.inr rfl, ?_⟩
    clear hK3 K3
    refine ret_pv rfl ?_ rfl
    exact kF (by intro h; subst h; simp_all)
  try simp at hc4
  refine ex_skip ?_
  refine hK3 _ _ ?_
  clear hK3 K3
  refine ex_seq_k fun K5 hK5 => ?_
  refine ex_rs ttOK (by rfl) ?_
  refine rl_fieldAddr rfl tt_65 rfl rfl tt_63 rfl rfl ?_
  refine rl_load_ptr rfl tt_63 rfl rfl ?_
  refine rl_fieldAddr rfl tt_65 rfl rfl tt_63 rfl rfl ?_
  refine rl_load_ptr rfl tt_63 rfl rfl ?_
  refine rl_call rfl rfl rfl (F_laws_eqPastS ..) ?_
  refine rl_not rfl ?_
  refine ex_cond rfl (fun hc6 => ?_) (fun hc6 => ?_)
  · try simp at hc6
    refine ex_rs ttOK (by rfl) ?_
    refine rl_assign rfl ?_
    refine ex_ret ⟨.inr rfl, ?_⟩
    clear hK5 K5
    refine ret_pv rfl ?_ rfl
    exact kF (by intro h; subst h; simp_all)
  try simp at hc6
  refine ex_skip ?_
  refine hK5 _ _ ?_
  clear hK5 K5
  refine ex_rs ttOK (by rfl) ?_
  refine rl_assign rfl ?_
  refine ex_ret ⟨.inr rfl, ?_⟩
  refine ret_pv rfl ?_ rfl
  exact kT (by cases a; cases b; simp_all)
theorem F_laws_eqLaneS (c c' : Bool) (l l' : List La) : Pure Tryz.prog 84 [rLas c l, rLas c' l'] (.pv (.bool (decide (l = l')))) := by
  refine pure_of_ex ttOK (fn := Tryz.f84) (by kernel_rfl) (by kernel_rfl) rfl (outs := [.pv (.bool (decide (l = l')))]) (by rfl) (Nat.le_of_ble_eq_true rfl) 0 ?_
  refine ex_rowlenm 0 rfl fun hlen => ?_
  refine ex_rs ttOK (by rfl) ?_
  refine rl_assign rfl ?_
  refine ex_seq_k fun K1 hK1 => ?_
  refine ex_rs ttOK (by rfl) ?_
  refine rl_move rfl ?_
  refine rl_lenm rfl tt_23 rfl ?_
  refine rl_move rfl ?_
  refine rl_lenm rfl tt_23 rfl ?_
  refine rl_bin rfl rfl rfl ?_
  refine ex_cond rfl (fun hc2 => ?_) (fun hc2 => ?_)
  · try simp at hc2
    refine ex_rs ttOK (by rfl) ?_
    refine rl_assign rfl ?_
    refine ex_ret ⟨.inr rfl, ?_⟩
    clear hK1 K1
    refine ret_pv rfl ?_ rfl
    exact eqF1 (by omega)
  try simp at hc2
  refine ex_skip ?_
  refine hK1 _ _ ?_
  clear hK1 K1
  refine ex_seq_k fun K3 hK3 => ?_
  refine ex_rs ttOK (by rfl) ?_
  refine rl_assign rfl ?_
  refine ex_block ?_
  refine ex_loopK (ι := Nat) (fun i γ1 => [(5, .pv (.int .i64 (i : Int)))]) (fun i γ1 => []) (fun i => i ≤ l.length ∧ l.length = l'.length ∧ l.take i = l'.take i) (fun i => l.length - i) (Cov.cons (t := 0) rfl (Cov.cons (t := 1) rfl Cov.nil)) HE.nil 0 ⟨by omega, by omega, rfl⟩ [] (Cov.cons (t := 5) rfl Cov.nil) HE.nil rfl fun i γ1 hi => ?_
  try dsimp only [List.cons_append, List.nil_append]
  obtain ⟨h1, h2, h3⟩ := hi
  refine ex_seq_k fun K4 hK4 => ?_
  refine ex_rs ttOK (by rfl) ?_
  refine rl_move rfl ?_
  refine rl_move rfl ?_
  refine rl_lenm rfl tt_23 rfl ?_
  refine rl_bin rfl rfl rfl ?_
  refine ex_cond rfl (fun hc5 => ?_) (fun hc5 => ?_)
  rotate_left
  · try simp at hc5
    refine ex_exit ?_
    refine hK3 _ _ ?_
    clear hK4 K4 hK3 K3
    refine ex_rs ttOK (by rfl) ?_
    refine rl_assign rfl ?_
    refine ex_ret ⟨.inr rfl, ?_⟩
    refine ret_pv rfl ?_ rfl
    exact eqT h3 (by omega) (by omega)
  try simp at hc5
  refine ex_skip ?_
  refine hK4 _ _ ?_
  clear hK4 K4
  refine ex_seq_k fun K6 hK6 => ?_
  refine ex_block ?_
  refine ex_rsD ttOK mixed (by rfl) ?_
  refine rl_move rfl ?_
  refine rl_move rfl ?_
  obtain ⟨x, hx⟩ : ∃ x, l[i]? = some x := ⟨_, List.getElem?_eq_getElem (by omega)⟩
  refine rl_idxm rfl rfl tt_23 rfl tt_65 rfl hx ?_
  refine rl_loadA_iel rfl tt_65 rfl rfl ?_
  refine rl_move rfl ?_
  refine rl_move rfl ?_
  obtain ⟨y, hy⟩ : ∃ y, l'[i]? = some y := ⟨_, List.getElem?_eq_getElem (by omega)⟩
  refine rl_idxm rfl rfl tt_23 rfl tt_65 rfl hy ?_
  refine rl_loadA_iel rfl tt_65 rfl rfl ?_
  refine rl_call rfl rfl rfl (F_laws_eqLane ..) ?_
  refine rl_not rfl ?_
  refine ⟨by kernel_rfl, ?_⟩
  refine ex_cond rfl (fun hc7 => ?_) (fun hc7 => ?_)
  rotate_left
  · try simp at hc7
    refine ex_skip ?_
    refine hK6 _ _ ?_
    clear hK6 K6
    refine ex_region ttOK (by rfl) ?_
    refine rl_move rfl ?_
    refine rl_binE (.int .i64 ((i + 1 : Nat) : Int)) rfl rfl rfl (wrapE rfl (by omega) (by omega) (by have := hlen; omega)) ?_
    refine rl_assign rfl ?_
    exact ⟨i + 1, ⟨⟨by omega, h2, take_step h3 hx hy (by assumption)⟩, by omega⟩, [], (Cov.cons (t := 5) rfl Cov.nil), (Cov.cons (t := 0) rfl (Cov.cons (t := 1) rfl Cov.nil)), HE.nil, HE.nil, rfl⟩
  try simp at hc7
  refine ex_rs ttOK (by rfl) ?_
  refine rl_assign rfl ?_
  refine ex_ret ⟨.inr rfl, ?_⟩
  clear hK6 K6 hK3 K3
  refine ret_pv rfl ?_ rfl
  exact eqF2 hx hy (by assumption)
theorem F_laws_eqView (c c' : Bool) (a b : Vi) : Pure Tryz.prog 178 [.agg (encVi c a), .agg (encVi c' b)] (.pv (.bool (decide (a = b)))) := by
  refine pure_of_ex ttOK (fn := Tryz.f178) (by kernel_rfl) (by kernel_rfl) rfl (outs := [.pv (.bool (decide (a = b)))]) (by rfl) (Nat.le_of_ble_eq_true rfl) 2 ?_
  refine ex_rs ttOK (by rfl) ?_
  refine rl_boxA (id := 0) rfl rfl rfl ?_
  refine rl_boxA (id := 1) rfl rfl rfl ?_
  refine rl_assign rfl ?_
  refine ex_seq_k fun K1 hK1 => ?_
  refine ex_rs ttOK (by rfl) ?_
  refine rl_fieldAddr rfl tt_141 rfl rfl tt_3 rfl rfl ?_
  refine rl_load_ptr rfl tt_3 rfl rfl ?_
  refine rl_fieldAddr rfl tt_141 rfl rfl tt_3 rfl rfl ?_
  refine rl_load_ptr rfl tt_3 rfl rfl ?_
  refine rl_bin rfl rfl rfl ?_
  refine ex_cond rfl (fun hc2 => ?_) (fun hc2 => ?_)
  · try simp at hc2
    refine ex_rs ttOK (by rfl) ?_
    refine rl_assign rfl ?_
    refine ex_ret ⟨.inr rfl, ?_⟩
    clear hK1 K1
    refine ret_pv rfl ?_ rfl
    exact kF (by intro h; subst h; simp_all)
  try simp at hc2
  refine ex_skip ?_
  refine hK1 _ _ ?_
  clear hK1 K1
  refine ex_seq_k fun K3 hK3 => ?_
  refine ex_rs ttOK (by rfl) ?_
  refine rl_fieldAddr rfl tt_141 rfl rfl tt_3 rfl rfl ?_
  refine rl_load_ptr rfl tt_3 rfl rfl ?_
  refine rl_fieldAddr rfl tt_141 rfl rfl tt_3 rfl rfl ?_
  refine rl_load_ptr rfl tt_3 rfl rfl ?_
  refine rl_bin rfl rfl rfl ?_
  refine ex_cond rfl (fun hc4 => ?_) (fun hc4 => ?_)
  · try simp at hc4
    refine ex_rs ttOK (by rfl) ?_
    refine rl_assign rfl ?_
    refine ex_ret ⟨.inr rfl, ?_⟩
    clear hK3 K3
    refine ret_pv rfl ?_ rfl
    exact kF (by intro h; subst h; simp_all)
  try simp at hc4
  refine ex_skip ?_
  refine hK3 _ _ ?_
  clear hK3 K3
  refine ex_seq_k fun K5 hK5 => ?_
  refine ex_rs ttOK (by rfl) ?_
  refine rl_fieldAddr rfl tt_141 rfl rfl tt_24 rfl rfl ?_
  refine rl_load_ptr rfl tt_24 rfl rfl ?_
  refine rl_fieldAddr rfl tt_141 rfl rfl tt_24 rfl rfl ?_
  refine rl_load_ptr rfl tt_24 rfl rfl ?_
  refine rl_call rfl rfl rfl (F_laws_eqEventS ..) ?_
  refine rl_not rfl ?_
  refine ex_cond rfl (fun hc6 => ?_) (fun hc6 => ?_)
  · try simp at hc6
    refine ex_rs ttOK (by rfl) ?_
    refine rl_assign rfl ?_
    refine ex_ret ⟨.inr rfl, ?_⟩
    clear hK5 K5
    refine ret_pv rfl ?_ rfl
    exact kF (by intro h; subst h; simp_all)
  try simp at hc6
  refine ex_skip ?_
  refine hK5 _ _ ?_
  clear hK5 K5
  refine ex_rs ttOK (by rfl) ?_
  refine rl_assign rfl ?_
  refine ex_ret ⟨.inr rfl, ?_⟩
  refine ret_pv rfl ?_ rfl
  exact kT (by cases a; cases b; simp_all)
theorem F_laws_eqViewS (c c' : Bool) (l l' : List Vi) : Pure Tryz.prog 86 [rVis c l, rVis c' l'] (.pv (.bool (decide (l = l')))) := by
  refine pure_of_ex ttOK (fn := Tryz.f86) (by kernel_rfl) (by kernel_rfl) rfl (outs := [.pv (.bool (decide (l = l')))]) (by rfl) (Nat.le_of_ble_eq_true rfl) 0 ?_
  refine ex_rowlenm 0 rfl fun hlen => ?_
  refine ex_rs ttOK (by rfl) ?_
  refine rl_assign rfl ?_
  refine ex_seq_k fun K1 hK1 => ?_
  refine ex_rs ttOK (by rfl) ?_
  refine rl_move rfl ?_
  refine rl_lenm rfl tt_26 rfl ?_
  refine rl_move rfl ?_
  refine rl_lenm rfl tt_26 rfl ?_
  refine rl_bin rfl rfl rfl ?_
  refine ex_cond rfl (fun hc2 => ?_) (fun hc2 => ?_)
  · try simp at hc2
    refine ex_rs ttOK (by rfl) ?_
    refine rl_assign rfl ?_
    refine ex_ret ⟨.inr rfl, ?_⟩
    clear hK1 K1
    refine ret_pv rfl ?_ rfl
    exact eqF1 (by omega)
  try simp at hc2
  refine ex_skip ?_
  refine hK1 _ _ ?_
  clear hK1 K1
  refine ex_seq_k fun K3 hK3 => ?_
  refine ex_rs ttOK (by rfl) ?_
  refine rl_assign rfl ?_
  refine ex_block ?_
  refine ex_loopK (ι := Nat) (fun i γ1 => [(5, .pv (.int .i64 (i : Int)))]) (fun i γ1 => []) (fun i => i ≤ l.length ∧ l.length = l'.length ∧ l.take i = l'.take i) (fun i => l.length - i) (Cov.cons (t := 0) rfl (Cov.cons (t := 1) rfl Cov.nil)) HE.nil 0 ⟨by omega, by omega, rfl⟩ [] (Cov.cons (t := 5) rfl Cov.nil) HE.nil rfl fun i γ1 hi => ?_
  try dsimp only [List.cons_append, List.nil_append]
  obtain ⟨h1, h2, h3⟩ := hi
  refine ex_seq_k fun K4 hK4 => ?_
  refine ex_rs ttOK (by rfl) ?_
  refine rl_move rfl ?_
  refine rl_move rfl ?_
  refine rl_lenm rfl tt_26 rfl ?_
  refine rl_bin rfl rfl rfl ?_
  refine ex_cond rfl (fun hc5 => ?_) (fun hc5 => ?_)
  rotate_left
  · try simp at hc5
    refine ex_exit ?_
    refine hK3 _ _ ?_
    clear hK4 K4 hK3 K3
    refine ex_rs ttOK (by rfl) ?_
    refine rl_assign rfl ?_
    refine ex_ret ⟨.inr rfl, ?_⟩
    refine ret_pv rfl ?_ rfl
    exact eqT h3 (by omega) (by omega)
  try simp at hc5
  refine ex_skip ?_
  refine hK4 _ _ ?_
  clear hK4 K4
  refine ex_seq_k fun K6 hK6 => ?_
  refine ex_block ?_
  refine ex_rsD ttOK mixed (by rfl) ?_
  refine rl_move rfl ?_
  refine rl_move rfl ?_
  obtain ⟨x, hx⟩ : ∃ x, l[i]? = some x := ⟨_, List.getElem?_eq_getElem (by omega)⟩
  refine rl_idxm rfl rfl tt_26 rfl tt_141 rfl hx ?_
  refine rl_loadA_iel rfl tt_141 rfl rfl ?_
  refine rl_move rfl ?_
  refine rl_move rfl ?_
  obtain ⟨y, hy⟩ : ∃ y, l'[i]? = some y := ⟨_, List.getElem?_eq_getElem (by omega)⟩
  refine rl_idxm rfl rfl tt_26 rfl tt_141 rfl hy ?_
  refine rl_loadA_iel rfl tt_141 rfl rfl ?_
  refine rl_call rfl rfl rfl (F_laws_eqView ..) ?_
  refine rl_not rfl ?_
  refine ⟨by kernel_rfl, ?_⟩
  refine ex_cond rfl (fun hc7 => ?_) (fun hc7 => ?_)
  rotate_left
  · try simp at hc7
    refine ex_skip ?_
    refine hK6 _ _ ?_
    clear hK6 K6
    refine ex_region ttOK (by rfl) ?_
    refine rl_move rfl ?_
    refine rl_binE (.int .i64 ((i + 1 : Nat) : Int)) rfl rfl rfl (wrapE rfl (by omega) (by omega) (by have := hlen; omega)) ?_
    refine rl_assign rfl ?_
    exact ⟨i + 1, ⟨⟨by omega, h2, take_step h3 hx hy (by assumption)⟩, by omega⟩, [], (Cov.cons (t := 5) rfl Cov.nil), (Cov.cons (t := 0) rfl (Cov.cons (t := 1) rfl Cov.nil)), HE.nil, HE.nil, rfl⟩
  try simp at hc7
  refine ex_rs ttOK (by rfl) ?_
  refine rl_assign rfl ?_
  refine ex_ret ⟨.inr rfl, ?_⟩
  clear hK6 K6 hK3 K3
  refine ret_pv rfl ?_ rfl
  exact eqF2 hx hy (by assumption)
theorem F_laws_eqNode (c c' : Bool) (a b : Nd) : Pure Tryz.prog 18 [.agg (encNd c a), .agg (encNd c' b)] (.pv (.bool (decide (a = b)))) := by
  refine pure_of_ex ttOK (fn := Tryz.f18) (by kernel_rfl) (by kernel_rfl) rfl (outs := [.pv (.bool (decide (a = b)))]) (by rfl) (Nat.le_of_ble_eq_true rfl) 2 ?_
  refine ex_rs ttOK (by rfl) ?_
  refine rl_boxA (id := 0) rfl rfl rfl ?_
  refine rl_boxA (id := 1) rfl rfl rfl ?_
  refine rl_assign rfl ?_
  refine ex_seq_k fun K1 hK1 => ?_
  refine ex_rs ttOK (by rfl) ?_
  refine rl_fieldAddr rfl tt_28 rfl rfl tt_3 rfl rfl ?_
  refine rl_load_ptr rfl tt_3 rfl rfl ?_
  refine rl_fieldAddr rfl tt_28 rfl rfl tt_3 rfl rfl ?_
  refine rl_load_ptr rfl tt_3 rfl rfl ?_
  refine rl_bin rfl rfl rfl ?_
  refine ex_cond rfl (fun hc2 => ?_) (fun hc2 => ?_)
  · try simp at hc2
    refine ex_rs ttOK (by rfl) ?_
    refine rl_assign rfl ?_
    refine ex_ret ⟨.inr rfl, ?_⟩
    clear hK1 K1
    refine ret_pv rfl ?_ rfl
    exact kF (by intro h; subst h; simp_all)
  try simp at hc2
  refine ex_skip ?_
  refine hK1 _ _ ?_
  clear hK1 K1
  refine ex_seq_k fun K3 hK3 => ?_
  refine ex_rs ttOK (by rfl) ?_
  refine rl_fieldAddr rfl tt_28 rfl rfl tt_4 rfl rfl ?_
  refine rl_load_ptr rfl tt_4 rfl rfl ?_
  refine rl_fieldAddr rfl tt_28 rfl rfl tt_4 rfl rfl ?_
  refine rl_load_ptr rfl tt_4 rfl rfl ?_
  refine rl_eq rfl rfl (by intro p q h h'; cases h; cases h'; rfl) (.inr rfl) (eqA_bool Tryz.underlying4 _ _ _ _) ?_
  refine ex_cond rfl (fun hc4 => ?_) (fun hc4 => ?_)
  · try simp at hc4
    refine ex_rs ttOK (by rfl) ?_
    refine rl_assign rfl ?_
    refine ex_ret ⟨.inr rfl, ?_⟩
    clear hK3 K3
    refine ret_pv rfl ?_ rfl
    exact kF (by intro h; subst h; simp_all)
  try simp at hc4
  refine ex_skip ?_
  refine hK3 _ _ ?_
  clear hK3 K3
  refine ex_seq_k fun K5 hK5 => ?_
  refine ex_rs ttOK (by rfl) ?_
  refine rl_fieldAddr rfl tt_28 rfl rfl tt_3 rfl rfl ?_
  refine rl_load_ptr rfl tt_3 rfl rfl ?_
  refine rl_fieldAddr rfl tt_28 rfl rfl tt_3 rfl rfl ?_
  refine rl_load_ptr rfl tt_3 rfl rfl ?_
  refine rl_bin rfl rfl rfl ?_
  refine ex_cond rfl (fun hc6 => ?_) (fun hc6 => ?_)
  · try simp at hc6
    refine ex_rs ttOK (by rfl) ?_
    refine rl_assign rfl ?_
    refine ex_ret ⟨.inr rfl, ?_⟩
    clear hK5 K5
    refine ret_pv rfl ?_ rfl
    exact kF (by intro h; subst h; simp_all)
  try simp at hc6
  refine ex_skip ?_
  refine hK5 _ _ ?_
  clear hK5 K5
  refine ex_seq_k fun K7 hK7 => ?_
  refine ex_rs ttOK (by rfl) ?_
  refine rl_fieldAddr rfl tt_28 rfl rfl tt_3 rfl rfl ?_
  refine rl_load_ptr rfl tt_3 rfl rfl ?_
  refine rl_fieldAddr rfl tt_28 rfl rfl tt_3 rfl rfl ?_
  refine rl_load_ptr rfl tt_3 rfl rfl ?_
  refine rl_bin rfl rfl rfl ?_
  refine ex_cond rfl (fun hc8 => ?_) (fun hc8 => ?_)
  · try simp at hc8
    refine ex_rs ttOK (by rfl) ?_
    refine rl_assign rfl ?_
    refine ex_ret ⟨.inr rfl, ?_⟩
    clear hK7 K7
    refine ret_pv rfl ?_ rfl
    exact kF (by intro h; subst h; simp_all)
  try simp at hc8
  refine ex_skip ?_
  refine hK7 _ _ ?_
  clear hK7 K7
  refine ex_seq_k fun K9 hK9 => ?_
  refine ex_rs ttOK (by rfl) ?_
  refine rl_fieldAddr rfl tt_28 rfl rfl tt_23 rfl rfl ?_
  refine rl_load_ptr rfl tt_23 rfl rfl ?_
  refine rl_fieldAddr rfl tt_28 rfl rfl tt_23 rfl rfl ?_
  refine rl_load_ptr rfl tt_23 rfl rfl ?_
  refine rl_call rfl rfl rfl (F_laws_eqLaneS ..) ?_
  refine rl_not rfl ?_
  refine ex_cond rfl (fun hc10 => ?_) (fun hc10 => ?_)
  · try simp at hc10
    refine ex_rs ttOK (by rfl) ?_
    refine rl_assign rfl ?_
    refine ex_ret ⟨.inr rfl, ?_⟩
    clear hK9 K9
    refine ret_pv rfl ?_ rfl
    exact kF (by intro h; subst h; simp_all)
  try simp at hc10
  refine ex_skip ?_
  refine hK9 _ _ ?_
  clear hK9 K9
  refine ex_seq_k fun K11 hK11 => ?_
  refine ex_rs ttOK (by rfl) ?_
  refine rl_fieldAddr rfl tt_28 rfl rfl tt_24 rfl rfl ?_
  refine rl_load_ptr rfl tt_24 rfl rfl ?_
  refine rl_fieldAddr rfl tt_28 rfl rfl tt_24 rfl rfl ?_
  refine rl_load_ptr rfl tt_24 rfl rfl ?_
  refine rl_call rfl rfl rfl (F_laws_eqEventS ..) ?_
  refine rl_not rfl ?_
  refine ex_cond rfl (fun hc12 => ?_) (fun hc12 => ?_)
  · try simp at hc12
    refine ex_rs ttOK (by rfl) ?_
    refine rl_assign rfl ?_
    refine ex_ret ⟨.inr rfl, ?_⟩
    clear hK11 K11
    refine ret_pv rfl ?_ rfl
    exact kF (by intro h; subst h; simp_all)
  try simp at hc12
  refine ex_skip ?_
  refine hK11 _ _ ?_
  clear hK11 K11
  refine ex_seq_k fun K13 hK13 => ?_
  refine ex_rs ttOK (by rfl) ?_
  refine rl_fieldAddr rfl tt_28 rfl rfl tt_25 rfl rfl ?_
  refine rl_load_ptr rfl tt_25 rfl rfl ?_
  refine rl_fieldAddr rfl tt_28 rfl rfl tt_25 rfl rfl ?_
  refine rl_load_ptr rfl tt_25 rfl rfl ?_
  refine rl_call rfl rfl rfl (F_laws_eqOutS ..) ?_
  refine rl_not rfl ?_
  refine ex_cond rfl (fun hc14 => ?_) (fun hc14 => ?_)
  · try simp at hc14
    refine ex_rs ttOK (by rfl) ?_
    refine rl_assign rfl ?_
    refine ex_ret ⟨.inr rfl, ?_⟩
    clear hK13 K13
    refine ret_pv rfl ?_ rfl
    exact kF (by intro h; subst h; simp_all)
  try simp at hc14
  refine ex_skip ?_
  refine hK13 _ _ ?_
  clear hK13 K13
  refine ex_seq_k fun K15 hK15 => ?_
  refine ex_rs ttOK (by rfl) ?_
  refine rl_fieldAddr rfl tt_28 rfl rfl tt_3 rfl rfl ?_
  refine rl_load_ptr rfl tt_3 rfl rfl ?_
  refine rl_fieldAddr rfl tt_28 rfl rfl tt_3 rfl rfl ?_
  refine rl_load_ptr rfl tt_3 rfl rfl ?_
  refine rl_bin rfl rfl rfl ?_
  refine ex_cond rfl (fun hc16 => ?_) (fun hc16 => ?_)
  · try simp at hc16
    refine ex_rs ttOK (by rfl) ?_
    refine rl_assign rfl ?_
    refine ex_ret ⟨.inr rfl, ?_⟩
    clear hK15 K15
    refine ret_pv rfl ?_ rfl
    exact kF (by intro h; subst h; simp_all)
  try simp at hc16
  refine ex_skip ?_
  refine hK15 _ _ ?_
  clear hK15 K15
  refine ex_seq_k fun K17 hK17 => ?_
  refine ex_rs ttOK (by rfl) ?_
  refine rl_fieldAddr rfl tt_28 rfl rfl tt_3 rfl rfl ?_
  refine rl_load_ptr rfl tt_3 rfl rfl ?_
  refine rl_fieldAddr rfl tt_28 rfl rfl tt_3 rfl rfl ?_
  refine rl_load_ptr rfl tt_3 rfl rfl ?_
  refine rl_bin rfl rfl rfl ?_
  refine ex_cond rfl (fun hc18 => ?_) (fun hc18 => ?_)
  · try simp at hc18
    refine ex_rs ttOK (by rfl) ?_
    refine rl_assign rfl ?_
    refine ex_ret ⟨.inr rfl, ?_⟩
    clear hK17 K17
    refine ret_pv rfl ?_ rfl
    exact kF (by intro h; subst h; simp_all)
  try simp at hc18
  refine ex_skip ?_
  refine hK17 _ _ ?_
  clear hK17 K17
  refine ex_seq_k fun K19 hK19 => ?_
  refine ex_rs ttOK (by rfl) ?_
  refine rl_fieldAddr rfl tt_28 rfl rfl tt_26 rfl rfl ?_
  refine rl_load_ptr rfl tt_26 rfl rfl ?_
  refine rl_fieldAddr rfl tt_28 rfl rfl tt_26 rfl rfl ?_
  refine rl_load_ptr rfl tt_26 rfl rfl ?_
  refine rl_call rfl rfl rfl (F_laws_eqViewS ..) ?_
  refine rl_not rfl ?_
  refine ex_cond rfl (fun hc20 => ?_) (fun hc20 => ?_)
  · try simp at hc20
    refine ex_rs ttOK (by rfl) ?_
    refine rl_assign rfl ?_
    refine ex_ret ⟨.inr rfl, ?_⟩
    clear hK19 K19
    refine ret_pv rfl ?_ rfl
    exact kF (by intro h; subst h; simp_all)
  try simp at hc20
  refine ex_skip ?_
  refine hK19 _ _ ?_
  clear hK19 K19
  refine ex_seq_k fun K21 hK21 => ?_
  refine ex_rs ttOK (by rfl) ?_
  refine rl_fieldAddr rfl tt_28 rfl rfl tt_22 rfl rfl ?_
  refine rl_load_ptr rfl tt_22 rfl rfl ?_
  refine rl_fieldAddr rfl tt_28 rfl rfl tt_22 rfl rfl ?_
  refine rl_load_ptr rfl tt_22 rfl rfl ?_
  refine rl_call rfl rfl rfl (F_laws_eqIntS ..) ?_
  refine rl_not rfl ?_
  refine ex_cond rfl (fun hc22 => ?_) (fun hc22 => ?_)
  · try simp at hc22
    refine ex_rs ttOK (by rfl) ?_
    refine rl_assign rfl ?_
    refine ex_ret ⟨.inr rfl, ?_⟩
    clear hK21 K21
    refine ret_pv rfl ?_ rfl
    exact kF (by intro h; subst h; simp_all)
  try simp at hc22
  refine ex_skip ?_
  refine hK21 _ _ ?_
  clear hK21 K21
  refine ex_seq_k fun K23 hK23 => ?_
  refine ex_rs ttOK (by rfl) ?_
  refine rl_fieldAddr rfl tt_28 rfl rfl tt_3 rfl rfl ?_
  refine rl_load_ptr rfl tt_3 rfl rfl ?_
  refine rl_fieldAddr rfl tt_28 rfl rfl tt_3 rfl rfl ?_
  refine rl_load_ptr rfl tt_3 rfl rfl ?_
  refine rl_bin rfl rfl rfl ?_
  refine ex_cond rfl (fun hc24 => ?_) (fun hc24 => ?_)
  · try simp at hc24
    refine ex_rs ttOK (by rfl) ?_
    refine rl_assign rfl ?_
    refine ex_ret ⟨.inr rfl, ?_⟩
    clear hK23 K23
    refine ret_pv rfl ?_ rfl
    exact kF (by intro h; subst h; simp_all)
  try simp at hc24
  refine ex_skip ?_
  refine hK23 _ _ ?_
  clear hK23 K23
  refine ex_seq_k fun K25 hK25 => ?_
  refine ex_rs ttOK (by rfl) ?_
  refine rl_fieldAddr rfl tt_28 rfl rfl tt_3 rfl rfl ?_
  refine rl_load_ptr rfl tt_3 rfl rfl ?_
  refine rl_fieldAddr rfl tt_28 rfl rfl tt_3 rfl rfl ?_
  refine rl_load_ptr rfl tt_3 rfl rfl ?_
  refine rl_bin rfl rfl rfl ?_
  refine ex_cond rfl (fun hc26 => ?_) (fun hc26 => ?_)
  · try simp at hc26
    refine ex_rs ttOK (by rfl) ?_
    refine rl_assign rfl ?_
    refine ex_ret ⟨.inr rfl, ?_⟩
    clear hK25 K25
    refine ret_pv rfl ?_ rfl
    exact kF (by intro h; subst h; simp_all)
  try simp at hc26
  refine ex_skip ?_
  refine hK25 _ _ ?_
  clear hK25 K25
  refine ex_rs ttOK (by rfl) ?_
  refine rl_assign rfl ?_
  refine ex_ret ⟨.inr rfl, ?_⟩
  refine ret_pv rfl ?_ rfl
  exact kT (by cases a; cases b; simp_all)
end Go.Proofs.YtpadkogpeobboaaGreat.Am
namespace Go.Proofs.YtpadkogpeobboaaGreat.Am
open Go Go.RowKit
theorem F_laws_heldIntS (c : Bool) (l : List Int) (k : Nat) (hk : k + szs zI l ≤ 1000000000) : Pure Tryz.prog 94 [rInts c (mks zI kI k l), .pv (.int .i64 (k : Int))] (.pv (.int .i64 ((k + szs zI l : Nat) : Int))) := by
  refine pure_of_ex ttOK (fn := Tryz.f94) (by kernel_rfl) (by kernel_rfl) rfl (outs := [.pv (.int .i64 ((k + szs zI l : Nat) : Int))]) (by rfl) (Nat.le_of_ble_eq_true rfl) 0 ?_
  have hml := mks_len zI kI k l
  have hll := szs_len zI (fun p => by unfold zI; omega) l
  refine ex_rs ttOK (by rfl) ?_
  refine rl_assign rfl ?_
  refine ex_seq_k fun K1 hK1 => ?_
  refine ex_rs ttOK (by rfl) ?_
  refine rl_assign rfl ?_
  refine ex_block ?_
  refine ex_loopK (ι := Nat) (fun i γ1 => [(1, .pv (.int .i64 ((k + szs zI (l.take i) : Nat) : Int))), (5, .pv (.int .i64 (i : Int)))]) (fun i γ1 => []) (fun i => i ≤ l.length) (fun i => l.length - i) (Cov.cons (t := 0) rfl Cov.nil) HE.nil 0 (by omega) [] (Cov.cons' (t := 1) rfl (by rw [List.take_zero]; rfl) (Cov.cons (t := 5) rfl Cov.nil)) HE.nil rfl fun i γ1 hi => ?_
  try dsimp only [List.cons_append, List.nil_append]
  refine ex_seq_k fun K2 hK2 => ?_
  refine ex_rs ttOK (by rfl) ?_
  refine rl_move rfl ?_
  refine rl_move rfl ?_
  refine rl_lenm rfl tt_22 rfl ?_
  refine rl_bin rfl rfl rfl ?_
  refine ex_cond rfl (fun hc3 => ?_) (fun hc3 => ?_)
  rotate_left
  · try simp at hc3
    obtain rfl : i = l.length := by omega
    refine ex_exit ?_
    refine hK1 _ _ ?_
    clear hK2 K2 hK1 K1
    refine ex_rs ttOK (by rfl) ?_
    refine rl_move rfl ?_
    refine rl_assign rfl ?_
    refine ex_ret ⟨.inr rfl, ?_⟩
    refine ret_pv rfl ?_ rfl
    rw [List.take_length]
  try simp at hc3
  obtain ⟨p, hp⟩ : ∃ p, l[i]? = some p := ⟨_, List.getElem?_eq_getElem (by omega)⟩
  have hmk := mks_get zI kI (k := k) hp
  have hat := szs_at zI hp
  have hzp : zI p = 1 := rfl
  obtain ⟨q, hq⟩ : ∃ q, q = k + szs zI (l.take i) := ⟨_, rfl⟩
  rw [← hq] at hmk ⊢
  refine ex_skip ?_
  refine hK2 _ _ ?_
  clear hK2 K2
  refine ex_seq_k fun K4 hK4 => ?_
  refine ex_block ?_
  refine ex_seq_k fun K5 hK5 => ?_
  refine ex_rs ttOK (by rfl) ?_
  refine rl_move rfl ?_
  refine rl_move rfl ?_
  refine rl_idxm rfl rfl tt_22 rfl tt_3 rfl (by assumption) ?_
  refine rl_load_iel rfl tt_3 rfl ?_
  refine rl_move rfl ?_
  refine rl_bin rfl rfl rfl ?_
  refine ex_cond rfl (fun hc6 => ?_) (fun hc6 => ?_)
  · (simp [kI, kEv, kOu, kPa, kLa, kVi, mEv, mOu, mSt] at hc6; done)
  try simp at hc6
  refine ex_skip ?_
  refine hK5 _ _ ?_
  clear hK5 K5
  refine ex_region ttOK (by rfl) ?_
  refine rl_move rfl ?_
  refine rl_addN (b := 1) rfl rfl (by omega) ?_
  refine rl_assign rfl ?_
  refine hK4 _ _ ?_
  clear hK4 K4
  refine ex_region ttOK (by rfl) ?_
  refine rl_move rfl ?_
  refine rl_addN (b := 1) rfl rfl (by omega) ?_
  refine rl_assign rfl ?_
  exact ⟨i + 1, ⟨by omega, by omega⟩, [], (Cov.cons' (t := 1) rfl (by rw [szs_take zI hp]; exact congrArg (fun v : Nat => AV.pv (.int .i64 (v : Int))) (by omega)) (Cov.cons (t := 5) rfl Cov.nil)), (Cov.cons (t := 0) rfl Cov.nil), HE.nil, HE.nil, rfl⟩
theorem F_laws_heldEventS (c : Bool) (l : List Ev) (k : Nat) (hk : k + szs zEv l ≤ 1000000000) : Pure Tryz.prog 91 [rEvs c (mks zEv kEv k l), .pv (.int .i64 (k : Int))] (.pv (.int .i64 ((k + szs zEv l : Nat) : Int))) := by
  refine pure_of_ex ttOK (fn := Tryz.f91) (by kernel_rfl) (by kernel_rfl) rfl (outs := [.pv (.int .i64 ((k + szs zEv l : Nat) : Int))]) (by rfl) (Nat.le_of_ble_eq_true rfl) 0 ?_
  have hml := mks_len zEv kEv k l
  have hll := szs_len zEv (fun p => by unfold zEv; omega) l
  refine ex_rs ttOK (by rfl) ?_
  refine rl_assign rfl ?_
  refine ex_seq_k fun K1 hK1 => ?_
  refine ex_rs ttOK (by rfl) ?_
  refine rl_assign rfl ?_
  refine ex_block ?_
  refine ex_loopK (ι := Nat) (fun i γ1 => [(1, .pv (.int .i64 ((k + szs zEv (l.take i) : Nat) : Int))), (5, .pv (.int .i64 (i : Int)))]) (fun i γ1 => []) (fun i => i ≤ l.length) (fun i => l.length - i) (Cov.cons (t := 0) rfl Cov.nil) HE.nil 0 (by omega) [] (Cov.cons' (t := 1) rfl (by rw [List.take_zero]; rfl) (Cov.cons (t := 5) rfl Cov.nil)) HE.nil rfl fun i γ1 hi => ?_
  try dsimp only [List.cons_append, List.nil_append]
  refine ex_seq_k fun K2 hK2 => ?_
  refine ex_rs ttOK (by rfl) ?_
  refine rl_move rfl ?_
  refine rl_move rfl ?_
  refine rl_lenm rfl tt_24 rfl ?_
  refine rl_bin rfl rfl rfl ?_
  refine ex_cond rfl (fun hc3 => ?_) (fun hc3 => ?_)
  rotate_left
  · try simp at hc3
    obtain rfl : i = l.length := by omega
    refine ex_exit ?_
    refine hK1 _ _ ?_
    clear hK2 K2 hK1 K1
    refine ex_rs ttOK (by rfl) ?_
    refine rl_move rfl ?_
    refine rl_assign rfl ?_
    refine ex_ret ⟨.inr rfl, ?_⟩
    refine ret_pv rfl ?_ rfl
    rw [List.take_length]
  try simp at hc3
  obtain ⟨p, hp⟩ : ∃ p, l[i]? = some p := ⟨_, List.getElem?_eq_getElem (by omega)⟩
  have hmk := mks_get zEv kEv (k := k) hp
  have hat := szs_at zEv hp
  have hzp : zEv p = 7 := rfl
  obtain ⟨q, hq⟩ : ∃ q, q = k + szs zEv (l.take i) := ⟨_, rfl⟩
  rw [← hq] at hmk ⊢
  refine ex_skip ?_
  refine hK2 _ _ ?_
  clear hK2 K2
  refine ex_seq_k fun K4 hK4 => ?_
  refine ex_block ?_
  refine ex_seq_k fun K5 hK5 => ?_
  refine ex_rs ttOK (by rfl) ?_
  refine rl_move rfl ?_
  refine rl_move rfl ?_
  refine rl_idxm rfl rfl tt_24 rfl tt_76 rfl (by assumption) ?_
  refine rl_fieldAddr rfl tt_76 rfl rfl tt_3 rfl rfl ?_
  refine rl_load_iel rfl tt_3 rfl ?_
  refine rl_move rfl ?_
  refine rl_bin rfl rfl rfl ?_
  refine ex_cond rfl (fun hc6 => ?_) (fun hc6 => ?_)
  · (simp [kI, kEv, kOu, kPa, kLa, kVi, mEv, mOu, mSt] at hc6; done)
  try simp at hc6
  refine ex_skip ?_
  refine hK5 _ _ ?_
  clear hK5 K5
  refine ex_rs ttOK (by rfl) ?_
  refine rl_move rfl ?_
  refine rl_addN (b := 1) rfl rfl (by omega) ?_
  refine rl_assign rfl ?_
  refine ex_seq_k fun K7 hK7 => ?_
  refine ex_rs ttOK (by rfl) ?_
  refine rl_move rfl ?_
  refine rl_move rfl ?_
  refine rl_idxm rfl rfl tt_24 rfl tt_76 rfl (by assumption) ?_
  refine rl_fieldAddr rfl tt_76 rfl rfl tt_3 rfl rfl ?_
  refine rl_load_iel rfl tt_3 rfl ?_
  refine rl_move rfl ?_
  refine rl_bin rfl rfl rfl ?_
  refine ex_cond rfl (fun hc8 => ?_) (fun hc8 => ?_)
  · (simp [kI, kEv, kOu, kPa, kLa, kVi, mEv, mOu, mSt] at hc8; done)
  try simp at hc8
  refine ex_skip ?_
  refine hK7 _ _ ?_
  clear hK7 K7
  refine ex_rs ttOK (by rfl) ?_
  refine rl_move rfl ?_
  refine rl_addN (b := 1) rfl rfl (by omega) ?_
  refine rl_assign rfl ?_
  refine ex_seq_k fun K9 hK9 => ?_
  refine ex_rs ttOK (by rfl) ?_
  refine rl_move rfl ?_
  refine rl_move rfl ?_
  refine rl_idxm rfl rfl tt_24 rfl tt_76 rfl (by assumption) ?_
  refine rl_fieldAddr rfl tt_76 rfl rfl tt_3 rfl rfl ?_
  refine rl_load_iel rfl tt_3 rfl ?_
  refine rl_move rfl ?_
  refine rl_bin rfl rfl rfl ?_
  refine ex_cond rfl (fun hc10 => ?_) (fun hc10 => ?_)
  · (simp [kI, kEv, kOu, kPa, kLa, kVi, mEv, mOu, mSt] at hc10; done)
  try simp at hc10
  refine ex_skip ?_
  refine hK9 _ _ ?_
  clear hK9 K9
  refine ex_rs ttOK (by rfl) ?_
  refine rl_move rfl ?_
  refine rl_addN (b := 1) rfl rfl (by omega) ?_
  refine rl_assign rfl ?_
  refine ex_seq_k fun K11 hK11 => ?_
  refine ex_rs ttOK (by rfl) ?_
  refine rl_move rfl ?_
  refine rl_move rfl ?_
  refine rl_idxm rfl rfl tt_24 rfl tt_76 rfl (by assumption) ?_
  refine rl_fieldAddr rfl tt_76 rfl rfl tt_3 rfl rfl ?_
  refine rl_load_iel rfl tt_3 rfl ?_
  refine rl_move rfl ?_
  refine rl_bin rfl rfl rfl ?_
  refine ex_cond rfl (fun hc12 => ?_) (fun hc12 => ?_)
  · (simp [kI, kEv, kOu, kPa, kLa, kVi, mEv, mOu, mSt] at hc12; done)
  try simp at hc12
  refine ex_skip ?_
  refine hK11 _ _ ?_
  clear hK11 K11
  refine ex_rs ttOK (by rfl) ?_
  refine rl_move rfl ?_
  refine rl_addN (b := 1) rfl rfl (by omega) ?_
  refine rl_assign rfl ?_
  refine ex_seq_k fun K13 hK13 => ?_
  refine ex_rs ttOK (by rfl) ?_
  refine rl_move rfl ?_
  refine rl_move rfl ?_
  refine rl_idxm rfl rfl tt_24 rfl tt_76 rfl (by assumption) ?_
  refine rl_fieldAddr rfl tt_76 rfl rfl tt_3 rfl rfl ?_
  refine rl_load_iel rfl tt_3 rfl ?_
  refine rl_move rfl ?_
  refine rl_bin rfl rfl rfl ?_
  refine ex_cond rfl (fun hc14 => ?_) (fun hc14 => ?_)
  · (simp [kI, kEv, kOu, kPa, kLa, kVi, mEv, mOu, mSt] at hc14; done)
  try simp at hc14
  refine ex_skip ?_
  refine hK13 _ _ ?_
  clear hK13 K13
  refine ex_rs ttOK (by rfl) ?_
  refine rl_move rfl ?_
  refine rl_addN (b := 1) rfl rfl (by omega) ?_
  refine rl_assign rfl ?_
  refine ex_seq_k fun K15 hK15 => ?_
  refine ex_rs ttOK (by rfl) ?_
  refine rl_move rfl ?_
  refine rl_move rfl ?_
  refine rl_idxm rfl rfl tt_24 rfl tt_76 rfl (by assumption) ?_
  refine rl_fieldAddr rfl tt_76 rfl rfl tt_3 rfl rfl ?_
  refine rl_load_iel rfl tt_3 rfl ?_
  refine rl_move rfl ?_
  refine rl_bin rfl rfl rfl ?_
  refine ex_cond rfl (fun hc16 => ?_) (fun hc16 => ?_)
  · (simp [kI, kEv, kOu, kPa, kLa, kVi, mEv, mOu, mSt] at hc16; done)
  try simp at hc16
  refine ex_skip ?_
  refine hK15 _ _ ?_
  clear hK15 K15
  refine ex_rs ttOK (by rfl) ?_
  refine rl_move rfl ?_
  refine rl_addN (b := 1) rfl rfl (by omega) ?_
  refine rl_assign rfl ?_
  refine ex_seq_k fun K17 hK17 => ?_
  refine ex_rs ttOK (by rfl) ?_
  refine rl_move rfl ?_
  refine rl_move rfl ?_
  refine rl_idxm rfl rfl tt_24 rfl tt_76 rfl (by assumption) ?_
  refine rl_fieldAddr rfl tt_76 rfl rfl tt_3 rfl rfl ?_
  refine rl_load_iel rfl tt_3 rfl ?_
  refine rl_move rfl ?_
  refine rl_bin rfl rfl rfl ?_
  refine ex_cond rfl (fun hc18 => ?_) (fun hc18 => ?_)
  · (simp [kI, kEv, kOu, kPa, kLa, kVi, mEv, mOu, mSt] at hc18; done)
  try simp at hc18
  refine ex_skip ?_
  refine hK17 _ _ ?_
  clear hK17 K17
  refine ex_region ttOK (by rfl) ?_
  refine rl_move rfl ?_
  refine rl_addN (b := 1) rfl rfl (by omega) ?_
  refine rl_assign rfl ?_
  refine hK4 _ _ ?_
  clear hK4 K4
  refine ex_region ttOK (by rfl) ?_
  refine rl_move rfl ?_
  refine rl_addN (b := 1) rfl rfl (by omega) ?_
  refine rl_assign rfl ?_
  exact ⟨i + 1, ⟨by omega, by omega⟩, [], (Cov.cons' (t := 1) rfl (by rw [szs_take zEv hp]; exact congrArg (fun v : Nat => AV.pv (.int .i64 (v : Int))) (by omega)) (Cov.cons (t := 5) rfl Cov.nil)), (Cov.cons (t := 0) rfl Cov.nil), HE.nil, HE.nil, rfl⟩
theorem F_laws_heldOutS (c : Bool) (l : List Ou) (k : Nat) (hk : k + szs zOu l ≤ 1000000000) : Pure Tryz.prog 92 [rOus c (mks zOu kOu k l), .pv (.int .i64 (k : Int))] (.pv (.int .i64 ((k + szs zOu l : Nat) : Int))) := by
  refine pure_of_ex ttOK (fn := Tryz.f92) (by kernel_rfl) (by kernel_rfl) rfl (outs := [.pv (.int .i64 ((k + szs zOu l : Nat) : Int))]) (by rfl) (Nat.le_of_ble_eq_true rfl) 0 ?_
  have hml := mks_len zOu kOu k l
  have hll := szs_len zOu (fun p => by unfold zOu; omega) l
  refine ex_rs ttOK (by rfl) ?_
  refine rl_assign rfl ?_
  refine ex_seq_k fun K1 hK1 => ?_
  refine ex_rs ttOK (by rfl) ?_
  refine rl_assign rfl ?_
  refine ex_block ?_
  refine ex_loopK (ι := Nat) (fun i γ1 => [(1, .pv (.int .i64 ((k + szs zOu (l.take i) : Nat) : Int))), (5, .pv (.int .i64 (i : Int)))]) (fun i γ1 => []) (fun i => i ≤ l.length) (fun i => l.length - i) (Cov.cons (t := 0) rfl Cov.nil) HE.nil 0 (by omega) [] (Cov.cons' (t := 1) rfl (by rw [List.take_zero]; rfl) (Cov.cons (t := 5) rfl Cov.nil)) HE.nil rfl fun i γ1 hi => ?_
  try dsimp only [List.cons_append, List.nil_append]
  refine ex_seq_k fun K2 hK2 => ?_
  refine ex_rs ttOK (by rfl) ?_
  refine rl_move rfl ?_
  refine rl_move rfl ?_
  refine rl_lenm rfl tt_25 rfl ?_
  refine rl_bin rfl rfl rfl ?_
  refine ex_cond rfl (fun hc3 => ?_) (fun hc3 => ?_)
  rotate_left
  · try simp at hc3
    obtain rfl : i = l.length := by omega
    refine ex_exit ?_
    refine hK1 _ _ ?_
    clear hK2 K2 hK1 K1
    refine ex_rs ttOK (by rfl) ?_
    refine rl_move rfl ?_
    refine rl_assign rfl ?_
    refine ex_ret ⟨.inr rfl, ?_⟩
    refine ret_pv rfl ?_ rfl
    rw [List.take_length]
  try simp at hc3
  obtain ⟨p, hp⟩ : ∃ p, l[i]? = some p := ⟨_, List.getElem?_eq_getElem (by omega)⟩
  have hmk := mks_get zOu kOu (k := k) hp
  have hat := szs_at zOu hp
  have hzp : zOu p = 5 := rfl
  obtain ⟨q, hq⟩ : ∃ q, q = k + szs zOu (l.take i) := ⟨_, rfl⟩
  rw [← hq] at hmk ⊢
  refine ex_skip ?_
  refine hK2 _ _ ?_
  clear hK2 K2
  refine ex_seq_k fun K4 hK4 => ?_
  refine ex_block ?_
  refine ex_seq_k fun K5 hK5 => ?_
  refine ex_rs ttOK (by rfl) ?_
  refine rl_move rfl ?_
  refine rl_move rfl ?_
  refine rl_idxm rfl rfl tt_25 rfl tt_104 rfl (by assumption) ?_
  refine rl_fieldAddr rfl tt_104 rfl rfl tt_3 rfl rfl ?_
  refine rl_load_iel rfl tt_3 rfl ?_
  refine rl_move rfl ?_
  refine rl_bin rfl rfl rfl ?_
  refine ex_cond rfl (fun hc6 => ?_) (fun hc6 => ?_)
  · (simp [kI, kEv, kOu, kPa, kLa, kVi, mEv, mOu, mSt] at hc6; done)
  try simp at hc6
  refine ex_skip ?_
  refine hK5 _ _ ?_
  clear hK5 K5
  refine ex_rs ttOK (by rfl) ?_
  refine rl_move rfl ?_
  refine rl_addN (b := 1) rfl rfl (by omega) ?_
  refine rl_assign rfl ?_
  refine ex_seq_k fun K7 hK7 => ?_
  refine ex_rs ttOK (by rfl) ?_
  refine rl_move rfl ?_
  refine rl_move rfl ?_
  refine rl_idxm rfl rfl tt_25 rfl tt_104 rfl (by assumption) ?_
  refine rl_fieldAddr rfl tt_104 rfl rfl tt_3 rfl rfl ?_
  refine rl_load_iel rfl tt_3 rfl ?_
  refine rl_move rfl ?_
  refine rl_bin rfl rfl rfl ?_
  refine ex_cond rfl (fun hc8 => ?_) (fun hc8 => ?_)
  · (simp [kI, kEv, kOu, kPa, kLa, kVi, mEv, mOu, mSt] at hc8; done)
  try simp at hc8
  refine ex_skip ?_
  refine hK7 _ _ ?_
  clear hK7 K7
  refine ex_rs ttOK (by rfl) ?_
  refine rl_move rfl ?_
  refine rl_addN (b := 1) rfl rfl (by omega) ?_
  refine rl_assign rfl ?_
  refine ex_seq_k fun K9 hK9 => ?_
  refine ex_rs ttOK (by rfl) ?_
  refine rl_move rfl ?_
  refine rl_move rfl ?_
  refine rl_idxm rfl rfl tt_25 rfl tt_104 rfl (by assumption) ?_
  refine rl_fieldAddr rfl tt_104 rfl rfl tt_3 rfl rfl ?_
  refine rl_load_iel rfl tt_3 rfl ?_
  refine rl_move rfl ?_
  refine rl_bin rfl rfl rfl ?_
  refine ex_cond rfl (fun hc10 => ?_) (fun hc10 => ?_)
  · (simp [kI, kEv, kOu, kPa, kLa, kVi, mEv, mOu, mSt] at hc10; done)
  try simp at hc10
  refine ex_skip ?_
  refine hK9 _ _ ?_
  clear hK9 K9
  refine ex_rs ttOK (by rfl) ?_
  refine rl_move rfl ?_
  refine rl_addN (b := 1) rfl rfl (by omega) ?_
  refine rl_assign rfl ?_
  refine ex_seq_k fun K11 hK11 => ?_
  refine ex_rs ttOK (by rfl) ?_
  refine rl_move rfl ?_
  refine rl_move rfl ?_
  refine rl_idxm rfl rfl tt_25 rfl tt_104 rfl (by assumption) ?_
  refine rl_fieldAddr rfl tt_104 rfl rfl tt_3 rfl rfl ?_
  refine rl_load_iel rfl tt_3 rfl ?_
  refine rl_move rfl ?_
  refine rl_bin rfl rfl rfl ?_
  refine ex_cond rfl (fun hc12 => ?_) (fun hc12 => ?_)
  · (simp [kI, kEv, kOu, kPa, kLa, kVi, mEv, mOu, mSt] at hc12; done)
  try simp at hc12
  refine ex_skip ?_
  refine hK11 _ _ ?_
  clear hK11 K11
  refine ex_rs ttOK (by rfl) ?_
  refine rl_move rfl ?_
  refine rl_addN (b := 1) rfl rfl (by omega) ?_
  refine rl_assign rfl ?_
  refine ex_seq_k fun K13 hK13 => ?_
  refine ex_rs ttOK (by rfl) ?_
  refine rl_move rfl ?_
  refine rl_move rfl ?_
  refine rl_idxm rfl rfl tt_25 rfl tt_104 rfl (by assumption) ?_
  refine rl_fieldAddr rfl tt_104 rfl rfl tt_3 rfl rfl ?_
  refine rl_load_iel rfl tt_3 rfl ?_
  refine rl_move rfl ?_
  refine rl_bin rfl rfl rfl ?_
  refine ex_cond rfl (fun hc14 => ?_) (fun hc14 => ?_)
  · (simp [kI, kEv, kOu, kPa, kLa, kVi, mEv, mOu, mSt] at hc14; done)
  try simp at hc14
  refine ex_skip ?_
  refine hK13 _ _ ?_
  clear hK13 K13
  refine ex_region ttOK (by rfl) ?_
  refine rl_move rfl ?_
  refine rl_addN (b := 1) rfl rfl (by omega) ?_
  refine rl_assign rfl ?_
  refine hK4 _ _ ?_
  clear hK4 K4
  refine ex_region ttOK (by rfl) ?_
  refine rl_move rfl ?_
  refine rl_addN (b := 1) rfl rfl (by omega) ?_
  refine rl_assign rfl ?_
  exact ⟨i + 1, ⟨by omega, by omega⟩, [], (Cov.cons' (t := 1) rfl (by rw [szs_take zOu hp]; exact congrArg (fun v : Nat => AV.pv (.int .i64 (v : Int))) (by omega)) (Cov.cons (t := 5) rfl Cov.nil)), (Cov.cons (t := 0) rfl Cov.nil), HE.nil, HE.nil, rfl⟩
end Go.Proofs.YtpadkogpeobboaaGreat.Am
namespace Go.Proofs.YtpadkogpeobboaaGreat.Am
open Go Go.RowKit
theorem F_laws_szIntS (c : Bool) (l : List Int) (left : Nat) (hl : left ≤ 1048576) : Pure Tryz.prog 98 [rInts c l, .pv (.int .i64 (left : Int))] (.pv (.int .i64 (lf left l.length))) := by
  refine pure_of_ex ttOK (fn := Tryz.f98) (by kernel_rfl) (by kernel_rfl) rfl (outs := [.pv (.int .i64 (lf left l.length))]) (by rfl) (Nat.le_of_ble_eq_true rfl) 0 ?_
  refine ex_rowlenm 0 rfl fun hlen => ?_
  refine ex_rs ttOK (by rfl) ?_
  refine rl_assign rfl ?_
  refine ex_rs ttOK (by rfl) ?_
  refine rl_move rfl ?_
  refine rl_move rfl ?_
  refine rl_lenm rfl tt_22 rfl ?_
  refine rl_binE (.int .i64 ((left : Int) - (l.length : Int))) rfl rfl rfl (wrapE rfl rfl (by omega) (by omega)) ?_
  refine rl_assign rfl ?_
  refine ex_seq_k fun K1 hK1 => ?_
  refine ex_rs ttOK (by rfl) ?_
  refine rl_move rfl ?_
  refine rl_bin rfl rfl rfl ?_
  refine ex_cond rfl (fun hc2 => ?_) (fun hc2 => ?_)
  · try simp at hc2
    refine ex_rs ttOK (by rfl) ?_
    refine rl_assign rfl ?_
    refine ex_ret ⟨.inr rfl, ?_⟩
    clear hK1 K1
    refine ret_pv rfl ?_ rfl
    exact congrArg (fun v : Int => [AV.pv (.int .i64 v)]) (lf_neg (by omega)).symm
  try simp at hc2
  refine ex_skip ?_
  refine hK1 _ _ ?_
  clear hK1 K1
  refine ex_rs ttOK (by rfl) ?_
  refine rl_move rfl ?_
  refine rl_assign rfl ?_
  refine ex_ret ⟨.inr rfl, ?_⟩
  refine ret_pv rfl ?_ rfl
  exact congrArg (fun v : Int => [AV.pv (.int .i64 v)]) ((lf_pos (by omega)).trans (by omega)).symm
theorem F_laws_szEventS (c : Bool) (l : List Ev) (left : Nat) (hl : left ≤ 1048576) : Pure Tryz.prog 51 [rEvs c l, .pv (.int .i64 (left : Int))] (.pv (.int .i64 (lf left l.length))) := by
  refine pure_of_ex ttOK (fn := Tryz.f51) (by kernel_rfl) (by kernel_rfl) rfl (outs := [.pv (.int .i64 (lf left l.length))]) (by rfl) (Nat.le_of_ble_eq_true rfl) 0 ?_
  refine ex_rowlenm 0 rfl fun hlen => ?_
  refine ex_rs ttOK (by rfl) ?_
  refine rl_assign rfl ?_
  refine ex_rs ttOK (by rfl) ?_
  refine rl_move rfl ?_
  refine rl_move rfl ?_
  refine rl_lenm rfl tt_38 rfl ?_
  refine rl_binE (.int .i64 ((left : Int) - (l.length : Int))) rfl rfl rfl (wrapE rfl rfl (by omega) (by omega)) ?_
  refine rl_assign rfl ?_
  refine ex_seq_k fun K1 hK1 => ?_
  refine ex_rs ttOK (by rfl) ?_
  refine rl_move rfl ?_
  refine rl_bin rfl rfl rfl ?_
  refine ex_cond rfl (fun hc2 => ?_) (fun hc2 => ?_)
  · try simp at hc2
    refine ex_rs ttOK (by rfl) ?_
    refine rl_assign rfl ?_
    refine ex_ret ⟨.inr rfl, ?_⟩
    clear hK1 K1
    refine ret_pv rfl ?_ rfl
    exact congrArg (fun v : Int => [AV.pv (.int .i64 v)]) (lf_neg (by omega)).symm
  try simp at hc2
  refine ex_skip ?_
  refine hK1 _ _ ?_
  clear hK1 K1
  refine ex_rs ttOK (by rfl) ?_
  refine rl_move rfl ?_
  refine rl_assign rfl ?_
  refine ex_ret ⟨.inr rfl, ?_⟩
  refine ret_pv rfl ?_ rfl
  exact congrArg (fun v : Int => [AV.pv (.int .i64 v)]) ((lf_pos (by omega)).trans (by omega)).symm
theorem F_laws_szOutS (c : Bool) (l : List Ou) (left : Nat) (hl : left ≤ 1048576) : Pure Tryz.prog 96 [rOus c l, .pv (.int .i64 (left : Int))] (.pv (.int .i64 (lf left l.length))) := by
  refine pure_of_ex ttOK (fn := Tryz.f96) (by kernel_rfl) (by kernel_rfl) rfl (outs := [.pv (.int .i64 (lf left l.length))]) (by rfl) (Nat.le_of_ble_eq_true rfl) 0 ?_
  refine ex_rowlenm 0 rfl fun hlen => ?_
  refine ex_rs ttOK (by rfl) ?_
  refine rl_assign rfl ?_
  refine ex_rs ttOK (by rfl) ?_
  refine rl_move rfl ?_
  refine rl_move rfl ?_
  refine rl_lenm rfl tt_39 rfl ?_
  refine rl_binE (.int .i64 ((left : Int) - (l.length : Int))) rfl rfl rfl (wrapE rfl rfl (by omega) (by omega)) ?_
  refine rl_assign rfl ?_
  refine ex_seq_k fun K1 hK1 => ?_
  refine ex_rs ttOK (by rfl) ?_
  refine rl_move rfl ?_
  refine rl_bin rfl rfl rfl ?_
  refine ex_cond rfl (fun hc2 => ?_) (fun hc2 => ?_)
  · try simp at hc2
    refine ex_rs ttOK (by rfl) ?_
    refine rl_assign rfl ?_
    refine ex_ret ⟨.inr rfl, ?_⟩
    clear hK1 K1
    refine ret_pv rfl ?_ rfl
    exact congrArg (fun v : Int => [AV.pv (.int .i64 v)]) (lf_neg (by omega)).symm
  try simp at hc2
  refine ex_skip ?_
  refine hK1 _ _ ?_
  clear hK1 K1
  refine ex_rs ttOK (by rfl) ?_
  refine rl_move rfl ?_
  refine rl_assign rfl ?_
  refine ex_ret ⟨.inr rfl, ?_⟩
  refine ret_pv rfl ?_ rfl
  exact congrArg (fun v : Int => [AV.pv (.int .i64 v)]) ((lf_pos (by omega)).trans (by omega)).symm
theorem F_laws_szPast (c : Bool) (p : Pa) (left : Nat) (hl : left ≤ 1048576) : Pure Tryz.prog 252 [.agg (encPa c p), .pv (.int .i64 (left : Int))] (.pv (.int .i64 (lf left (cPa p)))) := by
  refine pure_of_ex ttOK (fn := Tryz.f252) (by kernel_rfl) (by kernel_rfl) rfl (outs := [.pv (.int .i64 (lf left (cPa p)))]) (by rfl) (Nat.le_of_ble_eq_true rfl) 1 ?_
  have hc : cPa p = p.sends.length + p.outs.length := rfl
  refine ex_rs ttOK (by rfl) ?_
  refine rl_boxA (id := 0) rfl rfl rfl ?_
  refine rl_assign rfl ?_
  refine ex_rs ttOK (by rfl) ?_
  refine rl_fieldAddr rfl tt_282 rfl rfl tt_38 rfl rfl ?_
  refine rl_load_ptr rfl tt_38 rfl rfl ?_
  refine rl_move rfl ?_
  refine rl_call rfl rfl rfl (F_laws_szEventS c p.sends left hl) ?_
  refine rl_assign rfl ?_
  refine ex_seq_k fun K1 hK1 => ?_
  refine ex_rs ttOK (by rfl) ?_
  refine rl_move rfl ?_
  refine rl_bin rfl rfl rfl ?_
  refine ex_cond rfl (fun hc2 => ?_) (fun hc2 => ?_)
  · try simp at hc2
    have hT := lf_lt hc2
    refine ex_rs ttOK (by rfl) ?_
    refine rl_assign rfl ?_
    refine ex_ret ⟨.inr rfl, ?_⟩
    clear hK1 K1
    refine ret_pv rfl ?_ rfl
    exact congrArg (fun v : Int => [AV.pv (.int .i64 v)]) (lf_neg (by omega)).symm
  try simp at hc2
  have h10 : p.sends.length ≤ left := lf_ge (by omega)
  rw [lf_pos h10]
  refine ex_skip ?_
  refine hK1 _ _ ?_
  clear hK1 K1
  refine ex_rs ttOK (by rfl) ?_
  refine rl_fieldAddr rfl tt_282 rfl rfl tt_39 rfl rfl ?_
  refine rl_load_ptr rfl tt_39 rfl rfl ?_
  refine rl_move rfl ?_
  refine rl_call rfl rfl rfl (F_laws_szOutS c p.outs (left - p.sends.length) (by omega)) ?_
  refine rl_assign rfl ?_
  refine ex_seq_k fun K3 hK3 => ?_
  refine ex_rs ttOK (by rfl) ?_
  refine rl_move rfl ?_
  refine rl_bin rfl rfl rfl ?_
  refine ex_cond rfl (fun hc4 => ?_) (fun hc4 => ?_)
  · try simp at hc4
    have hT := lf_lt hc4
    refine ex_rs ttOK (by rfl) ?_
    refine rl_assign rfl ?_
    refine ex_ret ⟨.inr rfl, ?_⟩
    clear hK3 K3
    refine ret_pv rfl ?_ rfl
    exact congrArg (fun v : Int => [AV.pv (.int .i64 v)]) (lf_neg (by omega)).symm
  try simp at hc4
  have h16 : p.outs.length ≤ (left - p.sends.length) := lf_ge (by omega)
  rw [lf_pos h16]
  refine ex_skip ?_
  refine hK3 _ _ ?_
  clear hK3 K3
  refine ex_rs ttOK (by rfl) ?_
  refine rl_move rfl ?_
  refine rl_assign rfl ?_
  refine ex_ret ⟨.inr rfl, ?_⟩
  refine ret_pv rfl ?_ rfl
  exact congrArg (fun v : Int => [AV.pv (.int .i64 v)]) ((lf_pos (by omega)).trans (by omega)).symm
theorem F_laws_szPastS (c : Bool) (l : List Pa) (left : Nat) (hl : left ≤ 1048576) : Pure Tryz.prog 226 [rPas c l, .pv (.int .i64 (left : Int))] (.pv (.int .i64 (lf left (cPas l)))) := by
  refine pure_of_ex ttOK (fn := Tryz.f226) (by kernel_rfl) (by kernel_rfl) rfl (outs := [.pv (.int .i64 (lf left (cPas l)))]) (by rfl) (Nat.le_of_ble_eq_true rfl) 0 ?_
  refine ex_rowlenm 0 rfl fun hlen => ?_
  have hc : cPas l = l.length + szs cPa l := rfl
  refine ex_rs ttOK (by rfl) ?_
  refine rl_assign rfl ?_
  refine ex_rs ttOK (by rfl) ?_
  refine rl_move rfl ?_
  refine rl_move rfl ?_
  refine rl_lenm rfl tt_211 rfl ?_
  refine rl_binE (.int .i64 ((left : Int) - (l.length : Int))) rfl rfl rfl (wrapE rfl rfl (by omega) (by omega)) ?_
  refine rl_assign rfl ?_
  refine ex_seq_k fun K1 hK1 => ?_
  refine ex_rs ttOK (by rfl) ?_
  refine rl_move rfl ?_
  refine rl_bin rfl rfl rfl ?_
  refine ex_cond rfl (fun hc2 => ?_) (fun hc2 => ?_)
  · try simp at hc2
    refine ex_rs ttOK (by rfl) ?_
    refine rl_assign rfl ?_
    refine ex_ret ⟨.inr rfl, ?_⟩
    clear hK1 K1
    refine ret_pv rfl ?_ rfl
    exact congrArg (fun v : Int => [AV.pv (.int .i64 v)]) (lf_neg (by omega)).symm
  try simp at hc2
  refine ex_skip ?_
  refine hK1 _ _ ?_
  clear hK1 K1
  refine ex_seq_k fun K3 hK3 => ?_
  refine ex_rs ttOK (by rfl) ?_
  refine rl_assign rfl ?_
  refine ex_block ?_
  refine ex_loopK (ι := Nat) (fun i γ1 => [(1, .pv (.int .i64 ((left - (l.length + szs cPa (l.take i)) : Nat) : Int))), (5, .pv (.int .i64 (i : Int)))]) (fun i γ1 => []) (fun i => i ≤ l.length ∧ l.length + szs cPa (l.take i) ≤ left) (fun i => l.length - i) (Cov.cons (t := 0) rfl Cov.nil) HE.nil 0 ⟨by omega, by rw [List.take_zero]; show l.length + 0 ≤ left; omega⟩ [] (Cov.cons' (t := 1) rfl (by rw [List.take_zero]; exact congrArg (fun v : Int => AV.pv (.int .i64 v)) (by show _ = ((left - (l.length + 0) : Nat) : Int); omega)) (Cov.cons (t := 5) rfl Cov.nil)) HE.nil rfl fun i γ1 hi => ?_
  try dsimp only [List.cons_append, List.nil_append]
  obtain ⟨h1, h2⟩ := hi
  refine ex_seq_k fun K4 hK4 => ?_
  refine ex_rs ttOK (by rfl) ?_
  refine rl_move rfl ?_
  refine rl_move rfl ?_
  refine rl_lenm rfl tt_211 rfl ?_
  refine rl_bin rfl rfl rfl ?_
  refine ex_cond rfl (fun hc5 => ?_) (fun hc5 => ?_)
  rotate_left
  · try simp at hc5
    obtain rfl : i = l.length := by omega
    rw [List.take_length] at h2 ⊢
    refine ex_exit ?_
    refine hK3 _ _ ?_
    clear hK4 K4 hK3 K3
    refine ex_rs ttOK (by rfl) ?_
    refine rl_move rfl ?_
    refine rl_assign rfl ?_
    refine ex_ret ⟨.inr rfl, ?_⟩
    refine ret_pv rfl ?_ rfl
    exact congrArg (fun v : Int => [AV.pv (.int .i64 v)]) ((lf_pos (by omega)).trans (by omega)).symm
  try simp at hc5
  obtain ⟨p, hp⟩ : ∃ p, l[i]? = some p := ⟨_, List.getElem?_eq_getElem (by omega)⟩
  have hat := szs_at cPa hp
  refine ex_skip ?_
  refine hK4 _ _ ?_
  clear hK4 K4
  refine ex_seq_k fun K6 hK6 => ?_
  refine ex_block ?_
  refine ex_rs ttOK (by rfl) ?_
  refine rl_move rfl ?_
  refine rl_move rfl ?_
  refine rl_idxm rfl rfl tt_211 rfl tt_282 rfl (by assumption) ?_
  refine rl_loadA_iel rfl tt_282 rfl rfl ?_
  refine rl_move rfl ?_
  refine rl_call rfl rfl rfl (F_laws_szPast c p (left - (l.length + szs cPa (l.take i))) (by omega)) ?_
  refine rl_assign rfl ?_
  refine ex_rs ttOK (by rfl) ?_
  refine rl_move rfl ?_
  refine rl_bin rfl rfl rfl ?_
  refine ex_cond rfl (fun hc7 => ?_) (fun hc7 => ?_)
  · try simp at hc7
    have hT := lf_lt hc7
    refine ex_rs ttOK (by rfl) ?_
    refine rl_assign rfl ?_
    refine ex_ret ⟨.inr rfl, ?_⟩
    clear hK6 K6 hK3 K3
    refine ret_pv rfl ?_ rfl
    exact congrArg (fun v : Int => [AV.pv (.int .i64 v)]) (lf_neg (by omega)).symm
  try simp at hc7
  have h25 : cPa p ≤ left - (l.length + szs cPa (l.take i)) := lf_ge (by omega)
  rw [lf_pos h25]
  refine ex_skip ?_
  refine hK6 _ _ ?_
  clear hK6 K6
  refine ex_region ttOK (by rfl) ?_
  refine rl_move rfl ?_
  refine rl_bin rfl rfl rfl ?_
  refine rl_assign rfl ?_
  exact ⟨i + 1, ⟨⟨by omega, by rw [szs_take cPa hp]; omega⟩, by omega⟩, [], (Cov.cons' (t := 1) rfl (by rw [szs_take cPa hp]; exact congrArg (fun v : Nat => AV.pv (.int .i64 (v : Int))) (by omega)) (Cov.cons' (t := 5) rfl (by rw [wrap_small (by omega) (by omega)]; rfl) Cov.nil)), (Cov.cons (t := 0) rfl Cov.nil), HE.nil, HE.nil, rfl⟩
theorem F_laws_szLane (c : Bool) (p : La) (left : Nat) (hl : left ≤ 1048576) : Pure Tryz.prog 181 [.agg (encLa c p), .pv (.int .i64 (left : Int))] (.pv (.int .i64 (lf left (cLa p)))) := by
  refine pure_of_ex ttOK (fn := Tryz.f181) (by kernel_rfl) (by kernel_rfl) rfl (outs := [.pv (.int .i64 (lf left (cLa p)))]) (by rfl) (Nat.le_of_ble_eq_true rfl) 1 ?_
  have hc : cLa p = cPas p.done := rfl
  refine ex_rs ttOK (by rfl) ?_
  refine rl_boxA (id := 0) rfl rfl rfl ?_
  refine rl_assign rfl ?_
  refine ex_rs ttOK (by rfl) ?_
  refine rl_fieldAddr rfl tt_213 rfl rfl tt_211 rfl rfl ?_
  refine rl_load_ptr rfl tt_211 rfl rfl ?_
  refine rl_move rfl ?_
  refine rl_call rfl rfl rfl (F_laws_szPastS c p.done left hl) ?_
  refine rl_assign rfl ?_
  refine ex_seq_k fun K1 hK1 => ?_
  refine ex_rs ttOK (by rfl) ?_
  refine rl_move rfl ?_
  refine rl_bin rfl rfl rfl ?_
  refine ex_cond rfl (fun hc2 => ?_) (fun hc2 => ?_)
  · try simp at hc2
    have hT := lf_lt hc2
    refine ex_rs ttOK (by rfl) ?_
    refine rl_assign rfl ?_
    refine ex_ret ⟨.inr rfl, ?_⟩
    clear hK1 K1
    refine ret_pv rfl ?_ rfl
    exact congrArg (fun v : Int => [AV.pv (.int .i64 v)]) (lf_neg (by omega)).symm
  try simp at hc2
  have h10 : cPas p.done ≤ left := lf_ge (by omega)
  rw [lf_pos h10]
  refine ex_skip ?_
  refine hK1 _ _ ?_
  clear hK1 K1
  refine ex_rs ttOK (by rfl) ?_
  refine rl_move rfl ?_
  refine rl_assign rfl ?_
  refine ex_ret ⟨.inr rfl, ?_⟩
  refine ret_pv rfl ?_ rfl
  exact congrArg (fun v : Int => [AV.pv (.int .i64 v)]) ((lf_pos (by omega)).trans (by omega)).symm
theorem F_laws_szLaneS (c : Bool) (l : List La) (left : Nat) (hl : left ≤ 1048576) : Pure Tryz.prog 95 [rLas c l, .pv (.int .i64 (left : Int))] (.pv (.int .i64 (lf left (cLas l)))) := by
  refine pure_of_ex ttOK (fn := Tryz.f95) (by kernel_rfl) (by kernel_rfl) rfl (outs := [.pv (.int .i64 (lf left (cLas l)))]) (by rfl) (Nat.le_of_ble_eq_true rfl) 0 ?_
  refine ex_rowlenm 0 rfl fun hlen => ?_
  have hc : cLas l = l.length + szs cLa l := rfl
  refine ex_rs ttOK (by rfl) ?_
  refine rl_assign rfl ?_
  refine ex_rs ttOK (by rfl) ?_
  refine rl_move rfl ?_
  refine rl_move rfl ?_
  refine rl_lenm rfl tt_37 rfl ?_
  refine rl_binE (.int .i64 ((left : Int) - (l.length : Int))) rfl rfl rfl (wrapE rfl rfl (by omega) (by omega)) ?_
  refine rl_assign rfl ?_
  refine ex_seq_k fun K1 hK1 => ?_
  refine ex_rs ttOK (by rfl) ?_
  refine rl_move rfl ?_
  refine rl_bin rfl rfl rfl ?_
  refine ex_cond rfl (fun hc2 => ?_) (fun hc2 => ?_)
  · try simp at hc2
    refine ex_rs ttOK (by rfl) ?_
    refine rl_assign rfl ?_
    refine ex_ret ⟨.inr rfl, ?_⟩
    clear hK1 K1
    refine ret_pv rfl ?_ rfl
    exact congrArg (fun v : Int => [AV.pv (.int .i64 v)]) (lf_neg (by omega)).symm
  try simp at hc2
  refine ex_skip ?_
  refine hK1 _ _ ?_
  clear hK1 K1
  refine ex_seq_k fun K3 hK3 => ?_
  refine ex_rs ttOK (by rfl) ?_
  refine rl_assign rfl ?_
  refine ex_block ?_
  refine ex_loopK (ι := Nat) (fun i γ1 => [(1, .pv (.int .i64 ((left - (l.length + szs cLa (l.take i)) : Nat) : Int))), (5, .pv (.int .i64 (i : Int)))]) (fun i γ1 => []) (fun i => i ≤ l.length ∧ l.length + szs cLa (l.take i) ≤ left) (fun i => l.length - i) (Cov.cons (t := 0) rfl Cov.nil) HE.nil 0 ⟨by omega, by rw [List.take_zero]; show l.length + 0 ≤ left; omega⟩ [] (Cov.cons' (t := 1) rfl (by rw [List.take_zero]; exact congrArg (fun v : Int => AV.pv (.int .i64 v)) (by show _ = ((left - (l.length + 0) : Nat) : Int); omega)) (Cov.cons (t := 5) rfl Cov.nil)) HE.nil rfl fun i γ1 hi => ?_
  try dsimp only [List.cons_append, List.nil_append]
  obtain ⟨h1, h2⟩ := hi
  refine ex_seq_k fun K4 hK4 => ?_
  refine ex_rs ttOK (by rfl) ?_
  refine rl_move rfl ?_
  refine rl_move rfl ?_
  refine rl_lenm rfl tt_37 rfl ?_
  refine rl_bin rfl rfl rfl ?_
  refine ex_cond rfl (fun hc5 => ?_) (fun hc5 => ?_)
  rotate_left
  · try simp at hc5
    obtain rfl : i = l.length := by omega
    rw [List.take_length] at h2 ⊢
    refine ex_exit ?_
    refine hK3 _ _ ?_
    clear hK4 K4 hK3 K3
    refine ex_rs ttOK (by rfl) ?_
    refine rl_move rfl ?_
    refine rl_assign rfl ?_
    refine ex_ret ⟨.inr rfl, ?_⟩
    refine ret_pv rfl ?_ rfl
    exact congrArg (fun v : Int => [AV.pv (.int .i64 v)]) ((lf_pos (by omega)).trans (by omega)).symm
  try simp at hc5
  obtain ⟨p, hp⟩ : ∃ p, l[i]? = some p := ⟨_, List.getElem?_eq_getElem (by omega)⟩
  have hat := szs_at cLa hp
  refine ex_skip ?_
  refine hK4 _ _ ?_
  clear hK4 K4
  refine ex_seq_k fun K6 hK6 => ?_
  refine ex_block ?_
  refine ex_rs ttOK (by rfl) ?_
  refine rl_move rfl ?_
  refine rl_move rfl ?_
  refine rl_idxm rfl rfl tt_37 rfl tt_213 rfl (by assumption) ?_
  refine rl_loadA_iel rfl tt_213 rfl rfl ?_
  refine rl_move rfl ?_
  refine rl_call rfl rfl rfl (F_laws_szLane c p (left - (l.length + szs cLa (l.take i))) (by omega)) ?_
  refine rl_assign rfl ?_
  refine ex_rs ttOK (by rfl) ?_
  refine rl_move rfl ?_
  refine rl_bin rfl rfl rfl ?_
  refine ex_cond rfl (fun hc7 => ?_) (fun hc7 => ?_)
  · try simp at hc7
    have hT := lf_lt hc7
    refine ex_rs ttOK (by rfl) ?_
    refine rl_assign rfl ?_
    refine ex_ret ⟨.inr rfl, ?_⟩
    clear hK6 K6 hK3 K3
    refine ret_pv rfl ?_ rfl
    exact congrArg (fun v : Int => [AV.pv (.int .i64 v)]) (lf_neg (by omega)).symm
  try simp at hc7
  have h25 : cLa p ≤ left - (l.length + szs cLa (l.take i)) := lf_ge (by omega)
  rw [lf_pos h25]
  refine ex_skip ?_
  refine hK6 _ _ ?_
  clear hK6 K6
  refine ex_region ttOK (by rfl) ?_
  refine rl_move rfl ?_
  refine rl_bin rfl rfl rfl ?_
  refine rl_assign rfl ?_
  exact ⟨i + 1, ⟨⟨by omega, by rw [szs_take cLa hp]; omega⟩, by omega⟩, [], (Cov.cons' (t := 1) rfl (by rw [szs_take cLa hp]; exact congrArg (fun v : Nat => AV.pv (.int .i64 (v : Int))) (by omega)) (Cov.cons' (t := 5) rfl (by rw [wrap_small (by omega) (by omega)]; rfl) Cov.nil)), (Cov.cons (t := 0) rfl Cov.nil), HE.nil, HE.nil, rfl⟩
theorem F_laws_szView (c : Bool) (p : Vi) (left : Nat) (hl : left ≤ 1048576) : Pure Tryz.prog 182 [.agg (encVi c p), .pv (.int .i64 (left : Int))] (.pv (.int .i64 (lf left (cVi p)))) := by
  refine pure_of_ex ttOK (fn := Tryz.f182) (by kernel_rfl) (by kernel_rfl) rfl (outs := [.pv (.int .i64 (lf left (cVi p)))]) (by rfl) (Nat.le_of_ble_eq_true rfl) 1 ?_
  have hc : cVi p = p.events.length := rfl
  refine ex_rs ttOK (by rfl) ?_
  refine rl_boxA (id := 0) rfl rfl rfl ?_
  refine rl_assign rfl ?_
  refine ex_rs ttOK (by rfl) ?_
  refine rl_fieldAddr rfl tt_216 rfl rfl tt_38 rfl rfl ?_
  refine rl_load_ptr rfl tt_38 rfl rfl ?_
  refine rl_move rfl ?_
  refine rl_call rfl rfl rfl (F_laws_szEventS c p.events left hl) ?_
  refine rl_assign rfl ?_
  refine ex_seq_k fun K1 hK1 => ?_
  refine ex_rs ttOK (by rfl) ?_
  refine rl_move rfl ?_
  refine rl_bin rfl rfl rfl ?_
  refine ex_cond rfl (fun hc2 => ?_) (fun hc2 => ?_)
  · try simp at hc2
    have hT := lf_lt hc2
    refine ex_rs ttOK (by rfl) ?_
    refine rl_assign rfl ?_
    refine ex_ret ⟨.inr rfl, ?_⟩
    clear hK1 K1
    refine ret_pv rfl ?_ rfl
    exact congrArg (fun v : Int => [AV.pv (.int .i64 v)]) (lf_neg (by omega)).symm
  try simp at hc2
  have h10 : p.events.length ≤ left := lf_ge (by omega)
  rw [lf_pos h10]
  refine ex_skip ?_
  refine hK1 _ _ ?_
  clear hK1 K1
  refine ex_rs ttOK (by rfl) ?_
  refine rl_move rfl ?_
  refine rl_assign rfl ?_
  refine ex_ret ⟨.inr rfl, ?_⟩
  refine ret_pv rfl ?_ rfl
  exact congrArg (fun v : Int => [AV.pv (.int .i64 v)]) ((lf_pos (by omega)).trans (by omega)).symm
theorem F_laws_szViewS (c : Bool) (l : List Vi) (left : Nat) (hl : left ≤ 1048576) : Pure Tryz.prog 97 [rVis c l, .pv (.int .i64 (left : Int))] (.pv (.int .i64 (lf left (cVis l)))) := by
  refine pure_of_ex ttOK (fn := Tryz.f97) (by kernel_rfl) (by kernel_rfl) rfl (outs := [.pv (.int .i64 (lf left (cVis l)))]) (by rfl) (Nat.le_of_ble_eq_true rfl) 0 ?_
  refine ex_rowlenm 0 rfl fun hlen => ?_
  have hc : cVis l = l.length + szs cVi l := rfl
  refine ex_rs ttOK (by rfl) ?_
  refine rl_assign rfl ?_
  refine ex_rs ttOK (by rfl) ?_
  refine rl_move rfl ?_
  refine rl_move rfl ?_
  refine rl_lenm rfl tt_40 rfl ?_
  refine rl_binE (.int .i64 ((left : Int) - (l.length : Int))) rfl rfl rfl (wrapE rfl rfl (by omega) (by omega)) ?_
  refine rl_assign rfl ?_
  refine ex_seq_k fun K1 hK1 => ?_
  refine ex_rs ttOK (by rfl) ?_
  refine rl_move rfl ?_
  refine rl_bin rfl rfl rfl ?_
  refine ex_cond rfl (fun hc2 => ?_) (fun hc2 => ?_)
  · try simp at hc2
    refine ex_rs ttOK (by rfl) ?_
    refine rl_assign rfl ?_
    refine ex_ret ⟨.inr rfl, ?_⟩
    clear hK1 K1
    refine ret_pv rfl ?_ rfl
    exact congrArg (fun v : Int => [AV.pv (.int .i64 v)]) (lf_neg (by omega)).symm
  try simp at hc2
  refine ex_skip ?_
  refine hK1 _ _ ?_
  clear hK1 K1
  refine ex_seq_k fun K3 hK3 => ?_
  refine ex_rs ttOK (by rfl) ?_
  refine rl_assign rfl ?_
  refine ex_block ?_
  refine ex_loopK (ι := Nat) (fun i γ1 => [(1, .pv (.int .i64 ((left - (l.length + szs cVi (l.take i)) : Nat) : Int))), (5, .pv (.int .i64 (i : Int)))]) (fun i γ1 => []) (fun i => i ≤ l.length ∧ l.length + szs cVi (l.take i) ≤ left) (fun i => l.length - i) (Cov.cons (t := 0) rfl Cov.nil) HE.nil 0 ⟨by omega, by rw [List.take_zero]; show l.length + 0 ≤ left; omega⟩ [] (Cov.cons' (t := 1) rfl (by rw [List.take_zero]; exact congrArg (fun v : Int => AV.pv (.int .i64 v)) (by show _ = ((left - (l.length + 0) : Nat) : Int); omega)) (Cov.cons (t := 5) rfl Cov.nil)) HE.nil rfl fun i γ1 hi => ?_
  try dsimp only [List.cons_append, List.nil_append]
  obtain ⟨h1, h2⟩ := hi
  refine ex_seq_k fun K4 hK4 => ?_
  refine ex_rs ttOK (by rfl) ?_
  refine rl_move rfl ?_
  refine rl_move rfl ?_
  refine rl_lenm rfl tt_40 rfl ?_
  refine rl_bin rfl rfl rfl ?_
  refine ex_cond rfl (fun hc5 => ?_) (fun hc5 => ?_)
  rotate_left
  · try simp at hc5
    obtain rfl : i = l.length := by omega
    rw [List.take_length] at h2 ⊢
    refine ex_exit ?_
    refine hK3 _ _ ?_
    clear hK4 K4 hK3 K3
    refine ex_rs ttOK (by rfl) ?_
    refine rl_move rfl ?_
    refine rl_assign rfl ?_
    refine ex_ret ⟨.inr rfl, ?_⟩
    refine ret_pv rfl ?_ rfl
    exact congrArg (fun v : Int => [AV.pv (.int .i64 v)]) ((lf_pos (by omega)).trans (by omega)).symm
  try simp at hc5
  obtain ⟨p, hp⟩ : ∃ p, l[i]? = some p := ⟨_, List.getElem?_eq_getElem (by omega)⟩
  have hat := szs_at cVi hp
  refine ex_skip ?_
  refine hK4 _ _ ?_
  clear hK4 K4
  refine ex_seq_k fun K6 hK6 => ?_
  refine ex_block ?_
  refine ex_rs ttOK (by rfl) ?_
  refine rl_move rfl ?_
  refine rl_move rfl ?_
  refine rl_idxm rfl rfl tt_40 rfl tt_216 rfl (by assumption) ?_
  refine rl_loadA_iel rfl tt_216 rfl rfl ?_
  refine rl_move rfl ?_
  refine rl_call rfl rfl rfl (F_laws_szView c p (left - (l.length + szs cVi (l.take i))) (by omega)) ?_
  refine rl_assign rfl ?_
  refine ex_rs ttOK (by rfl) ?_
  refine rl_move rfl ?_
  refine rl_bin rfl rfl rfl ?_
  refine ex_cond rfl (fun hc7 => ?_) (fun hc7 => ?_)
  · try simp at hc7
    have hT := lf_lt hc7
    refine ex_rs ttOK (by rfl) ?_
    refine rl_assign rfl ?_
    refine ex_ret ⟨.inr rfl, ?_⟩
    clear hK6 K6 hK3 K3
    refine ret_pv rfl ?_ rfl
    exact congrArg (fun v : Int => [AV.pv (.int .i64 v)]) (lf_neg (by omega)).symm
  try simp at hc7
  have h25 : cVi p ≤ left - (l.length + szs cVi (l.take i)) := lf_ge (by omega)
  rw [lf_pos h25]
  refine ex_skip ?_
  refine hK6 _ _ ?_
  clear hK6 K6
  refine ex_region ttOK (by rfl) ?_
  refine rl_move rfl ?_
  refine rl_bin rfl rfl rfl ?_
  refine rl_assign rfl ?_
  exact ⟨i + 1, ⟨⟨by omega, by rw [szs_take cVi hp]; omega⟩, by omega⟩, [], (Cov.cons' (t := 1) rfl (by rw [szs_take cVi hp]; exact congrArg (fun v : Nat => AV.pv (.int .i64 (v : Int))) (by omega)) (Cov.cons' (t := 5) rfl (by rw [wrap_small (by omega) (by omega)]; rfl) Cov.nil)), (Cov.cons (t := 0) rfl Cov.nil), HE.nil, HE.nil, rfl⟩
theorem F_laws_szNode (c : Bool) (p : Nd) (left : Nat) (hl : left ≤ 1048576) : Pure Tryz.prog 23 [.agg (encNd c p), .pv (.int .i64 (left : Int))] (.pv (.int .i64 (lf left (cNd p)))) := by
  refine pure_of_ex ttOK (fn := Tryz.f23) (by kernel_rfl) (by kernel_rfl) rfl (outs := [.pv (.int .i64 (lf left (cNd p)))]) (by rfl) (Nat.le_of_ble_eq_true rfl) 1 ?_
  have hc : cNd p = cLas p.lanes + p.kept.length + p.outs.length + cVis p.views + p.known.length := rfl
  refine ex_rs ttOK (by rfl) ?_
  refine rl_boxA (id := 0) rfl rfl rfl ?_
  refine rl_assign rfl ?_
  refine ex_rs ttOK (by rfl) ?_
  refine rl_fieldAddr rfl tt_42 rfl rfl tt_37 rfl rfl ?_
  refine rl_load_ptr rfl tt_37 rfl rfl ?_
  refine rl_move rfl ?_
  refine rl_call rfl rfl rfl (F_laws_szLaneS c p.lanes left hl) ?_
  refine rl_assign rfl ?_
  refine ex_seq_k fun K1 hK1 => ?_
  refine ex_rs ttOK (by rfl) ?_
  refine rl_move rfl ?_
  refine rl_bin rfl rfl rfl ?_
  refine ex_cond rfl (fun hc2 => ?_) (fun hc2 => ?_)
  · try simp at hc2
    have hT := lf_lt hc2
    refine ex_rs ttOK (by rfl) ?_
    refine rl_assign rfl ?_
    refine ex_ret ⟨.inr rfl, ?_⟩
    clear hK1 K1
    refine ret_pv rfl ?_ rfl
    exact congrArg (fun v : Int => [AV.pv (.int .i64 v)]) (lf_neg (by omega)).symm
  try simp at hc2
  have h10 : cLas p.lanes ≤ left := lf_ge (by omega)
  rw [lf_pos h10]
  refine ex_skip ?_
  refine hK1 _ _ ?_
  clear hK1 K1
  refine ex_rs ttOK (by rfl) ?_
  refine rl_fieldAddr rfl tt_42 rfl rfl tt_38 rfl rfl ?_
  refine rl_load_ptr rfl tt_38 rfl rfl ?_
  refine rl_move rfl ?_
  refine rl_call rfl rfl rfl (F_laws_szEventS c p.kept (left - cLas p.lanes) (by omega)) ?_
  refine rl_assign rfl ?_
  refine ex_seq_k fun K3 hK3 => ?_
  refine ex_rs ttOK (by rfl) ?_
  refine rl_move rfl ?_
  refine rl_bin rfl rfl rfl ?_
  refine ex_cond rfl (fun hc4 => ?_) (fun hc4 => ?_)
  · try simp at hc4
    have hT := lf_lt hc4
    refine ex_rs ttOK (by rfl) ?_
    refine rl_assign rfl ?_
    refine ex_ret ⟨.inr rfl, ?_⟩
    clear hK3 K3
    refine ret_pv rfl ?_ rfl
    exact congrArg (fun v : Int => [AV.pv (.int .i64 v)]) (lf_neg (by omega)).symm
  try simp at hc4
  have h16 : p.kept.length ≤ (left - cLas p.lanes) := lf_ge (by omega)
  rw [lf_pos h16]
  refine ex_skip ?_
  refine hK3 _ _ ?_
  clear hK3 K3
  refine ex_rs ttOK (by rfl) ?_
  refine rl_fieldAddr rfl tt_42 rfl rfl tt_39 rfl rfl ?_
  refine rl_load_ptr rfl tt_39 rfl rfl ?_
  refine rl_move rfl ?_
  refine rl_call rfl rfl rfl (F_laws_szOutS c p.outs (left - cLas p.lanes - p.kept.length) (by omega)) ?_
  refine rl_assign rfl ?_
  refine ex_seq_k fun K5 hK5 => ?_
  refine ex_rs ttOK (by rfl) ?_
  refine rl_move rfl ?_
  refine rl_bin rfl rfl rfl ?_
  refine ex_cond rfl (fun hc6 => ?_) (fun hc6 => ?_)
  · try simp at hc6
    have hT := lf_lt hc6
    refine ex_rs ttOK (by rfl) ?_
    refine rl_assign rfl ?_
    refine ex_ret ⟨.inr rfl, ?_⟩
    clear hK5 K5
    refine ret_pv rfl ?_ rfl
    exact congrArg (fun v : Int => [AV.pv (.int .i64 v)]) (lf_neg (by omega)).symm
  try simp at hc6
  have h22 : p.outs.length ≤ ((left - cLas p.lanes) - p.kept.length) := lf_ge (by omega)
  rw [lf_pos h22]
  refine ex_skip ?_
  refine hK5 _ _ ?_
  clear hK5 K5
  refine ex_rs ttOK (by rfl) ?_
  refine rl_fieldAddr rfl tt_42 rfl rfl tt_40 rfl rfl ?_
  refine rl_load_ptr rfl tt_40 rfl rfl ?_
  refine rl_move rfl ?_
  refine rl_call rfl rfl rfl (F_laws_szViewS c p.views (left - cLas p.lanes - p.kept.length - p.outs.length) (by omega)) ?_
  refine rl_assign rfl ?_
  refine ex_seq_k fun K7 hK7 => ?_
  refine ex_rs ttOK (by rfl) ?_
  refine rl_move rfl ?_
  refine rl_bin rfl rfl rfl ?_
  refine ex_cond rfl (fun hc8 => ?_) (fun hc8 => ?_)
  · try simp at hc8
    have hT := lf_lt hc8
    refine ex_rs ttOK (by rfl) ?_
    refine rl_assign rfl ?_
    refine ex_ret ⟨.inr rfl, ?_⟩
    clear hK7 K7
    refine ret_pv rfl ?_ rfl
    exact congrArg (fun v : Int => [AV.pv (.int .i64 v)]) (lf_neg (by omega)).symm
  try simp at hc8
  have h28 : cVis p.views ≤ (((left - cLas p.lanes) - p.kept.length) - p.outs.length) := lf_ge (by omega)
  rw [lf_pos h28]
  refine ex_skip ?_
  refine hK7 _ _ ?_
  clear hK7 K7
  refine ex_rs ttOK (by rfl) ?_
  refine rl_fieldAddr rfl tt_42 rfl rfl tt_22 rfl rfl ?_
  refine rl_load_ptr rfl tt_22 rfl rfl ?_
  refine rl_move rfl ?_
  refine rl_call rfl rfl rfl (F_laws_szIntS c p.known (left - cLas p.lanes - p.kept.length - p.outs.length - cVis p.views) (by omega)) ?_
  refine rl_assign rfl ?_
  refine ex_seq_k fun K9 hK9 => ?_
  refine ex_rs ttOK (by rfl) ?_
  refine rl_move rfl ?_
  refine rl_bin rfl rfl rfl ?_
  refine ex_cond rfl (fun hc10 => ?_) (fun hc10 => ?_)
  · try simp at hc10
    have hT := lf_lt hc10
    refine ex_rs ttOK (by rfl) ?_
    refine rl_assign rfl ?_
    refine ex_ret ⟨.inr rfl, ?_⟩
    clear hK9 K9
    refine ret_pv rfl ?_ rfl
    exact congrArg (fun v : Int => [AV.pv (.int .i64 v)]) (lf_neg (by omega)).symm
  try simp at hc10
  have h34 : p.known.length ≤ ((((left - cLas p.lanes) - p.kept.length) - p.outs.length) - cVis p.views) := lf_ge (by omega)
  rw [lf_pos h34]
  refine ex_skip ?_
  refine hK9 _ _ ?_
  clear hK9 K9
  refine ex_rs ttOK (by rfl) ?_
  refine rl_move rfl ?_
  refine rl_assign rfl ?_
  refine ex_ret ⟨.inr rfl, ?_⟩
  refine ret_pv rfl ?_ rfl
  exact congrArg (fun v : Int => [AV.pv (.int .i64 v)]) ((lf_pos (by omega)).trans (by omega)).symm
end Go.Proofs.YtpadkogpeobboaaGreat.Am
