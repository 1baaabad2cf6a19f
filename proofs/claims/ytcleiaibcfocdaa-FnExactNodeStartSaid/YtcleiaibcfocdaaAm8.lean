/- The abstract machine, part 8: the operations that make memory or write it. -/
import Derived.Test.YtcleiaibcfocdaaAm7
set_option linter.unusedVariables false
set_option linter.unusedSimpArgs false
namespace Go.Proofs.Ytcleiaibcfocdaa.Am
open Go Go.RowKit

variable {P : Program} {ev : Operand → Option AV}

def cellsA : AV → List AV
  | .agg cs => cs
  | a => [a]
def AV.okc : AV → Bool
  | .agg _ => true
  | a => a.one

theorem cells_one {v : Value} (h : v.oneCell' = true) : v.cells = #[v] := by
  cases v <;> first | rfl | simp [Value.oneCell'] at h

theorem cellsA_rel {X : Cx} {w : World} {av : AV} {v : Value} (h : VR X w av v) (hc : av.okc = true) : ∃ us : List Value, v.cells = us.toArray ∧ VRs X w (cellsA av) us := by
  by_cases ha : ∃ cs, av = .agg cs
  · obtain ⟨cs, rfl⟩ := ha
    obtain ⟨us, rfl, hu⟩ := h.agg_inv
    exact ⟨us, rfl, hu⟩
  · have h1 : av.one = true := by cases av <;> first | exact hc | exact absurd ⟨_, rfl⟩ ha
    have h2 : cellsA av = [av] := by cases av <;> first | rfl | exact absurd ⟨_, rfl⟩ ha
    refine ⟨[v], by rw [cells_one (h.oneCell h1)], ?_⟩
    rw [h2]
    exact .cons h1 h .nil

theorem VRs.oneCells {X : Cx} {w : World} {cs : List AV} {us : List Value} (h : VRs X w cs us) : ∀ u ∈ us, u.oneCell' = true := by
  intro u hu
  obtain ⟨i, hi⟩ := List.mem_iff_getElem?.1 hu
  have hl := (List.getElem?_eq_some_iff.1 hi).1
  have hy : cs[i]? = some (cs[i]'(by rw [← h.len]; exact hl)) := List.getElem?_eq_getElem _
  exact (h.rel i _ u hy hi).oneCell (h.one i _ hy)
theorem VRs.append {X : Cx} {w : World} {cs ds : List AV} {us vs : List Value} (h : VRs X w cs us) (k : VRs X w ds vs) : VRs X w (cs ++ ds) (us ++ vs) := by
  refine ⟨by simp [h.len, k.len], fun i y hy => ?_, fun i y u hy hu => ?_⟩
  · rw [List.getElem?_append] at hy
    split at hy
    · exact h.one _ _ hy
    · exact k.one _ _ hy
  · rw [List.getElem?_append] at hy hu
    split at hy
    · rename_i hi
      rw [if_pos (by rw [h.len]; exact hi)] at hu
      exact h.rel _ _ _ hy hu
    · rename_i hi
      rw [if_neg (by rw [h.len]; exact hi), h.len] at hu
      exact k.rel _ _ _ hy hu
theorem VRs.pvs {X : Cx} {w : World} : ∀ {vs : List Value}, (∀ v ∈ vs, v.oneCell' = true) → VRs X w (vs.map .pv) vs
  | [], _ => .nil
  | v :: vs, h => .cons (h v (by simp)) (.pv v) (VRs.pvs (fun u hu => h u (by simp [hu])))
theorem pvs_ow (vs : List Value) : ((vs.map AV.pv).all fun c => !c.isOw) = true := by
  induction vs with
  | nil => rfl
  | cons v vs ih => simp [AV.isOw]

/-! ### cells made ready for a row: rows of the call's own among them go over to it -/
def FlatR (xs : List (List AV)) : Prop := ∀ x ∈ xs, ∀ c ∈ x, c.flat = true
inductive Abs : List AV → Hp → List AV → TL → TL → Prop
  | nil {h : Hp} : Abs [] h [] [] []
  | ref {id g ty sz : Nat} {xs : List (List AV)} {r cs : List AV} {h : Hp} {T W : TL} (hh : wfind h id = some (g, .row ty sz xs)) (hf : FlatR xs) (t : Abs r ((id, (g, .dead)) :: h) cs T W) (n1 : (wfind W id).isSome = false) (n2 : (T.any (·.1 == id)) = false) :
      Abs (.ref id g :: r) h (.row .ow ty sz xs :: cs) ((id, (g, .row ty sz xs)) :: T) ((id, (g, .dead)) :: W)
  | val {c : AV} {r cs : List AV} {h : Hp} {T W : TL} (h1 : c.one = true) (h2 : c.isOw = false) (t : Abs r h cs T W) : Abs (c :: r) h (c :: cs) T W

theorem SRf.kill {X : Cx} {B : Base} {h : HF} {F : Nat → List Nat} {w : World} (H : SRf X B h F w) {id g : Nat} {e : Ent} (he : h id = some (g, e)) : SRf X B (upd h id (g, .dead)) F w := by
  have := H.turn (e' := .dead) (f := F id) he (Cx.le.refl X) rfl rfl (fun _ _ _ => ⟨rfl, rfl⟩) (Nat.le_refl g) (Grew.refl w _) trivial (fun b hb => ⟨.inl hb, H.blk id _ b he hb⟩)
  have e : updF F id (F id) = F := by funext k; by_cases hk : k = id <;> simp [updF, hk]
  rwa [e] at this

theorem abs_sound {B : Base} {w : World} {id : Nat} {cs : List AV} {h : Hp} {cs' : List AV} {T W : TL} (hab : Abs cs h cs' T W) : ∀ (X : Cx) (hF : HF) (F : Nat → List Nat) (us : List Value) (ge : Nat × Ent), SRf X B hF F w → VRs X w cs us → (∀ j ge, (j, ge) ∈ T → hF j = some ge) →
    hF id = some ge → (T.any (·.1 == id)) = false → ∃ F' S, SRf X B (upds hF W) F' w ∧ TRs X w cs' us S ∧ S.Nodup ∧ (∀ b ∈ F id, b ∈ F' id) ∧ (∀ b ∈ S, b ∈ F' id ∧ b ∉ F id) ∧ upds hF W id = some ge := by
  induction hab with
  | nil =>
    intro X hF F us ge hS hv hT hid hn
    have : us = [] := List.eq_nil_of_length_eq_zero (by rw [hv.len]; rfl)
    subst this
    exact ⟨F, [], hS, .nil, List.nodup_nil, fun b hb => hb, fun b hb => absurd hb (by simp), hid⟩
  | @ref j g' ty sz xs r cs h T' W' hh hfl t n1 n2 ih =>
    intro X hF F us ge hS hv hT hid hn
    obtain ⟨u, us, rfl⟩ : ∃ u us', us = u :: us' := by
      cases us with
      | nil => have := hv.len; simp at this
      | cons u us => exact ⟨u, us, rfl⟩
    have hr := hv.tail
    have hc0 : VR X w (.ref j g') u := hv.rel 0 _ u rfl rfl
    simp only [List.any_cons, Bool.or_eq_false_iff, beq_eq_false_iff_ne, ne_eq] at hn
    have hj := hT j _ (List.mem_cons_self ..)
    have hne : id ≠ j := fun e => hn.1 e.symm
    obtain ⟨v0, vs, S0, h1, h2, h3, h4, h5, h6⟩ := hS.ent _ _ _ hj
    have hS1 := hS.kill hj
    have hj1 : upd hF j (g', .dead) j = some (g', .dead) := upd_same _ _ _
    have hid1 : upd hF j (g', .dead) id = some ge := by rw [upd_other _ hne]; exact hid
    have hS2 := hS1.merge hj1 hid1 hne
    have hT' : ∀ i ge, (i, ge) ∈ T' → upd hF j (g', .dead) i = some ge := fun i ge hm => by
      rw [upd_other]
      · exact hT i ge (List.mem_cons_of_mem _ hm)
      · rintro rfl
        rw [List.any_eq_false] at n2
        exact n2 _ hm (by simp)
    obtain ⟨F', S', k1, k2, k3, k4, k5, k6⟩ := ih X _ _ us ge hS2 hr hT' hid1 hn.2
    have fid : updF (updF F j []) id (F id ++ F j) id = F id ++ F j := by simp [updF]
    rw [fid] at k4 k5
    obtain ⟨A, n, cp, sz', rfl, hrw⟩ := hc0.ref_inv
    rw [h1] at hrw
    cases hrw
    have hsub : ∀ b ∈ (ownB (Value.slice A n cp)).toList ++ S0, b ∈ F j := h6
    have h4' : TRs X.bare w xs.flatten vs S0 := h4.flat (fun _ h => h) (fun _ h => h) hS.ok12 (fun c hc => by
      obtain ⟨x, hx, hcx⟩ := List.mem_flatten.1 hc
      exact hfl x hx c hcx)
    refine ⟨F', _, ?_, .own h2 h3 h4' k2, ?_, fun b hb => k4 b (List.mem_append_left _ hb), fun b hb => ?_, ?_⟩
    · rw [upds_cons, ← upds_upd _ _ _ _ n1]; exact k1
    · rw [List.nodup_append]
      refine ⟨h5, k3, fun a ha b hb => ?_⟩
      rintro rfl
      exact (k5 a hb).2 (List.mem_append_right _ (hsub a ha))
    · rcases List.mem_append.1 hb with hb | hb
      · have hbj := hsub b hb
        exact ⟨k4 b (List.mem_append_right _ hbj), fun hbi => hne (hS.sep id j ge _ b hid hj hbi hbj)⟩
      · exact ⟨(k5 b hb).1, fun hbi => (k5 b hb).2 (List.mem_append_left _ hbi)⟩
    · rw [upds_cons, upd_other _ hne]
      have : upds hF W' id = upds (upd hF j (g', .dead)) W' id := by rw [upds_upd _ _ _ _ n1, upd_other _ hne]
      rw [this]; exact k6
  | @val c r cs h T W hc1 hc2 t ih =>
    intro X hF F us ge hS hv hT hid hn
    obtain ⟨u, us, rfl⟩ : ∃ u us', us = u :: us' := by
      cases us with
      | nil => have := hv.len; simp at this
      | cons u us => exact ⟨u, us, rfl⟩
    obtain ⟨F', S', k1, k2, k3, k4, k5, k6⟩ := ih X hF F us ge hS hv.tail hT hid hn
    exact ⟨F', S', k1, .vr hc1 hc2 (hv.rel 0 c u rfl rfl) k2, k3, k4, k5, k6⟩

/-! ### variables -/
theorem TSOk.zeroCells {P : Program} {t : Nat} {S : TS} (hz : TSOk P t S) : (if S.agg then Value.agg S.zero.toArray else S.zero.getD 0 undef).cells = S.zero.toArray := by
  split
  · rfl
  · rename_i hag
    have h1 := hz.sc (by simpa using hag)
    have h2 := hz.zl
    match hm : S.zero, h2 with
    | [v], _ => exact cells_one (hz.z1 v (by rw [hm]; simp))
    | [], h2 => simp at h2; omega
    | a :: b :: r, h2 => simp at h2; omega

theorem run_newVar' (t : TypeId) (v : Value) (w : World) : (newVar t v).run P w = .ok ⟨w.heap.size, 0, none⟩ (w.alloc (.cells v.cells t)) := by
  simp [newVar, newRow]

theorem ops_alloc {o : Oper} {tt : TT} (htt : TTOk P tt) {t id g : Nat} {S : TS} (ho : o.op = .alloc t) (hs : tt t = some S) : OpS P o ev [(id, (g, .dead))] [(id, (g + 1, .box t (S.zero.map .pv)))] (.ptr id (g + 1) 0) := by
  intro X B hF a w Q K hS hop hT hK
  have hid := hT id _ (List.mem_singleton.2 rfl)
  have hz := htt _ _ hs
  obtain ⟨hX, hS', hok⟩ := hS.newBox hid (ty := t) (VRs.pvs (X := X) (w := w) hz.z1) (pvs_ow _)
  unfold Oper.wp
  have hr : (execOp a.eval o).run P w = .ok (.value (.pointer (some ⟨w.heap.size, 0, none⟩))) (w.alloc (.cells S.zero.toArray t)) := by
    simp only [execOp, ho, Instr.alloc, Sem.run_bind, hz.zeroValue, Result.andThen_ok, run_newVar', hz.zeroCells, Sem.run_pure]
  rw [hr, Oper.upon_value]
  exact hK _ _ _ hX (by rw [upds_one]; exact hS') hok .setB

theorem ops_box {o : Oper} {t id g : Nat} {x : Operand} {av : AV} (ho : o.op = .box t x) (hx : ev x = some av) (hc : av.okc = true) (hw : ((cellsA av).all fun c => !c.isOw) = true) : OpS P o ev [(id, (g, .dead))] [(id, (g + 1, .box t (cellsA av)))] (.ptr id (g + 1) 0) := by
  intro X B hF a w Q K hS hop hT hK
  have hid := hT id _ (List.mem_singleton.2 rfl)
  obtain ⟨us, e1, hu⟩ := cellsA_rel (hop x (by simp [ho, Op.operands]) _ hx) hc
  obtain ⟨hX, hS', hok⟩ := hS.newBox hid (ty := t) hu hw
  unfold Oper.wp
  have hr : (execOp a.eval o).run P w = .ok (.value (.pointer (some ⟨w.heap.size, 0, none⟩))) (w.alloc (.cells us.toArray t)) := by
    simp only [execOp, ho, Instr.box, Sem.run_bind, run_newVar', e1, Result.andThen_ok, Sem.run_pure]
  rw [hr, Oper.upon_value]
  exact hK _ _ _ hX (by rw [upds_one]; exact hS') hok .setB

/-- A store of cells into a block. -/
theorem store_run {tt : TT} (htt : TTOk P tt) {t : Nat} {S : TS} (hs : tt t = some S) (w : World) (b off ty : Nat) (us vs : List Value) (v : Value) (hv : v.cells = vs.toArray) (hn : vs.length = S.size) (hb : w.heap[b]? = some (.cells us.toArray ty (0, 0))) (hl : off + vs.length ≤ us.length) (h1 : ∀ u ∈ vs, u.oneCell' = true) :
    (Instr.storeAt t (.pointer (some ⟨b, off, none⟩)) v).run P w = .ok () (w.setRow b (us.take off ++ vs ++ us.drop (off + vs.length)).toArray) := by
  have hst := run_storeCells_at P b off ty vs 0 us.toArray w hb (by simpa using hl) h1
  simp only [Nat.add_zero] at hst
  simp [Instr.storeAt, Instr.sureAddr, storeVar, (htt _ _ hs).sizeOf, hv, hn]
  simpa [hn] using hst

theorem grown_setRow (w : World) (b : Nat) (cs : Array Value) : Grew w (w.setRow b cs) [b] :=
  ⟨rfl, rfl, rfl, by simp, fun k _ hk => setRow_other w b k _ (by simpa using hk)⟩

theorem take_mid_drop {α : Type} (l : List α) (n k : Nat) (h : n + k ≤ l.length) : l = l.take n ++ ((l.drop n).take k ++ l.drop (n + k)) := by
  have h1 := List.take_append_drop n l
  have h2 := List.take_append_drop k (l.drop n)
  rw [List.drop_drop] at h2
  rw [h2]; exact h1.symm

theorem nodup_mid {S1 S2 S3 : List Nat} {b : List Nat} (h : (b ++ (S1 ++ (S2 ++ S3))).Nodup) : (b ++ (S1 ++ S3)).Nodup :=
  h.sublist ((List.Sublist.refl b).append ((List.Sublist.refl S1).append (List.sublist_append_right S2 S3)))

theorem ops_store_ptr {o : Oper} {tt : TT} (htt : TTOk P tt) {t id g off ty : Nat} {x y : Operand} {S : TS} {av : AV} {cs : List AV} (ho : o.op = .store t x y) (hx : ev x = some (.ptr id g off)) (hy : ev y = some av) (hc : av.okc = true) (hs : tt t = some S)
    (how : ((cellsA av).all fun c => !c.isOw) = true) (hn : (cellsA av).length = S.size) (hl : off + S.size ≤ cs.length) : OpS P o ev [(id, (g, .box ty cs))] [(id, (g, .box ty (cs.take off ++ cellsA av ++ cs.drop (off + S.size))))] (.pv undef) := by
  rintro X B hF a w Q K ⟨F, hS⟩ hop hT hK
  have hid := hT id _ (List.mem_singleton.2 rfl)
  obtain ⟨b, e1, hb⟩ := (hop x (by simp [ho, Op.operands]) _ hx).ptr_inv
  obtain ⟨vs, e2, hv⟩ := cellsA_rel (hop y (by simp [ho, Op.operands]) _ hy) hc
  obtain ⟨b', us, S0, h1, h2, h3, h4, h5⟩ := hS.ent _ _ _ hid
  rw [hb] at h1
  cases h1
  have hvl : vs.length = S.size := by rw [hv.len, hn]
  have hr := store_run htt hs w b off ty us vs _ e2 hvl h2 (by rw [hvl, h3.len]; exact hl) hv.oneCells
  have hbF := h5 b (by simp)
  have hok : ∀ c, X.ok2 c → (w.setRow b (us.take off ++ vs ++ us.drop (off + vs.length)).toArray).heap[c]? = w.heap[c]? := fun c hc => setRow_other w b c _ (fun e => (hS.ok2 c hc).2 id _ hid (e ▸ hbF))
  have hsp := take_mid_drop cs off S.size hl
  rw [hsp] at h3
  obtain ⟨us1, us', S1, S', rfl, rfl, t1, t'⟩ := h3.split
  obtain ⟨us2, us3, S2, S3, rfl, rfl, t2, t3⟩ := t'.split
  have l1 : us1.length = off := by rw [t1.len]; simp; omega
  have l2 : us2.length = S.size := by rw [t2.len]; simp; omega
  have e3 : (us1 ++ (us2 ++ us3)).take off = us1 := by rw [List.take_append_of_le_length (by omega), List.take_of_length_le (by omega)]
  have e4 : (us1 ++ (us2 ++ us3)).drop (off + vs.length) = us3 := by
    rw [← List.append_assoc, List.drop_append_of_le_length (by simp; omega), List.drop_of_length_le (by simp; omega), List.nil_append]
  rw [e3, e4] at hok hr
  have hS' := hS.turn hid (Cx.le.refl X) rfl rfl (fun _ _ _ => ⟨rfl, rfl⟩) (Nat.le_refl g) (w' := w.setRow b (us1 ++ vs ++ us3).toArray) (f := F id) ((grown_setRow w b _).mono (by simpa using hbF)) (e' := .box ty (cs.take off ++ cellsA av ++ cs.drop (off + S.size)))
    ⟨b, _, S1 ++ S3, hb, setRow_heap w b _ _ _ _ h2, by
      have k0 : TRs X w (cellsA av) vs [] := hv.trs how
      have k1 := (t1.append k0).append t3
      rw [List.append_nil] at k1
      refine k1.mono (Cx.le.refl X) hS.ok12 hok (fun c hc => setRow_other w b c _ ?_)
      rintro rfl
      have hnd : ([c] ++ (S1 ++ S3)).Nodup := nodup_mid (b := [c]) h4
      rw [List.nodup_append] at hnd
      exact hnd.2.2 c (by simp) c hc rfl, nodup_mid (b := [b]) h4, fun c hc => h5 c (by
        simp only [List.mem_cons, List.mem_append] at hc ⊢
        rcases hc with h | h | h <;> simp [h])⟩
    (fun c hc => ⟨.inl hc, by simpa using hS.blk id _ c hid hc⟩)
  unfold Oper.wp
  have hx2 : (execOp a.eval o).run P w = .ok .skip (w.setRow b (us1 ++ vs ++ us3).toArray) := by
    simp only [execOp, ho, e1, Sem.run_bind, hr, Result.andThen_ok, Sem.run_pure]
  rw [hx2, Oper.upon_skip]
  exact hK X _ undef (Cx.le.refl X) (by rw [upds_one]; exact ⟨_, hS'⟩) hok (.pv undef)

theorem flatten_set {α : Type} {sz : Nat} : ∀ (xs : List (List α)) (i : Nat) (x : List α), (∀ (j : Nat) (x : List α), xs[j]? = some x → x.length = sz) → i < xs.length → (xs.set i x).flatten = xs.flatten.take (i * sz) ++ x ++ xs.flatten.drop (i * sz + sz)
  | [], i, x, _, hi => by simp at hi
  | y :: r, 0, x, h, _ => by
    have h0 := h 0 y rfl
    simp [List.set, h0.symm]
  | y :: r, i + 1, x, h, hi => by
    have h0 := h 0 y rfl
    have ih := flatten_set r i x (fun j z hz => h (j + 1) z (by simpa using hz)) (by simpa using hi)
    simp only [List.set, List.flatten_cons, ih, Nat.add_mul, Nat.one_mul]
    have e1 : (y ++ r.flatten).take (i * sz + sz) = y ++ r.flatten.take (i * sz) := by
      rw [List.take_append, h0, List.take_of_length_le (by omega)]
      congr 2; omega
    have e2 : (y ++ r.flatten).drop (i * sz + sz + sz) = r.flatten.drop (i * sz + sz) := by
      rw [List.drop_append, h0, List.drop_of_length_le (by omega), List.nil_append]
      congr 1; omega
    rw [e1, e2]
    simp [List.append_assoc]

theorem ownsRow_splice {w : World} {ty sz b n cap : Nat} {us vs : List Value} {off : Nat} (h : Own w ty sz (.slice (some ⟨b, 0, none⟩) n cap) n us) (hpos : 0 < n) (hl : off + vs.length ≤ us.length) :
    ∃ cur : Array Value, w.heap[b]? = some (.cells cur ty (0, 0)) ∧ us.length ≤ cur.size ∧ Own (w.setRow b (cur.toList.take off ++ vs ++ cur.toList.drop (off + vs.length)).toArray) ty sz (.slice (some ⟨b, 0, none⟩) n cap) n (us.take off ++ vs ++ us.drop (off + vs.length)) := by
  rcases h.2 with ⟨A, e, e2⟩ | ⟨b', cap', cur, e, hc0, h5, h6, h7, h8, h9⟩
  · exact absurd e2 (Nat.ne_of_gt hpos)
  · cases e
    have hul : us.length ≤ cur.size := by rw [← h9]; simp only [List.length_take, Array.length_toList]; exact Nat.min_le_right _ _
    refine ⟨cur, h5, hul, ?_, .inr ⟨b, cap, _, rfl, hc0, setRow_heap w b _ _ _ _ h5, h6, h7, ?_, ?_⟩⟩
    · have := h.1
      simp; omega
    · simp; omega
    · have hn : n * sz = us.length := h.1.symm
      rw [hn]
      have e3 : us = cur.toList.take us.length := by rw [← hn]; exact h9.symm
      have e4 : us.take off = cur.toList.take off := by
        conv => lhs; rw [e3]
        rw [List.take_take, Nat.min_eq_left (by omega)]
      have e5 : us.drop (off + vs.length) = (cur.toList.drop (off + vs.length)).take (us.length - (off + vs.length)) := by
        conv => lhs; rw [e3]
        rw [List.drop_take]
      rw [e4, e5]
      have l1 : (cur.toList.take off).length = off := by simp; omega
      simp only [List.toList_toArray]
      rw [List.take_append, List.take_append, List.take_of_length_le (by omega), List.take_of_length_le (l := vs) (by omega), List.length_append, l1]

/-- A row's cells changed, in its place. -/
theorem SRf.setCells {X : Cx} {B : Base} {h : HF} {F : Nat → List Nat} {w w' : World} (H : SRf X B h F w) {id g ty sz : Nat} {xs0 xs : List (List AV)} {us : List Value} {v : Value} {S : List Nat} (he : h id = some (g, .row ty sz xs0)) (hv : X.rw id g = some (v, sz))
    (hw : Grew w w' (ownB v).toList) (hn : ((ownB v).toList ++ S).Nodup) (hS : ∀ b ∈ (ownB v).toList ++ S, b ∈ F id) (hown : Own w' ty sz v xs.length us) (hl : Lens sz xs) (hc : TRs X w xs.flatten us S) :
    SRh X B (upd h id (g, .row ty sz xs)) w' ∧ (∀ b, X.ok2 b → w'.heap[b]? = w.heap[b]?) := by
  have hbo : ∀ b ∈ (ownB v).toList, b ∈ F id := fun b hb => hS b (List.mem_append_left _ hb)
  have hok : ∀ b, X.ok2 b → w'.heap[b]? = w.heap[b]? := fun b hb => hw.block b (H.ok2 b hb).1 (fun e' => (H.ok2 b hb).2 id _ he (hbo b e'))
  rw [List.nodup_append] at hn
  refine ⟨⟨_, H.turn he (Cx.le.refl X) rfl rfl (fun i k hik => ⟨rfl, rfl⟩) (Nat.le_refl g) (hw.mono hbo) (f := F id) ⟨v, us, S, hv, hown, hl, ?_, List.nodup_append.2 hn, hS⟩ (fun b hb => ⟨.inl hb, Nat.lt_of_lt_of_le (H.blk id _ b he hb) hw.size⟩)⟩, hok⟩
  exact hc.mono (Cx.le.refl X) H.ok12 hok (fun b hb => hw.block b (H.blk id _ b he (hS b (List.mem_append_right _ hb))) (fun hm => hn.2.2 b hm b hb rfl))

theorem ops_store_elt {o : Oper} {tt : TT} (htt : TTOk P tt) {h : Hp} {t id g i off ty sz : Nat} {x y : Operand} {S : TS} {av : AV} {xs : List (List AV)} {cs' : List AV} {T1 W1 : TL} (ho : o.op = .store t x y) (hx : ev x = some (.elt id g i off)) (hy : ev y = some av) (hc : av.okc = true) (hs : tt t = some S)
    (hn : (cellsA av).length = S.size) (hi : i < xs.length) (hl : off + S.size ≤ sz) (hf : Abs (cellsA av) h cs' T1 W1) (hid1 : (T1.any (·.1 == id)) = false) :
    OpS P o ev ((id, (g, .row ty sz xs)) :: T1) ((id, (g, .row ty sz (xs.set i ((xs.getD i []).take off ++ cs' ++ (xs.getD i []).drop (off + S.size))))) :: W1) (.pv undef) := by
  rintro X B hF a w Q K ⟨F0, hS0⟩ hop hT hK
  obtain ⟨ad, n, c, sz0, e1, hr0⟩ := (hop x (by simp [ho, Op.operands]) _ hx).elt_inv
  obtain ⟨vs, e2, hv⟩ := cellsA_rel (hop y (by simp [ho, Op.operands]) _ hy) hc
  have hid0 := hT id _ (List.mem_cons_self ..)
  obtain ⟨F, Sn, hS, hcs, hSn, hF1, hF2, hid⟩ := abs_sound (id := id) hf X hF F0 vs _ hS0 hv (fun j ge hm => hT j ge (List.mem_cons_of_mem _ hm)) hid0 hid1
  obtain ⟨v0, us, S0, h1, h2, h3, h4, h5, h6⟩ := hS0.ent _ _ _ hid0
  rw [hr0] at h1
  cases h1
  have hnn := own_n h2
  subst hnn
  obtain ⟨b, rfl⟩ : ∃ b, ad = ⟨b, 0, none⟩ := by
    rcases h2.2 with ⟨A, e, e0⟩ | ⟨b, cap, cur, e, _⟩
    · omega
    · injection e with e _ _; injection e with e; exact ⟨b, e⟩
  have hvl : vs.length = S.size := by rw [hv.len, hn]
  have hxi : xs[i]? = some (xs.getD i []) := by rw [List.getD_eq_getElem?_getD, List.getElem?_eq_getElem hi]; rfl
  have hxl := h3 i _ hxi
  have hfl : xs.flatten.length = xs.length * sz := flat_len xs h3
  have hus : us.length = xs.length * sz := by rw [h4.len, hfl]
  have hfit : i * sz + off + vs.length ≤ us.length := by
    rw [hus, hvl]
    have : (i + 1) * sz ≤ xs.length * sz := Nat.mul_le_mul_right _ hi
    rw [Nat.add_mul] at this
    omega
  obtain ⟨cur, hcur, hle, hown⟩ := ownsRow_splice (off := i * sz + off) h2 (by omega) hfit
  have hr := store_run htt hs w b (i * sz + off) ty cur.toList vs _ e2 hvl (by simpa using hcur) (by simp; omega) hv.oneCells
  have hlc : cs'.length = S.size := by rw [← hcs.len, hvl]
  have hlen' : ((xs.getD i []).take off ++ cs' ++ (xs.getD i []).drop (off + S.size)).length = sz := by
    simp only [List.length_append, List.length_take, List.length_drop, hxl]
    omega
  have hsp := take_mid_drop xs.flatten (i * sz + off) S.size (by rw [hfl]; rw [hus, hvl] at hfit; exact hfit)
  have hflat : (xs.set i ((xs.getD i []).take off ++ cs' ++ (xs.getD i []).drop (off + S.size))).flatten = xs.flatten.take (i * sz + off) ++ cs' ++ xs.flatten.drop (i * sz + off + S.size) := by
    rw [flatten_set xs i _ h3 hi]
    have hmid : (xs.flatten.drop (i * sz)).take sz = xs.getD i [] := by
      apply List.ext_getElem?
      intro k
      rw [List.getElem?_take, List.getElem?_drop]
      split
      · rename_i hk
        have hy' : (xs.getD i [])[k]? = some ((xs.getD i [])[k]'(by omega)) := List.getElem?_eq_getElem _
        rw [flat_get xs i k _ _ h3 hxi hy', hy']
      · rename_i hk
        rw [List.getElem?_eq_none (by omega)]
    have e3 : xs.flatten.take (i * sz) ++ (xs.getD i []).take off = xs.flatten.take (i * sz + off) := by
      rw [← hmid, List.take_take, Nat.min_eq_left (by omega), List.take_add]
    have e4 : (xs.getD i []).drop (off + S.size) ++ xs.flatten.drop (i * sz + sz) = xs.flatten.drop (i * sz + off + S.size) := by
      rw [← hmid, List.drop_take, List.drop_drop]
      have := List.take_append_drop (sz - (off + S.size)) (xs.flatten.drop (i * sz + (off + S.size)))
      rw [List.drop_drop] at this
      rw [show i * sz + off + S.size = i * sz + (off + S.size) from by omega, show i * sz + sz = i * sz + (off + S.size) + (sz - (off + S.size)) from by omega]
      exact this
    rw [← e3, ← e4]; simp [List.append_assoc]
  rw [hsp] at h4
  obtain ⟨us1, us', S1, S', rfl, rfl, t1, t'⟩ := h4.split
  obtain ⟨us2, us3, S2, S3, rfl, rfl, t2, t3⟩ := t'.split
  have l1 : us1.length = i * sz + off := by rw [t1.len, List.length_take, hfl]; rw [hus, hvl] at hfit; omega
  have l2 : us2.length = S.size := by rw [t2.len, List.length_take, List.length_drop, hfl]; rw [hus, hvl] at hfit; omega
  have e3 : (us1 ++ (us2 ++ us3)).take (i * sz + off) = us1 := by rw [List.take_append_of_le_length (by omega), List.take_of_length_le (by omega)]
  have e4 : (us1 ++ (us2 ++ us3)).drop (i * sz + off + vs.length) = us3 := by
    rw [← List.append_assoc, List.drop_append_of_le_length (by simp; omega), List.drop_of_length_le (by simp; omega), List.nil_append]
  rw [e3, e4] at hown
  have hbo : (ownB (Value.slice (some (⟨b, 0, none⟩ : Addr)) xs.length c)).toList = [b] := by rw [ownB_pos (by have := h2.n0; omega)]; rfl
  rw [hbo] at h5 h6
  have hS13 := nodup_mid (b := [b]) h5
  have hd : ∀ a ∈ [b] ++ (S1 ++ S3), a ∈ F0 id := fun a ha => h6 a (by
    simp only [List.mem_append] at ha ⊢
    rcases ha with h | h | h <;> simp [h])
  have hnod : ([b] ++ (S1 ++ Sn ++ S3)).Nodup := by
    have p : List.Perm ([b] ++ (S1 ++ Sn ++ S3)) (([b] ++ (S1 ++ S3)) ++ Sn) := by
      simp only [List.append_assoc]
      refine List.Perm.append_left _ (List.Perm.append_left _ ?_)
      exact List.perm_append_comm
    rw [p.nodup_iff, List.nodup_append]
    exact ⟨hS13, hSn, fun a ha c hc => by rintro rfl; exact (hF2 a hc).2 (hd a ha)⟩
  have hfin := hS.setCells (w' := w.setRow b (cur.toList.take (i * sz + off) ++ vs ++ cur.toList.drop (i * sz + off + vs.length)).toArray) (xs := xs.set i ((xs.getD i []).take off ++ cs' ++ (xs.getD i []).drop (off + S.size))) (us := us1 ++ vs ++ us3) (S := S1 ++ Sn ++ S3) hid hr0 (by rw [hbo]; exact grown_setRow w b _) (by rw [hbo]; exact hnod) (fun a ha => by
      rw [hbo] at ha
      simp only [List.mem_append] at ha
      rcases ha with h | (h | h) | h
      · exact hF1 a (hd a (by simp [List.mem_append] at h ⊢; simp [h]))
      · exact hF1 a (hd a (by simp [h]))
      · exact (hF2 a h).1
      · exact hF1 a (hd a (by simp [h])))
    (by rw [List.length_set]; exact hown) (fun j z hz => by
      rw [List.getElem?_set] at hz
      split at hz
      · first
        | (split at hz
           · cases hz; exact hlen'
           · cases hz)
        | (cases hz; exact hlen')
      · exact h3 j z hz) (by rw [hflat]; exact (t1.append hcs).append t3)
  unfold Oper.wp
  have hadd : (⟨b, 0, none⟩ : Addr).add (i * sz + off) = ⟨b, i * sz + off, none⟩ := by rw [Addr.add_mid]; simp
  have hx2 : (execOp a.eval o).run P w = .ok .skip (w.setRow b (cur.toList.take (i * sz + off) ++ vs ++ cur.toList.drop (i * sz + off + vs.length)).toArray) := by
    simp only [execOp, ho, e1, hadd, Sem.run_bind, hr, Result.andThen_ok, Sem.run_pure]
  rw [hx2, Oper.upon_skip]
  exact hK X _ undef (Cx.le.refl X) (by rw [upds_cons]; exact hfin.1) hfin.2 (.pv undef)
end Go.Proofs.Ytcleiaibcfocdaa.Am
