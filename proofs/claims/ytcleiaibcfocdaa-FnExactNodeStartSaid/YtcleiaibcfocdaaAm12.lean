/- The abstract machine, part 12: that a step is sound. -/
import Derived.Test.YtcleiaibcfocdaaAm11
set_option linter.unusedVariables false
set_option linter.unusedSimpArgs false
namespace Go.Proofs.Ytcleiaibcfocdaa.Am
open Go Go.RowKit

variable {P : Program}

def InH (h : Hp) (T : TL) : Prop := ∀ p ∈ T, wfind h p.1 = some p.2
def Sub (W T : TL) : Prop := ∀ p ∈ W, ∃ ge, (p.1, ge) ∈ T
theorem InH.nil {h : Hp} : InH h [] := fun p hp => by cases hp
theorem InH.one {h : Hp} {id : Nat} {ge : Nat × Ent} (hh : wfind h id = some ge) : InH h [(id, ge)] := fun p hp => by rw [List.mem_singleton] at hp; subst hp; exact hh
theorem InH.cons {h : Hp} {id : Nat} {ge : Nat × Ent} {T : TL} (hh : wfind h id = some ge) (hT : InH h T) : InH h ((id, ge) :: T) := fun p hp => by
  rw [List.mem_cons] at hp
  rcases hp with rfl | hp
  · exact hh
  · exact hT p hp
theorem Sub.nil {T : TL} : Sub [] T := fun p hp => by cases hp
theorem Sub.one {id : Nat} {ge ge' : Nat × Ent} {T : TL} (h : (id, ge') ∈ T) : Sub [(id, ge)] T := fun p hp => by rw [List.mem_singleton] at hp; subst hp; exact ⟨_, h⟩
theorem Sub.cons {id : Nat} {ge : Nat × Ent} {W T : TL} (ge' : Nat × Ent) (hW : Sub W T) : Sub ((id, ge) :: W) ((id, ge') :: T) := fun p hp => by
  rw [List.mem_cons] at hp
  rcases hp with rfl | hp
  · exact ⟨ge', List.mem_cons_self ..⟩
  · obtain ⟨x, hx⟩ := hW p hp; exact ⟨x, List.mem_cons_of_mem _ hx⟩

theorem peek_T {h : Hp} {a : AV} {cs : List AV} {T : TL} (hp : peek h a = some (cs, T)) : InH h T := by
  unfold peek at hp
  split at hp
  · cases hp; exact .nil
  · split at hp
    · split at hp
      · cases hp; exact .one ‹_›
      · cases hp
    · cases hp
  · split at hp
    · split at hp
      · cases hp; exact .one ‹_›
      · cases hp
    · cases hp
  · cases hp
theorem lenA_T {h : Hp} {a : AV} {n : Nat} {T : TL} (hp : lenA h a = some (n, T)) : InH h T := by
  unfold lenA at hp
  split at hp
  all_goals first
    | (cases hp; exact .nil)
    | (split at hp
       · split at hp
         · cases hp; exact .one ‹_›
         · cases hp
       · cases hp)
    | cases hp
theorem src_T {h : Hp} {a : AV} {sz : Nat} {ys : List (List AV)} {T : TL} (hp : src h a = some (sz, ys, T)) : InH h T := by
  unfold src at hp
  split at hp
  all_goals first
    | (cases hp; exact .nil)
    | (split at hp
       · split at hp
         · cases hp; exact .one ‹_›
         · cases hp
       · cases hp)
    | cases hp
theorem abs_T {cs : List AV} {h : Hp} {cs' : List AV} {T W : TL} (hab : Abs cs h cs' T W) : InH h T ∧ Sub W T := by
  induction hab with
  | nil => exact ⟨.nil, .nil⟩
  | ref hh hf t n1 n2 ih =>
    obtain ⟨k1, k2⟩ := ih
    refine ⟨.cons hh (fun p hp => ?_), .cons _ k2⟩
    have := k1 p hp
    rw [List.any_eq_false] at n2
    rwa [wfind_cons, if_neg (fun e => n2 p hp (by simp [e]))] at this
  | val h1 h2 t ih => exact ih

theorem evL_rel {ev : Operand → Option AV} {X : Cx} {w : World} {a : Act} : ∀ (xs : List Operand) (l : List AV), evL ev xs = some l → (∀ x ∈ xs, ∀ av, ev x = some av → VR X w av (a.eval x)) →
    (xs.map a.eval).length = l.length ∧ ∀ (i : Nat) (av : AV) (v : Value), l[i]? = some av → (xs.map a.eval)[i]? = some v → VR X w av v
  | [], l, h, _ => by cases h; exact ⟨rfl, fun i av v h => by simp at h⟩
  | x :: r, l, h, ho => by
    unfold evL at h
    split at h
    · rename_i av l' h1 h2
      cases h
      obtain ⟨k1, k2⟩ := evL_rel r l' h2 (fun y hy => ho y (by simp [hy]))
      refine ⟨by simpa using k1, fun j b c hj hj' => ?_⟩
      cases j with
      | zero =>
        simp only [List.getElem?_cons_zero, Option.some.injEq, List.map_cons] at hj hj'
        subst hj hj'
        exact ho x (by simp) _ h1
      | succ j => exact k2 j b c (by simpa using hj) (by simpa using hj')
    · cases h

theorem rel_append {X : Cx} {w : World} {as bs : List AV} {us vs : List Value} (hl : us.length = as.length) (h : ∀ (i : Nat) (a : AV) (v : Value), as[i]? = some a → us[i]? = some v → VR X w a v) (k : ∀ (i : Nat) (a : AV) (v : Value), bs[i]? = some a → vs[i]? = some v → VR X w a v) :
    ∀ (i : Nat) (a : AV) (v : Value), (as ++ bs)[i]? = some a → (us ++ vs)[i]? = some v → VR X w a v := by
  intro i a v ha hv
  rw [List.getElem?_append] at ha hv
  rw [hl] at hv
  split at ha
  · rename_i hi
    rw [if_pos hi] at hv
    exact h i a v ha hv
  · rename_i hi
    rw [if_neg hi] at hv
    exact k _ a v ha hv

/-- A call by its contract. -/
theorem ops_call {o : Oper} {ev : Operand → Option AV} {c : Call} {x : Operand} {f : FuncId} {fi cap avs : List AV} {fv : AV} {T W : TL} {out : AV} (ho : o.op = .call c) (hc : c.callee = .value x) (hx : ev x = some fv) (hfv : fv = .fn (.func f) fi cap)
    (he : evL ev c.args.toList = some avs) (hC : CallA P f (fi ++ avs ++ cap) T W out) : OpS P o ev T W out := by
  intro X B hF a w Q K hS hop hT hK
  obtain ⟨⟨fn, code, h1, h2, h3⟩, hC⟩ := hC
  have hxv := hop x (by simp [ho, Op.operands, Call.operands, hc]) _ hx
  obtain ⟨us, vs, e1, hl1, hl2, r1, r2⟩ : ∃ us vs : List Value, a.eval x = .func (.func f) us.toArray vs.toArray ∧ us.length = fi.length ∧ vs.length = cap.length ∧ (∀ (i : Nat) (y : AV) (u : Value), fi[i]? = some y → us[i]? = some u → VR X w y u) ∧ (∀ (i : Nat) (y : AV) (u : Value), cap[i]? = some y → vs[i]? = some u → VR X w y u) := by
    subst hfv
    exact hxv.fn_inv
  obtain ⟨k1, k2⟩ := evL_rel (X := X) (w := w) (a := a) c.args.toList avs he (fun y hy => hop y (by
    simp only [ho, Op.operands, Call.operands, hc, Array.mem_append]
    exact .inr (by simpa using hy)))
  have hr := hC X B hF w (us ++ c.args.toList.map a.eval ++ vs) hS (by simp [hl1, hl2, ← k1]) (rel_append (by simp [hl1, ← k1]) (rel_append hl1 r1 k2) r2) hT
  have hargs : us.toArray ++ c.args.map a.eval ++ vs.toArray = (us ++ c.args.toList.map a.eval ++ vs).toArray := by
    apply Array.ext'
    simp
  unfold Oper.wp
  have hx2 : (execOp a.eval o).run P w = .ok (.enter f (us ++ c.args.toList.map a.eval ++ vs).toArray) w := by
    rw [← hargs]
    simp only [execOp, ho, resolve, hc, e1, Deferred.ofValue, Sem.run_bind, Sem.run_pure, Result.andThen_ok, invoke]
    have h4 : fn.name ≠ "runtime.NumGoroutine" := by simpa using h2
    simp [callFunc, h1, h4, h3]
  rw [hx2, Oper.upon_enter]
  refine hr.mono fun e w' hh => ?_
  obtain ⟨v, rfl, X', g1, g2, g3, g4⟩ := hh
  exact hK X' w' v g1 g2 g3 g4

theorem ops_eq {o : Oper} {ev : Operand → Option AV} {op : BinOp} {t t' : TypeId} {x y : Operand} {u v : AV} {r : Bool} (ho : o.op = .binOp op t x y t') (hop' : op = .eql ∨ op = .neq) (hx : ev x = some u) (hy : ev y = some v) (h : EqA P t x y u v r) : OpS P o ev [] [] (.pv (litOp op r)) :=
  .quiet fun X B hp a w hS hop hT => by
    have h1 := h X w _ _ hS.ok12 (hop x (by simp [ho, Op.operands]) _ hx) (hop y (by simp [ho, Op.operands]) _ hy) op hop'
    refine ⟨_, ?_, .pv _⟩
    simp only [execOp, ho]
    rw [Sem.run_bind, h1]
    rfl

theorem bndO_ev {fr : Fr} {d : Int} {lo : Option Operand} {l : Int} (h : bndO fr d lo = some l) : (lo = none ∧ l = d) ∨ ∃ y k, lo = some y ∧ evO fr y = some (.pv (.int k l)) := by
  unfold bndO at h
  split at h
  · cases h; exact .inl ⟨rfl, rfl⟩
  · split at h
    · cases h; exact .inr ⟨_, _, rfl, ‹_›⟩
    · cases h

def Sound (P : Program) (fr : Fr) (h : Hp) (o : Oper) (K : AV → TL → TL → Prop) : Prop := ∃ out T W, OpS P o (evO fr) T W out ∧ InH h T ∧ Sub W T ∧ K out T W

theorem idxK_sound {tt : TT} (htt : TTOk P tt) {fr : Fr} {h : Hp} {o : Oper} {K : AV → TL → TL → Prop} {t e : Nat} {x ix : Operand} {S E : TS} {a : AV} {k : IntKind} {i : Int} (ho : o.op = .indexAddr t x ix) (hx : evO fr x = some a) (hi : evO fr ix = some (.pv (.int k i))) (hs : tt t = some S) (hk : S.kind = .sl e) (he : tt e = some E)
    (hK : idxK E h a i K) : Sound P fr h o K := by
  unfold idxK at hK
  split at hK
  · obtain ⟨h1, h2, h3, h4⟩ := hK
    exact ⟨_, _, _, ops_idx_row htt ho hx hi hs hk he h1 h2 h3, .nil, .nil, h4⟩
  · obtain ⟨ge, h0, hK⟩ := hK.ex
    split at hK
    · obtain ⟨rfl, h1, h2, h3, h4⟩ := hK
      exact ⟨_, _, _, ops_idx_ref htt ho hx hi hs hk he h1 h2 h3, .one h0, .nil, h4⟩
    · exact hK.elim
  · obtain ⟨ge, h0, hK⟩ := hK.ex
    split at hK
    · obtain ⟨rfl, h1, h2, h3, h4⟩ := hK
      exact ⟨_, _, _, ops_idx_cut htt ho hx hi hs hk he h1 h2 h3, .one h0, .nil, h4⟩
    · exact hK.elim
  · obtain ⟨h1, h2, h3, h4⟩ := hK
    exact ⟨_, _, _, ops_idx_bsl htt ho hx hi hs hk he h1 h2 h3, .nil, .nil, h4⟩
  · exact hK.elim

theorem fresh_in {h : Hp} {p : Nat × Nat} (hf : wfind h p.1 = some (p.2, .dead)) : wfind h p.1 = some (p.2, .dead) := hf

theorem appK_sound {tt : TT} (htt : TTOk P tt) {fr : Fr} {h : Hp} {o : Oper} {K : AV → TL → TL → Prop} {t e : Nat} {x y : Operand} {S E : TS} {a b : AV} (ho : o.op = .call { callee := .builtin .append, args := #[x, y], argTypes := #[t, t] }) (hx : evO fr x = some a) (hy : evO fr y = some b) (hs : tt t = some S) (hk : S.kind = .sl e) (he : tt e = some E)
    (hsz : 0 < E.size) (hb : 0 < E.bytes) (hK : appK E e h a b K) : Sound P fr h o K := by
  have two : ∀ (s : Nat × List (List AV) × TL), src h b = some s → (s.1 = E.size ∨ (s.2.1 = [] ∧ s.2.2 = [])) → src h b = some (E.size, s.2.1, s.2.2) ∨ (s.2.1 = [] ∧ s.2.2 = [] ∧ ∃ z, src h b = some (z, [], [])) := by
    rintro ⟨s1, s2, s3⟩ h1 h2
    rcases h2 with rfl | ⟨rfl, rfl⟩
    · exact .inl h1
    · exact .inr ⟨rfl, rfl, _, h1⟩
  unfold appK at hK
  split at hK
  · obtain ⟨p, h0, hK⟩ := hK.ex
    obtain ⟨s, h1, h2, h3, h4, h5⟩ := hK.ex
    exact ⟨_, _, _, ops_append_nil htt ho hs hk he hx hy (two s h1 h2) h3 hsz hb h4, .cons (fresh_in h0) (src_T h1), .one (List.mem_cons_self ..), h5⟩
  · obtain ⟨ge, h0, hK⟩ := hK.ex
    split at hK
    · obtain ⟨rfl, rfl, rfl, hK⟩ := hK
      obtain ⟨s, h1, h2, h3, h4⟩ := hK.ex
      split at h4
      · rename_i how
        exact ⟨_, _, _, ops_append htt ho hs hk he hx hy (two s h1 h2) how hsz hb h3, .cons h0 (src_T h1), .one (List.mem_cons_self ..), h4⟩
      · split at h4
        · rename_i id2 g2
          obtain ⟨ge2, h5, h6⟩ := h4.ex
          split at h6
          · obtain ⟨rfl, rfl, h7, h8⟩ := h6
            rename_i ys
            have hys : s.2.1 = ys := by
              have h9 := h1
              simp only [src, h5, if_true, Option.some.injEq] at h9
              rw [← h9]
            rw [hys] at h3
            exact ⟨_, _, _, ops_append_move htt ho hs hk he hx hy h7 hsz hb h3, .cons h0 (.one h5), .cons _ (.cons _ .nil), h8⟩
          · exact h6.elim
        · exact h4.elim
    · exact hK.elim
  · exact hK.elim

theorem StepK_sound {tt : TT} (htt : TTOk P tt) {fr : Fr} {h : Hp} {o : Oper} {op : Op} {K : AV → TL → TL → Prop} (ho : o.op = op) (hK : StepK P tt fr h op K) : Sound P fr h o K := by
  unfold StepK at hK
  split at hK
  · -- move
    obtain ⟨a, h1, h2⟩ := hK.ex
    exact ⟨_, _, _, ops_move (.inl ho) h1, .nil, .nil, h2⟩
  · obtain ⟨a, h1, h2⟩ := hK.ex
    exact ⟨_, _, _, ops_move (.inr ho) h1, .nil, .nil, h2⟩
  · -- pick
    obtain ⟨a, h1, h2⟩ := hK.ex
    split at h2
    · rename_i b
      cases b with
      | true =>
        obtain ⟨u, h3, h4⟩ := (h2.1 rfl).ex
        exact ⟨_, _, _, ops_pick (t := true) ho h1 h3, .nil, .nil, h4⟩
      | false =>
        obtain ⟨u, h3, h4⟩ := (h2.2 rfl).ex
        exact ⟨_, _, _, ops_pick (t := false) ho h1 h3, .nil, .nil, h4⟩
    · exact h2.elim
  · -- alloc
    obtain ⟨S, h1, h2⟩ := hK.ex
    obtain ⟨p, h3, h4⟩ := h2.ex
    exact ⟨_, _, _, ops_alloc htt ho h1, .one (fresh_in h3), .one (List.mem_singleton.2 rfl), h4⟩
  · -- box
    obtain ⟨a, h1, h2⟩ := hK.ex
    obtain ⟨p, h3, h4, h5, h6⟩ := h2.ex
    exact ⟨_, _, _, ops_box ho h1 h4 h5, .one (fresh_in h3), .one (List.mem_singleton.2 rfl), h6⟩
  · -- build
    obtain ⟨S, h1, h2⟩ := hK.ex
    split at h2
    · obtain ⟨l, h3, h4⟩ := h2.ex
      obtain ⟨cs, h5, h6⟩ := h4.ex
      exact ⟨_, _, _, ops_build htt ho h1 ‹_› h3 h5, .nil, .nil, h6⟩
    · exact h2.elim
  · -- buildSlice
    obtain ⟨S, h1, h2⟩ := hK.ex
    split at h2
    · obtain ⟨E, g1, h2⟩ := h2.ex
      rcases h2 with ⟨rfl, rfl, h00⟩ | h2
      · obtain ⟨p, g5, g6⟩ := h00.ex
        exact ⟨_, _, _, ops_buildSlice0 htt ho h1 ‹_› g1, .one (fresh_in g5), .one (List.mem_singleton.2 rfl), g6⟩
      obtain ⟨xs, g2, h2⟩ := h2.ex
      obtain ⟨avs, g3, h2⟩ := h2.ex
      obtain ⟨cs, g4, h2⟩ := h2.ex
      obtain ⟨p, g5, h2⟩ := h2.ex
      obtain ⟨q, g6, g7, g8, g9, g10, g11, g12⟩ := h2
      obtain ⟨k1, k2⟩ := abs_T g6
      exact ⟨_, _, _, ops_buildSlice htt ho h1 ‹_› g1 g2 g7 g3 g4 g8 g9 g10 g6 g11, .cons (fresh_in g5) k1, .cons _ k2, g12⟩
    · exact h2.elim
  · -- load
    obtain ⟨a, h1, h2⟩ := hK.ex
    obtain ⟨S, h3, h4⟩ := h2.ex
    obtain ⟨p, h5, h6⟩ := h4.ex
    obtain ⟨out, h7, h8⟩ := h6.ex
    exact ⟨_, _, _, ops_load htt ho h1 h3 h5 h7, peek_T h5, .nil, h8⟩
  · -- store
    obtain ⟨a, h1, h2⟩ := hK.ex
    obtain ⟨b, h3, h4⟩ := h2.ex
    obtain ⟨S, h5, h6, h7, h8⟩ := h4.ex
    split at h8
    · obtain ⟨g1, h8⟩ := h8
      obtain ⟨ge, g2, h8⟩ := h8.ex
      split at h8
      · obtain ⟨rfl, g3, g4⟩ := h8
        exact ⟨_, _, _, ops_store_ptr htt ho h1 h3 h6 h5 g1 h7 g3, .one g2, .one (List.mem_singleton.2 rfl), g4⟩
      · exact h8.elim
    · obtain ⟨ge, g2, h8⟩ := h8.ex
      split at h8
      · obtain ⟨rfl, g3, g4, h8⟩ := h8
        obtain ⟨q, g5, g6, g7⟩ := h8
        obtain ⟨k1, k2⟩ := abs_T g5
        exact ⟨_, _, _, ops_store_elt htt ho h1 h3 h6 h5 h7 g3 g4 g5 g6, .cons g2 k1, .cons _ k2, g7⟩
      · exact h8.elim
    · exact h8.elim
  · -- nilCheck
    obtain ⟨a, h1, h2, h3⟩ := hK.ex
    exact ⟨_, _, _, ops_nilCheck ho h1 h2, .nil, .nil, h3⟩
  · -- binOp
    obtain ⟨a, h1, h2⟩ := hK.ex
    obtain ⟨b, h3, h4⟩ := h2.ex
    split at h4
    · split at h4
      · exact ⟨_, _, _, ops_bin ho h1 h3 ‹_›, .nil, .nil, h4⟩
      · obtain ⟨g1, r, g2, g3⟩ := h4
        exact ⟨_, _, _, ops_eq ho g1 h1 h3 g2, .nil, .nil, g3⟩
    · obtain ⟨g1, r, g2, g3⟩ := h4
      exact ⟨_, _, _, ops_eq ho g1 h1 h3 g2, .nil, .nil, g3⟩
  · obtain ⟨a, h1, h2⟩ := hK.ex
    split at h2
    · exact ⟨_, _, _, ops_not ho h1, .nil, .nil, h2⟩
    · exact h2.elim
  · obtain ⟨a, h1, h2⟩ := hK.ex
    split at h2
    · exact ⟨_, _, _, ops_neg ho h1, .nil, .nil, h2⟩
    · exact h2.elim
  · -- convert
    obtain ⟨a, h1, h2⟩ := hK.ex
    obtain ⟨S, h3, h4⟩ := h2.ex
    obtain ⟨D, h5, h6⟩ := h4.ex
    split at h6
    · exact ⟨_, _, _, ops_conv htt ho h1 h3 h5 ‹_› ‹_›, .nil, .nil, h6⟩
    · exact h6.elim
  · -- makeSlice
    obtain ⟨S, h1, h2⟩ := hK.ex
    split at h2
    · obtain ⟨E, h3, h2⟩ := h2.ex
      obtain ⟨a, h4, h2⟩ := h2.ex
      obtain ⟨b, h5, h2⟩ := h2.ex
      obtain ⟨p, h6, h2⟩ := h2.ex
      split at h2
      · obtain ⟨rfl, h7, h8, h9, h10, h11⟩ := h2
        rw [(Int.toNat_of_nonneg h7).symm] at h4 h5
        exact ⟨_, _, _, ops_makeSlice htt ho h1 ‹_› h3 h4 h5 h8 h9 h10, .one (fresh_in h6), .one (List.mem_singleton.2 rfl), h11⟩
      · exact h2.elim
    · exact h2.elim
  · -- slice
    obtain ⟨a, h1, h2⟩ := hK.ex
    obtain ⟨S, h3, h4⟩ := h2.ex
    split at h4
    · obtain ⟨l, h5, h4⟩ := h4.ex
      obtain ⟨u, h6, h7, h8, h9, h10⟩ := h4.ex
      exact ⟨_, _, _, ops_slice_str htt ho h1 h3 ‹_› (bndO_ev h5) (bndO_ev h6) h7 h8 h9, .nil, .nil, h10⟩
    · obtain ⟨E, g1, h4⟩ := h4.ex
      obtain ⟨l, h5, h4⟩ := h4.ex
      obtain ⟨u, h6, g2, h7, h8, h9, h10⟩ := h4.ex
      exact ⟨_, _, _, ops_slice_row htt ho h1 h3 ‹_› g1 g2 (bndO_ev h5) (bndO_ev h6) h7 h8 h9, .nil, .nil, h10⟩
    · exact h4.elim
  · -- fieldAddr
    obtain ⟨a, h1, h2⟩ := hK.ex
    obtain ⟨S, h3, h4⟩ := h2.ex
    split at h4
    · obtain ⟨p, h5, h6⟩ := h4.ex
      obtain ⟨sf, h7, h8, h9⟩ := h6.ex
      obtain ⟨out, h10, h11⟩ := h9.ex
      exact ⟨_, _, _, ops_fieldAddr htt ho h1 h3 ‹_› h5 h7 h8 h10, .nil, .nil, h11⟩
    · exact h4.elim
  · -- field
    obtain ⟨a, h1, h2⟩ := hK.ex
    obtain ⟨S, h3, h4⟩ := h2.ex
    split at h4
    · obtain ⟨p, h5, h6⟩ := h4.ex
      obtain ⟨sf, h7, h8⟩ := h6.ex
      obtain ⟨out, h10, h11⟩ := h8.ex
      exact ⟨_, _, _, ops_field htt ho h1 h3 ‹_› h5 h7 h10, .nil, .nil, h11⟩
    · exact h4.elim
  · -- indexAddr
    obtain ⟨a, h1, h2⟩ := hK.ex
    obtain ⟨b, h3, h4⟩ := h2.ex
    obtain ⟨S, h5, h6⟩ := h4.ex
    split at h6
    · obtain ⟨E, h7, h8⟩ := h6.ex
      exact idxK_sound htt ho h1 h3 h5 ‹_› h7 h8
    · obtain ⟨E, h7, h8, h9, h10⟩ := h6.ex
      obtain ⟨out, h11, h12⟩ := h10.ex
      exact ⟨_, _, _, ops_idx_arr htt ho h1 h3 h5 ‹_› h7 h8 h9 h11, .nil, .nil, h12⟩
    · exact h6.elim
  · -- index
    obtain ⟨a, h1, h2⟩ := hK.ex
    obtain ⟨b, h3, h4⟩ := h2.ex
    obtain ⟨S, h5, h6⟩ := h4.ex
    split at h6
    · obtain ⟨h7, h8, h9⟩ := h6
      exact ⟨_, _, _, ops_idx_str htt ho h1 h3 h5 ‹_› h7 h8, .nil, .nil, h9⟩
    · exact h6.elim
  · -- extract
    obtain ⟨a, h1, h2⟩ := hK.ex
    split at h2
    · obtain ⟨out, h3, h4⟩ := h2.ex
      exact ⟨_, _, _, ops_extract ho h1 h3, .nil, .nil, h4⟩
    · exact h2.elim
  · -- call
    rename_i c
    obtain ⟨callee, args, argTypes⟩ := c
    split at hK
    · rename_i hcal
      simp only at hcal
      subst hcal
      split at hK
      · rename_i x t ha ht
        obtain ⟨a, h1, h2⟩ := hK.ex
        obtain ⟨S, h3, h4⟩ := h2.ex
        obtain ⟨p, h5, h6, h7⟩ := h4.ex
        have ha' : args = #[x] := by
          apply Array.ext'; simpa using ha
        have ht' : argTypes = #[t] := by
          apply Array.ext'; simpa using ht
        subst ha' ht'
        have hkk : (S.kind = .str ∨ ∃ e, S.kind = .sl e) ∧ ((∃ s, a = .pv (.string s)) ↔ S.kind = .str) := by
          split at h6
          · rename_i hk
            exact ⟨.inl hk, ⟨fun _ => hk, fun _ => ⟨_, rfl⟩⟩⟩
          · exact h6.elim
          · rename_i e hk hns
            exact ⟨.inr ⟨_, hk⟩, ⟨fun ⟨s, hs⟩ => (hns s hs).elim, fun h => by rw [hk] at h; cases h⟩⟩
          · exact h6.elim
        exact ⟨_, _, _, ops_len htt ho h1 h3 hkk.1 h5 hkk.2, lenA_T h5, .nil, h7⟩
      · exact hK.elim
    · rename_i hcal
      simp only at hcal
      subst hcal
      split at hK
      · rename_i x y t t' ha ht
        obtain ⟨rfl, hK⟩ := hK
        obtain ⟨a, h1, h2⟩ := hK.ex
        obtain ⟨b, h3, h4⟩ := h2.ex
        obtain ⟨S, h5, h6⟩ := h4.ex
        have ha' : args = #[x, y] := by
          apply Array.ext'; simpa using ha
        have ht' : argTypes = #[t, t] := by
          apply Array.ext'; simpa using ht
        subst ha' ht'
        split at h6
        · obtain ⟨E, h7, h8, h9, h10⟩ := h6.ex
          exact appK_sound htt ho h1 h3 h5 ‹_› h7 h8 h9 h10
        · exact h6.elim
      · exact hK.elim
    · rename_i f hcal
      simp only at hcal
      subst hcal
      obtain ⟨fv, h1, h2⟩ := hK.ex
      obtain ⟨avs, h3, h4⟩ := h2.ex
      split at h4
      · obtain ⟨out, T, W, g1, g2, g3, g4⟩ := h4
        exact ⟨_, _, _, ops_call ho rfl h1 rfl h3 g1, g2, g3, g4⟩
      · exact h4.elim
    · exact hK.elim
  · exact hK.elim
end Go.Proofs.Ytcleiaibcfocdaa.Am
