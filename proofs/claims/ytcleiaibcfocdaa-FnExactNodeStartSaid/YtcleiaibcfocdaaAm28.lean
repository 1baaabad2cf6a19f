/- The abstract machine, part 28: slices with room, cut short, of arrays; rules for these and for maps. -/
import Derived.Test.YtcleiaibcfocdaaAm27
set_option linter.unusedVariables false
set_option linter.unusedSimpArgs false
namespace Go.Proofs.Ytcleiaibcfocdaa.Am
open Go Go.RowKit
variable {P : Program} {ev : Operand → Option AV}

theorem ops_make0 {o : Oper} {tt : TT} (htt : TTOk P tt) {t e id g : Nat} {x y : Operand} {S E : TS} {k k' : IntKind} {n : Nat} (ho : o.op = .makeSlice t x y) (hs : tt t = some S) (hk : S.kind = .sl e) (he : tt e = some E) (hx : ev x = some (.pv (.int k 0))) (hy : ev y = some (.pv (.int k' (n : Int)))) (hb : E.bytes * n ≤ 281474976710656) (hm : n ≤ maxLen) :
    OpS P o ev [(id, (g, .dead))] [(id, (g + 1, .row e E.size []))] (.ref id (g + 1)) := by
  rintro X B hF a w Q K ⟨F, hS⟩ hop hT hK
  have hid := hT id _ (List.mem_singleton.2 rfl)
  have T := htt _ _ he
  obtain ⟨i, h1, h2, h3, h4⟩ := T.info
  obtain ⟨d, h5, h6⟩ := (htt _ _ hs).desc
  rw [hk] at h6
  simp only [KOk] at h6
  subst h6
  have e1 := evok hop (by simp [ho, Op.operands]) hx
  have e2 := evok hop (by simp [ho, Op.operands]) hy
  obtain ⟨w', hr, hown, hgr⟩ := run_make_own (P := P) w 0 t e i _ E.size h5 h1 h4 h2 k k' n (by rw [h3]; exact hb) hm (Nat.zero_le _)
  obtain ⟨hX, hS', hok⟩ := hS.newRow hid (ty := e) (sz := E.size) (xs := []) (us := []) (L := []) (S := []) (.of hgr [] (by simp)) (by simp) (by simp) List.nodup_nil (.of hown) (fun b hb => .inr (by rw [ownB_some hb]; exact Nat.le_refl _)) (fun j x hx => by simp at hx) .nil
  unfold Oper.wp
  have hx2 : (execOp a.eval o).run P w = .ok (.value (.slice (some ⟨w.heap.size, 0, none⟩) 0 n)) w' := by
    simp only [execOp, ho, e1, e2, Sem.run_bind, hr, Result.andThen_ok, Sem.run_pure]
  rw [hx2, Oper.upon_value]
  exact hK _ _ _ hX (by rw [upds_one]; exact hS') hok .setR

theorem TRs.takeFlat {X : Cx} {w : World} {sz : Nat} {xs : List (List AV)} {us : List Value} {S : List Nat} (hl : Lens sz xs) (h : TRs X w xs.flatten us S) {n : Nat} (hn : n ≤ xs.length) : ∃ S1 S2, S = S1 ++ S2 ∧ TRs X w (xs.take n).flatten (us.take (n * sz)) S1 := by
  have e : xs.flatten = (xs.take n).flatten ++ (xs.drop n).flatten := by rw [← List.flatten_append, List.take_append_drop]
  rw [e] at h
  obtain ⟨us1, us2, S1, S2, rfl, rfl, k1, k2⟩ := h.split
  refine ⟨S1, S2, rfl, ?_⟩
  have hl1 : us1.length = n * sz := by
    rw [k1.len, flat_len _ (fun j x hx => by
      rw [List.getElem?_take] at hx
      split at hx
      · exact hl j x hx
      · cases hx), List.length_take, Nat.min_eq_left hn]
  rw [← hl1, List.take_left']
  · exact k1
  · rfl

/-- A row of one's own cut short. -/
theorem ops_trunc {o : Oper} {tt : TT} (htt : TTOk P tt) {t e id g ty sz : Nat} {x hi : Operand} {S E : TS} {xs : List (List AV)} {k : IntKind} {u : Nat} (ho : o.op = .slice t x none (some hi) none) (hx : ev x = some (.ref id g)) (hs : tt t = some S) (hk : S.kind = .sl e) (he : tt e = some E) (hz : sz = E.size) (hu : ev hi = some (.pv (.int k (u : Int)))) (h2 : u ≤ xs.length) :
    OpS P o ev [(id, (g, .row ty sz xs))] [(id, (g + 1, .row ty sz (xs.take u)))] (.ref id (g + 1)) := by
  rintro X B hF a w Q K ⟨F, hS⟩ hop hT hK
  have hid := hT id _ (List.mem_singleton.2 rfl)
  obtain ⟨A, n, c, sz0, e1, hr0⟩ := (hop x (by simp [ho, Op.operands]) _ hx).ref_inv
  have e2 := (hop hi (by simp [ho, Op.operands]) _ hu).pv_inv
  obtain ⟨v, us, S0, q1, q2, q3, q4, q5, q6⟩ := hS.ent _ _ _ hid
  rw [hr0] at q1
  cases q1
  obtain ⟨n1, n2, n3⟩ := q2.n0
  subst n1
  have hr := slice_run (P := P) htt hs hk he w A xs.length c n2 (a := a) (lo := none) (hi := some hi) (l := 0) (u := (u : Int)) (.inl ⟨rfl, rfl⟩) (.inr ⟨hi, k, rfl, e2⟩) (Int.le_refl _) (by omega) (by omega)
  have hval : (.slice (if c = (0 : Int).toNat then A else A.map (·.add ((0 : Int).toNat * E.size))) ((u : Int).toNat - (0 : Int).toNat) (c - (0 : Int).toNat) : Value) = .slice A u c := by
    have : (A.map fun x => x.add 0) = A := by cases A <;> simp [Addr.add]
    simp [this]
  rw [hval] at hr
  obtain ⟨S1, S2, rfl, t1⟩ := q4.takeFlat q3 h2
  have hl : (xs.take u).length = u := by rw [List.length_take]; omega
  have hown : Own w ty sz (.slice A u c) (xs.take u).length (us.take (u * sz)) := by
    rw [hl]
    refine ⟨by
      have := q2.1
      have : u * sz ≤ xs.length * sz := Nat.mul_le_mul_right _ h2
      rw [List.length_take]; omega, ?_⟩
    rcases q2.2 with ⟨A', r1, r2⟩ | ⟨b, cap, cur, r1, r0, r3, r4, r5, r6, r7⟩
    · have : u = 0 := by omega
      subst this
      injection r1 with _ _ r3
      rw [r3]
      exact .inl ⟨A, rfl, rfl⟩
    · cases r1
      refine .inr ⟨b, _, cur, rfl, r0, r3, by omega, r5, r6, ?_⟩
      rw [← r7, List.take_take, Nat.min_eq_left (Nat.mul_le_mul_right _ h2)]
  have hB : ownB (.slice A u c) = ownB (.slice A xs.length c) := by
    cases A with
    | none => rfl
    | some ad => cases c <;> rfl
  have hnd := List.nodup_append.1 q5
  obtain ⟨hX, hS', hok⟩ := hS.newRow hid (w' := w) (ty := ty) (sz := sz) (xs := xs.take u) (us := us.take (u * sz)) (v := .slice A u c) (L := []) (S := S1) (Grew.refl w _) (by simp) (fun b hb => q6 b (by simp [hb])) (List.nodup_append.1 hnd.2.1).1 hown (fun b hb => .inl ⟨q6 b (by rw [hB] at hb; simp [hb]), fun hb1 => hnd.2.2 b (by rw [hB] at hb; simp [hb]) b (by simp [hb1]) rfl⟩)
    (fun j z hj => by
      rw [List.getElem?_take] at hj
      split at hj
      · exact q3 j z hj
      · cases hj) t1
  unfold Oper.wp
  have hx2 : (execOp a.eval o).run P w = .ok (.value (.slice A u c)) w := by
    simp only [execOp, ho, Sem.run_bind, e1]
    rw [show (Option.map a.eval (none : Option Operand)) = none from rfl] at hr ⊢
    simp only [Option.map_none, hr, Result.andThen_ok, Sem.run_pure]
  rw [hx2, Oper.upon_value]
  exact hK _ _ _ hX (by rw [upds_one]; exact hS') hok .setR

/-- A part of a row of one's own, to be read. -/
theorem ops_cut {o : Oper} {tt : TT} (htt : TTOk P tt) {t e id g ty sz : Nat} {x : Operand} {lo hi : Option Operand} {S E : TS} {xs : List (List AV)} {l u : Int} (ho : o.op = .slice t x lo hi none) (hx : ev x = some (.ref id g)) (hs : tt t = some S) (hk : S.kind = .sl e) (he : tt e = some E) (hz : sz = E.size)
    (hlo : (lo = none ∧ l = 0) ∨ ∃ y k, lo = some y ∧ ev y = some (.pv (.int k l))) (hhi : (hi = none ∧ u = xs.length) ∨ ∃ y k, hi = some y ∧ ev y = some (.pv (.int k u))) (h0 : 0 ≤ l) (h1 : l ≤ u) (h2 : u ≤ xs.length) :
    OpS P o ev [(id, (g, .row ty sz xs))] [] (.cut id g l.toNat u.toNat) :=
  .quiet fun X B hF a w hS hop hT => by
    obtain ⟨F, hS⟩ := hS
    have hid := hT id _ (List.mem_singleton.2 rfl)
    obtain ⟨A, n, c, sz0, e1, hr0⟩ := (hop x (by simp [ho, Op.operands]) _ hx).ref_inv
    obtain ⟨v, us, S0, q1, q2, q3, q4, q5, q6⟩ := hS.ent _ _ _ hid
    rw [hr0] at q1
    cases q1
    obtain ⟨n1, n2, n3⟩ := q2.n0
    subst n1
    have hr := slice_run (P := P) htt hs hk he w A xs.length c n2 (a := a) (lo := lo) (hi := hi) (l := l) (u := u) (bnd_ev (o := o) (fun y hy => by subst hy; simp [ho, Op.operands]) hop hlo) (bnd_ev (o := o) (fun y hy => by subst hy; simp [ho, Op.operands]) hop hhi) h0 h1 h2
    refine ⟨_, by simp only [execOp, ho, Sem.run_bind, e1, Option.map_none]; rw [hr]; simp only [Result.andThen_ok, Sem.run_pure]; rfl, ?_⟩
    refine .cut hr0 (by omega) (by omega) (by omega) (by omega) (fun hlt => ?_)
    have hne : ¬ c = l.toNat := by omega
    rcases q2.2 with ⟨A', r1, r2⟩ | ⟨b, cap, cur, r1, _⟩
    · omega
    · cases r1
      exact ⟨_, rfl, by rw [if_neg hne, hz]; rfl⟩

/-- An array, all of it, as a slice. -/
theorem ops_asl {o : Oper} {tt : TT} (htt : TTOk P tt) {t n e id g off : Nat} {S : TS} {i : TypeInfo} {x : Operand} (ho : o.op = .slice t x none none none) (hx : ev x = some (.ptr id g off)) (hs : tt t = some S) (hk : S.kind = .arr n e) (hi : P.info? e = some i) (hm : n ≤ maxLen) :
    OpS P o ev [] [] (.bsl id g off n) :=
  .quiet fun X B hF a w hS hop hT => by
    obtain ⟨b, e1, hb⟩ := (hop x (by simp [ho, Op.operands]) _ hx).ptr_inv
    refine ⟨.slice (some ⟨b, off, none⟩) n n, ?_, .bsl hb (Nat.le_refl _) hm⟩
    obtain ⟨d, h5, h6⟩ := (htt _ _ hs).desc
    rw [hk] at h6
    simp only [KOk] at h6
    subst h6
    have hA : P.arrayLen t = n := by simp [Program.arrayLen, h5]
    have hE : P.elem t = e := by simp [Program.elem, h5]
    have h0 : (⟨b, off, none⟩ : Addr).add 0 = ⟨b, off, none⟩ := by simp [Addr.add]
    have := run_sliceAt_array_all (P := P) w t ⟨b, off, none⟩ (by rw [hA, hE]; exact h5)
    rw [hA, hE, run_sizeOf w hi] at this
    rw [Result.andThen_ok] at this
    simp only [execOp, ho, e1, Option.map_none, Sem.run_bind]
    rw [this]
    simp [slicedAt, h0]

/-! ### rules -/
section
variable {tt : TT} {ops : Array Oper} {r : List Oper} {fr : Fr} {h : Hp} {lg : Log} {K : Fr → Hp → Log → Prop} {d : Nat} {ty : TypeId} {pos : String} {af : Array Edge}
theorem rl_make0 (htt : TTOk P tt) {t e : Nat} {x y : Operand} {S E : TS} {k1 k2 : IntKind} {n id g : Nat} (hs : tt t = some S) (hk : S.kind = .sl e) (he : tt e = some E) (hx : evO fr x = some (.pv (.int k1 0))) (hy : evO fr y = some (.pv (.int k2 (n : Int)))) (hb : E.bytes * n ≤ 281474976710656) (hm : n ≤ maxLen) (hd : wfind h id = some (g, .dead))
    (k : RunL P tt ops r ((d, .ref id (g + 1)) :: fr) ((id, (g + 1, .row e E.size [])) :: h) (([id], [id]) :: lg) K) : RunL P tt ops (⟨some d, .makeSlice t x y, ty, pos, af, none⟩ :: r) fr h lg K :=
  rl_ops (ops_make0 htt rfl hs hk he hx hy hb hm) (.one hd) (.one (List.mem_singleton.2 rfl)) k
theorem rl_trunc (htt : TTOk P tt) {t e rty sz : Nat} {x hi : Operand} {S E : TS} {k1 : IntKind} {u id g : Nat} {xs ys : List (List AV)} (hx : evO fr x = some (.ref id g)) (hs : tt t = some S) (hk : S.kind = .sl e) (he : tt e = some E) (hz : sz = E.size) (hu : evO fr hi = some (.pv (.int k1 (u : Int)))) (hh : wfind h id = some (g, .row rty sz xs)) (h2 : u ≤ xs.length) (hy : xs.take u = ys)
    (k : RunL P tt ops r ((d, .ref id (g + 1)) :: fr) ((id, (g + 1, .row rty sz ys)) :: h) (([id], [id]) :: lg) K) : RunL P tt ops (⟨some d, .slice t x none (some hi) none, ty, pos, af, none⟩ :: r) fr h lg K := by
  subst hy
  exact rl_ops (ops_trunc htt rfl hx hs hk he hz hu h2) (.one hh) (.one (List.mem_singleton.2 rfl)) k
theorem rl_cut (htt : TTOk P tt) {t e rty sz : Nat} {x : Operand} {lo hi : Option Operand} {S E : TS} {id g : Nat} {xs : List (List AV)} {l u : Int} (hx : evO fr x = some (.ref id g)) (hs : tt t = some S) (hk : S.kind = .sl e) (he : tt e = some E) (hz : sz = E.size) (hh : wfind h id = some (g, .row rty sz xs)) (ha : bndO fr 0 lo = some l) (hb : bndO fr (xs.length : Int) hi = some u) (h0 : 0 ≤ l) (h1 : l ≤ u) (h2 : u ≤ xs.length)
    (k : RunL P tt ops r ((d, .cut id g l.toNat u.toNat) :: fr) h (([id], []) :: lg) K) : RunL P tt ops (⟨some d, .slice t x lo hi none, ty, pos, af, none⟩ :: r) fr h lg K :=
  rl_ops (ops_cut htt rfl hx hs hk he hz (bndO_ev ha) (bndO_ev hb) h0 h1 h2) (.one hh) .nil k
theorem rl_asl (htt : TTOk P tt) {t n e : Nat} {S E : TS} {x : Operand} {id g off : Nat} (hx : evO fr x = some (.ptr id g off)) (hs : tt t = some S) (hk : S.kind = .arr n e) (he : tt e = some E) (hm : Nat.ble n 1000000 = true)
    (k : RunL P tt ops r ((d, .bsl id g off n) :: fr) h (([], []) :: lg) K) : RunL P tt ops (⟨some d, .slice t x none none none, ty, pos, af, none⟩ :: r) fr h lg K := by
  obtain ⟨i, h1, _⟩ := (htt _ _ he).info
  exact rl_ops (ops_asl htt rfl hx hs hk h1 (by have := Nat.le_of_ble_eq_true hm; unfold maxLen; omega)) .nil .nil k
theorem rl_idxb {t e : Nat} {x ix : Operand} {S E : TS} {id g off len j : Nat} {kd : IntKind} (htt : TTOk P tt) (hx : evO fr x = some (.bsl id g off len)) (hi : evO fr ix = some (.pv (.int kd (j : Int)))) (hs : tt t = some S) (hk : S.kind = .sl e) (he : tt e = some E) (hz : E.size = 1) (hj : j < len) (k : RunL P tt ops r ((d, .ptr id g (off + j)) :: fr) h (([], []) :: lg) K) :
    RunL P tt ops (⟨some d, .indexAddr t x ix, ty, pos, af, none⟩ :: r) fr h lg K :=
  rl_ops (ops_idx_bsl htt rfl hx hi hs hk he hz (by omega) (by omega)) .nil .nil (by rw [Int.toNat_natCast]; exact k)
theorem rl_makeMap {t id g : Nat} (hd : wfind h id = some (g, .dead)) (k : RunL P tt ops r ((d, .mp id (g + 1)) :: fr) ((id, (g + 1, .map [])) :: h) (([id], [id]) :: lg) K) : RunL P tt ops (⟨some d, .makeMap t none, ty, pos, af, none⟩ :: r) fr h lg K :=
  rl_ops (ops_makeMap rfl) (.one hd) (.one (List.mem_singleton.2 rfl)) k
variable {κ : Type} [DecidableEq κ] {enc : κ → Value} {kt : TypeId}
theorem rl_lookup (htt : TTOk P tt) {t et : TypeId} {x ix : Operand} {id g : Nat} {es : List (Value × AV)} {ks : List κ} {k : κ} {ka out : AV} (hu : P.underlying t = some (.map kt et)) (hF : FindK P kt enc) (hx : evO fr x = some (.mp id g)) (hi : evO fr ix = some ka) (hka : ∀ X w v, VR X w ka v → v = enc k) (hh : wfind h id = some (g, .map es)) (hes : es.map (·.1) = ks.map enc)
    (hout : (∃ j kv, kIdx ks k = some j ∧ es[j]? = some (kv, out)) ∨ (kIdx ks k = none ∧ ∃ S, tt et = some S ∧ out = zeroA S)) (kk : RunL P tt ops r ((d, out) :: fr) h (([id], []) :: lg) K) : RunL P tt ops (⟨some d, .lookup t x ix false, ty, pos, af, none⟩ :: r) fr h lg K :=
  rl_ops (ops_lookup htt rfl hu hF hx hi hka hes hout) (.one hh) .nil kk
theorem rl_mapUpdate {t et : TypeId} {x ix y : Operand} {id g : Nat} {es es' : List (Value × AV)} {ks : List κ} {k : κ} {ka av : AV} (hu : P.underlying t = some (.map kt et)) (hF : FindK P kt enc) (hx : evO fr x = some (.mp id g)) (hi : evO fr ix = some ka) (hy : evO fr y = some av) (hka : ∀ X w v, VR X w ka v → v = enc k) (hh : wfind h id = some (g, .map es)) (hes : es.map (·.1) = ks.map enc)
    (hout : (∃ j, kIdx ks k = some j ∧ es' = es.set j (enc k, av)) ∨ (kIdx ks k = none ∧ es' = es ++ [(enc k, av)])) (kk : RunL P tt ops r fr ((id, (g, .map es')) :: h) (([id], [id]) :: lg) K) : RunL P tt ops (⟨none, .mapUpdate t x ix y, ty, pos, af, none⟩ :: r) fr h lg K :=
  rl_opsN (ops_mapUpdate rfl hu hF hx hi hy hka hes hout) (.one hh) (.one (List.mem_singleton.2 rfl)) kk
theorem rl_mapEntry (htt : TTOk P tt) {t et : TypeId} {x ix : Operand} {id g : Nat} {es es' : List (Value × AV)} {ks : List κ} {k : κ} {ka out : AV} {j : Nat} (hu : P.underlying t = some (.map kt et)) (hF : FindK P kt enc) (hx : evO fr x = some (.mp id g)) (hi : evO fr ix = some ka) (hka : ∀ X w v, VR X w ka v → v = enc k) (hh : wfind h id = some (g, .map es)) (hes : es.map (·.1) = ks.map enc)
    (hout : (kIdx ks k = some j ∧ es[j]? = some (enc k, out) ∧ es' = es) ∨ (kIdx ks k = none ∧ j = es.length ∧ es' = es ++ [(enc k, out)] ∧ ∃ S, tt et = some S ∧ out = zeroA S)) (kk : RunL P tt ops r ((d, .tup [out, .pv (.int .i64 (j : Int))]) :: fr) ((id, (g, .map es')) :: h) (([id], [id]) :: lg) K) : RunL P tt ops (⟨some d, .mapEntry t x ix, ty, pos, af, none⟩ :: r) fr h lg K :=
  rl_ops (ops_mapEntry htt rfl hu hF hx hi hka hes hout) (.one hh) (.one (List.mem_singleton.2 rfl)) kk
theorem rl_entryStore {t : TypeId} {x s y : Operand} {id g : Nat} {es es' : List (Value × AV)} {av : AV} {kv : Value} {old : AV} {j : Nat} {ik : IntKind} (hx : evO fr x = some (.mp id g)) (hs : evO fr s = some (.pv (.int ik (j : Int)))) (hy : evO fr y = some av) (hh : wfind h id = some (g, .map es)) (hj : es[j]? = some (kv, old)) (he : es.set j (kv, av) = es') (kk : RunL P tt ops r fr ((id, (g, .map es')) :: h) (([id], [id]) :: lg) K) :
    RunL P tt ops (⟨none, .entryStore t x s y, ty, pos, af, none⟩ :: r) fr h lg K := by
  subst he
  exact rl_opsN (ops_entryStore rfl hx hs hy hj) (.one hh) (.one (List.mem_singleton.2 rfl)) kk
end
theorem ka_pv {X : Cx} {w : World} {u v : Value} (h : VR X w (.pv u) v) : v = u := h.pv_inv
theorem ka_ints {X : Cx} {w : World} {l : List Int} {v : Value} (h : VR X w (.agg (l.map pI)) v) : v = encL l := by
  obtain ⟨us, rfl, hu⟩ := h.agg_inv
  have : ∀ (l : List Int) (us : List Value), VRs X w (l.map pI) us → us = l.map (Value.int .i64) := by
    intro l
    induction l with
    | nil => intro us h; exact List.eq_nil_of_length_eq_zero (by simpa using h.len)
    | cons a l ih =>
      intro us h
      cases us with
      | nil => have := h.len; simp at this
      | cons z zs =>
        have h0 := (h.rel 0 _ z rfl rfl).pv_inv
        rw [h0, ih zs h.tail, List.map_cons]
  rw [this l us hu]; rfl
end Go.Proofs.Ytcleiaibcfocdaa.Am
