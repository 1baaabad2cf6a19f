/- The abstract machine, part 27: maps; slices with room, cut short, of arrays. -/
import Derived.Test.YtcleiaibcfocdaaAm26
import Derived.MapKept
import Derived.WideKeyRuns
import Derived.ChangeKeysEq
import Derived.WideMake
set_option linter.unusedVariables false
set_option linter.unusedSimpArgs false
namespace Go.Proofs.Ytcleiaibcfocdaa.Am
open Go Go.RowKit
variable {P : Program} {ev : Operand → Option AV}

/-! ### keys -/
def kIdx {κ : Type} [DecidableEq κ] : List κ → κ → Option Nat
  | [], _ => none
  | a :: r, k => if a = k then some 0 else (kIdx r k).map (· + 1)
structure FindK (P : Program) (kt : TypeId) {κ : Type} [DecidableEq κ] (enc : κ → Value) : Prop where
  check : ∀ (w : World) (em : Bool) (k : κ), (Instr.checkKey em 10000 kt (enc k)).run P w = .ok () w
  find : ∀ (w : World) (k : κ) (es : List MapEntry) (ks : List κ), es.map (·.key) = ks.map enc → (Instr.findKey kt (enc k) es).run P w = .ok ((kIdx ks k).bind fun j => (es[j]?).map fun e => (j, e.val)) w
  stays : ∀ (w : World) (k : κ), (Instr.keyThatStays (enc k) (enc k)).run P w = .ok (enc k) w
theorem findK_int {kt : TypeId} (hu : P.underlying kt = some (.int .i64)) : FindK P kt (fun n : Int => .int .i64 n) := by
  refine ⟨fun w em k => ?_, fun w k es ks h => ?_, fun w k => ?_⟩
  · exact MapKept.run_checkKey hu (by simp [MapKept.IsKey]) em 9999
  · refine MapKept.run_findKey hu ?_
    have : ∀ (es : List MapEntry) (ks : List Int) (i : Nat), es.map (·.key) = ks.map (fun n : Int => Value.int .i64 n) → Instr.findNow (.int .i64) (.int .i64 k) es i = some ((kIdx ks k).bind fun j => (es[j]?).map fun e => (i + j, e.val)) := by
      intro es
      induction es with
      | nil =>
        intro ks i h
        cases ks with
        | nil => rfl
        | cons => simp at h
      | cons e es ih =>
        intro ks i h
        cases ks with
        | nil => simp at h
        | cons a ks =>
          simp only [List.map_cons, List.cons.injEq] at h
          simp only [Instr.findNow, h.1, Instr.sameNow, if_true, kIdx]
          by_cases e0 : a = k
          · subst e0; simp
          · rw [if_neg e0]
            have : (k == a) = false := by simpa using Ne.symm e0
            rw [this]
            simp only
            rw [ih ks (i + 1) h.2]
            cases hx : kIdx ks k with
            | none => rfl
            | some j =>
              simp only [Option.bind_some, Option.map_some, List.getElem?_cons_succ]
              cases es[j]? with
              | none => rfl
              | some e => simp; omega
    have := this es ks 0 h
    simpa using this
  · have h0 : Instr.sameBits (9999 + 1) (.int .i64 k) (.int .i64 k) = true := by simp [Instr.sameBits]
    simp only [Instr.keyThatStays, h0, if_true, Sem.run_pure]

def encL (l : List Int) : Value := .agg (l.map (Value.int .i64)).toArray
theorem part_int1 {e : TypeId} (he : P.underlying e = some (.int .i64)) (w : World) {xs : List Value} {i : Nat} {v : Value} (hv : xs[i]? = some v) : (part e xs.toArray i).run P w = .ok v w := by
  have hag : (isAgg e).run P w = .ok false w := by
    unfold isAgg
    rw [Sem.run_bind, run_underlying he w]
    simp [TypeDesc.isRow]
  simp [part, hag, hv]
theorem eqItems_ints (d : Nat) {e : TypeId} (he : P.underlying e = some (.int .i64)) (w : World) (as bs : List Int) : ∀ (m i : Nat), i + m = as.length → i + m = bs.length → (Op.eqItems (d + 1) e 1 (as.map (Value.int .i64)).toArray (bs.map (Value.int .i64)).toArray (List.range' i m)).run P w = .ok (as.drop i == bs.drop i) w
  | 0, i, h1, h2 => by
    rw [List.drop_of_length_le (by omega), List.drop_of_length_le (by omega)]
    simp [Op.eqItems]
  | m + 1, i, h1, h2 => by
    have la : i < as.length := by omega
    have lb : i < bs.length := by omega
    have pa := part_int1 he w (xs := as.map (Value.int .i64)) (i := i) (v := .int .i64 as[i]) (by simp [la])
    have pb := part_int1 he w (xs := bs.map (Value.int .i64)) (i := i) (v := .int .i64 bs[i]) (by simp [lb])
    have ih := eqItems_ints d he w as bs m (i + 1) (by omega) (by omega)
    rw [List.drop_eq_getElem_cons la, List.drop_eq_getElem_cons lb, List.range'_succ]
    simp only [Op.eqItems, Nat.mul_one, Sem.run_bind, pa, pb, Result.andThen_ok, run_equalIn_int w d e .i64 .i64 _ _ he, List.cons_beq_cons]
    cases hc : (as[i] == bs[i])
    · simp
    · simpa using ih
theorem encL_inj {a b : List Int} (h : encL a = encL b) : a = b := by
  have : ∀ (a b : List Int), a.map (Value.int .i64) = b.map (Value.int .i64) → a = b := by
    intro a
    induction a with
    | nil => intro b h; cases b with
      | nil => rfl
      | cons => simp at h
    | cons x a ih => intro b h; cases b with
      | nil => simp at h
      | cons y b =>
        simp only [List.map_cons, List.cons.injEq, Value.int.injEq, true_and] at h
        rw [h.1, ih b h.2]
  simp only [encL, Value.agg.injEq] at h
  exact this a b (by simpa using congrArg Array.toList h)
theorem findK_ints {kt e : TypeId} {n : Nat} {i : TypeInfo} {κ : Type} [DecidableEq κ] {f : κ → List Int} (hu : P.underlying kt = some (.array n e)) (hi : P.info? e = some i) (hc : P.cellsOf e = 1) (he : P.underlying e = some (.int .i64)) (hl : ∀ k, (f k).length = n) (hf : ∀ a b, f a = f b → a = b) :
    FindK P kt (fun k => encL (f k)) := by
  have heq : ∀ (w : World) (a b : κ), (Op.equal kt (encL (f a)) (encL (f b))).run P w = .ok (decide (a = b)) w := fun w a b => by
    show (Op.equalIn (9999 + 1) kt _ _).run P w = _
    unfold encL
    rw [run_equalIn_array w 9999 _ _ hu hi, hc, List.range_eq_range', eqItems_ints 9998 he w (f a) (f b) n 0 (by rw [hl]; omega) (by rw [hl]; omega)]
    congr 1
    simp only [List.drop_zero]
    by_cases e0 : a = b
    · subst e0; simp
    · have : f a ≠ f b := fun h => e0 (hf a b h)
      simp [e0, this]
  refine ⟨fun w em k => ?_, fun w k es ks h => ?_, fun w k => ?_⟩
  · have hsz : (sizeOf e).run P w = .ok 1 w := by rw [run_sizeOf w hi, hc]
    have gen : ∀ d : Nat, (Instr.checkKey em (d + 2) kt (encL (f k))).run P w = .ok () w := fun d => by
      have : ∀ (m j : Nat), j + m = (f k).length → (forIn (List.range' j m) PUnit.unit fun i r => do
          Instr.checkKey em (d + 1) e (← part e ((f k).map (Value.int .i64)).toArray (i * (← sizeOf e)))
          pure (ForInStep.yield PUnit.unit) : Sem PUnit).run P w = .ok PUnit.unit w := by
        intro m
        induction m with
        | zero => intro j _; simp
        | succ m ih =>
          intro j hj
          have pa := part_int1 he w (xs := (f k).map (Value.int .i64)) (i := j) (v := .int .i64 ((f k)[j]'(by omega))) (by simp)
          have ck : ∀ n : Int, (Instr.checkKey em (d + 1) e (.int .i64 n)).run P w = .ok () w := fun n => MapKept.run_checkKey he (by simp [MapKept.IsKey]) em d
          rw [List.range'_succ]
          simp only [List.forIn_cons, Sem.run_bind, hsz, Result.andThen_ok, Nat.mul_one, pa, ck, Sem.run_pure]
          exact ih (j + 1) (by omega)
      have h0 := this n 0 (by rw [hl]; omega)
      rw [show d + 2 = (d + 1) + 1 from rfl]
      unfold encL Instr.checkKey
      simp only [Sem.run_bind, run_underlying hu, Result.andThen_ok, Std.Legacy.Range.forIn_eq_forIn_range', Std.Legacy.Range.size, Nat.sub_zero, Nat.add_one_sub_one, Nat.div_one]
      rw [h0]
      simp only [Result.andThen_ok, Sem.run_pure]
    exact gen 9998
  · rw [run_findKey_eq w (by rw [hu])]
    have : ∀ (es : List MapEntry) (ks : List κ) (i : Nat), es.map (·.key) = ks.map (fun k => encL (f k)) → (Instr.findAsking kt (encL (f k)) es i).run P w = .ok ((kIdx ks k).bind fun j => (es[j]?).map fun e => (i + j, e.val)) w := by
      intro es
      induction es with
      | nil =>
        intro ks i h
        cases ks with
        | nil => simp [Instr.findAsking, kIdx]
        | cons => simp at h
      | cons e es ih =>
        intro ks i h
        cases ks with
        | nil => simp at h
        | cons a ks =>
          simp only [List.map_cons, List.cons.injEq] at h
          simp only [Instr.findAsking, h.1, Sem.run_bind, heq, Result.andThen_ok, kIdx]
          by_cases e0 : k = a
          · subst e0; simp
          · rw [if_neg (Ne.symm e0)]
            simp only [e0, decide_false, Bool.false_eq_true, if_false]
            rw [ih ks (i + 1) h.2]
            cases hx : kIdx ks k with
            | none => rfl
            | some j =>
              simp only [Option.bind_some, Option.map_some, List.getElem?_cons_succ]
              cases es[j]? with
              | none => rfl
              | some e => simp; omega
    have := this es ks 0 h
    simpa using this
  · have : ∀ l : List Int, ((l.map (Value.int .i64)).zip (l.map (Value.int .i64))).all (fun p => Instr.sameBits 9999 p.1 p.2) = true := by
      intro l
      induction l with
      | nil => rfl
      | cons a l ih => simp only [List.map_cons, List.zip_cons_cons, List.all_cons, ih, Bool.and_true]; simp [Instr.sameBits]
    have h0 : Instr.sameBits (9999 + 1) (encL (f k)) (encL (f k)) = true := by
      simp only [encL, Instr.sameBits, beq_self_eq_true, Bool.true_and]
      exact this (f k)
    simp only [Instr.keyThatStays, h0, if_true, Sem.run_pure]

theorem kIdx_lt {κ : Type} [DecidableEq κ] {k : κ} : ∀ {ks : List κ} {j : Nat}, kIdx ks k = some j → ks[j]? = some k
  | [], j, h => by cases h
  | a :: r, j, h => by
    simp only [kIdx] at h
    split at h
    · rename_i e; cases h; simp [e]
    · cases hx : kIdx r k with
      | none => rw [hx] at h; cases h
      | some j' => rw [hx] at h; cases h; simpa using kIdx_lt hx
theorem kIdx_none {κ : Type} [DecidableEq κ] {k : κ} : ∀ {ks : List κ}, kIdx ks k = none ↔ k ∉ ks
  | [] => by simp [kIdx]
  | a :: r => by
    simp only [kIdx, List.mem_cons, not_or]
    split
    · rename_i e; simp [e]
    · rename_i e
      rw [Option.map_eq_none_iff, kIdx_none]
      exact ⟨fun h => ⟨Ne.symm e, h⟩, fun h => h.2⟩
theorem kIdx_some {κ : Type} [DecidableEq κ] {k : κ} {ks : List κ} (h : k ∈ ks) : ∃ j, kIdx ks k = some j := by
  cases hx : kIdx ks k with
  | none => exact absurd h (kIdx_none.1 hx)
  | some j => exact ⟨j, rfl⟩

def zeroA (S : TS) : AV := if S.agg then .agg (S.zero.map .pv) else .pv (S.zero.getD 0 undef)
theorem zeroA_rel {t : TypeId} {S : TS} (h : TSOk P t S) {X : Cx} {w : World} : VR X w (zeroA S) (if S.agg then .agg S.zero.toArray else S.zero.getD 0 undef) := by
  unfold zeroA
  split
  · exact (VRs.pvs h.z1).agg
  · exact .pv _

/-- A map's block changed, in its place. -/
theorem SRf.setMap {X : Cx} {B : Base} {h : HF} {F : Nat → List Nat} {w : World} (H : SRf X B h F w) {id g b : Nat} {es es' : List (Value × AV)} {en : Array MapEntry} (he : h id = some (g, .map es)) (hb : X.bx id g = some b) (hbF : b ∈ F id) (hs : en.size = es'.length)
    (hr : ∀ (i : Nat) (k : Value) (a : AV) (e : MapEntry), es'[i]? = some (k, a) → en[i]? = some e → e.key = k ∧ VR X w a e.val ∧ e.born = i) (hw : b < w.heap.size) :
    let w' : World := { w with heap := w.heap.setIfInBounds b (.map en es'.length) }
    SRh X B (upd h id (g, .map es')) w' ∧ (∀ b, X.ok2 b → w'.heap[b]? = w.heap[b]?) := by
  intro w'
  have hg : Grew w w' [b] := ⟨rfl, rfl, rfl, by simp [w'], fun k hk hne => by
    have : k ≠ b := fun e => hne (by simp [e])
    simp [w', Ne.symm this]⟩
  have hok : ∀ c, X.ok2 c → w'.heap[c]? = w.heap[c]? := fun c hc => hg.block c (H.ok2 c hc).1 (fun e' => by
    rw [List.mem_singleton] at e'; subst e'; exact (H.ok2 c hc).2 id _ he hbF)
  refine ⟨⟨_, H.turn he (Cx.le.refl X) rfl rfl (fun i k hik => ⟨rfl, rfl⟩) (Nat.le_refl g) (hg.mono (fun c hc => by rw [List.mem_singleton] at hc; subst hc; exact hbF)) (f := F id) ⟨b, en, hb, hbF, by simp [w', hw], hs, fun i k a e hi hen => ?_⟩ (fun c hc => ⟨.inl hc, Nat.lt_of_lt_of_le (H.blk id _ c he hc) hg.size⟩)⟩, hok⟩
  obtain ⟨q1, q2, q3⟩ := hr i k a e hi hen
  exact ⟨q1, q2.mono (Cx.le.refl X) H.ok12 hok, q3⟩

theorem VR.mp_inv {X : Cx} {w : World} {id g : Nat} {v : Value} (h : VR X w (.mp id g) v) : ∃ b, v = .map (some b) ∧ X.bx id g = some b := by
  cases h with
  | cl h => cases h
  | mp h => exact ⟨_, rfl, h⟩

theorem ops_makeMap {o : Oper} {t id g : Nat} (ho : o.op = .makeMap t none) : OpS P o ev [(id, (g, .dead))] [(id, (g + 1, .map []))] (.mp id (g + 1)) := by
  rintro X B hF a w Q K ⟨F, hS⟩ hop hT hK
  have hid := hT id _ (List.mem_singleton.2 rfl)
  have hr := run_makeMap_plain (P := P) w t
  have hfree := hS.free hid
  have hX : X.le (X.setB id (g + 1) w.heap.size) := Cx.le_setB hfree.1
  have hg := grown_alloc w (.map #[] 0) (F id)
  have hh := MapKept.heap_alloc w (.map #[] 0)
  have hS' := hS.turn (Y := X.setB id (g + 1) w.heap.size) (e' := .map []) (g' := g + 1) (f := [w.heap.size]) hid hX rfl rfl (fun i k hik => ⟨by simp only [Cx.setB]; rw [if_neg (by rintro ⟨rfl, rfl⟩; rcases hik with h | h <;> exact h rfl)], rfl⟩) (Nat.le_succ g) hg
    ⟨w.heap.size, #[], by simp [Cx.setB], by simp, hh.1, rfl, fun i k a e hi => by simp at hi⟩ (fun b hb => by rw [List.mem_singleton] at hb; subst hb; exact ⟨.inr (Nat.le_refl _), by rw [show (w.alloc (.map #[] 0)).heap = w.heap.push (.map #[] 0) from rfl]; simp⟩)
  unfold Oper.wp
  have hx2 : (execOp a.eval o).run P w = .ok (.value (.map (some w.heap.size))) (w.alloc (.map #[] 0)) := by
    simp only [execOp, ho, Option.map_none, Sem.run_bind, hr, Result.andThen_ok, Sem.run_pure]
  rw [hx2, Oper.upon_value]
  exact hK _ _ _ hX (by rw [upds_one]; exact ⟨_, hS'⟩) (fun b hb => hh.2 b (hS.ok2 b hb).1) (.mp (by simp [Cx.setB]))

section
variable {κ : Type} [DecidableEq κ] {enc : κ → Value} {kt : TypeId}
theorem ops_lookup {o : Oper} {tt : TT} (htt : TTOk P tt) {t et : TypeId} {x ix : Operand} {id g : Nat} {es : List (Value × AV)} {ks : List κ} {k : κ} {ka out : AV} (ho : o.op = .lookup t x ix false) (hu : P.underlying t = some (.map kt et)) (hF : FindK P kt enc) (hx : ev x = some (.mp id g)) (hi : ev ix = some ka)
    (hka : ∀ X w v, VR X w ka v → v = enc k) (hes : es.map (·.1) = ks.map enc) (hout : (∃ j kv, kIdx ks k = some j ∧ es[j]? = some (kv, out)) ∨ (kIdx ks k = none ∧ ∃ S, tt et = some S ∧ out = zeroA S)) : OpS P o ev [(id, (g, .map es))] [] out :=
  .quiet fun X B hF' a w hS hop hT => by
    obtain ⟨F, hS⟩ := hS
    obtain ⟨b, e1, hb⟩ := (hop x (by simp [ho, Op.operands]) _ hx).mp_inv
    have e2 := hka X w _ (hop ix (by simp [ho, Op.operands]) _ hi)
    obtain ⟨b', en, h1, h2, h3, h4, h5⟩ := hS.ent _ _ _ (hT id _ (List.mem_singleton.2 rfl))
    rw [hb] at h1; cases h1
    have hkeys : en.toList.map (·.key) = ks.map enc := by
      rw [← hes]
      apply List.ext_getElem?
      intro i
      rw [List.getElem?_map, List.getElem?_map]
      cases hi : es[i]? with
      | none =>
        have : en.toList[i]? = none := by
          rw [List.getElem?_eq_none_iff] at hi ⊢; simp; omega
        rw [this]; rfl
      | some p =>
        have hlt := (List.getElem?_eq_some_iff.1 hi).1
        have : en.toList[i]? = some (en[i]'(by omega)) := by first | (simp; done) | (simp; omega)
        rw [this]
        obtain ⟨q1, _⟩ := h5 i p.1 p.2 _ hi (by first | (simp; done) | (simp; omega) : en[i]? = some (en[i]'(by omega)))
        simp [q1]
    have hf := hF.find w k en.toList ks hkeys
    have hck := fun em => hF.check w em k
    rcases hout with ⟨j, kv, hj, hej⟩ | ⟨hj, S, hs, rfl⟩
    · have hlt := (List.getElem?_eq_some_iff.1 hej).1
      have hen : en.toList[j]? = some (en[j]'(by omega)) := by first | (simp; done) | (simp; omega)
      rw [hj] at hf
      simp only [Option.bind_some, hen, Option.map_some] at hf
      obtain ⟨_, q2, _⟩ := h5 j kv out _ hej (by first | (simp; done) | (simp; omega) : en[j]? = some (en[j]'(by omega)))
      exact ⟨_, by simp only [execOp, ho, Instr.lookup, e1, e2, Sem.run_bind, run_underlying hu, MapKept.run_getObj_map h3, hck, hf, Result.andThen_ok, Sem.run_pure]; rfl, q2⟩
    · rw [hj] at hf
      simp only [Option.bind_none] at hf
      have T := htt _ _ hs
      exact ⟨_, by simp only [execOp, ho, Instr.lookup, e1, e2, Sem.run_bind, run_underlying hu, MapKept.run_getObj_map h3, hck, hf, T.zeroValue, Result.andThen_ok, Sem.run_pure]; rfl, zeroA_rel T⟩

omit [DecidableEq κ] in
theorem keys_of {es : List (Value × AV)} {en : Array MapEntry} {ks : List κ} (h4 : en.size = es.length) (hes : es.map (·.1) = ks.map enc) (h5 : ∀ (i : Nat) (k : Value) (a : AV) (e : MapEntry), es[i]? = some (k, a) → en[i]? = some e → e.key = k) : en.toList.map (·.key) = ks.map enc := by
  rw [← hes]
  apply List.ext_getElem?
  intro i
  rw [List.getElem?_map, List.getElem?_map]
  cases hi : es[i]? with
  | none =>
    have : en.toList[i]? = none := by
      rw [List.getElem?_eq_none_iff] at hi ⊢; simp; omega
    rw [this]; rfl
  | some p =>
    have hlt := (List.getElem?_eq_some_iff.1 hi).1
    have : en.toList[i]? = some (en[i]'(by omega)) := by first | (simp; done) | (simp; omega)
    rw [this]
    have q1 := h5 i p.1 p.2 _ hi (by first | (simp; done) | (simp; omega) : en[i]? = some (en[i]'(by omega)))
    simp [q1]

/-- A key's entry is written: the one that is there, or a new one. -/
theorem ops_mapUpdate {o : Oper} {t et : TypeId} {x ix y : Operand} {id g : Nat} {es es' : List (Value × AV)} {ks : List κ} {k : κ} {ka av : AV} (ho : o.op = .mapUpdate t x ix y) (hu : P.underlying t = some (.map kt et)) (hF : FindK P kt enc) (hx : ev x = some (.mp id g)) (hi : ev ix = some ka) (hy : ev y = some av)
    (hka : ∀ X w v, VR X w ka v → v = enc k) (hes : es.map (·.1) = ks.map enc) (hout : (∃ j, kIdx ks k = some j ∧ es' = es.set j (enc k, av)) ∨ (kIdx ks k = none ∧ es' = es ++ [(enc k, av)])) : OpS P o ev [(id, (g, .map es))] [(id, (g, .map es'))] (.pv undef) := by
  rintro X B hF' a w Q K ⟨F, hS⟩ hop hT hK
  have hid := hT id _ (List.mem_singleton.2 rfl)
  obtain ⟨b, e1, hb⟩ := (hop x (by simp [ho, Op.operands]) _ hx).mp_inv
  have e2 := hka X w _ (hop ix (by simp [ho, Op.operands]) _ hi)
  have hv := hop y (by simp [ho, Op.operands]) _ hy
  obtain ⟨b', en, h1, h2, h3, h4, h5⟩ := hS.ent _ _ _ hid
  rw [hb] at h1; cases h1
  have hkeys := keys_of h4 hes (fun i k a e hi he => (h5 i k a e hi he).1)
  have hf := hF.find w k en.toList ks hkeys
  have hck := hF.check w false k
  have hbl := hS.blk id _ b hid h2
  unfold Oper.wp
  rcases hout with ⟨j, hj, rfl⟩ | ⟨hj, rfl⟩
  · have hkl := kIdx_lt hj
    have hjl : j < en.size := by
      have := (List.getElem?_eq_some_iff.1 hkl).1
      have := congrArg List.length hes
      simp at this; omega
    have hen : en.toList[j]? = some (en[j]) := by simp
    have hen' : en[j]? = some en[j] := by simp
    have hkey : en[j].key = enc k := by
      have := congrArg (fun l => l[j]?) hkeys
      simp only [List.getElem?_map, hen, hkl, Option.map_some] at this
      exact Option.some.inj this
    rw [hj] at hf
    simp only [Option.bind_some, hen, Option.map_some] at hf
    have hx2 : (execOp a.eval o).run P w = .ok .skip { w with heap := w.heap.setIfInBounds b (.map (en.modify j fun e => { e with key := enc k, val := a.eval y }) es.length) } := by
      simp only [execOp, ho, Instr.mapUpdate, e1, e2, Sem.run_bind, run_underlying hu, MapKept.run_getObj_map h3, hck, hf, Result.andThen_ok, Sem.run_pure, hen', Option.map_some, Option.getD_some, hkey, hF.stays, MapKept.run_setObj_map _ h3]
    rw [hx2, Oper.upon_skip]
    have hm : ∀ i e, (en.modify j fun e => { e with key := enc k, val := a.eval y })[i]? = some e → (i = j ∧ e = { en[j] with key := enc k, val := a.eval y }) ∨ (i ≠ j ∧ en[i]? = some e) := fun i e he => by
      rw [Array.getElem?_modify] at he
      by_cases hij : j = i
      · subst hij
        rw [if_pos rfl, hen'] at he
        simp only [Option.map_some, Option.some.injEq] at he
        exact .inl ⟨rfl, he.symm⟩
      · rw [if_neg hij] at he; exact .inr ⟨Ne.symm hij, he⟩
    obtain ⟨q1, q2⟩ := hS.setMap (es' := es.set j (enc k, a.eval y |> fun _ => av)) (en := en.modify j fun e => { e with key := enc k, val := a.eval y }) hid hb h2 (by simp [h4]) (fun i kv av' e hie hee => by
      rcases hm i e hee with ⟨rfl, rfl⟩ | ⟨hne, hee'⟩
      · rw [List.getElem?_set, if_pos rfl] at hie
        split at hie
        · cases hie; exact ⟨rfl, hv, (h5 i _ _ _ (List.getElem?_eq_getElem (by omega)) hen').2.2⟩
        · cases hie
      · rw [List.getElem?_set, if_neg (Ne.symm hne)] at hie
        exact h5 i kv av' e hie hee') hbl
    rw [List.length_set] at q1 q2
    exact hK X _ undef (Cx.le.refl X) (by rw [upds_one]; exact q1) q2 (.pv undef)
  · rw [hj] at hf
    simp only [Option.bind_none] at hf
    have hx2 : (execOp a.eval o).run P w = .ok .skip { w with heap := w.heap.setIfInBounds b (.map (en.push { key := enc k, val := a.eval y, born := es.length }) (es.length + 1)) } := by
      simp only [execOp, ho, Instr.mapUpdate, e1, e2, Sem.run_bind, run_underlying hu, MapKept.run_getObj_map h3, hck, hf, Result.andThen_ok, Sem.run_pure, MapKept.run_setObj_map _ h3]
    rw [hx2, Oper.upon_skip]
    obtain ⟨q1, q2⟩ := hS.setMap (es' := es ++ [(enc k, av)]) (en := en.push { key := enc k, val := a.eval y, born := es.length }) hid hb h2 (by simp [h4]) (fun i kv av' e hie hee => by
      rw [Array.getElem?_push] at hee
      rw [List.getElem?_append] at hie
      by_cases hi : i = en.size
      · rw [if_pos hi] at hee
        rw [if_neg (by omega)] at hie
        have : i - es.length = 0 := by omega
        rw [this] at hie
        simp only [List.getElem?_cons_zero, Option.some.injEq] at hie
        cases hie; cases hee
        exact ⟨rfl, hv, by first | (simp; done) | (simp; omega)⟩
      · rw [if_neg hi] at hee
        have hlt := (Array.getElem?_eq_some_iff.1 hee).1
        rw [if_pos (by omega)] at hie
        exact h5 i kv av' e hie hee) hbl
    rw [List.length_append] at q1 q2
    exact hK X _ undef (Cx.le.refl X) (by rw [upds_one]; exact q1) q2 (.pv undef)

/-- An entry's value and its place, the entry being made if it is not there. -/
theorem ops_mapEntry {o : Oper} {tt : TT} (htt : TTOk P tt) {t et : TypeId} {x ix : Operand} {id g : Nat} {es es' : List (Value × AV)} {ks : List κ} {k : κ} {ka out : AV} {j : Nat} (ho : o.op = .mapEntry t x ix) (hu : P.underlying t = some (.map kt et)) (hF : FindK P kt enc) (hx : ev x = some (.mp id g)) (hi : ev ix = some ka)
    (hka : ∀ X w v, VR X w ka v → v = enc k) (hes : es.map (·.1) = ks.map enc) (hout : (kIdx ks k = some j ∧ es[j]? = some (enc k, out) ∧ es' = es) ∨ (kIdx ks k = none ∧ j = es.length ∧ es' = es ++ [(enc k, out)] ∧ ∃ S, tt et = some S ∧ out = zeroA S)) :
    OpS P o ev [(id, (g, .map es))] [(id, (g, .map es'))] (.tup [out, .pv (.int .i64 (j : Int))]) := by
  rintro X B hF' a w Q K ⟨F, hS⟩ hop hT hK
  have hid := hT id _ (List.mem_singleton.2 rfl)
  obtain ⟨b, e1, hb⟩ := (hop x (by simp [ho, Op.operands]) _ hx).mp_inv
  have e2 := hka X w _ (hop ix (by simp [ho, Op.operands]) _ hi)
  obtain ⟨b', en, h1, h2, h3, h4, h5⟩ := hS.ent _ _ _ hid
  rw [hb] at h1; cases h1
  have hkeys := keys_of h4 hes (fun i k a e hi he => (h5 i k a e hi he).1)
  have hf := hF.find w k en.toList ks hkeys
  have hck := hF.check w false k
  have hbl := hS.blk id _ b hid h2
  have two : ∀ {X : Cx} {w : World} {v : Value} {n : Int}, VR X w out v → VR X w (.tup [out, .pv (.int .i64 n)]) (.tuple #[v, .int .i64 n]) := fun {X w v n} hv => .tup [v, .int .i64 n] rfl (fun i y u hy hu => by
    match i with
    | 0 => simp at hy hu; subst hy hu; exact hv
    | 1 => simp at hy hu; subst hy hu; exact .pv _
    | i + 2 => simp at hy)
  unfold Oper.wp
  rcases hout with ⟨hj, hej, rfl⟩ | ⟨hj, rfl, rfl, S, hs, rfl⟩
  · have hjl : j < en.size := by have := (List.getElem?_eq_some_iff.1 hej).1; omega
    have hen : en.toList[j]? = some (en[j]) := by simp
    have hen' : en[j]? = some en[j] := by simp
    obtain ⟨r1, r2, r3⟩ := h5 j _ _ _ hej hen'
    rw [hj] at hf
    simp only [Option.bind_some, hen, Option.map_some] at hf
    have hsame : (en.modify j fun e => { e with key := enc k }) = en := by
      apply Array.ext_getElem?
      intro i
      rw [Array.getElem?_modify]
      split
      · rename_i e; subst e; rw [hen']; simp only [Option.map_some, Option.some.injEq]; rw [← r1]
      · rfl
    have hx2 : (execOp a.eval o).run P w = .ok (.value (.tuple #[en[j].val, goInt (en[j].born : Int)])) { w with heap := w.heap.setIfInBounds b (.map en es'.length) } := by
      simp only [execOp, ho, Instr.mapEntry, e1, e2, Sem.run_bind, run_underlying hu, MapKept.run_getObj_map h3, hck, hf, Result.andThen_ok, Sem.run_pure, hen', Option.map_some, Option.getD_some, r1, hF.stays, hsame, MapKept.run_setObj_map _ h3]
    rw [hx2, Oper.upon_value, r3]
    obtain ⟨q1, q2⟩ := hS.setMap (es' := es') (en := en) hid hb h2 h4 h5 hbl
    exact hK X _ _ (Cx.le.refl X) (by rw [upds_one]; exact q1) q2 (two (r2.mono (Cx.le.refl X) hS.ok12 q2))
  · rw [hj] at hf
    simp only [Option.bind_none] at hf
    have T := htt _ _ hs
    have hx2 : (execOp a.eval o).run P w = .ok (.value (.tuple #[(if S.agg then .agg S.zero.toArray else S.zero.getD 0 undef), goInt (es.length : Int)])) { w with heap := w.heap.setIfInBounds b (.map (en.push { key := enc k, val := (if S.agg then .agg S.zero.toArray else S.zero.getD 0 undef), born := es.length }) (es.length + 1)) } := by
      simp only [execOp, ho, Instr.mapEntry, e1, e2, Sem.run_bind, run_underlying hu, MapKept.run_getObj_map h3, hck, hf, Result.andThen_ok, Sem.run_pure, T.zeroValue, MapKept.run_setObj_map _ h3]
    rw [hx2, Oper.upon_value]
    obtain ⟨q1, q2⟩ := hS.setMap (es' := es ++ [(enc k, zeroA S)]) (en := en.push { key := enc k, val := (if S.agg then .agg S.zero.toArray else S.zero.getD 0 undef), born := es.length }) hid hb h2 (by simp [h4]) (fun i kv av' e hie hee => by
      rw [Array.getElem?_push] at hee
      rw [List.getElem?_append] at hie
      by_cases hi : i = en.size
      · rw [if_pos hi] at hee
        rw [if_neg (by omega)] at hie
        have : i - es.length = 0 := by omega
        rw [this] at hie
        simp only [List.getElem?_cons_zero, Option.some.injEq] at hie
        cases hie; cases hee
        exact ⟨rfl, zeroA_rel T, by first | (simp; done) | (simp; omega)⟩
      · rw [if_neg hi] at hee
        have hlt := (Array.getElem?_eq_some_iff.1 hee).1
        rw [if_pos (by omega)] at hie
        exact h5 i kv av' e hie hee) hbl
    rw [List.length_append] at q1 q2
    exact hK X _ _ (Cx.le.refl X) (by rw [upds_one]; exact q1) q2 (two (zeroA_rel T))

theorem ops_entryStore {o : Oper} {t : TypeId} {x s y : Operand} {id g : Nat} {es : List (Value × AV)} {av : AV} {kv : Value} {old : AV} {j : Nat} {ik : IntKind} (ho : o.op = .entryStore t x s y) (hx : ev x = some (.mp id g)) (hs : ev s = some (.pv (.int ik (j : Int)))) (hy : ev y = some av) (hj : es[j]? = some (kv, old)) :
    OpS P o ev [(id, (g, .map es))] [(id, (g, .map (es.set j (kv, av))))] (.pv undef) := by
  rintro X B hF' a w Q K ⟨F, hS⟩ hop hT hK
  have hid := hT id _ (List.mem_singleton.2 rfl)
  obtain ⟨b, e1, hb⟩ := (hop x (by simp [ho, Op.operands]) _ hx).mp_inv
  have e2 := (hop s (by simp [ho, Op.operands]) _ hs).pv_inv
  have hv := hop y (by simp [ho, Op.operands]) _ hy
  obtain ⟨b', en, h1, h2, h3, h4, h5⟩ := hS.ent _ _ _ hid
  rw [hb] at h1; cases h1
  have hbl := hS.blk id _ b hid h2
  have hjl : j < en.size := by have := (List.getElem?_eq_some_iff.1 hj).1; omega
  have hen' : en[j]? = some en[j] := by simp
  have born : ∀ i (hi : i < en.size), en[i].born = i := fun i hi => (h5 i _ _ _ (List.getElem?_eq_getElem (by omega)) (by simp : en[i]? = some en[i])).2.2
  have hfi : en.findIdx? (fun e => (e.born : Int) == (j : Int)) = some j := by
    rw [Array.findIdx?_eq_some_iff_getElem]
    refine ⟨hjl, by simp [born j hjl], fun i hi => ?_⟩
    rw [born i (by omega)]
    simp; omega
  have hx2 : (execOp a.eval o).run P w = .ok .skip { w with heap := w.heap.setIfInBounds b (.map (en.modify j fun e => { e with val := a.eval y }) es.length) } := by
    simp only [execOp, ho, Instr.entryStore, e1, e2, asInt, asIntOf, Sem.run_bind, MapKept.run_getObj_map h3, Result.andThen_ok, Sem.run_pure, hfi, MapKept.run_setObj_map _ h3]
  unfold Oper.wp
  rw [hx2, Oper.upon_skip]
  have hm : ∀ i e, (en.modify j fun e => { e with val := a.eval y })[i]? = some e → (i = j ∧ e = { en[j] with val := a.eval y }) ∨ (i ≠ j ∧ en[i]? = some e) := fun i e he => by
    rw [Array.getElem?_modify] at he
    by_cases hij : j = i
    · subst hij
      rw [if_pos rfl, hen'] at he
      simp only [Option.map_some, Option.some.injEq] at he
      exact .inl ⟨rfl, he.symm⟩
    · rw [if_neg hij] at he; exact .inr ⟨Ne.symm hij, he⟩
  obtain ⟨q1, q2⟩ := hS.setMap (es' := es.set j (kv, av)) (en := en.modify j fun e => { e with val := a.eval y }) hid hb h2 (by simp [h4]) (fun i kv' av' e hie hee => by
    rcases hm i e hee with ⟨rfl, rfl⟩ | ⟨hne, hee'⟩
    · rw [List.getElem?_set, if_pos rfl] at hie
      obtain ⟨r1, r2, r3⟩ := h5 i _ _ _ hj hen'
      split at hie
      · cases hie; exact ⟨r1, hv, r3⟩
      · cases hie
    · rw [List.getElem?_set, if_neg (Ne.symm hne)] at hie
      exact h5 i kv' av' e hie hee') hbl
  rw [List.length_set] at q1 q2
  exact hK X _ undef (Cx.le.refl X) (by rw [upds_one]; exact q1) q2 (.pv undef)
end
end Go.Proofs.Ytcleiaibcfocdaa.Am
