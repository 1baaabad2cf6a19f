/- The abstract machine, part 5: addresses and loads. -/
import Derived.Test.YtcleiaibcfocdaaAm4
set_option linter.unusedVariables false
set_option linter.unusedSimpArgs false
namespace Go.Proofs.Ytcleiaibcfocdaa.Am
open Go Go.RowKit

abbrev TL := List (Nat × (Nat × Ent))

/-- The cells from an address on. -/
def peek (h : Hp) : AV → Option (List AV × TL)
  | .iel cs => some (cs, [])
  | .ptr id g off => match wfind h id with
    | some (g', .box ty cs) => if g' = g then some (cs.drop off, [(id, (g', .box ty cs))]) else none
    | _ => none
  | .elt id g i off => match wfind h id with
    | some (g', .row ty sz xs) => if g' = g ∧ i < xs.length then some ((xs.getD i []).drop off, [(id, (g', .row ty sz xs))]) else none
    | _ => none
  | _ => none

theorem flat_len {α : Type} {sz : Nat} : ∀ (xs : List (List α)), (∀ (j : Nat) (x : List α), xs[j]? = some x → x.length = sz) → xs.flatten.length = xs.length * sz
  | [], _ => by simp
  | x :: r, h => by
    have h1 := h 0 x rfl
    have h2 := flat_len r (fun j y hy => h (j + 1) y (by simpa using hy))
    rw [List.flatten_cons, List.length_append, h1, h2, List.length_cons, Nat.add_mul]
    omega
theorem flat_get {α : Type} {sz : Nat} : ∀ (xs : List (List α)) (j i : Nat) (x : List α) (y : α), (∀ (j : Nat) (x : List α), xs[j]? = some x → x.length = sz) → xs[j]? = some x → x[i]? = some y → xs.flatten[j * sz + i]? = some y
  | [], j, i, x, y, _, hx, _ => by simp at hx
  | z :: r, 0, i, x, y, h, hx, hy => by
    have : z = x := by simpa using hx
    subst this
    have hl := (List.getElem?_eq_some_iff.1 hy).1
    rw [List.flatten_cons, Nat.zero_mul, Nat.zero_add, List.getElem?_append_left hl]
    exact hy
  | z :: r, j + 1, i, x, y, h, hx, hy => by
    have h1 := h 0 z rfl
    rw [List.flatten_cons, Nat.add_mul, Nat.one_mul, List.getElem?_append_right (by omega)]
    have := flat_get r j i x y (fun k c hc => h (k + 1) c (by simpa using hc)) (by simpa using hx) hy
    rwa [show j * sz + sz + i - z.length = j * sz + i from by omega]

structure Cells (X : Cx) (w : World) (ad : Addr) (cs : List AV) : Prop where
  get : ∀ (i : Nat) (y : AV), cs[i]? = some y → y.one = true ∧ ∃ u, w.cell? (ad.add i) = some u ∧ VR X w y u

theorem Cells.drop {X : Cx} {w : World} {ad : Addr} {cs : List AV} (h : Cells X w ad cs) (k : Nat) : Cells X w (ad.add k) (cs.drop k) :=
  ⟨fun i y hy => by
    rw [List.getElem?_drop] at hy
    obtain ⟨h1, u, h2, h3⟩ := h.get (k + i) y hy
    exact ⟨h1, u, by rw [add_add]; exact h2, h3⟩⟩

theorem Cells.list {X : Cx} {w : World} {ad : Addr} : ∀ {cs : List AV}, Cells X w ad cs → ∃ us : List Value, VRs X w cs us ∧ ∀ (j : Nat) (v : Value), us[j]? = some v → w.cell? (ad.add j) = some v
  | [], h => ⟨[], ⟨rfl, fun i y hy => by simp at hy, fun i y u hy => by simp at hy⟩, fun j v hj => by simp at hj⟩
  | c :: r, h => by
    obtain ⟨us, ⟨h1, h2, h3⟩, h4⟩ := Cells.list (h.drop 1)
    obtain ⟨g1, u, g2, g3⟩ := h.get 0 c rfl
    refine ⟨u :: us, ⟨by simpa using h1, fun i y hy => ?_, fun i y v hy hv => ?_⟩, fun j v hv => ?_⟩
    · cases i with
      | zero => have : c = y := by simpa using hy
                rw [← this]; exact g1
      | succ i => exact h2 i y (by simpa using hy)
    · cases i with
      | zero => have e1 : c = y := by simpa using hy
                have e2 : u = v := by simpa using hv
                rw [← e1, ← e2]; exact g3
      | succ i => exact h3 i y v (by simpa using hy) (by simpa using hv)
    · cases j with
      | zero => have e2 : u = v := by simpa using hv
                rw [← e2]; exact g2
      | succ j =>
        have := h4 j v (by simpa using hv)
        rw [add_add, Nat.add_comm] at this
        exact this

theorem peek_cells {X : Cx} {B : Base} {h : Hp} {hF : HF} {w : World} {av : AV} {cs : List AV} {T : TL} {v : Value} (hp : peek h av = some (cs, T)) (hS : SRh X B hF w) (hT : ∀ id ge, (id, ge) ∈ T → hF id = some ge)
    (hv : VR X w av v) : ∃ ad, v = .pointer (some ad) ∧ Cells X w ad cs := by
  unfold peek at hp
  split at hp
  · cases hp
    obtain ⟨ad, u, rfl, h1, h2, h3, h4⟩ := hv.iel_inv
    exact ⟨ad, rfl, ⟨fun i y hy => ⟨h2 i y hy, u i, h3 i y hy, .cl (h4 i y hy)⟩⟩⟩
  · split at hp
    · rename_i id g off _ g' ty cs0 hh
      split at hp
      · rename_i e
        subst e
        cases hp
        obtain ⟨b, rfl, hb⟩ := hv.ptr_inv
        obtain ⟨b', us, h1, h2, h3⟩ := hS.box (hT id _ (List.mem_singleton.2 rfl))
        rw [hb] at h1
        cases h1
        refine ⟨_, rfl, ⟨fun i y hy => ?_⟩⟩
        rw [List.getElem?_drop] at hy
        have hl : off + i < us.length := by have := (List.getElem?_eq_some_iff.1 hy).1; rw [h3.len]; exact this
        refine ⟨h3.one _ _ hy, us[off + i], ?_, h3.rel _ _ _ hy (List.getElem?_eq_getElem hl)⟩
        rw [Addr.add_mid, cell_of_row w b (off + i) _ _ _ h2]
        simp [hl]
      · cases hp
    · cases hp
  · split at hp
    · rename_i id g i off _ g' ty sz xs hh
      split at hp
      · rename_i e
        obtain ⟨e, hi⟩ := e
        subst e
        cases hp
        obtain ⟨ad, n, c, sz', rfl, hr⟩ := hv.elt_inv
        obtain ⟨v', us, h1, h2, h3, h4⟩ := hS.row (hT id _ (List.mem_singleton.2 rfl))
        rw [hr] at h1
        cases h1
        have hx : xs[i]? = some xs[i] := List.getElem?_eq_getElem hi
        have hgd : xs.getD i [] = xs[i] := by simp [List.getD_eq_getElem?_getD, hx]
        rw [hgd]
        refine ⟨_, rfl, ?_⟩
        rw [← add_add]
        refine Cells.drop ⟨fun k y hy => ?_⟩ off
        have hf := flat_get xs i k _ y h3 hx hy
        have hl := (List.getElem?_eq_some_iff.1 hf).1
        have hl' : i * sz + k < us.length := by rw [h4.len]; exact hl
        have hu : us[i * sz + k]? = some us[i * sz + k] := List.getElem?_eq_getElem hl'
        refine ⟨h4.one _ _ hf, us[i * sz + k], ?_, h4.rel _ _ _ hf hu⟩
        rw [add_add]
        obtain ⟨b, cp, e, _, h5⟩ := h2.cells hu
        cases e
        exact h5
      · cases hp
    · cases hp
  · cases hp

/-- What a load of type s makes of the cells. -/
def ldv (s : TS) (cs : List AV) : Option AV :=
  if s.agg then if s.size ≤ cs.length then some (.agg (cs.take s.size)) else none else cs.head?

variable {P : Program} {ev : Operand → Option AV}

theorem VRs.take {X : Cx} {w : World} {cs : List AV} {us : List Value} (h : VRs X w cs us) (n : Nat) : VRs X w (cs.take n) (us.take n) := by
  refine ⟨by simp [h.len], fun i y hy => ?_, fun i y u hy hu => ?_⟩
  · rw [List.getElem?_take] at hy
    split at hy
    · exact h.one i y hy
    · cases hy
  · rw [List.getElem?_take] at hy hu
    split at hy
    · rename_i hi
      rw [if_pos hi] at hu
      exact h.rel i y u hy hu
    · cases hy
theorem VRs.drop {X : Cx} {w : World} {cs : List AV} {us : List Value} (h : VRs X w cs us) (n : Nat) : VRs X w (cs.drop n) (us.drop n) :=
  ⟨by simp [h.len], fun i y hy => by rw [List.getElem?_drop] at hy; exact h.one _ y hy, fun i y u hy hu => by rw [List.getElem?_drop] at hy hu; exact h.rel _ y u hy hu⟩
theorem VRs.agg {X : Cx} {w : World} {cs : List AV} {us : List Value} (h : VRs X w cs us) : VR X w (.agg cs) (.agg us.toArray) := .agg us h.len h.one h.rel

theorem ops_load {o : Oper} {tt : TT} (htt : TTOk P tt) {h : Hp} {t : Nat} {x : Operand} {s : TS} {av out : AV} {cs : List AV} {T : TL} (ho : o.op = .load t x) (hx : ev x = some av) (hs : tt t = some s) (hp : peek h av = some (cs, T)) (hl : ldv s cs = some out) :
    OpS P o ev T [] out :=
  .quiet fun X B hF a w hS hop hT => by
    obtain ⟨ad, e, hc⟩ := peek_cells hp hS hT (hop x (by simp [ho, Op.operands]) _ hx)
    have S := htt _ _ hs
    obtain ⟨us, hus, hcell⟩ := hc.list
    unfold ldv at hl
    split at hl
    · rename_i hagg
      split at hl
      · rename_i hn
        cases hl
        have hlen : (us.take s.size).length = s.size := by rw [List.length_take, hus.len]; omega
        have hld := run_loadCells_list (P := P) w ad (us.take s.size) (fun j v hv => by
          rw [List.getElem?_take] at hv
          split at hv
          · exact hcell j v hv
          · cases hv)
        rw [hlen] at hld
        refine ⟨.agg (us.take s.size).toArray, ?_, (hus.take _).agg⟩
        simp [execOp, ho, e, Instr.loadAt, Instr.sureAddr, loadVar, S.isAgg, S.sizeOf, hagg, hld]
      · cases hl
    · rename_i hagg
      cases cs with
      | nil => cases hl
      | cons c r =>
        cases hl
        obtain ⟨h1, u, h2, h3⟩ := hc.get 0 _ rfl
        have hag : s.agg = false := by simpa using hagg
        refine ⟨u, ?_, h3⟩
        have h2' : w.cell? ad = some u := h2
        simp [execOp, ho, e, Instr.loadAt, Instr.sureAddr, loadVar, S.isAgg, hag, load, Sem.run, h2']

/-- An address moved on by some cells. -/
def shift (n : Nat) : AV → Option AV
  | .iel cs => some (.iel (cs.drop n))
  | .ptr id g off => some (.ptr id g (off + n))
  | .elt id g i off => some (.elt id g i (off + n))
  | _ => none

theorem shift_rel {X : Cx} {w : World} {av out : AV} {n : Nat} {v : Value} (h : shift n av = some out) (hv : VR X w av v) : ∃ ad, v = .pointer (some ad) ∧ VR X w out (.pointer (some (ad.add n))) := by
  unfold shift at h
  split at h <;> cases h
  · obtain ⟨ad, u, rfl, h1, h2, h3, h4⟩ := hv.iel_inv
    refine ⟨ad, rfl, .iel _ (fun i => u (n + i)) (by rw [add_block']; exact h1) (fun i y hy => ?_) (fun i y hy => ?_) (fun i y hy => ?_)⟩
    · rw [List.getElem?_drop] at hy; exact h2 _ y hy
    · rw [List.getElem?_drop] at hy; rw [add_add]; exact h3 _ y hy
    · rw [List.getElem?_drop] at hy; exact h4 _ y hy
  · obtain ⟨b, rfl, hb⟩ := hv.ptr_inv
    exact ⟨_, rfl, by rw [Addr.add_mid]; exact .ptr hb⟩
  · obtain ⟨ad, k, c, sz, rfl, hr⟩ := hv.elt_inv
    exact ⟨_, rfl, by rw [add_add, Nat.add_assoc]; exact .elt hr⟩

theorem ops_fieldAddr {o : Oper} {tt : TT} (htt : TTOk P tt) {t f : Nat} {x : Operand} {s sf : TS} {av out : AV} {flds : List (Nat × Nat)} {off ft : Nat} (ho : o.op = .fieldAddr t x f) (hx : ev x = some av) (hs : tt t = some s)
    (hk : s.kind = .st flds) (hf : flds[f]? = some (off, ft)) (hft : tt ft = some sf) (hne : sf.size ≠ 0) (hsh : shift off av = some out) : OpS P o ev [] [] out :=
  .quiet fun X B hF a w hS hop hT => by
    obtain ⟨ad, e, hv⟩ := shift_rel hsh (hop x (by simp [ho, Op.operands]) _ hx)
    obtain ⟨d, h1, h2⟩ := (htt _ _ hs).desc
    rw [hk] at h2
    obtain ⟨fs, rfl, _, h3⟩ := h2
    obtain ⟨fd, h4, h5, h6⟩ := h3 f off ft hf
    have S := htt _ _ hft
    refine ⟨.pointer (some (ad.add off)), ?_, hv⟩
    simp [execOp, ho, e, Instr.fieldAt, Instr.sureAddr, run_underlying h1, h4, fieldPlace, h6, S.sizeOf, hne, h5]

theorem ops_field {o : Oper} {tt : TT} (htt : TTOk P tt) {t f : Nat} {x : Operand} {s sf : TS} {cs : List AV} {out : AV} {flds : List (Nat × Nat)} {off ft : Nat} (ho : o.op = .field t x f) (hx : ev x = some (.agg cs)) (hs : tt t = some s)
    (hk : s.kind = .st flds) (hf : flds[f]? = some (off, ft)) (hft : tt ft = some sf) (hl : ldv sf (cs.drop off) = some out) : OpS P o ev [] [] out :=
  .quiet fun X B hF a w hS hop hT => by
    obtain ⟨us, e, hus⟩ := (hop x (by simp [ho, Op.operands]) _ hx).agg_inv
    obtain ⟨d, h1, h2⟩ := (htt _ _ hs).desc
    rw [hk] at h2
    obtain ⟨fs, rfl, _, h3⟩ := h2
    obtain ⟨fd, h4, h5, h6⟩ := h3 f off ft hf
    have S := htt _ _ hft
    unfold ldv at hl
    split at hl
    · rename_i hagg
      split at hl
      · rename_i hn
        cases hl
        refine ⟨.agg ((us.drop off).take sf.size).toArray, ?_, ((hus.drop off).take _).agg⟩
        have hx2 : us.toArray.extract off (off + sf.size) = ((us.drop off).take sf.size).toArray := by
          rw [List.extract_toArray, List.extract_eq_take_drop]; congr 2; omega
        simp only [execOp, ho, e, Instr.field, Sem.run_bind, run_underlying h1, Result.andThen_ok, h4, asAgg, Sem.run_pure, part, h6, S.isAgg, S.sizeOf, hagg, if_true, h5, hx2]
      · cases hl
    · rename_i hagg
      have hag : sf.agg = false := by simpa using hagg
      rw [List.head?_drop] at hl
      have hlt := (List.getElem?_eq_some_iff.1 hl).1
      have hlt' : off < us.length := by rw [hus.len]; exact hlt
      have hu : us[off]? = some us[off] := List.getElem?_eq_getElem hlt'
      refine ⟨us[off], ?_, hus.rel _ _ _ hl hu⟩
      simp [execOp, ho, e, Instr.field, run_underlying h1, h4, asAgg, part, h6, S.isAgg, hag, h5, hu]

theorem ops_extract {o : Oper} {x : Operand} {i : Nat} {cs : List AV} {out : AV} (ho : o.op = .extract x i) (hx : ev x = some (.tup cs)) (hi : cs[i]? = some out) : OpS P o ev [] [] out :=
  .quiet fun X B hF a w hS hop hT => by
    obtain ⟨us, e, h1, h2⟩ := (hop x (by simp [ho, Op.operands]) _ hx).tup_inv
    have hlt := (List.getElem?_eq_some_iff.1 hi).1
    have hlt' : i < us.length := by omega
    have hu : us[i]? = some us[i] := List.getElem?_eq_getElem hlt'
    exact ⟨us[i], by simp [execOp, ho, e, Instr.extract, hu], h2 _ _ _ hi hu⟩

def nck : AV → Bool
  | .iel _ => true
  | .ptr _ _ _ => true
  | .elt _ _ _ _ => true
  | .pv (.func (.func _) _ _) => true
  | .fn (.func _) _ _ => true
  | _ => false

theorem ops_nilCheck {o : Oper} {x : Operand} {av : AV} (ho : o.op = .nilCheck x) (hx : ev x = some av) (hn : nck av = true) : OpS P o ev [] [] av :=
  .quiet fun X B hF a w hS hop hT => by
    have hv := hop x (by simp [ho, Op.operands]) _ hx
    refine ⟨a.eval x, ?_, hv⟩
    unfold nck at hn
    split at hn
    · obtain ⟨ad, u, e, _⟩ := hv.iel_inv
      simp [execOp, ho, e]
    · obtain ⟨b, e, _⟩ := hv.ptr_inv
      simp [execOp, ho, e]
    · obtain ⟨ad, _, _, _, e, _⟩ := hv.elt_inv
      simp [execOp, ho, e]
    · have e := hv.pv_inv
      simp [execOp, ho, e]
    · obtain ⟨us, vs, e, _⟩ := hv.fn_inv
      simp [execOp, ho, e]
    · cases hn
end Go.Proofs.Ytcleiaibcfocdaa.Am
