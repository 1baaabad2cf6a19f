/- The abstract machine, part 24: comparisons. -/
import Derived.Test.YtcleiaibcfocdaaAm23
import Derived.Laws.StructEq
set_option linter.unusedVariables false
set_option linter.unusedSimpArgs false
namespace Go.Proofs.Ytcleiaibcfocdaa.Am
open Go Go.RowKit

variable {P : Program}

def pI (n : Int) : AV := .pv (.int .i64 n)

def intFld (P : Program) (f : Field) (i : Nat) : Bool := f.name != "_" && f.offset == i && (match P.underlying f.type with
  | some (.int .i64) => true
  | _ => false)

theorem part_int {f : Field} {i : Nat} (hf : intFld P f i = true) (w : World) {xs : List Value} {v : Value} (hv : xs[i]? = some v) : (part f.type xs.toArray f.offset).run P w = .ok v w := by
  simp only [intFld, Bool.and_eq_true, beq_iff_eq] at hf
  obtain ⟨⟨h1, h2⟩, h3⟩ := hf
  split at h3
  · rename_i hu
    have hag : (isAgg f.type).run P w = .ok false w := by
      unfold isAgg
      rw [Sem.run_bind, run_underlying hu w]
      simp [TypeDesc.isRow]
    subst h2
    simp [part, hag, hv]
  · cases h3

theorem eqFields_ints (d : Nat) (w : World) : ∀ (fs : List Field) (i : Nat) (as bs : List Int), (fs.zipIdx i).all (fun p => intFld P p.1 p.2) = true → as.length = i + fs.length → bs.length = i + fs.length →
    (Op.eqFields (d + 1) (as.map (Value.int .i64)).toArray (bs.map (Value.int .i64)).toArray fs).run P w = .ok (as.drop i == bs.drop i) w
  | [], i, as, bs, _, h1, h2 => by
    rw [List.drop_of_length_le (by simp at h1; omega), List.drop_of_length_le (by simp at h2; omega)]
    simp [Op.eqFields]
  | f :: fs, i, as, bs, hf, h1, h2 => by
    rw [List.zipIdx_cons, List.all_cons, Bool.and_eq_true] at hf
    obtain ⟨hf0, hf⟩ := hf
    have la : i < as.length := by simp at h1; omega
    have lb : i < bs.length := by simp at h2; omega
    have ih := eqFields_ints d w fs (i + 1) as bs hf (by simp at h1 ⊢; omega) (by simp at h2 ⊢; omega)
    have pa := part_int hf0 w (xs := as.map (Value.int .i64)) (v := .int .i64 as[i]) (by simp [la])
    have pb := part_int hf0 w (xs := bs.map (Value.int .i64)) (v := .int .i64 bs[i]) (by simp [lb])
    have hn : f.name ≠ "_" := by
      simp only [intFld, Bool.and_eq_true] at hf0
      simpa using hf0.1.1
    have hu : P.underlying f.type = some (.int .i64) := by
      simp only [intFld, Bool.and_eq_true] at hf0
      have := hf0.2
      split at this
      · assumption
      · cases this
    rw [List.drop_eq_getElem_cons la, List.drop_eq_getElem_cons lb]
    simp only [Op.eqFields, if_pos hn, Sem.run_bind, pa, pb, Result.andThen_ok, run_equalIn_int w d f.type .i64 .i64 _ _ hu, List.cons_beq_cons]
    cases hc : (as[i] == bs[i])
    · simp
    · simpa using ih

/-- Structs of ints alone. -/
theorem eqA_ints {t : TypeId} {fs : Array Field} (hu : P.underlying t = some (.struct fs)) (hp : P.stoodInHeld t = false) (hm : P.eqGuardType P.depth t = false) (hf : (fs.toList.zipIdx 0).all (fun p => intFld P p.1 p.2) = true) (x y : Operand) (as bs : List Int) (h1 : as.length = fs.size) (h2 : bs.length = fs.size) :
    EqA P t x y (.agg (as.map pI)) (.agg (bs.map pI)) (as == bs) := by
  intro X w u v h12 hu' hv' op hop
  have conv : ∀ (l : List Int) (us : List Value), VRs X w (l.map pI) us → us = l.map (Value.int .i64) := by
    intro l
    induction l with
    | nil => intro us h; exact List.eq_nil_of_length_eq_zero (by simpa using h.len)
    | cons a l ih =>
      intro us h
      cases us with
      | nil => have := h.len; simp at this
      | cons z zs =>
        have e1 : z = .int .i64 a := (h.rel 0 (pI a) z rfl rfl).pv_inv
        rw [List.map_cons, ← ih zs h.tail, e1]
  obtain ⟨us, rfl, hus⟩ := hu'.agg_inv
  obtain ⟨vs, rfl, hvs⟩ := hv'.agg_inv
  rw [conv _ _ hus, conv _ _ hvs]
  have e := eqFields_ints (P := P) 9998 w fs.toList 0 as bs hf (by simpa using h1) (by simpa using h2)
  have hfo : P.fieldsOf t = fs := by simp [Program.fieldsOf, hu]
  have he : (Op.equalIn 10000 t (.agg (as.map (Value.int .i64)).toArray) (.agg (bs.map (Value.int .i64)).toArray)).run P w = .ok (as == bs) w := by
    rw [run_equalIn_struct (P := P) w 9999 t _ _ (by rw [hfo]; exact hu) hp, hfo]
    simpa using e
  rw [Sem.run_bind, run_eqGuard_agg w op t x y _ _ hm, Result.andThen_ok]
  rcases hop with rfl | rfl
  · rw [run_eql_struct, he]; rfl
  · rw [run_neq_struct, he]; rfl

theorem eqA_bool {t : TypeId} (hu : P.underlying t = some .bool) (x y : Operand) (a b : Bool) : EqA P t x y (.pv (.bool a)) (.pv (.bool b)) (a == b) := by
  intro X w u v h12 h1 h2 op hop
  have e1 := h1.pv_inv
  have e2 := h2.pv_inv
  subst e1 e2
  have he : (Op.equal t (.bool a) (.bool b)).run P w = .ok (a == b) w := run_equalIn_bool w 9999 t a b hu
  rcases hop with rfl | rfl
  · simp [eqGuard, binOp, he, litOp]
  · simp [eqGuard, binOp, he, litOp]

/-- No row is longer than the model lets it be. -/
theorem ex_rowlen {n : Nat} {c : Code} {fr : Fr} {h : Hp} {Q : Exit → Fr → Hp → Prop} (t : Nat) {m : Bool} {ty sz : Nat} {xs : List (List AV)} (ht : fr.get t = some (.row (.rd m) ty sz xs)) (hx : xs.length ≤ 9223372036854775807 → Ex P n c fr h Q) : Ex P n c fr h Q := fun X B a w hS hF hd => by
  obtain ⟨v, h1, h2⟩ := hF.slot t _ ht
  obtain ⟨A, cp, u, e, g1, g2, _⟩ := h2.row_inv
  refine hx ?_ X B a w hS hF hd
  unfold maxLen at g2
  omega
theorem ex_rowlenm {α : Type} {f : α → List AV} {l : List α} {n : Nat} {c : Code} {fr : Fr} {h : Hp} {Q : Exit → Fr → Hp → Prop} (t : Nat) {m : Bool} {ty sz : Nat} (ht : fr.get t = some (.row (.rd m) ty sz (l.map f))) (hx : l.length ≤ 9223372036854775807 → Ex P n c fr h Q) : Ex P n c fr h Q :=
  ex_rowlen t ht (fun hl => hx (by rwa [List.length_map] at hl))
end Go.Proofs.Ytcleiaibcfocdaa.Am
