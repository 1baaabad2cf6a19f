/- The abstract machine, part 32: rows of one's own given up out of a box's cell; nil slices in a row's elements taken for rows of one's own. -/
import Derived.Test.YtcleiaibcfocdaaAm31
set_option linter.unusedVariables false
set_option linter.unusedSimpArgs false
namespace Go.Proofs.Ytcleiaibcfocdaa.Am
open Go Go.RowKit
variable {P : Program} {n : Nat} {fr : Fr} {h : Hp} {Q : Exit → Fr → Hp → Prop}

theorem TRs.swap {X : Cx} {w : World} {cs1 cs2 : List AV} {a b v : _} {us1 us2 : List Value} {S : List Nat} (hl : us1.length = cs1.length) (h : TRs X w (cs1 ++ a :: cs2) (us1 ++ v :: us2) S) (ha : a.isOw = false) (hb1 : b.one = true) (hb2 : b.isOw = false) (hv : VR X w b v) : TRs X w (cs1 ++ b :: cs2) (us1 ++ v :: us2) S := by
  obtain ⟨us1', v', us2', S1, S0, S2, he, rfl, l1, t1, tm, t2⟩ := h.mid
  obtain ⟨e1, e2⟩ := List.append_inj he (by omega)
  cases e2
  subst e1
  have : S0 = [] := by
    generalize hl : [a] = l at tm
    cases tm with
    | vr _ _ _ t => cases hl; cases t; rfl
    | own => cases hl; cases ha
  subst this
  exact t1.append (.vr hb1 hb2 hv t2)

theorem ex_frzB {c : Code} {h' : Hp} (id off : Nat) {g ty : Nat} {cs cs' : List AV} {a b : AV} (hh : wfind h id = some (g, .box ty cs)) (hc : cs[off]? = some a) (ha : a.isOw = false) (hf' : FinL h [a] [b] h') (hh' : wfind h' id = some (g, .box ty cs)) (hb1 : b.one = true) (hb2 : b.isOw = false) (hcs : cs.set off b = cs')
    (k : Ex P n c fr ((id, (g, .box ty cs')) :: h') Q) : Ex P n c fr h Q := fun X B A w hS hF hd => by
  subst hcs
  obtain ⟨F, hS0⟩ := hS
  obtain ⟨p1, p2⟩ := cells_parts hc
  obtain ⟨b0, us, S, h1, h2, h3, h4, h5⟩ := hS0.ent id g _ hh
  rw [p1] at h3
  obtain ⟨us1, v, us2, S1, S0, S2, rfl, rfl, l1, t1, tm, t2⟩ := h3.mid
  have hv : VR X w a v := by
    have := tm.vrs
    exact this.rel 0 _ _ rfl rfl
  obtain ⟨Y, k1, k2, k3⟩ := hf'.sound ⟨F, hS0⟩ (vs := [v]) rfl (fun i a' v' ha hv' => by
    cases i with
    | zero => simp only [List.getElem?_cons_zero, Option.some.injEq] at ha hv'; subst ha hv'; exact hv
    | succ i => simp at ha)
  have hb := k3 0 b v rfl rfl
  obtain ⟨F', hS'⟩ := k2
  have hS2 : SRh Y B (upd (hf h') id (g, .box ty (cs.set off b))) w := hS'.re hh' fun hE => by
    obtain ⟨b1, us', S', g1, g2, g3, g4, g5⟩ := hE
    have e1 : b1 = b0 := by
      have := k1.bx _ _ _ h1
      rw [g1] at this; exact Option.some.inj this
    subst e1
    have e2 : us' = us1 ++ v :: us2 := by
      rw [h2] at g2
      have := Option.some.inj g2
      injection this with this
      exact (List.toArray_inj this).symm
    subst e2
    rw [p1] at g3
    exact ⟨b1, _, S', g1, g2, by rw [p2]; exact TRs.swap l1 g3 ha hb1 hb2 (.cl hb), g4, g5⟩
  rw [← hf_cons] at hS2
  refine wp_mono (k Y B A w hS2 (hF.mono k1 hS0.ok12 (fun _ _ => rfl)) hd) fun e a' w' ⟨fr', h'', X', q1, q2, q3, q4, q5, q6⟩ => ⟨fr', h'', X', q1, k1.trans q2, q3, q4, q5, fun b hb => q6 b (k1.ok2 b hb)⟩

/-- Nil slices in cells taken for rows of one's own. -/
inductive NilL : List AV → List AV → Prop
  | nil : NilL [] []
  | same {c : AV} {r r' : List AV} (t : NilL r r') : NilL (c :: r) (c :: r')
  | own {ty sz : Nat} {r r' : List AV} (t : NilL r r') : NilL (.pv (.slice none 0 0) :: r) (.row .ow ty sz [] :: r')
theorem NilL.len {a b : List AV} (k : NilL a b) : b.length = a.length := by
  induction k with
  | nil => rfl
  | same _ ih => simp [ih]
  | own _ ih => simp [ih]
theorem NilL.append {a b c d : List AV} (k : NilL a b) (m : NilL c d) : NilL (a ++ c) (b ++ d) := by
  induction k with
  | nil => exact m
  | same _ ih => exact .same ih
  | own _ ih => exact .own ih
theorem NilL.flatten {α : Type} {f f' : α → List AV} (hf : ∀ a, NilL (f a) (f' a)) : ∀ l : List α, NilL (l.map f).flatten (l.map f').flatten
  | [] => .nil
  | a :: l => by simp only [List.map_cons, List.flatten_cons]; exact (hf a).append (NilL.flatten hf l)
theorem TRs.nilL {a b : List AV} (k : NilL a b) : ∀ {X : Cx} {w : World} {us : List Value} {S : List Nat}, TRs X w a us S → TRs X w b us S := by
  induction k with
  | nil => exact fun h => h
  | same _ ih => intro X w us S h; cases h with
    | vr h1 h2 h t => exact .vr h1 h2 h (ih t)
    | own h1 h2 h t => exact .own h1 h2 h (ih t)
  | @own ty sz r r' _ ih => intro X w us S h; cases h with
    | vr h1 h2 h t =>
      rw [h.pv_inv]
      exact .own (X := X) (w := w) (xs := []) (ws := []) (S' := []) (v := .slice none 0 0) ⟨by simp, .inl ⟨none, rfl, rfl⟩⟩ (fun j x hx => by simp at hx) .nil (ih t)
theorem ex_ownM {α : Type} {f f' : α → List AV} {l : List α} {c : Code} (id : Nat) {g ty sz : Nat} (hh : wfind h id = some (g, .row ty sz (l.map f))) (hf' : ∀ a, NilL (f a) (f' a))
    (k : Ex P n c fr ((id, (g, .row ty sz (l.map f'))) :: h) Q) : Ex P n c fr h Q := by
  refine ex_of_sr (fun X B w hS => ⟨X, Cx.le.refl X, rfl, ?_⟩) k
  obtain ⟨F, hS⟩ := hS
  rw [hf_cons]
  refine hS.re hh fun hE => ?_
  obtain ⟨v, us, S, h1, h2, h3, h4, h5, h6⟩ := hE
  refine ⟨v, us, S, h1, by rw [List.length_map] at h2 ⊢; exact h2, fun j y hj => ?_, TRs.nilL (NilL.flatten hf' l) h4, h5, h6⟩
  rw [List.getElem?_map] at hj
  cases hl : l[j]? with
  | none => rw [hl] at hj; cases hj
  | some a =>
    rw [hl] at hj
    cases hj
    rw [(hf' a).len]
    exact h3 j (f a) (by rw [List.getElem?_map, hl]; rfl)
end Go.Proofs.Ytcleiaibcfocdaa.Am
