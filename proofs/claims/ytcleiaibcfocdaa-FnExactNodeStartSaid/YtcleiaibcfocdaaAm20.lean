/- The abstract machine, part 20: values and entries under other numbers and generations. -/
import Derived.Test.YtcleiaibcfocdaaAm19
set_option linter.unusedVariables false
set_option linter.unusedSimpArgs false
namespace Go.Proofs.Ytcleiaibcfocdaa.Am
open Go Go.RowKit
variable {P : Program}

abbrev Gn := Nat → Nat
def gl (L : List Nat) : Gn := fun i => L.getD i 0
def idf : Gn := fun i => i

/-! a value's instance: its ids by ρ, the generations by c (what the value itself says of generations counts for nothing) -/
def inB (ρ c : Gn) : AV → AV
  | .ref i _ => .ref (ρ i) (c i)
  | .bsl i _ a b => .bsl (ρ i) (c i) a b
  | .cut i _ a b => .cut (ρ i) (c i) a b
  | .ptr i _ a => .ptr (ρ i) (c i) a
  | .elt i _ a b => .elt (ρ i) (c i) a b
  | .mp i _ => .mp (ρ i) (c i)
  | a => a
def bndB (m : Nat) : AV → Bool
  | .ref i _ => Nat.blt i m
  | .bsl i _ _ _ => Nat.blt i m
  | .cut i _ _ _ => Nat.blt i m
  | .ptr i _ _ => Nat.blt i m
  | .elt i _ _ _ => Nat.blt i m
  | .mp i _ => Nat.blt i m
  | .any => true
  | .pv _ => true
  | .row _ _ _ _ => true
  | .iel _ => true
  | _ => false
def inD (ρ c : Gn) : AV → AV
  | .agg cs => .agg (cs.map (inB ρ c))
  | a => inB ρ c a
def bndD (m : Nat) : AV → Bool
  | .agg cs => cs.all (bndB m)
  | a => bndB m a
def inC (ρ c : Gn) : AV → AV
  | .fn f a b => .fn f (a.map (inB ρ c)) (b.map (inB ρ c))
  | .ifc t a => .ifc t (inD ρ c a)
  | a => inB ρ c a
def bndC (m : Nat) : AV → Bool
  | .fn _ a b => a.all (bndB m) && b.all (bndB m)
  | .ifc _ a => bndD m a
  | a => bndB m a
def inA (ρ c : Gn) : AV → AV
  | .agg cs => .agg (cs.map (inC ρ c))
  | a => inC ρ c a
def bndA (m : Nat) : AV → Bool
  | .agg cs => cs.all (bndC m)
  | a => bndC m a
def inT (ρ c : Gn) : AV → AV
  | .tup cs => .tup (cs.map (inA ρ c))
  | a => inA ρ c a
def bndT (m : Nat) : AV → Bool
  | .tup cs => cs.all (bndA m)
  | a => bndA m a

/-- What X knows of (ρ, c) Y knows of (ρ', c'). -/
structure Sim (m : Nat) (ρ c ρ' c' : Gn) (X Y : Cx) : Prop where
  ok1 : ∀ b, X.ok1 b → Y.ok1 b
  ok2 : ∀ b, X.ok2 b → Y.ok2 b
  bx : ∀ i, i < m → Y.bx (ρ' i) (c' i) = X.bx (ρ i) (c i)
  rw : ∀ i, i < m → Y.rw (ρ' i) (c' i) = X.rw (ρ i) (c i)

theorem CR.wid {X Y : Cx} {w : World} {a : AV} {v : Value} (h1 : ∀ b, X.ok1 b → Y.ok1 b) (h2 : ∀ b, X.ok2 b → Y.ok2 b) (h12 : ∀ b, X.ok1 b → X.ok2 b) (h : CR X.ok1 X.ok2 w a v) : CR Y.ok1 Y.ok2 w a v :=
  h.mono h1 h2 h12 (fun _ _ => rfl)
theorem blt_lt {i m : Nat} (h : Nat.blt i m = true) : i < m := Nat.le_of_ble_eq_true h
theorem lt_blt {i m : Nat} (h : i < m) : Nat.blt i m = true := Nat.ble_eq_true_of_le h

theorem VR.ifc_inv {X : Cx} {w : World} {t : TypeId} {a : AV} {v : Value} (h : VR X w (.ifc t a) v) : ∃ u, v = .iface t u ∧ VR X w a u := by
  cases h with
  | cl h => cases h with
    | ifc _ _ u h => exact ⟨u, rfl, .cl h⟩
  | ifc _ _ u h => exact ⟨u, rfl, h⟩

theorem map_tr {R R' : AV → Value → Prop} {f f' : AV → AV} {cs : List AV} {us : List Value} (hf : ∀ a v, a ∈ cs → R (f a) v → R' (f' a) v) (h : ∀ (i : Nat) (y : AV) (u : Value), (cs.map f)[i]? = some y → us[i]? = some u → R y u) :
    ∀ (i : Nat) (y : AV) (u : Value), (cs.map f')[i]? = some y → us[i]? = some u → R' y u := by
  intro i y u hy hu
  rw [List.getElem?_map] at hy
  cases hc : cs[i]? with
  | none => rw [hc] at hy; cases hy
  | some c =>
    rw [hc] at hy
    have : f' c = y := by simpa using hy
    rw [← this]
    exact hf c u (List.mem_of_getElem? hc) (h i (f c) u (by rw [List.getElem?_map, hc]; rfl) hu)

theorem inB_one {ρ c : Gn} (a : AV) : (inB ρ c a).one = a.one := by cases a <;> rfl
theorem inC_one {ρ c : Gn} (a : AV) : (inC ρ c a).one = a.one := by cases a <;> rfl
theorem inC_ow {ρ c : Gn} (a : AV) : (inC ρ c a).isOw = a.isOw := by
  cases a with
  | row m _ _ _ => cases m <;> rfl
  | _ => rfl

section
variable {m : Nat} {ρ c ρ' c' : Gn} {X Y : Cx} {w : World} (S : Sim m ρ c ρ' c' X Y) (h12 : ∀ b, X.ok1 b → X.ok2 b)
include S h12
theorem inB_tr {a : AV} {v : Value} (hb : bndB m a = true) (h : VR X w (inB ρ c a) v) : VR Y w (inB ρ' c' a) v := by
  cases a <;> simp only [bndB, Bool.false_eq_true] at hb <;> simp only [inB] at h ⊢
  case any => exact .any v
  case pv u => rw [h.pv_inv]; exact .pv u
  case row md ty sz xs =>
    cases h with
    | owd v h => exact .owd v h
    | cl h => exact .cl (h.wid S.ok1 S.ok2 h12)
  case ref => obtain ⟨A, n, c, sz, rfl, hr⟩ := h.ref_inv; exact .ref ((S.rw _ (blt_lt hb)).trans hr)
  case bsl => obtain ⟨b, c, rfl, h1, h2, h3⟩ := h.bsl_inv; exact .bsl ((S.bx _ (blt_lt hb)).trans h1) h2 h3
  case cut => obtain ⟨A, A', n, c, c', sz, rfl, h1, h2, h3, h4, h5, h6⟩ := h.cut_inv; exact .cut ((S.rw _ (blt_lt hb)).trans h1) h2 h3 h4 h5 h6
  case ptr => obtain ⟨b, rfl, h1⟩ := h.ptr_inv; exact .ptr ((S.bx _ (blt_lt hb)).trans h1)
  case elt => obtain ⟨ad, n, c, sz, rfl, h1⟩ := h.elt_inv; exact .elt ((S.rw _ (blt_lt hb)).trans h1)
  case iel =>
    obtain ⟨ad, u, rfl, h1, h2, h3, h4⟩ := h.iel_inv
    exact .iel ad u (S.ok2 _ h1) h2 h3 (fun i y hy => (h4 i y hy).wid S.ok1 S.ok2 h12)
  case mp =>
    cases h with
    | cl h => cases h
    | mp h => exact .mp ((S.bx _ (blt_lt hb)).trans h)
theorem inB_all {cs : List AV} {us : List Value} (hb : (cs.all (bndB m)) = true) (h : VRs X w (cs.map (inB ρ c)) us) : VRs Y w (cs.map (inB ρ' c')) us := by
  rw [List.all_eq_true] at hb
  refine ⟨by simpa using h.len, fun i y hy => ?_, map_tr (fun a v ha hr => inB_tr S h12 (hb a ha) hr) h.rel⟩
  rw [List.getElem?_map] at hy
  cases hc : cs[i]? with
  | none => rw [hc] at hy; cases hy
  | some a =>
    rw [hc] at hy
    have : inB ρ' c' a = y := by simpa using hy
    rw [← this, inB_one]
    have := h.one i (inB ρ c a) (by rw [List.getElem?_map, hc]; rfl)
    rwa [inB_one] at this
theorem inD_tr {a : AV} {v : Value} (hb : bndD m a = true) (h : VR X w (inD ρ c a) v) : VR Y w (inD ρ' c' a) v := by
  have base : bndB m a = true → inD ρ c a = inB ρ c a → inD ρ' c' a = inB ρ' c' a → VR Y w (inD ρ' c' a) v := fun h1 h2 h3 => by rw [h3]; rw [h2] at h; exact inB_tr S h12 h1 h
  cases a with
  | agg cs =>
    obtain ⟨us, rfl, hu⟩ := h.agg_inv
    exact (inB_all S h12 hb hu).agg
  | _ => exact base hb rfl rfl
theorem inC_tr {a : AV} {v : Value} (hb : bndC m a = true) (h : VR X w (inC ρ c a) v) : VR Y w (inC ρ' c' a) v := by
  have base : bndB m a = true → inC ρ c a = inB ρ c a → inC ρ' c' a = inB ρ' c' a → VR Y w (inC ρ' c' a) v := fun h1 h2 h3 => by rw [h3]; rw [h2] at h; exact inB_tr S h12 h1 h
  cases a with
  | fn f fi cap =>
    simp only [bndC, Bool.and_eq_true, List.all_eq_true] at hb
    obtain ⟨us, vs, rfl, h1, h2, h3, h4⟩ := h.fn_inv
    exact .fn us vs (by simpa using h1) (by simpa using h2) (map_tr (fun a v ha hr => inB_tr S h12 (hb.1 a ha) hr) h3) (map_tr (fun a v ha hr => inB_tr S h12 (hb.2 a ha) hr) h4)
  | ifc t b =>
    obtain ⟨u, rfl, h1⟩ := h.ifc_inv
    exact .ifc t _ u (inD_tr S h12 hb h1)
  | _ => exact base hb rfl rfl
theorem inC_all {cs : List AV} {us : List Value} (hb : (cs.all (bndC m)) = true) (h : VRs X w (cs.map (inC ρ c)) us) : VRs Y w (cs.map (inC ρ' c')) us := by
  rw [List.all_eq_true] at hb
  refine ⟨by simpa using h.len, fun i y hy => ?_, map_tr (fun a v ha hr => inC_tr S h12 (hb a ha) hr) h.rel⟩
  rw [List.getElem?_map] at hy
  cases hc : cs[i]? with
  | none => rw [hc] at hy; cases hy
  | some a =>
    rw [hc] at hy
    have : inC ρ' c' a = y := by simpa using hy
    rw [← this, inC_one]
    have := h.one i (inC ρ c a) (by rw [List.getElem?_map, hc]; rfl)
    rwa [inC_one] at this
theorem inA_tr {a : AV} {v : Value} (hb : bndA m a = true) (h : VR X w (inA ρ c a) v) : VR Y w (inA ρ' c' a) v := by
  have base : bndC m a = true → inA ρ c a = inC ρ c a → inA ρ' c' a = inC ρ' c' a → VR Y w (inA ρ' c' a) v := fun h1 h2 h3 => by rw [h3]; rw [h2] at h; exact inC_tr S h12 h1 h
  cases a with
  | agg cs =>
    obtain ⟨us, rfl, hu⟩ := h.agg_inv
    exact (inC_all S h12 hb hu).agg
  | _ => exact base hb rfl rfl
theorem inT_tr {a : AV} {v : Value} (hb : bndT m a = true) (h : VR X w (inT ρ c a) v) : VR Y w (inT ρ' c' a) v := by
  have base : bndA m a = true → inT ρ c a = inA ρ c a → inT ρ' c' a = inA ρ' c' a → VR Y w (inT ρ' c' a) v := fun h1 h2 h3 => by rw [h3]; rw [h2] at h; exact inA_tr S h12 h1 h
  cases a with
  | tup cs =>
    simp only [bndT, List.all_eq_true] at hb
    obtain ⟨us, rfl, g1, g2⟩ := h.tup_inv
    exact .tup us (by simpa using g1) (map_tr (fun a v ha hr => inA_tr S h12 (hb a ha) hr) g2)
  | _ => exact base hb rfl rfl
/-- An entry's cells. -/
theorem TRs.tr : ∀ {cs : List AV} {us : List Value} {T : List Nat}, (cs.all (bndC m)) = true → TRs X w (cs.map (inC ρ c)) us T → TRs Y w (cs.map (inC ρ' c')) us T
  | [], us, T, _, h => by
    generalize hl : ([] : List AV).map (inC ρ c) = l at h
    cases h with
    | nil => exact .nil
    | vr => cases hl
    | own => cases hl
  | a :: cs, us, T, hb, h => by
    rw [List.all_cons, Bool.and_eq_true] at hb
    generalize hl : (a :: cs).map (inC ρ c) = l at h
    cases h with
    | nil => cases hl
    | vr h1 h2 h t =>
      rw [List.map_cons] at hl
      injection hl with e1 e2
      subst e1 e2
      exact .vr (by rw [inC_one] at h1 ⊢; exact h1) (by rw [inC_ow] at h2 ⊢; exact h2) (inC_tr S h12 hb.1 h) (TRs.tr hb.2 t)
    | @own _ _ ty sz xs v ws S' _ us' S2 ho hlen hi t =>
      rw [List.map_cons] at hl
      injection hl with e1 e2
      subst e2
      have ha : a = .row .ow ty sz xs := by
        cases a <;> simp only [inC, inB] at e1 <;> first | exact e1 | cases e1
      subst ha
      exact .own ho hlen (hi.mono ⟨S.ok1, S.ok2, fun _ _ _ h => (by cases h), fun _ _ _ h => (by cases h)⟩ h12 (fun _ _ => rfl) (fun _ _ => rfl)) (TRs.tr hb.2 t)
end

/-! ### entries -/
def inE (ρ c : Gn) : Ent → Ent
  | .box ty cs => .box ty (cs.map (inC ρ c))
  | e => e
def AV.flatA : AV → Bool
  | .agg cs => cs.all AV.flat
  | a => a.flat
/-- An entry that names ids below m alone, and in a box alone. -/
def BndE (m : Nat) : Ent → Prop
  | .dead => True
  | .box _ cs => (cs.all (bndC m)) = true
  | .row _ _ xs => FlatR xs
  | .map es => ∀ p ∈ es, p.2.flatA = true
  | .chn _ _ _ => True
theorem VR.flatA {X Y : Cx} {w : World} {a : AV} {v : Value} (h : VR X w a v) (hf : a.flatA = true) (h1 : ∀ b, X.ok1 b → Y.ok1 b) (h2 : ∀ b, X.ok2 b → Y.ok2 b) (h12 : ∀ b, X.ok1 b → X.ok2 b) : VR Y w a v := by
  have base : a.flat = true → VR Y w a v := fun h' => h.flat h' h1 h2 h12
  cases a with
  | agg cs =>
    simp only [AV.flatA, List.all_eq_true] at hf
    obtain ⟨us, rfl, hu⟩ := h.agg_inv
    exact VRs.agg ⟨hu.len, hu.one, fun i y u hy hu' => (hu.rel i y u hy hu').flat (hf y (List.mem_of_getElem? hy)) h1 h2 h12⟩
  | _ => exact base hf

theorem EntOK.tr {m : Nat} {ρ c ρ' c' : Gn} {X Y : Cx} {w : World} (S : Sim m ρ c ρ' c' X Y) (h12 : ∀ b, X.ok1 b → X.ok2 b) {i : Nat} (hi : i < m) {F : List Nat} {e : Ent} (hb : BndE m e) (h : EntOK X w (ρ i) (c i) F (inE ρ c e)) : EntOK Y w (ρ' i) (c' i) F (inE ρ' c' e) := by
  cases e with
  | dead => trivial
  | box ty cs =>
    obtain ⟨b, us, T, h1, h2, h3, h4, h5⟩ := h
    exact ⟨b, us, T, (S.bx _ hi).trans h1, h2, h3.tr S h12 hb, h4, h5⟩
  | row ty sz xs =>
    obtain ⟨v, us, T, h1, h2, h3, h4, h5, h6⟩ := h
    refine ⟨v, us, T, (S.rw _ hi).trans h1, h2, h3, h4.flat S.ok1 S.ok2 h12 (fun a ha => ?_), h5, h6⟩
    obtain ⟨x, hx, hax⟩ := List.mem_flatten.1 ha
    exact hb x hx a hax
  | map es =>
    obtain ⟨b, en, h1, h2, h3, h4, h5⟩ := h
    refine ⟨b, en, (S.bx _ hi).trans h1, h2, h3, h4, fun j k a e hj he => ?_⟩
    obtain ⟨g1, g2, g3⟩ := h5 j k a e hj he
    exact ⟨g1, g2.flatA (hb (k, a) (List.mem_of_getElem? hj)) S.ok1 S.ok2 h12, g3⟩
  | chn ty lty xs =>
    obtain ⟨b, bs, uss, h1, h2, h3, h4, h5, h6, h7, h8⟩ := h
    exact ⟨b, bs, uss, (S.bx _ hi).trans h1, h2, h3, h4, h5, fun i x us hx hu => (h6 i x us hx hu).mono S.ok1 S.ok2 h12 (fun _ _ => rfl), h7, h8⟩

def insH (ρ c : Gn) (p : Nat × (Nat × Ent)) : Nat × (Nat × Ent) := (ρ p.1, (c p.1, inE ρ c p.2.2))
theorem gl_inj {L : List Nat} (h : L.Nodup) {i k : Nat} (hi : i < L.length) (hk : k < L.length) (e : gl L i = gl L k) : i = k := by
  simp only [gl, List.getD_eq_getElem?_getD, List.getElem?_eq_getElem hi, List.getElem?_eq_getElem hk, Option.getD_some] at e
  have hp := List.pairwise_iff_getElem.1 h
  rcases Nat.lt_trichotomy i k with h2 | h2 | h2
  · exact absurd e (hp i k hi hk h2)
  · exact h2
  · exact absurd e.symm (hp k i hk hi h2)
theorem wfind_ins {ρ c : Gn} {m : Nat} (hρ : ∀ i k, i < m → k < m → ρ i = ρ k → i = k) : ∀ {H : Hp}, (∀ p ∈ H, p.1 < m) → ∀ i, i < m → wfind (H.map (insH ρ c)) (ρ i) = (wfind H i).map fun ge => (c i, inE ρ c ge.2)
  | [], _, i, _ => rfl
  | (k, ge) :: H, hH, i, hi => by
    rw [List.map_cons]
    show wfind ((ρ k, (c k, inE ρ c ge.2)) :: H.map (insH ρ c)) (ρ i) = _
    rw [wfind_cons, wfind_cons]
    have hk : k < m := hH (k, ge) (by simp)
    by_cases e : k = i
    · subst e; rw [if_pos rfl, if_pos rfl]; rfl
    · rw [if_neg e, if_neg (fun h => e (hρ k i hk hi h))]
      exact wfind_ins hρ (fun p hp => hH p (by simp [hp])) i hi
theorem wfind_ins_none {ρ c : Gn} {m : Nat} : ∀ {H : Hp}, (∀ p ∈ H, p.1 < m) → ∀ j, (∀ i, i < m → ρ i ≠ j) → wfind (H.map (insH ρ c)) j = none
  | [], _, j, _ => rfl
  | (k, ge) :: H, hH, j, hj => by
    rw [List.map_cons]
    show wfind ((ρ k, (c k, inE ρ c ge.2)) :: H.map (insH ρ c)) j = _
    rw [wfind_cons, if_neg (hj k (hH (k, ge) (by simp)))]
    exact wfind_ins_none (fun p hp => hH p (by simp [hp])) j hj
theorem wfind_in {H : Hp} {i : Nat} {ge : Nat × Ent} : wfind H i = some ge → (i, ge) ∈ H := by
  induction H with
  | nil => intro h; cases h
  | cons p H ih =>
    obtain ⟨k, g⟩ := p
    rw [wfind_cons]
    split
    · rename_i e; intro h; cases h; subst e; simp
    · intro h; exact List.mem_cons_of_mem _ (ih h)
theorem wfind_append (a b : Hp) (id : Nat) : wfind (a ++ b) id = match wfind a id with
    | some ge => some ge
    | none => wfind b id := by
  induction a with
  | nil => rfl
  | cons p a ih =>
    obtain ⟨k, g⟩ := p
    rw [List.cons_append, wfind_cons, wfind_cons]
    split
    · rfl
    · exact ih
def hasN : Hp → Nat → Bool
  | [], _ => false
  | (i, _) :: r, k => Nat.beq i k || hasN r k
theorem hasN_iff {U : Hp} {k : Nat} : hasN U k = (wfind U k).isSome := by
  induction U with
  | nil => rfl
  | cons p U ih =>
    obtain ⟨i, ge⟩ := p
    rw [wfind_cons]
    simp only [hasN, ih]
    by_cases e : i = k
    · subst e; simp
    · rw [if_neg e]
      have : Nat.beq i k = false := by
        cases hb : Nat.beq i k
        · rfl
        · exact absurd (Nat.eq_of_beq_eq_true hb) e
      simp [this]
/-- What is left of the entries where others take their place. -/
def restH (U : Hp) : Hp → Hp
  | [] => []
  | p :: I => match hasN U p.1 with
    | true => restH U I
    | false => p :: restH U I
theorem restH_find {U : Hp} : ∀ {I : Hp} {k : Nat}, wfind (restH U I) k = if hasN U k then none else wfind I k
  | [], k => by simp [restH, wfind_nil]
  | (i, ge) :: I, k => by
    rw [restH]
    have ih := restH_find (U := U) (I := I) (k := k)
    split
    · rename_i h
      simp only at h
      rw [ih, wfind_cons]
      by_cases e : i = k
      · subst e; simp [h]
      · rw [if_neg e]
    · rename_i h
      simp only at h
      rw [wfind_cons, wfind_cons, ih]
      by_cases e : i = k
      · subst e; simp [h]
      · rw [if_neg e, if_neg e]
theorem restH_mem {U : Hp} : ∀ {I : Hp} {p : Nat × (Nat × Ent)}, p ∈ restH U I → p ∈ I
  | [], p, h => h
  | q :: I, p, h => by
    rw [restH] at h
    split at h
    · exact List.mem_cons_of_mem _ (restH_mem h)
    · rcases List.mem_cons.1 h with e | h
      · subst e; simp
      · exact List.mem_cons_of_mem _ (restH_mem h)
end Go.Proofs.Ytcleiaibcfocdaa.Am
