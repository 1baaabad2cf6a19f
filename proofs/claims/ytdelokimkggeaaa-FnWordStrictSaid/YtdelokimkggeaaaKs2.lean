/- Part 2 of the texts that the proof of LawFnWordStrict leans on, merged by program. -/
import Derived.Test.YtdelokimkggeaaaKs1
set_option linter.unusedVariables false
set_option linter.unusedSimpArgs false
set_option maxHeartbeats 4000000
set_option autoImplicit true
set_option relaxedAutoImplicit true
namespace Go.Proofs.Ytdelokimkggeaaa.Am
open Go Go.RowKit
section
variable {P : Program}
theorem FinL.pvs : ∀ {l : List AV}, (l.all AV.cl) = true → FinL h l l h
 | [], _ => .nil
 | a :: l, hc => by
  rw [List.all_cons, Bool.and_eq_true] at hc
  exact .cl hc.1 (FinL.pvs hc.2)
theorem z9z {tt : TT} (h1 : b6h tt fr h rs = some vs) (he : vs = outs) (hc : (outs.all AV.cl) = true) : ∃ l h', b6h tt fr h rs = some l ∧ FinL h l outs h' :=
 ⟨vs, h, h1, by subst he; exact FinL.pvs hc⟩

theorem b0f {n : Nat} {c : Code} {fr : Fr} {h : Hp} {Q : Exit → Fr → Hp → Prop} (t id e sz : Nat) {g : Nat} (ht : fr.get t = some (.pv (.slice none 0 0))) (hd : u8u h id = some (g, .dead)) (hx : Ex P n c ((t, .ref id (g + 1)) :: fr) ((id, (g + 1, .row e sz [])) :: h) Q) : Ex P n c fr h Q := by
 rintro X B a w ⟨F, hS⟩ hF hdf
 have hown : Own w e sz (.slice none 0 0) 0 [] := ⟨by simp, .inl ⟨none, rfl, rfl⟩⟩
 obtain ⟨hX, hS', hok⟩ := hS.newRow (id := id) hd (ty := e) (sz := sz) (xs := []) (us := []) (v := .slice none 0 0) (w' := w) (L := []) (S := []) (Grew.refl w _) (by simp) (by simp) List.nodup_nil hown (fun b hb => by simp [a3y] at hb) (fun j x hx => by simp at hx) .nil
 rw [← a3n] at hS'
 have hF' : FrOK (X.setR id (g + 1) (.slice none 0 0, sz)) w n (Fr.get ((t, .ref id (g + 1)) :: fr)) a := by
  refine ⟨hF.size, fun k av hk => ?_⟩
  rw [Fr.get_cons] at hk
  split at hk
  ·rename_i e
   subst e
   cases hk
   obtain ⟨v, h1, h2⟩ := hF.slot t _ ht
   have := h2.pv_inv
   subst this
   exact ⟨_, h1, .setR⟩
  ·exact (hF.mono hX hS.ok12 hok).slot k av hk
 refine wp_mono (hx _ B a w hS' hF' hdf) fun e a' w' hh => ?_
 obtain ⟨fr', h', X', k1, k2, k3, k4, k5, k6⟩ := hh
 exact ⟨fr', h', X', k1, hX.trans k2, k3, k4, k5, fun b hb => k6 b (hX.ok2 b hb)⟩
theorem w0w (h0 : -9223372036854775808 ≤ n) (h1 : n < 9223372036854775808) : IntKind.i64.wrap n = n := by
 rw [IntKind.wrap_i64]; omega
theorem Cov.cons' (h : F.get t = some av') (e : av' = av) (k : Cov f F) : Cov ((t, av) :: f) F := .cons (h.trans (by rw [e])) k
end
section
variable {P : Program}
abbrev Gn := Nat → Nat
def gl (L : List Nat) : Gn := fun i => L.getD i 0
def idf : Gn := fun i => i
def inB (ρ c : Gn) : AV → AV
 | .ref i _ => .ref (ρ i) (c i)
 | .bsl i _ a b => .bsl (ρ i) (c i) a b
 | .cut i _ a b => .cut (ρ i) (c i) a b
 | .ptr i _ a => .ptr (ρ i) (c i) a
 | .elt i _ a b => .elt (ρ i) (c i) a b
 | .mp i _ => .mp (ρ i) (c i)
 | a => a
def b9z (m : Nat) : AV → Bool
 | .ref i _ => Nat.blt i m
 | .bsl i _ _ _ => Nat.blt i m
 | .cut i _ _ _ => Nat.blt i m
 | .ptr i _ _ => Nat.blt i m
 | .elt i _ _ _ => Nat.blt i m
 | .mp i _ => Nat.blt i m
 | .any => true
 | .pv _ => true
 | .row _ _ _ _ => true
 | .iel _ => true
 | _ => false
def inD (ρ c : Gn) : AV → AV
 | .agg cs => .agg (cs.map (inB ρ c))
 | a => inB ρ c a
def c9g (m : Nat) : AV → Bool
 | .agg cs => cs.all (b9z m)
 | a => b9z m a
def inC (ρ c : Gn) : AV → AV
 | .fn f a b => .fn f (a.map (inB ρ c)) (b.map (inB ρ c))
 | .ifc t a => .ifc t (inD ρ c a)
 | a => inB ρ c a
def c0a (m : Nat) : AV → Bool
 | .fn _ a b => a.all (b9z m) && b.all (b9z m)
 | .ifc _ a => c9g m a
 | a => b9z m a
def inA (ρ c : Gn) : AV → AV
 | .agg cs => .agg (cs.map (inC ρ c))
 | a => inC ρ c a
def c4u (m : Nat) : AV → Bool
 | .agg cs => cs.all (c0a m)
 | a => c0a m a
def inT (ρ c : Gn) : AV → AV
 | .tup cs => .tup (cs.map (inA ρ c))
 | a => inA ρ c a
def c4v (m : Nat) : AV → Bool
 | .tup cs => cs.all (c4u m)
 | a => c4u m a

structure Sim (m : Nat) (ρ c ρ' c' : Gn) (X Y : Cx) : Prop where
 ok1 : ∀ b, X.ok1 b → Y.ok1 b
 ok2 : ∀ b, X.ok2 b → Y.ok2 b
 bx : ∀ i, i < m → Y.bx (ρ' i) (c' i) = X.bx (ρ i) (c i)
 rw : ∀ i, i < m → Y.rw (ρ' i) (c' i) = X.rw (ρ i) (c i)
variable {a : AV} {v : Value}
theorem CR.wid {X Y : Cx} {w : World} (h1 : ∀ b, X.ok1 b → Y.ok1 b) (h2 : ∀ b, X.ok2 b → Y.ok2 b) (h12 : ∀ b, X.ok1 b → X.ok2 b) (h : CR X.ok1 X.ok2 w a v) : CR Y.ok1 Y.ok2 w a v :=
 h.mono h1 h2 h12 (fun _ _ => rfl)
theorem a2t (h : Nat.blt i m = true) : i < m := Nat.le_of_ble_eq_true h
theorem VR.ifc_inv (h : VR X w (.ifc t a) v) : ∃ u, v = .iface t u ∧ VR X w a u := by
 cases h with
 | cl h => cases h with
  | ifc _ _ u h => exact ⟨u, rfl, .cl h⟩
 | ifc _ _ u h => exact ⟨u, rfl, h⟩
variable {cs : List AV} {us : List Value}
theorem b0g {R R' : AV → Value → Prop} {f f' : AV → AV} (hf : ∀ a v, a ∈ cs → R (f a) v → R' (f' a) v) (h : ∀ (i : Nat) (y : AV) (u : Value), (cs.map f)[i]? = some y → us[i]? = some u → R y u) :
  ∀ (i : Nat) (y : AV) (u : Value), (cs.map f')[i]? = some y → us[i]? = some u → R' y u := by
 intro i y u hy hu
 rw [List.getElem?_map] at hy
 cases hc : cs[i]? with
 | none => rw [hc] at hy; cases hy
 | some c =>
  rw [hc] at hy
  have : f' c = y := by simpa using hy
  rw [← this]
  exact hf c u (List.mem_of_getElem? hc) (h i (f c) u (by rw [List.getElem?_map, hc]; rfl) hu)
theorem c0b (a : AV) : (inB ρ c a).one = a.one := by cases a <;> rfl
theorem b6l (a : AV) : (inC ρ c a).one = a.one := by cases a <;> rfl
theorem c6u (a : AV) : (inC ρ c a).isOw = a.isOw := by
 cases a with
 | row m _ _ _ => cases m <;> rfl
 | _ => rfl
section
variable {m : Nat} {ρ c ρ' c' : Gn} {X Y : Cx} {w : World} (S : Sim m ρ c ρ' c' X Y) (h12 : ∀ b, X.ok1 b → X.ok2 b)
include S h12
theorem b4q (hb : b9z m a = true) (h : VR X w (inB ρ c a) v) : VR Y w (inB ρ' c' a) v := by
 cases a <;> simp only [b9z, Bool.false_eq_true] at hb <;> simp only [inB] at h ⊢
 case any => exact .any v
 case pv u => rw [h.pv_inv]; exact .pv u
 case row md ty sz xs =>
  cases h with
  | owd v h => exact .owd v h
  | cl h => exact .cl (h.wid S.ok1 S.ok2 h12)
 case ref => obtain ⟨A, n, c, sz, rfl, hr⟩ := h.ref_inv; exact .ref ((S.rw _ (a2t hb)).trans hr)
 case bsl => obtain ⟨b, c, rfl, h1, h2, h3⟩ := h.bsl_inv; exact .bsl ((S.bx _ (a2t hb)).trans h1) h2 h3
 case cut => obtain ⟨A, A', n, c, c', sz, rfl, h1, h2, h3, h4, h5, h6⟩ := h.cut_inv; exact .cut ((S.rw _ (a2t hb)).trans h1) h2 h3 h4 h5 h6
 case ptr => obtain ⟨b, rfl, h1⟩ := h.ptr_inv; exact .ptr ((S.bx _ (a2t hb)).trans h1)
 case elt => obtain ⟨ad, n, c, sz, rfl, h1⟩ := h.elt_inv; exact .elt ((S.rw _ (a2t hb)).trans h1)
 case iel =>
  obtain ⟨ad, u, rfl, h1, h2, h3, h4⟩ := h.iel_inv
  exact .iel ad u (S.ok2 _ h1) h2 h3 (fun i y hy => (h4 i y hy).wid S.ok1 S.ok2 h12)
 case mp =>
  cases h with
  | cl h => cases h
  | mp h => exact .mp ((S.bx _ (a2t hb)).trans h)
theorem c4w (hb : (cs.all (b9z m)) = true) (h : VRs X w (cs.map (inB ρ c)) us) : VRs Y w (cs.map (inB ρ' c')) us := by
 rw [List.all_eq_true] at hb
 refine ⟨by simpa using h.len, fun i y hy => ?_, b0g (fun a v ha hr => b4q S h12 (hb a ha) hr) h.rel⟩
 rw [List.getElem?_map] at hy
 cases hc : cs[i]? with
 | none => rw [hc] at hy; cases hy
 | some a =>
  rw [hc] at hy
  have : inB ρ' c' a = y := by simpa using hy
  rw [← this, c0b]
  have := h.one i (inB ρ c a) (by rw [List.getElem?_map, hc]; rfl)
  rwa [c0b] at this
theorem c6v (hb : c9g m a = true) (h : VR X w (inD ρ c a) v) : VR Y w (inD ρ' c' a) v := by
 have base : b9z m a = true → inD ρ c a = inB ρ c a → inD ρ' c' a = inB ρ' c' a → VR Y w (inD ρ' c' a) v := fun h1 h2 h3 => by rw [h3]; rw [h2] at h; exact b4q S h12 h1 h
 cases a with
 | agg cs =>
  obtain ⟨us, rfl, hu⟩ := h.agg_inv
  exact (c4w S h12 hb hu).agg
 | _ => exact base hb rfl rfl
theorem c0d (hb : c0a m a = true) (h : VR X w (inC ρ c a) v) : VR Y w (inC ρ' c' a) v := by
 have base : b9z m a = true → inC ρ c a = inB ρ c a → inC ρ' c' a = inB ρ' c' a → VR Y w (inC ρ' c' a) v := fun h1 h2 h3 => by rw [h3]; rw [h2] at h; exact b4q S h12 h1 h
 cases a with
 | fn f fi cap =>
  simp only [c0a, Bool.and_eq_true, List.all_eq_true] at hb
  obtain ⟨us, vs, rfl, h1, h2, h3, h4⟩ := h.fn_inv
  exact .fn us vs (by simpa using h1) (by simpa using h2) (b0g (fun a v ha hr => b4q S h12 (hb.1 a ha) hr) h3) (b0g (fun a v ha hr => b4q S h12 (hb.2 a ha) hr) h4)
 | ifc t b =>
  obtain ⟨u, rfl, h1⟩ := h.ifc_inv
  exact .ifc t _ u (c6v S h12 hb h1)
 | _ => exact base hb rfl rfl
theorem c4x (hb : (cs.all (c0a m)) = true) (h : VRs X w (cs.map (inC ρ c)) us) : VRs Y w (cs.map (inC ρ' c')) us := by
 rw [List.all_eq_true] at hb
 refine ⟨by simpa using h.len, fun i y hy => ?_, b0g (fun a v ha hr => c0d S h12 (hb a ha) hr) h.rel⟩
 rw [List.getElem?_map] at hy
 cases hc : cs[i]? with
 | none => rw [hc] at hy; cases hy
 | some a =>
  rw [hc] at hy
  have : inC ρ' c' a = y := by simpa using hy
  rw [← this, b6l]
  have := h.one i (inC ρ c a) (by rw [List.getElem?_map, hc]; rfl)
  rwa [b6l] at this
theorem c0e (hb : c4u m a = true) (h : VR X w (inA ρ c a) v) : VR Y w (inA ρ' c' a) v := by
 have base : c0a m a = true → inA ρ c a = inC ρ c a → inA ρ' c' a = inC ρ' c' a → VR Y w (inA ρ' c' a) v := fun h1 h2 h3 => by rw [h3]; rw [h2] at h; exact c0d S h12 h1 h
 cases a with
 | agg cs =>
  obtain ⟨us, rfl, hu⟩ := h.agg_inv
  exact (c4x S h12 hb hu).agg
 | _ => exact base hb rfl rfl
theorem c3r (hb : c4v m a = true) (h : VR X w (inT ρ c a) v) : VR Y w (inT ρ' c' a) v := by
 have base : c4u m a = true → inT ρ c a = inA ρ c a → inT ρ' c' a = inA ρ' c' a → VR Y w (inT ρ' c' a) v := fun h1 h2 h3 => by rw [h3]; rw [h2] at h; exact c0e S h12 h1 h
 cases a with
 | tup cs =>
  simp only [c4v, List.all_eq_true] at hb
  obtain ⟨us, rfl, g1, g2⟩ := h.tup_inv
  exact .tup us (by simpa using g1) (b0g (fun a v ha hr => c0e S h12 (hb a ha) hr) g2)
 | _ => exact base hb rfl rfl

theorem TRs.tr : ∀ {cs : List AV} {us : List Value} {T : List Nat}, (cs.all (c0a m)) = true → TRs X w (cs.map (inC ρ c)) us T → TRs Y w (cs.map (inC ρ' c')) us T
 | [], us, T, _, h => by
  generalize hl : ([] : List AV).map (inC ρ c) = l at h
  cases h with
  | nil => exact .nil
  | vr => cases hl
  | own => cases hl
 | a :: cs, us, T, hb, h => by
  rw [List.all_cons, Bool.and_eq_true] at hb
  generalize hl : (a :: cs).map (inC ρ c) = l at h
  cases h with
  | nil => cases hl
  | vr h1 h2 h t =>
   rw [List.map_cons] at hl
   injection hl with e1 e2
   subst e1 e2
   exact .vr (by rw [b6l] at h1 ⊢; exact h1) (by rw [c6u] at h2 ⊢; exact h2) (c0d S h12 hb.1 h) (TRs.tr hb.2 t)
  | @own _ _ ty sz xs v ws S' _ us' S2 ho hlen hi t =>
   rw [List.map_cons] at hl
   injection hl with e1 e2
   subst e2
   have ha : a = .row .ow ty sz xs := by
    cases a <;> simp only [inC, inB] at e1 <;> first | exact e1 | cases e1
   subst ha
   exact .own ho hlen (hi.mono ⟨S.ok1, S.ok2, fun _ _ _ h => (by cases h), fun _ _ _ h => (by cases h)⟩ h12 (fun _ _ => rfl) (fun _ _ => rfl)) (TRs.tr hb.2 t)
end
def inE (ρ c : Gn) : Ent → Ent
 | .box ty cs => .box ty (cs.map (inC ρ c))
 | e => e
def AV.flatA : AV → Bool
 | .agg cs => cs.all AV.flat
 | a => a.flat

def c4y (m : Nat) : Ent → Prop
 | .dead => True
 | .box _ cs => (cs.all (c0a m)) = true
 | .row _ _ xs => c2e xs
 | .map es => ∀ p ∈ es, p.2.flatA = true
 | .chn _ _ _ => True
 | .blk _ => True
theorem VR.flatA (h : VR X w a v) (hf : a.flatA = true) (h1 : ∀ b, X.ok1 b → Y.ok1 b) (h2 : ∀ b, X.ok2 b → Y.ok2 b) (h12 : ∀ b, X.ok1 b → X.ok2 b) : VR Y w a v := by
 have base : a.flat = true → VR Y w a v := fun h' => h.flat h' h1 h2 h12
 cases a with
 | agg cs =>
  simp only [AV.flatA, List.all_eq_true] at hf
  obtain ⟨us, rfl, hu⟩ := h.agg_inv
  exact VRs.agg ⟨hu.len, hu.one, fun i y u hy hu' => (hu.rel i y u hy hu').flat (hf y (List.mem_of_getElem? hy)) h1 h2 h12⟩
 | _ => exact base hf
theorem EntOK.tr (S : Sim m ρ c ρ' c' X Y) (h12 : ∀ b, X.ok1 b → X.ok2 b) (hi : i < m) (hb : c4y m e) (h : EntOK X w (ρ i) (c i) F (inE ρ c e)) : EntOK Y w (ρ' i) (c' i) F (inE ρ' c' e) := by
 cases e with
 | dead => trivial
 | box ty cs =>
  obtain ⟨b, us, T, h1, h2, h3, h4, h5⟩ := h
  exact ⟨b, us, T, (S.bx _ hi).trans h1, h2, h3.tr S h12 hb, h4, h5⟩
 | row ty sz xs =>
  obtain ⟨v, us, T, h1, h2, h3, h4, h5, h6⟩ := h
  refine ⟨v, us, T, (S.rw _ hi).trans h1, h2, h3, h4.flat S.ok1 S.ok2 h12 (fun a ha => ?_), h5, h6⟩
  obtain ⟨x, hx, hax⟩ := List.mem_flatten.1 ha
  exact hb x hx a hax
 | map es =>
  obtain ⟨b, en, h1, h2, h3, h4, h5⟩ := h
  refine ⟨b, en, (S.bx _ hi).trans h1, h2, h3, h4, fun j k a e hj he => ?_⟩
  obtain ⟨g1, g2, g3⟩ := h5 j k a e hj he
  exact ⟨g1, g2.flatA (hb (k, a) (List.mem_of_getElem? hj)) S.ok1 S.ok2 h12, g3⟩
 | chn ty lty xs =>
  obtain ⟨b, bs, h1, h2⟩ := h
  exact ⟨b, bs, h1, h2.imp (fun _ h => (S.bx _ hi).trans h) (fun _ h => h) (fun _ _ => rfl) fun p _ us hu => hu.mono S.ok1 S.ok2 h12 (fun _ _ => rfl)⟩
 | blk l => exact BlkOK.imp h (fun _ h => (S.bx _ hi).trans h) (fun _ h => h) (fun _ _ => rfl) fun p _ us hu => hu.mono S.ok1 S.ok2 h12 (fun _ _ => rfl)
def a1h (ρ c : Gn) (p : Nat × (Nat × Ent)) : Nat × (Nat × Ent) := (ρ p.1, (c p.1, inE ρ c p.2.2))
theorem c6w (h : L.Nodup) (hi : i < L.length) (hk : k < L.length) (e : gl L i = gl L k) : i = k := by
 simp only [gl, List.getD_eq_getElem?_getD, List.getElem?_eq_getElem hi, List.getElem?_eq_getElem hk, Option.getD_some] at e
 have hp := List.pairwise_iff_getElem.1 h
 rcases Nat.lt_trichotomy i k with h2 | h2 | h2
 ·exact absurd e (hp i k hi hk h2)
 ·exact h2
 ·exact absurd e.symm (hp k i hk hi h2)
theorem a0k (hρ : ∀ i k, i < m → k < m → ρ i = ρ k → i = k) : ∀ {H : Hp}, (∀ p ∈ H, p.1 < m) → ∀ i, i < m → u8u (H.map (a1h ρ c)) (ρ i) = (u8u H i).map fun ge => (c i, inE ρ c ge.2)
 | [], _, i, _ => rfl
 | (k, ge) :: H, hH, i, hi => by
  rw [List.map_cons]
  show u8u ((ρ k, (c k, inE ρ c ge.2)) :: H.map (a1h ρ c)) (ρ i) = _
  rw [w7w, w7w]
  have hk : k < m := hH (k, ge) (by simp)
  by_cases e : k = i
  ·subst e; rw [if_pos rfl, if_pos rfl]; rfl
  ·rw [if_neg e, if_neg (fun h => e (hρ k i hk hi h))]
   exact a0k hρ (fun p hp => hH p (by simp [hp])) i hi
theorem a0y : ∀ {H : Hp}, (∀ p ∈ H, p.1 < m) → ∀ j, (∀ i, i < m → ρ i ≠ j) → u8u (H.map (a1h ρ c)) j = none
 | [], _, j, _ => rfl
 | (k, ge) :: H, hH, j, hj => by
  rw [List.map_cons]
  show u8u ((ρ k, (c k, inE ρ c ge.2)) :: H.map (a1h ρ c)) j = _
  rw [w7w, if_neg (hj k (hH (k, ge) (by simp)))]
  exact a0y (fun p hp => hH p (by simp [hp])) j hj
theorem a0m : u8u H i = some ge → (i, ge) ∈ H := by
 induction H with
 | nil => intro h; cases h
 | cons p H ih =>
  obtain ⟨k, g⟩ := p
  rw [w7w]
  split
  ·rename_i e; intro h; cases h; subst e; simp
  ·intro h; exact List.mem_cons_of_mem _ (ih h)
theorem a1c (a b : Hp) (id : Nat) : u8u (a ++ b) id = match u8u a id with
  | some ge => some ge
  | none => u8u b id := by
 induction a with
 | nil => rfl
 | cons p a ih =>
  obtain ⟨k, g⟩ := p
  rw [List.cons_append, w7w, w7w]
  split
  ·rfl
  ·exact ih
def b9a : Hp → Nat → Bool
 | [], _ => false
 | (i, _) :: r, k => Nat.beq i k || b9a r k
theorem a2j : b9a U k = (u8u U k).isSome := by
 induction U with
 | nil => rfl
 | cons p U ih =>
  obtain ⟨i, ge⟩ := p
  rw [w7w]
  simp only [b9a, ih]
  by_cases e : i = k
  ·subst e; simp
  ·rw [if_neg e]
   have : Nat.beq i k = false := by
    cases hb : Nat.beq i k
    ·rfl
    ·exact absurd (Nat.eq_of_beq_eq_true hb) e
   simp [this]

def a3e (U : Hp) : Hp → Hp
 | [] => []
 | p :: I => match b9a U p.1 with
  | true => a3e U I
  | false => p :: a3e U I
theorem a5f : ∀ {I : Hp} {k : Nat}, u8u (a3e U I) k = if b9a U k then none else u8u I k
 | [], k => by simp [a3e, a9o]
 | (i, ge) :: I, k => by
  rw [a3e]
  have ih := a5f (U := U) (I := I) (k := k)
  split
  ·rename_i h
   simp only at h
   rw [ih, w7w]
   by_cases e : i = k
   ·subst e; simp [h]
   ·rw [if_neg e]
  ·rename_i h
   simp only at h
   rw [w7w, w7w, ih]
   by_cases e : i = k
   ·subst e; simp [h]
   ·rw [if_neg e, if_neg e]
theorem a6x : ∀ {I : Hp} {p : Nat × (Nat × Ent)}, p ∈ a3e U I → p ∈ I
 | [], p, h => h
 | q :: I, p, h => by
  rw [a3e] at h
  split at h
  ·exact List.mem_cons_of_mem _ (a6x h)
  ·rcases List.mem_cons.1 h with e | h
   ·subst e; simp
   ·exact List.mem_cons_of_mem _ (a6x h)
end
section
variable {P : Program}

def c8f (P : Program) (f : FuncId) (kp : List Nat) (A0 : List AV) (I0 : Hp) (O0 : AV) (U0 : Hp) : Prop :=
 (∃ fn c, P.funcs[f]? = some fn ∧ (fn.name == "runtime.NumGoroutine") = false ∧ fn.body = some c) ∧
 ∀ (X : Cx) (B : Base) (w : World) (vs : List Value) (γ : Gn), SRh X B (hf (I0.map (a1h idf γ))) w → vs.length = A0.length → (∀ (i : Nat) (a : AV) (v : Value), (A0.map (inT idf γ))[i]? = some a → vs[i]? = some v → VR X w a v) →
  Calls P f vs.toArray w fun e w' => ∃ v, e = .returned v ∧ ∃ γ' : Gn, (∀ i ∈ kp, γ' i = γ i) ∧ ∃ X', X.le X' ∧ SRh X' B (hf (U0.map (a1h idf γ') ++ (a3e U0 I0).map (a1h idf γ))) w' ∧ (∀ b, X.ok2 b → w'.heap[b]? = w.heap[b]?) ∧ VR X' w' (inT idf γ' O0) v
inductive BndH (m : Nat) : Hp → Prop
 | nil : BndH m []
 | dead {i g : Nat} {r : Hp} (t : BndH m r) : BndH m ((i, (g, .dead)) :: r)
 | box {i g ty : Nat} {cs : List AV} {r : Hp} (h : (cs.all (c0a m)) = true) (t : BndH m r) : BndH m ((i, (g, .box ty cs)) :: r)
 | row {i g ty sz : Nat} {xs : List (List AV)} {r : Hp} (h : c2e xs) (t : BndH m r) : BndH m ((i, (g, .row ty sz xs)) :: r)
 | map {i g : Nat} {es : List (Value × AV)} {r : Hp} (h : ∀ p ∈ es, p.2.flatA = true) (t : BndH m r) : BndH m ((i, (g, .map es)) :: r)
 | chn {i g ty lty : Nat} {xs : List (List AV)} {r : Hp} (t : BndH m r) : BndH m ((i, (g, .chn ty lty xs)) :: r)
theorem BndH.all (k : BndH m H) : ∀ p ∈ H, c4y m p.2.2 := by
 have cons : ∀ {q : Nat × (Nat × Ent)} {r : Hp}, c4y m q.2.2 → (∀ p ∈ r, c4y m p.2.2) → ∀ p ∈ q :: r, c4y m p.2.2 := fun h1 h2 p hp => by
  rcases List.mem_cons.1 hp with rfl | hp
  ·exact h1
  ·exact h2 p hp
 induction k with
 | nil => intro p h; cases h
 | dead _ ih => exact cons trivial ih
 | box h0 _ ih => exact cons h0 ih
 | row h0 _ ih => exact cons h0 ih
 | map h0 _ ih => exact cons h0 ih
 | chn _ ih => exact cons trivial ih
theorem a0e {α : Type} {f : α → List AV} {l : List α} (h : ∀ a, ((f a).all AV.flat) = true) : c2e (l.map f) := fun x hx c hc => by
 obtain ⟨a, _, rfl⟩ := List.mem_map.1 hx
 exact List.all_eq_true.1 (h a) c hc
def v2v : List Nat → Nat → Bool
 | [], _ => false
 | a :: l, k => Nat.beq a k || v2v l k
theorem a6y : v2v l k = true ↔ k ∈ l := by
 induction l with
 | nil => simp [v2v]
 | cons a l ih =>
  simp only [v2v, Bool.or_eq_true, ih, List.mem_cons]
  constructor
  ·rintro (h | h)
   ·exact .inl (Nat.eq_of_beq_eq_true h).symm
   ·exact .inr h
  ·rintro (h | h)
   ·subst h; exact .inl (Nat.beq_refl k)
   ·exact .inr h

def nx (kp : List Nat) (c : Gn) : Gn := fun i => match v2v kp i with
 | true => c i
 | false => c i + 1
def b2s : Nat → List Nat
 | 0 => []
 | n + 1 => n :: b2s n
theorem a3f : i ∈ b2s n ↔ i < n := by
 induction n with
 | zero => simp [b2s]
 | succ n ih => simp only [b2s, List.mem_cons, ih]; omega
def c1x (m : Nat) (kp : List Nat) (A0 : List AV) (I0 : Hp) (O0 : AV) (U0 : Hp) : Bool :=
 (I0.all fun p => Nat.blt p.1 m) && ((b2s m).all fun i => b9a I0 i) && (U0.all fun p => Nat.blt p.1 m) && ((b2s m).all fun i => b9a U0 i || v2v kp i) && A0.all (c4v m) && c4v m O0

structure Meth (P : Program) (f : FuncId) (m : Nat) (kp : List Nat) (A0 : List AV) (I0 : Hp) (O0 : AV) (U0 : Hp) : Prop where
 run : c8f P f kp A0 I0 O0 U0
 ok : c1x m kp A0 I0 O0 U0 = true
 ib : BndH m I0
 ub : BndH m U0

structure MethE (P : Program) (f : FuncId) (m : Nat) (A0 : List AV) (I0 : Hp) {ι : Type} (okι : ι → Prop) (kpF : ι → List Nat) (OF : ι → AV) (UF : ι → Hp) : Prop where
 fn : ∃ fn c, P.funcs[f]? = some fn ∧ (fn.name == "runtime.NumGoroutine") = false ∧ fn.body = some c
 run : ∀ (X : Cx) (B : Base) (w : World) (vs : List Value) (γ : Gn), SRh X B (hf (I0.map (a1h idf γ))) w → vs.length = A0.length → (∀ (i : Nat) (a : AV) (v : Value), (A0.map (inT idf γ))[i]? = some a → vs[i]? = some v → VR X w a v) →
  Calls P f vs.toArray w fun e w' => ∃ i, okι i ∧ ∃ v, e = .returned v ∧ ∃ γ' : Gn, (∀ k ∈ kpF i, γ' k = γ k) ∧ ∃ X', X.le X' ∧ SRh X' B (hf ((UF i).map (a1h idf γ') ++ (a3e (UF i) I0).map (a1h idf γ))) w' ∧ (∀ b, X.ok2 b → w'.heap[b]? = w.heap[b]?) ∧ VR X' w' (inT idf γ' (OF i)) v
 ok0 : ((I0.all fun p => Nat.blt p.1 m) && ((b2s m).all fun i => b9a I0 i) && A0.all (c4v m)) = true
 ok : ∀ i, okι i → c1x m (kpF i) A0 I0 (OF i) (UF i) = true
 ib : BndH m I0
 ub : ∀ i, okι i → BndH m (UF i)
theorem c9h (h : c1x m kp A0 I0 O0 U0 = true) : ((I0.all fun p => Nat.blt p.1 m) && ((b2s m).all fun i => b9a I0 i) && A0.all (c4v m)) = true := by
 simp only [c1x, Bool.and_eq_true] at h ⊢
 exact ⟨h.1.1.1.1, h.1.2⟩
theorem Meth.toE (hM : Meth P f m kp A0 I0 O0 U0) : MethE P f m A0 I0 (ι := Unit) (fun _ => True) (fun _ => kp) (fun _ => O0) (fun _ => U0) :=
 ⟨hM.run.1, fun X B w vs γ h1 h2 h3 => (hM.run.2 X B w vs γ h1 h2 h3).mono fun e w' h => ⟨(), trivial, h⟩, c9h hM.ok, fun _ _ => hM.ok, hM.ib, fun _ _ => hM.ub⟩

def c8g (P : Program) (f : FuncId) (avs : List AV) (T : TL) (R : AV → TL → Prop) : Prop :=
 (∃ fn c, P.funcs[f]? = some fn ∧ (fn.name == "runtime.NumGoroutine") = false ∧ fn.body = some c) ∧
 ∀ (X : Cx) (B : Base) (hF : HF) (w : World) (vs : List Value), SRh X B hF w → vs.length = avs.length → (∀ (i : Nat) (a : AV) (v : Value), avs[i]? = some a → vs[i]? = some v → VR X w a v) → (∀ id ge, (id, ge) ∈ T → hF id = some ge) →
  Calls P f vs.toArray w fun e w' => ∃ out W, R out W ∧ ∃ v, e = .returned v ∧ ∃ X', X.le X' ∧ SRh X' B (a2z hF W) w' ∧ (∀ b, X.ok2 b → w'.heap[b]? = w.heap[b]?) ∧ VR X' w' out v
theorem b1w (hM : MethE P f m A0 I0 okι kpF OF UF) (L : List Nat) (c : Gn) (hn : L.Nodup) (hL : L.length = m) :
  c8g P f (A0.map (inT (gl L) c)) (I0.map (a1h (gl L) c)) (fun out W => ∃ i, okι i ∧ out = inT (gl L) (nx (kpF i) c) (OF i) ∧ W = (UF i).map (a1h (gl L) (nx (kpF i) c))) := by
 have hok0 := hM.ok0
 simp only [Bool.and_eq_true] at hok0
 obtain ⟨⟨o1, o2⟩, o5⟩ := hok0
 have hi1 : ∀ p ∈ I0, p.1 < m := fun p hp => a2t (List.all_eq_true.1 o1 p hp)
 have hi2 : ∀ i, i < m → ∃ ge, u8u I0 i = some ge := fun i hi => by
  have := List.all_eq_true.1 o2 i (a3f.2 hi)
  rw [a2j] at this
  exact Option.isSome_iff_exists.1 this
 refine ⟨hM.fn, fun X B hF w vs hS hl hr hT => ?_⟩
 obtain ⟨F, hS⟩ := hS
 let ρ := gl L
 have hinj : ∀ i k, i < m → k < m → ρ i = ρ k → i = k := fun i k hi hk e => c6w hn (hL ▸ hi) (hL ▸ hk) e
 have hcal : ∀ i ge, u8u I0 i = some ge → hF (ρ i) = some (c i, inE ρ c ge.2) := fun i ge h => hT _ _ (List.mem_map.2 ⟨(i, ge), a0m h, rfl⟩)
 have hlt : ∀ {i ge}, u8u I0 i = some ge → i < m := fun h => hi1 _ (a0m h)
 -- the callee's context
 let Xc : Cx := ⟨X.ok1, X.ok2, fun i g => if i < m then X.bx (ρ i) g else none, fun i g => if i < m then X.rw (ρ i) g else none⟩
 let Fc : Nat → List Nat := fun i => if i < m then F (ρ i) else []
 let Bc : Base := ⟨w, fun b => ∃ i, i < m ∧ b ∈ F (ρ i), X.ok1, X.ok2⟩
 have S : Sim m ρ c idf c X Xc := ⟨fun _ h => h, fun _ h => h, fun i hi => by simp [Xc, hi, idf], fun i hi => by simp [Xc, hi, idf]⟩
 have wI : ∀ {H : Hp} (c : Gn) (i : Nat) (ge : Nat × Ent), (∀ p ∈ H, p.1 < m) → u8u (H.map (a1h idf c)) i = some ge → ∃ ge0, u8u H i = some ge0 ∧ ge = (c i, inE idf c ge0.2) ∧ i < m := fun {H} c i ge hH h => by
  by_cases him : i < m
  ·have := a0k (ρ := idf) (c := c) (m := m) (fun _ _ _ _ e => e) hH i him
   rw [show u8u (H.map (a1h idf c)) (idf i) = some ge from h] at this
   cases hw : u8u H i with
   | none => rw [hw] at this; cases this
   | some ge0 => rw [hw] at this; simp only [Option.map_some, Option.some.injEq] at this; exact ⟨ge0, rfl, this, him⟩
  ·rw [a0y (m := m) hH i (fun k hk e => him (by simp only [idf] at e; omega))] at h
   cases h
 have hSc : SRf Xc Bc (hf (I0.map (a1h idf c))) Fc w := by
  refine ⟨?_, ?_, ?_, ?_, hS.ok12, fun b hb => .inl hb, fun b hb => .inl hb, ?_, ?_, rfl, rfl, rfl, Nat.le_refl _, fun _ _ _ => rfl⟩
  ·intro i g e he
   obtain ⟨ge0, h1, h2, h3⟩ := wI c i _ hi1 he
   cases h2
   have := hS.ent _ _ _ (hcal i _ h1)
   simp only [Fc, h3, if_true]
   exact this.tr S hS.ok12 h3 (hM.ib.all _ (a0m h1))
  ·intro i ge b he hb
   obtain ⟨ge0, h1, h2, h3⟩ := wI c i _ hi1 he
   simp only [Fc, h3, if_true] at hb
   exact hS.blk _ _ b (hcal i _ h1) hb
  ·intro i k ge ge' b he he' hb hb'
   obtain ⟨ge0, h1, h2, h3⟩ := wI c i _ hi1 he
   obtain ⟨ge1, k1, k2, k3⟩ := wI c k _ hi1 he'
   simp only [Fc, h3, k3, if_true] at hb hb'
   exact hinj i k h3 k3 (hS.sep _ _ _ _ b (hcal i _ h1) (hcal k _ k1) hb hb')
  ·refine fun b hb => ⟨(hS.ok2 b hb).1, fun i ge he hm => ?_⟩
   obtain ⟨ge0, h1, h2, h3⟩ := wI c i _ hi1 he
   simp only [Fc, h3, if_true] at hm
   exact (hS.ok2 b hb).2 _ _ (hcal i _ h1) hm
  ·intro i ge b he hb
   obtain ⟨ge0, h1, h2, h3⟩ := wI c i _ hi1 he
   simp only [Fc, h3, if_true] at hb
   exact .inl ⟨i, h3, hb⟩
  ·intro i g hg
   by_cases hm : i < m
   ·obtain ⟨ge, h1⟩ := hi2 i hm
    have hlt' : c i < g := hg (c i) (inE idf c ge.2) (by
     have := a0k (ρ := idf) (c := c) (m := m) (fun _ _ _ _ e => e) hi1 i hm
     rw [h1] at this; exact this)
    have h2 := hS.hist (ρ i) g (fun g' e h => by
     rw [hcal i _ h1] at h
     cases h
     exact hlt')
    simp only [Xc, hm, if_true]
    exact h2
   ·simp [Xc, hm]
 have hrc : ∀ (i : Nat) (a : AV) (v : Value), (A0.map (inT idf c))[i]? = some a → vs[i]? = some v → VR Xc w a v :=
  b0g (R := VR X w) (R' := VR Xc w) (f := inT ρ c) (fun a v ha h => c3r S hS.ok12 (List.all_eq_true.1 o5 a ha) h) hr
 refine (hM.run Xc Bc w vs c ⟨Fc, hSc⟩ (by simpa using hl) hrc).mono fun e w' hh => ?_
 obtain ⟨iι, hiι, v, rfl, γ', hγ, Xc', g1, ⟨Fc', g2⟩, g3, g4⟩ := hh
 refine ⟨_, _, ⟨iι, hiι, rfl, rfl⟩, v, rfl, ?_⟩
 have hok := hM.ok iι hiι
 have hub := (hM.ub iι hiι).all
 generalize kpF iι = kp at hok hγ ⊢
 generalize OF iι = O0 at hok g4 ⊢
 generalize UF iι = U0 at hok hub g2 ⊢
 simp only [c1x, Bool.and_eq_true] at hok
 obtain ⟨⟨⟨⟨_, o3⟩, o4⟩, _⟩, o6⟩ := hok
 have hu1 : ∀ p ∈ U0, p.1 < m := fun p hp => a2t (List.all_eq_true.1 o3 p hp)
 have hkp : ∀ i, i < m → b9a U0 i = false → i ∈ kp := fun i hi h => by
  have := List.all_eq_true.1 o4 i (a3f.2 hi)
  rw [h, Bool.false_or] at this
  exact a6y.1 this
 classical
 -- the caller's context behind the call
 let t := nx kp c
 have tk : ∀ i, i ∈ kp → t i = c i := fun i hi => by simp only [t, nx, a6y.2 hi]
 have tn : ∀ i, i ∉ kp → t i = c i + 1 := fun i hi => by
  have : v2v kp i = false := by
   cases h : v2v kp i
   ·rfl
   ·exact absurd (a6y.1 h) hi
  simp only [t, nx, this]
 have hfut : ∀ i g, i < m → c i < g → X.bx (ρ i) g = none ∧ X.rw (ρ i) g = none := fun i g hi hg => by
  obtain ⟨ge, h1⟩ := hi2 i hi
  exact hS.hist (ρ i) g (fun g' e h => by rw [hcal i _ h1] at h; cases h; exact hg)
 let inv : Nat → Option Nat := fun j => (List.range m).find? fun i => ρ i == j
 have inv_rho : ∀ i, i < m → inv (ρ i) = some i := fun i him => by
  cases hv : inv (ρ i) with
  | none =>
   have := List.find?_eq_none.1 hv i (List.mem_range.2 him)
   simp at this
  | some k =>
   have h1 := List.find?_some hv
   have h2 := List.mem_of_find?_eq_some hv
   rw [List.mem_range] at h2
   rw [hinj k i h2 him (by simpa using h1)]
 have inv_some : ∀ j i, inv j = some i → i < m ∧ ρ i = j := fun j i hv => by
  have h1 := List.find?_some hv
  have h2 := List.mem_of_find?_eq_some hv
  rw [List.mem_range] at h2
  exact ⟨h2, by simpa using h1⟩
 let X' : Cx := ⟨Xc'.ok1, Xc'.ok2, fun j g => match inv j with
  | some i => if g = t i then Xc'.bx i (γ' i) else if g = c i then Xc'.bx i (c i) else X.bx j g
  | none => X.bx j g, fun j g => match inv j with
  | some i => if g = t i then Xc'.rw i (γ' i) else if g = c i then Xc'.rw i (c i) else X.rw j g
  | none => X.rw j g⟩
 have hX : X.le X' := by
  refine ⟨g1.ok1, g1.ok2, fun j g b h => ?_, fun j g b h => ?_⟩
  ·show (match inv j with
    | some i => if g = t i then Xc'.bx i (γ' i) else if g = c i then Xc'.bx i (c i) else X.bx j g
    | none => X.bx j g) = some b
   cases hv : inv j with
   | none => exact h
   | some i =>
    obtain ⟨him, rfl⟩ := inv_some j i hv
    simp only
    by_cases hk : i ∈ kp
    ·by_cases e : g = t i
     ·rw [if_pos e, hγ i hk]
      refine g1.bx i _ b ?_
      simp only [Xc, him, if_true]
      rw [← tk i hk, ← e]; exact h
     ·rw [if_neg e]
      by_cases e2 : g = c i
      ·rw [if_pos e2]
       refine g1.bx i _ b ?_
       simp only [Xc, him, if_true]
       rw [← e2]; exact h
      ·rw [if_neg e2]; exact h
    ·by_cases e : g = t i
     ·rw [(hfut i g him (by rw [e, tn i hk]; omega)).1] at h; cases h
     ·rw [if_neg e]
      by_cases e2 : g = c i
      ·rw [if_pos e2]
       refine g1.bx i _ b ?_
       simp only [Xc, him, if_true]
       rw [← e2]; exact h
      ·rw [if_neg e2]; exact h
  ·show (match inv j with
    | some i => if g = t i then Xc'.rw i (γ' i) else if g = c i then Xc'.rw i (c i) else X.rw j g
    | none => X.rw j g) = some b
   cases hv : inv j with
   | none => exact h
   | some i =>
    obtain ⟨him, rfl⟩ := inv_some j i hv
    simp only
    by_cases hk : i ∈ kp
    ·by_cases e : g = t i
     ·rw [if_pos e, hγ i hk]
      refine g1.rw i _ b ?_
      simp only [Xc, him, if_true]
      rw [← tk i hk, ← e]; exact h
     ·rw [if_neg e]
      by_cases e2 : g = c i
      ·rw [if_pos e2]
       refine g1.rw i _ b ?_
       simp only [Xc, him, if_true]
       rw [← e2]; exact h
      ·rw [if_neg e2]; exact h
    ·by_cases e : g = t i
     ·rw [(hfut i g him (by rw [e, tn i hk]; omega)).2] at h; cases h
     ·rw [if_neg e]
      by_cases e2 : g = c i
      ·rw [if_pos e2]
       refine g1.rw i _ b ?_
       simp only [Xc, him, if_true]
       rw [← e2]; exact h
      ·rw [if_neg e2]; exact h
 have S1 : Sim m idf γ' ρ t Xc' X' := ⟨fun _ h => h, fun _ h => h, fun i hi => by simp [X', inv_rho i hi, idf], fun i hi => by simp [X', inv_rho i hi, idf]⟩
 have S2 : Sim m idf c ρ c Xc' X' := by
  refine ⟨fun _ h => h, fun _ h => h, fun i hi => ?_, fun i hi => ?_⟩
  ·simp only [X', inv_rho i hi, idf]
   by_cases e : c i = t i
   ·rw [if_pos e]
    by_cases hk : i ∈ kp
    ·rw [hγ i hk]
    ·rw [tn i hk] at e; omega
   ·rw [if_neg e]; simp
  ·simp only [X', inv_rho i hi, idf]
   by_cases e : c i = t i
   ·rw [if_pos e]
    by_cases hk : i ∈ kp
    ·rw [hγ i hk]
    ·rw [tn i hk] at e; omega
   ·rw [if_neg e]; simp
 let F' : Nat → List Nat := fun j => match inv j with
  | some i => Fc' i
  | none => F j
 let Hc : Hp := U0.map (a1h idf γ') ++ (a3e U0 I0).map (a1h idf c)
 have hr1 : ∀ p ∈ a3e U0 I0, p.1 < m := fun p hp => hi1 p (a6x hp)
 -- what stands where
 have upU : ∀ i ge0, i < m → u8u U0 i = some ge0 → a2z hF (U0.map (a1h ρ t)) (ρ i) = some (t i, inE ρ t ge0.2) ∧ u8u Hc i = some (γ' i, inE idf γ' ge0.2) := fun i ge0 hi h => by
  have e1 := a0k (ρ := ρ) (c := t) hinj hu1 i hi
  have e2 := a0k (ρ := idf) (c := γ') (m := m) (fun _ _ _ _ e => e) hu1 i hi
  rw [h] at e1 e2
  refine ⟨by simp only [a2z, e1, Option.map_some], ?_⟩
  rw [a1c, show u8u (U0.map (a1h idf γ')) i = _ from e2]; rfl
 have upI : ∀ i ge0, i < m → u8u U0 i = none → u8u I0 i = some ge0 → a2z hF (U0.map (a1h ρ t)) (ρ i) = some (c i, inE ρ c ge0.2) ∧ u8u Hc i = some (c i, inE idf c ge0.2) := fun i ge0 hi h hI => by
  have e1 := a0k (ρ := ρ) (c := t) hinj hu1 i hi
  have e2 := a0k (ρ := idf) (c := γ') (m := m) (fun _ _ _ _ e => e) hu1 i hi
  have e3 := a0k (ρ := idf) (c := c) (m := m) (fun _ _ _ _ e => e) hr1 i hi
  have hb : b9a U0 i = false := by rw [a2j, h]; rfl
  rw [a5f, hb] at e3
  simp only [Bool.false_eq_true, if_false, hI, Option.map_some] at e3
  rw [h] at e1 e2
  refine ⟨by simp only [a2z, e1, Option.map_none]; exact hcal i _ hI, ?_⟩
  rw [a1c, show u8u (U0.map (a1h idf γ')) i = _ from e2]; exact e3
 have un : ∀ j, inv j = none → a2z hF (U0.map (a1h ρ t)) j = hF j := fun j hj => by
  have e' : u8u (U0.map (a1h ρ t)) j = none := a0y (m := m) hu1 j (fun i him e => by rw [← e, inv_rho i him] at hj; cases hj)
  simp only [a2z, e']
 have fin : ∀ {j ge}, a2z hF (U0.map (a1h ρ t)) j = some ge → (inv j = none ∧ hF j = some ge ∧ F' j = F j) ∨
   ∃ i ge1, inv j = some i ∧ i < m ∧ ρ i = j ∧ u8u Hc i = some ge1 ∧ F' j = Fc' i ∧ EntOK X' w' j ge.1 (Fc' i) ge.2 := by
  intro j ge he
  cases hv : inv j with
  | none => rw [un j hv] at he; exact .inl ⟨rfl, he, by simp [F', hv]⟩
  | some i =>
   obtain ⟨h1, rfl⟩ := inv_some j i hv
   cases hu : u8u U0 i with
   | some ge0 =>
    obtain ⟨q1, q2⟩ := upU i ge0 h1 hu
    rw [he] at q1; cases q1
    exact .inr ⟨i, _, rfl, h1, rfl, q2, by simp [F', hv], (g2.ent i _ _ q2).tr S1 g2.ok12 h1 (hub _ (a0m hu))⟩
   | none =>
    obtain ⟨ge0, hI⟩ := hi2 i h1
    obtain ⟨q1, q2⟩ := upI i ge0 h1 hu hI
    rw [he] at q1; cases q1
    exact .inr ⟨i, _, rfl, h1, rfl, q2, by simp [F', hv], (g2.ent i _ _ q2).tr S2 g2.ok12 h1 (hM.ib.all _ (a0m hI))⟩
 have old : ∀ j ge b, inv j = none → hF j = some ge → b ∈ F j → b < w.heap.size ∧ ¬ ∃ i, i < m ∧ b ∈ F (ρ i) := fun j ge b hj he hb => by
  refine ⟨hS.blk j ge b he hb, fun ⟨i, him, hbi⟩ => ?_⟩
  obtain ⟨ge', h1⟩ := hi2 i him
  have := hS.sep j (ρ i) ge _ b he (hcal i _ h1) hb hbi
  rw [this, inv_rho i him] at hj
  cases hj
 have newc : ∀ i ge b, u8u Hc i = some ge → b ∈ Fc' i → (∃ k, k < m ∧ b ∈ F (ρ k)) ∨ w.heap.size ≤ b := fun i ge b he hb => g2.own i ge b he hb
 have S0B : ∀ b, (∃ i, i < m ∧ b ∈ F (ρ i)) → B.S0 b ∨ B.w0.heap.size ≤ b := fun b ⟨i, him, hb⟩ => by
  obtain ⟨ge, h1⟩ := hi2 i him
  exact hS.own _ _ b (hcal i _ h1) hb
 have hsz := g2.size
 refine ⟨X', hX, ⟨F', ?_, ?_, ?_, ?_, g2.ok12, ?_, ?_, ?_, ?_, g2.os.trans hS.os, g2.tape.trans hS.tape, g2.output.trans hS.output, Nat.le_trans hS.size g2.size, ?_⟩, g3, c3r S1 g2.ok12 o6 g4⟩
 ·intro j g e he
  rcases fin he with ⟨h1, h2, h3⟩ | ⟨i, ge1, h1, h2, h3, h4, h5, h6⟩
  ·rw [h3]
   refine (hS.ent j g e h2).mono hX hS.ok12 g3 (fun b hb => ?_)
   obtain ⟨q1, q2⟩ := old j _ b h1 h2 hb
   exact g2.keep b q1 q2
  ·rw [h5]; exact h6
 ·intro j ge b he hb
  rcases fin he with ⟨h1, h2, h3⟩ | ⟨i, ge1, h1, h2, h3, h4, h5, h6⟩
  ·rw [h3] at hb
   exact Nat.lt_of_lt_of_le (hS.blk j ge b h2 hb) hsz
  ·rw [h5] at hb
   exact g2.blk i _ b h4 hb
 ·intro j k ge ge' b he he' hb hb'
  rcases fin he with ⟨h1, h2, h3⟩ | ⟨i, ge1, h1, h2, h3, h4, h5, h6⟩ <;> rcases fin he' with ⟨k1, k2, k3⟩ | ⟨i', ge2, k1, k2, k3, k4, k5, k6⟩
  ·rw [h3] at hb
   rw [k3] at hb'
   exact hS.sep j k ge ge' b h2 k2 hb hb'
  ·rw [h3] at hb
   rw [k5] at hb'
   obtain ⟨q1, q2⟩ := old j _ b h1 h2 hb
   rcases newc i' _ b k4 hb' with h | h
   ·exact absurd h q2
   ·exact absurd q1 (Nat.not_lt.2 h)
  ·rw [h5] at hb
   rw [k3] at hb'
   obtain ⟨q1, q2⟩ := old k _ b k1 k2 hb'
   rcases newc i _ b h4 hb with h | h
   ·exact absurd h q2
   ·exact absurd q1 (Nat.not_lt.2 h)
  ·rw [h5] at hb
   rw [k5] at hb'
   have := g2.sep i i' _ _ b h4 k4 hb hb'
   rw [← h3, ← k3, this]
 ·refine fun b hb => ⟨(g2.ok2 b hb).1, fun j ge he hm => ?_⟩
  rcases fin he with ⟨h1, h2, h3⟩ | ⟨i, ge1, h1, h2, h3, h4, h5, h6⟩
  ·rw [h3] at hm
   obtain ⟨q1, q2⟩ := old j _ b h1 h2 hm
   rcases g2.in2 b hb with h | h | h
   ·exact (hS.ok2 b h).2 j _ h2 hm
   ·exact q2 h
   ·exact absurd q1 (Nat.not_lt.2 h)
  ·rw [h5] at hm
   exact (g2.ok2 b hb).2 i _ h4 hm
 ·intro b hb
  rcases g2.in1 b hb with h | h | h
  ·exact hS.in1 b h
  ·exact .inr (S0B b h)
  ·exact .inr (.inr (Nat.le_trans hS.size h))
 ·intro b hb
  rcases g2.in2 b hb with h | h | h
  ·exact hS.in2 b h
  ·exact .inr (S0B b h)
  ·exact .inr (.inr (Nat.le_trans hS.size h))
 ·intro j ge b he hb
  rcases fin he with ⟨h1, h2, h3⟩ | ⟨i, ge1, h1, h2, h3, h4, h5, h6⟩
  ·rw [h3] at hb
   exact hS.own j ge b h2 hb
  ·rw [h5] at hb
   rcases newc i _ b h4 hb with h | h
   ·exact S0B b h
   ·exact .inr (Nat.le_trans hS.size h)
 ·intro j g hg
  cases hv : inv j with
  | none =>
   have h1 := hS.hist j g (fun g' e h => hg g' e (by rw [un j hv]; exact h))
   refine ⟨?_, ?_⟩
   ·simp only [X', hv, h1.1]
   ·simp only [X', hv, h1.2]
  | some i =>
   obtain ⟨him, rfl⟩ := inv_some j i hv
   obtain ⟨ge0, hI⟩ := hi2 i him
   have hcg : c i < g ∧ g ≠ t i := by
    cases hu : u8u U0 i with
    | some ge1 =>
     have := hg _ _ (upU i ge1 him hu).1
     by_cases hk : i ∈ kp
     ·rw [tk i hk] at this ⊢; omega
     ·rw [tn i hk] at this ⊢; omega
    | none =>
     have := hg _ _ (upI i ge0 him hu hI).1
     have hk := hkp i him (by rw [a2j, hu]; rfl)
     rw [tk i hk]; omega
   have := hfut i g him hcg.1
   refine ⟨?_, ?_⟩
   ·simp only [X', hv]; rw [if_neg hcg.2, if_neg (by omega)]; exact this.1
   ·simp only [X', hv]; rw [if_neg hcg.2, if_neg (by omega)]; exact this.2
 ·intro b hb hs
  rw [← hS.keep b hb hs]
  refine g2.keep b (Nat.lt_of_lt_of_le hb hS.size) (fun h => ?_)
  rcases S0B b h with h | h
  ·exact hs h
  ·exact absurd hb (Nat.not_lt.2 h)
theorem b4r (hM : Meth P f m kp A0 I0 O0 U0) (L : List Nat) (c : Gn) (hn : L.Nodup) (hL : L.length = m) :
  b6a P f (A0.map (inT (gl L) c)) (I0.map (a1h (gl L) c)) (U0.map (a1h (gl L) (nx kp c))) (inT (gl L) (nx kp c) O0) := by
 have h := b1w hM.toE L c hn hL
 exact ⟨h.1, fun X B hF w vs a1 a2 a3 a4 => (h.2 X B hF w vs a1 a2 a3 a4).mono fun e w' ⟨out, W, ⟨_, _, h1, h2⟩, h3⟩ => by subst h1 h2; exact h3⟩
end
section
variable {P : Program}
def a1z (m : Nat) : Nat → Hp
 | 0 => []
 | k + 1 => (m + k, (0, .dead)) :: a1z m k
theorem a6z {id : Nat} : ∀ {k : Nat}, u8u (a1z m k) id = some ge → ge = (0, .dead) ∧ m ≤ id
 | 0, h => by cases h
 | k + 1, h => by
  rw [a1z, w7w] at h
  split at h
  ·rename_i e; cases h; exact ⟨rfl, by omega⟩
  ·exact a6z h

theorem SRh.more (H : SRh X B (hf h) w) (m k : Nat) (hm : ∀ p ∈ h, p.1 < m) : SRh X B (hf (h ++ a1z m k)) w := by
 obtain ⟨F, H⟩ := H
 have hlt : ∀ id ge, u8u h id = some ge → id < m := fun id ge hg => hm _ (a0m hg)
 have get : ∀ id ge, hf (h ++ a1z m k) id = some ge → hf h id = some ge ∨ (u8u h id = none ∧ ge = (0, .dead) ∧ m ≤ id) := fun id ge hg => by
  simp only [hf, a1c] at hg ⊢
  cases hw : u8u h id with
  | some g => rw [hw] at hg; exact .inl hg
  | none => rw [hw] at hg; exact .inr ⟨rfl, a6z hg⟩
 let F' : Nat → List Nat := fun i => if i < m then F i else []
 have mem : ∀ id ge b, hf (h ++ a1z m k) id = some ge → b ∈ F' id → hf h id = some ge ∧ b ∈ F id := fun id ge b hg hb => by
  rcases get id ge hg with h1 | ⟨_, _, h1⟩
  ·simp only [F', hlt id ge h1, if_true] at hb
   exact ⟨h1, hb⟩
  ·simp only [F', Nat.not_lt.2 h1, if_false] at hb
   cases hb
 refine ⟨F', { H with ent := fun id g e he => ?_, blk := fun id ge b he hb => ?_, sep := fun id id' ge ge' b he he' hb hb' => ?_, ok2 := fun b hb => ⟨(H.ok2 b hb).1, fun id ge he hm => ?_⟩, own := fun id ge b he hb => ?_, hist := fun id g hg => ?_ }⟩
 ·rcases get id _ he with h1 | ⟨_, h1, _⟩
  ·have := H.ent id g e h1
   simpa only [F', hlt id _ h1, if_true] using this
  ·cases h1; trivial
 ·obtain ⟨h1, h2⟩ := mem id ge b he hb; exact H.blk id ge b h1 h2
 ·obtain ⟨h1, h2⟩ := mem id ge b he hb
  obtain ⟨h3, h4⟩ := mem id' ge' b he' hb'
  exact H.sep id id' ge ge' b h1 h3 h2 h4
 ·obtain ⟨h1, h2⟩ := mem id ge b he hm
  exact (H.ok2 b hb).2 id ge h1 h2
 ·obtain ⟨h1, h2⟩ := mem id ge b he hb; exact H.own id ge b h1 h2
 ·refine H.hist id g (fun g' e hh => hg g' e ?_)
  simp only [hf] at hh ⊢
  rw [a1c, hh]

theorem SRh.trunc (H : SRh X B (hf h) w) (hi1 : ∀ p ∈ I0, p.1 < m) (hi2 : ∀ i, i < m → ∃ ge, u8u I0 i = some ge) (hu1 : ∀ p ∈ U0, p.1 < m) (ib : ∀ p ∈ I0, c4y m p.2.2) (ub : ∀ p ∈ U0, c4y m p.2.2)
  (k : HE h (U0.map (a1h idf γ') ++ (a3e U0 I0).map (a1h idf γ))) :
  ∃ Y : Cx, Sim m idf γ' idf γ' X Y ∧ Y.ok1 = X.ok1 ∧ Y.ok2 = X.ok2 ∧ (∀ i g, i < m → Y.bx i g = X.bx i g ∧ Y.rw i g = X.rw i g) ∧ (∀ i g, m ≤ i → Y.bx i g = none ∧ Y.rw i g = none) ∧ SRh Y B (hf (U0.map (a1h idf γ') ++ (a3e U0 I0).map (a1h idf γ))) w := by
 obtain ⟨F, H⟩ := H
 let Y : Cx := ⟨X.ok1, X.ok2, fun i g => if i < m then X.bx i g else none, fun i g => if i < m then X.rw i g else none⟩
 have S : ∀ c : Gn, Sim m idf c idf c X Y := fun c => ⟨fun _ h => h, fun _ h => h, fun i hi => by simp [Y, hi, idf], fun i hi => by simp [Y, hi, idf]⟩
 let Hc : Hp := U0.map (a1h idf γ') ++ (a3e U0 I0).map (a1h idf γ)
 have get : ∀ id ge, u8u Hc id = some ge → ∃ e, hf h id = some (ge.1, e) ∧ (ge.2 = e ∨ ge.2 = .dead) := fun id ge hg => k.ent id ge hg
 have hr1 : ∀ p ∈ a3e U0 I0, p.1 < m := fun p hp => hi1 p (a6x hp)
 have cas : ∀ id ge, u8u Hc id = some ge → id < m ∧ ((∃ ge0, u8u U0 id = some ge0 ∧ ge = (γ' id, inE idf γ' ge0.2)) ∨ ∃ ge0, u8u I0 id = some ge0 ∧ ge = (γ id, inE idf γ ge0.2)) := fun id ge hg => by
  rw [a1c] at hg
  by_cases him : id < m
  ·refine ⟨him, ?_⟩
   have e1 := a0k (ρ := idf) (c := γ') (m := m) (fun _ _ _ _ e => e) hu1 id him
   have e2 := a0k (ρ := idf) (c := γ) (m := m) (fun _ _ _ _ e => e) hr1 id him
   rw [show u8u (U0.map (a1h idf γ')) id = _ from e1, show u8u ((a3e U0 I0).map (a1h idf γ)) id = _ from e2] at hg
   cases hw : u8u U0 id with
   | some ge0 => rw [hw] at hg; cases hg; exact .inl ⟨ge0, rfl, rfl⟩
   | none =>
    rw [hw, a5f, a2j, hw] at hg
    simp only [Option.map_none, Option.isSome_none, Bool.false_eq_true, if_false] at hg
    cases hI : u8u I0 id with
    | none => rw [hI] at hg; cases hg
    | some ge0 => rw [hI] at hg; cases hg; exact .inr ⟨ge0, rfl, rfl⟩
  ·rw [a0y (m := m) hu1 id (fun k hk e => him (by simp only [idf] at e; omega)), a0y (m := m) hr1 id (fun k hk e => him (by simp only [idf] at e; omega))] at hg
   cases hg
 refine ⟨Y, S γ', rfl, rfl, fun i g hi => ⟨by simp [Y, hi], by simp [Y, hi]⟩, fun i g hi => ⟨by simp [Y, Nat.not_lt.2 hi], by simp [Y, Nat.not_lt.2 hi]⟩, F, ?_, ?_, ?_, ?_, H.ok12, H.in1, H.in2, ?_, ?_, H.os, H.tape, H.output, H.size, H.keep⟩
 ·intro id g e he
  obtain ⟨e', h1, h2⟩ := get id _ he
  rcases h2 with h2 | h2
  ·simp only at h2; subst h2
   have he' := H.ent id g e h1
   obtain ⟨him, hc⟩ := cas id _ he
   rcases hc with ⟨ge0, q1, q2⟩ | ⟨ge0, q1, q2⟩
   ·cases q2
    exact EntOK.tr (S γ') H.ok12 him (ub _ (a0m q1)) he'
   ·cases q2
    exact EntOK.tr (S γ) H.ok12 him (ib _ (a0m q1)) he'
  ·simp only at h2; subst h2; trivial
 ·intro id ge b he hb
  obtain ⟨e', h1, _⟩ := get id _ he
  exact H.blk id _ b h1 hb
 ·intro id id' ge ge' b he he' hb hb'
  obtain ⟨e1, h1, _⟩ := get id _ he
  obtain ⟨e2, h2, _⟩ := get id' _ he'
  exact H.sep id id' _ _ b h1 h2 hb hb'
 ·refine fun b hb => ⟨(H.ok2 b hb).1, fun id ge he hm => ?_⟩
  obtain ⟨e', h1, _⟩ := get id _ he
  exact (H.ok2 b hb).2 id _ h1 hm
 ·intro id ge b he hb
  obtain ⟨e', h1, _⟩ := get id _ he
  exact H.own id _ b h1 hb
 ·intro id g hg
  by_cases hm : id < m
  ·obtain ⟨ge, h1⟩ : ∃ ge, u8u Hc id = some ge := by
    rw [a1c]
    have e1 := a0k (ρ := idf) (c := γ') (m := m) (fun _ _ _ _ e => e) hu1 id hm
    have e2 := a0k (ρ := idf) (c := γ) (m := m) (fun _ _ _ _ e => e) hr1 id hm
    rw [show u8u (U0.map (a1h idf γ')) id = _ from e1, show u8u ((a3e U0 I0).map (a1h idf γ)) id = _ from e2]
    cases hw : u8u U0 id with
    | some ge0 => exact ⟨_, rfl⟩
    | none =>
     rw [a5f, a2j, hw]
     obtain ⟨ge0, hI⟩ := hi2 id hm
     exact ⟨_, by simp only [Option.map_none, Option.isSome_none, Bool.false_eq_true, if_false, hI, Option.map_some]; rfl⟩
   obtain ⟨e', h4, _⟩ := get id _ h1
   have := H.hist id g (fun g' e hh => by
    rw [h4] at hh
    cases hh
    exact hg _ _ h1)
   simpa [Y, hm] using this
  ·simp [Y, hm]
variable {tt : TT} {f : FuncId} {fn : Func} {c : Code} {A0 : List AV} {I0 : Hp}

theorem a1q (htt : a1j P tt) (hfn : P.funcs[f]? = some fn) (hname : (fn.name == "runtime.NumGoroutine") = false) (hb : fn.body = some c) {ι : Type} {okι : ι → Prop} {kpF : ι → List Nat} {OF : ι → List AV} {UF : ι → Hp} (m k : Nat) (hn : A0.length ≤ fn.ntmps)
  (hok0 : ((I0.all fun p => Nat.blt p.1 m) && ((b2s m).all fun i => b9a I0 i) && A0.all (c4v m)) = true) (hok' : ∀ i, okι i → c1x m (kpF i) A0 I0 (one1 (OF i)) (UF i) = true) (ib : BndH m I0) (ub' : ∀ i, okι i → BndH m (UF i)) (hbo' : ∀ i, okι i → ((OF i).all (c4u m)) = true)
  (hx : ∀ γ : Gn, Ex P fn.ntmps c (b7g (A0.map (inT idf γ))) (I0.map (a1h idf γ) ++ a1z m k) fun e fr h => (e = .normal ∨ e = .ret) ∧ ∃ i, okι i ∧ ∃ g' : List Nat, (kpF i).map (gl g') = (kpF i).map γ ∧ b6h tt fr h fn.results.toList = some ((OF i).map (inA idf (gl g'))) ∧ HE h ((UF i).map (a1h idf (gl g')) ++ (a3e (UF i) I0).map (a1h idf γ))) :
  MethE P f m A0 I0 okι kpF (fun i => one1 (OF i)) UF := by
 have hok0' := hok0
 simp only [Bool.and_eq_true] at hok0'
 obtain ⟨⟨o1, o2⟩, o5⟩ := hok0'
 have hi1 : ∀ p ∈ I0, p.1 < m := fun p hp => a2t (List.all_eq_true.1 o1 p hp)
 have hi2 : ∀ i, i < m → ∃ ge, u8u I0 i = some ge := fun i hi => by
  have := List.all_eq_true.1 o2 i (a3f.2 hi)
  rw [a2j] at this
  exact Option.isSome_iff_exists.1 this
 refine ⟨⟨fn, c, hfn, hname, hb⟩, fun X B w vs γ hS hl hr => ?_, hok0, hok', ib, ub'⟩
 have hin : ∀ p ∈ I0.map (a1h idf γ), p.1 < m := fun p hp => by
  obtain ⟨q, hq, rfl⟩ := List.mem_map.1 hp
  exact hi1 q hq
 refine calls_of_wp hfn hb (wp_mono (hx γ X _ _ w (hS.more m k hin) (b4m (by rw [List.length_map]; exact hl) (by rw [List.length_map]; exact hn) hr) rfl) fun e a' w' hh => ?_)
 obtain ⟨fr', h', X', ⟨he, iι, hiι, g', hkp, hres, hw⟩, k2, k3, k4, k5, k6⟩ := hh
 have post0 : ∀ {kp : List Nat} {O0 : List AV} {U0 : Hp}, kpF iι = kp → OF iι = O0 → UF iι = U0 → ∃ kp O0 U0, kpF iι = kp ∧ OF iι = O0 ∧ UF iι = U0 := fun h1 h2 h3 => ⟨_, _, _, h1, h2, h3⟩
 obtain ⟨kp, O0, U0, ekp, eO, eU⟩ := post0 rfl rfl rfl
 have hok := hok' iι hiι
 have ub := ub' iι hiι
 have hbo := hbo' iι hiι
 rw [ekp] at hkp
 rw [ekp, eO, eU] at hok
 rw [eO] at hres hbo
 rw [eU] at hw ub
 simp only [c1x, Bool.and_eq_true] at hok
 have hu1 : ∀ p ∈ U0, p.1 < m := fun p hp => a2t (List.all_eq_true.1 hok.1.1.1.2 p hp)
 obtain ⟨us, g1, g2, g3⟩ := b0d htt k3 k4 hres
 obtain ⟨Y, S, q1, q2, q3, q4, q5⟩ := k3.trunc hi1 hi2 hu1 ib.all ub.all hw
 have hXY : X.le Y := by
  have out : ∀ i g, ¬ i < m → X.bx i g = none ∧ X.rw i g = none := fun i g hi => hS.hist i g (fun g' e h2 => by
   have := hin _ (a0m h2)
   exact absurd this hi)
  refine ⟨fun b h => by rw [q1]; exact k2.ok1 b h, fun b h => by rw [q2]; exact k2.ok2 b h, fun i g b h => ?_, fun i g b h => ?_⟩
  ·by_cases hi : i < m
   ·rw [(q3 i g hi).1]; exact k2.bx i g b h
   ·rw [(out i g hi).1] at h; cases h
  ·by_cases hi : i < m
   ·rw [(q3 i g hi).2]; exact k2.rw i g b h
   ·rw [(out i g hi).2] at h; cases h
 have g3' : ∀ (i : Nat) (b : AV) (v : Value), (O0.map (inA idf (gl g')))[i]? = some b → us[i]? = some v → VR Y w' b v :=
  b0g (fun a v ha h => c0e S k3.ok12 (List.all_eq_true.1 hbo a ha) h) g3
 have hkp' : ∀ i ∈ kp, gl g' i = γ i := fun i hi => by
  have := List.map_inj_left.1 hkp i hi
  exact this
 have post : a'.defers = [] ∧ ∃ v, (results fn a'.tmps).run P w' = .ok v w' ∧ ∃ i, okι i ∧ ∃ v', Ending.returned v = .returned v' ∧ ∃ γ' : Gn, (∀ k ∈ kpF i, γ' k = γ k) ∧ ∃ X', X.le X' ∧ SRh X' B (hf ((UF i).map (a1h idf γ') ++ (a3e (UF i) I0).map (a1h idf γ))) w' ∧ (∀ b, X.ok2 b → w'.heap[b]? = w.heap[b]?) ∧ VR X' w' (inT idf γ' (one1 (OF i))) v' := by
  refine ⟨k5, _, g1, iι, hiι, _, rfl, gl g', ?_⟩
  rw [ekp, eO, eU]
  refine ⟨hkp', Y, hXY, q5, k6, ?_⟩
  rw [List.length_map] at g2
  by_cases h1 : us.length = 1
  ·rw [dif_pos h1]
   obtain ⟨u, rfl⟩ := List.length_eq_one_iff.1 h1
   obtain ⟨b, rfl⟩ := List.length_eq_one_iff.1 (g2.symm.trans h1)
   have h0 := g3' 0 _ u rfl rfl
   have : inT idf (gl g') (one1 [b]) = inA idf (gl g') b := by
    have hbb := List.all_eq_true.1 hbo b (by simp)
    cases b with
    | tup cs => simp [c4u, c0a, b9z] at hbb
    | _ => rfl
   rw [this]; exact h0
  ·rw [dif_neg h1]
   have : one1 O0 = .tup O0 := by
    match O0, g2 with
    | [], _ => rfl
    | [b], hlo => exact absurd hlo h1
    | _ :: _ :: _, _ => rfl
   rw [this]
   exact .tup us (by rw [List.length_map]; exact g2) g3'
 rcases he with rfl | rfl
 ·exact post
 ·exact post
theorem p6p (htt : a1j P tt) (hfn : P.funcs[f]? = some fn) (hname : (fn.name == "runtime.NumGoroutine") = false) (hb : fn.body = some c) {kp : List Nat} {I0 U0 : Hp} {O0 : List AV} (m k : Nat) (hn : A0.length ≤ fn.ntmps)
  (hok : c1x m kp A0 I0 (one1 O0) U0 = true) (ib : BndH m I0) (ub : BndH m U0) (hbo : (O0.all (c4u m)) = true)
  (hx : ∀ γ : Gn, Ex P fn.ntmps c (b7g (A0.map (inT idf γ))) (I0.map (a1h idf γ) ++ a1z m k) fun e fr h => (e = .normal ∨ e = .ret) ∧ ∃ g' : List Nat, kp.map (gl g') = kp.map γ ∧ b6h tt fr h fn.results.toList = some (O0.map (inA idf (gl g'))) ∧ HE h (U0.map (a1h idf (gl g')) ++ (a3e U0 I0).map (a1h idf γ))) :
  Meth P f m kp A0 I0 (one1 O0) U0 := by
 have h := a1q (ι := Unit) (okι := fun _ => True) (kpF := fun _ => kp) (OF := fun _ => O0) (UF := fun _ => U0) htt hfn hname hb m k hn (c9h hok) (fun _ _ => hok) ib (fun _ _ => ub) (fun _ _ => hbo) (fun γ => (hx γ).mono fun e fr h ⟨h1, h2⟩ => ⟨h1, (), trivial, h2⟩)
 exact ⟨⟨h.fn, fun X B w vs γ a1 a2 a3 => (h.run X B w vs γ a1 a2 a3).mono fun e w' ⟨_, _, h4⟩ => h4⟩, hok, ib, ub⟩

theorem z1z
  (L gs : List Nat) (hM : Meth P f m kp A0 I0 O0 U0) (hf : evO fr x = some (.fn (.func f) fi cap)) (ha : evL (evO fr) args.toList = some avs) (he : fi ++ avs ++ cap = A0.map (inT (gl L) (gl gs))) (hn : L.Nodup) (hL : L.length = m)
  (hT : I0.map (a1h (gl L) (gl gs)) = T) (hi : InH h T) (ho : inT (gl L) (nx kp (gl gs)) O0 = out) (hw : U0.map (a1h (gl L) (nx kp (gl gs))) = W)
  (k : p3p P tt ops r ((d, out) :: fr) (W ++ h) ((ids T, ids W) :: lg) K) :
  p3p P tt ops (⟨some d, .call { callee := .value x, args := args, argTypes := at' }, ty, pos, af, none⟩ :: r) fr h lg K := by
 subst ho hw hT
 have hC := b4r hM L (gl gs) hn hL
 rw [← he] at hC
 refine s3s ?_; simp only [a0p, Opt, hf, ha]
 refine ⟨_, _, _, hC, hi, fun p hp => ?_, k⟩
 have hok := hM.ok
 simp only [c1x, Bool.and_eq_true] at hok
 obtain ⟨⟨⟨⟨⟨o1, o2⟩, o3⟩, o4⟩, o5⟩, o6⟩ := hok
 obtain ⟨q, hq, rfl⟩ := List.mem_map.1 hp
 have hq1 := a2t (List.all_eq_true.1 o3 q hq)
 have := List.all_eq_true.1 o2 q.1 (a3f.2 hq1)
 rw [a2j] at this
 obtain ⟨ge, hg⟩ := Option.isSome_iff_exists.1 this
 exact ⟨_, List.mem_map.2 ⟨(q.1, ge), a0m hg, rfl⟩⟩
end
section
variable {P : Program} {tt : TT} {ops : Array Oper} {r : List Oper} {fr : Fr} {h : Hp} {lg : Log} {K : Fr → Hp → Log → Prop} {d : Nat} {ty : TypeId} {pos : String} {af : Array Edge}
variable {id : Nat}
theorem c4z (hh : u8u h id = some (g, .row ty sz ys)) : src h (.ref id g) = some (sz, ys, [(id, (g, .row ty sz ys))]) := by simp [src, hh]
theorem r7r (hx : evO fr x = some (.ref id g)) (hy : evO fr y = some (.ref id2 g2)) (hs : tt t = some S) (hk : S.kind = .sl e) (he : tt e = some E) (h2 : Nat.ble 1 E.size = true) (h3 : Nat.ble 1 E.bytes = true) (hh : u8u h id = some (g, .row e E.size xs)) (hh2 : u8u h id2 = some (g2, .row ty2 E.size ys))
  (how : (ys.flatten.all fun c => !c.isOw) = true) (hz : xs ++ ys = zs) (h4 : zs.length * E.bytes ≤ 140737488355328) (k : p3p P tt ops r ((d, .ref id (g + 1)) :: fr) ((id, (g + 1, .row e E.size zs)) :: h) (([id, id2], [id]) :: lg) K) :
  p3p P tt ops (⟨some d, .call { callee := .builtin .append, args := #[x, y], argTypes := #[t, t] }, ty, pos, af, none⟩ :: r) fr h lg K :=
 c3q hx hy hs hk he h2 h3 hh (c4z hh2) how hz h4 k
theorem b0h (hx : evO fr x = some (.ref id g)) (hy : evO fr y = some (.row (.rd m) ty2 E.size ys)) (hs : tt t = some S) (hk : S.kind = .sl e) (he : tt e = some E) (h2 : Nat.ble 1 E.size = true) (h3 : Nat.ble 1 E.bytes = true) (hh : u8u h id = some (g, .row e E.size xs))
  (how : (ys.flatten.all fun c => !c.isOw) = true) (hz : xs ++ ys = zs) (h4 : zs.length * E.bytes ≤ 140737488355328) (k : p3p P tt ops r ((d, .ref id (g + 1)) :: fr) ((id, (g + 1, .row e E.size zs)) :: h) (([id], [id]) :: lg) K) :
  p3p P tt ops (⟨some d, .call { callee := .builtin .append, args := #[x, y], argTypes := #[t, t] }, ty, pos, af, none⟩ :: r) fr h lg K :=
 c3q hx hy hs hk he h2 h3 hh (T := []) rfl how hz h4 k
theorem a2o (hx : evO fr x = some (.ref id g)) (hs : tt t = some S) (hk : S.kind = .sl e) (hh : u8u h id = some (g, .row rty sz xs)) (hn : xs.length = n) (k : p3p P tt ops r ((d, .pv (.int .i64 (n : Int))) :: fr) h (([id], []) :: lg) K) :
  p3p P tt ops (⟨some d, .call { callee := .builtin .len, args := #[x], argTypes := #[t] }, ty, pos, af, none⟩ :: r) fr h lg K :=
 b4p hx hs hk (T := [(id, (g, .row rty sz xs))]) (by simp [c3i, hh]) (fun s hs => by cases hs) hn k
theorem a1l (f : α → List AV) (l : List α) (a : α) : l.map f ++ [f a] = (l ++ [a]).map f := by simp
theorem c5a (f : α → List AV) (l l' : List α) : l.map f ++ l'.map f = (l ++ l').map f := by simp
variable {α : Type}
theorem a9k {f : α → List AV} (hf : ∀ a, ((f a).all fun c => !c.isOw) = true) (l : List α) : ((l.map f).flatten.all fun c => !c.isOw) = true := by
 induction l with
 | nil => rfl
 | cons a l ih => rw [List.map_cons, List.flatten_cons, List.all_append, hf a, ih]; rfl

theorem Le.ow_map (l : List α) (hc : c = true → k = true) (hf : ∀ a, ((f a).all AV.cl) = true) : Le k (.row .ow ty sz (l.map f)) (.row (.rd c) ty sz (l.map f)) := by
 refine .ow hc rfl (fun j x x' h h' => ?_) (fun j i x x' y y' h h' hy hy' => ?_)
 ·rw [h] at h'; cases h'; rfl
 ·rw [h] at h'
  cases h'
  rw [hy] at hy'
  cases hy'
  rw [List.getElem?_map] at h
  cases hl : l[j]? with
  | none => rw [hl] at h; cases h
  | some a =>
   rw [hl] at h
   have : f a = x := by simpa using h
   have h2 := hf a
   rw [this, List.all_eq_true] at h2
   exact .cl (h2 y (List.mem_of_getElem? hy))
theorem LeL.nil : LeL k [] [] := ⟨rfl, fun i y y' h => by simp at h⟩
theorem LeL.cons (h : Le k a b) (t : LeL k az bs) : LeL k (a :: az) (b :: bs) :=
 ⟨by simp [t.len], fun i y y' hy hy' => by
  cases i with
  | zero => simp at hy hy'; subst hy hy'; exact h
  | succ i => exact t.le i y y' (by simpa using hy) (by simpa using hy')⟩

theorem c5b {f : α → List AV} {fr : Fr} {h : Hp} {rs : List ResultVar} {id g ty sz : Nat} {l l' : List α} (h1 : b6h tt fr h rs = some [.ref id g]) (hh : u8u h id = some (g, .row ty sz (l.map f))) (hf : ∀ a, ((f a).all AV.cl) = true) (he : l = l') : ∃ l h', b6h tt fr h rs = some l ∧ FinL h l [.row (.rd true) ty sz (l'.map f)] h' := by
 subst he
 exact ⟨_, _, h1, .ref hh (Le.ow_map l (fun _ => rfl) hf) .nil⟩
theorem HE.row {h : Hp} {id g ty sz : Nat} {xs xs' : List (List AV)} {r : Hp} (he : u8u h id = some (g, .row ty sz xs)) (e : xs = xs') (t : HE h r) : HE h ((id, (g, .row ty sz xs')) :: r) := by subst e; exact .same he t
theorem HE.box {h : Hp} {id g ty : Nat} {xs xs' : List AV} {r : Hp} (he : u8u h id = some (g, .box ty xs)) (e : xs = xs') (t : HE h r) : HE h ((id, (g, .box ty xs')) :: r) := by subst e; exact .same he t
variable {x : Operand}
theorem a5g {f : α → List AV} {l : List α} {t e rty sz : Nat} {lo hi : Option Operand} {S E : TS} {m : Bool} {a b : Int} (hx : evO fr x = some (.row (.rd m) rty sz (l.map f))) (hs : tt t = some S) (hk : S.kind = .sl e) (he : tt e = some E) (hz : sz = E.size) (ha : c3l fr 0 lo = some a) (hb : c3l fr ((l.map f).length : Int) hi = some b) (h0 : 0 ≤ a) (h1 : a ≤ b) (h2 : b ≤ l.length)
  (k : p3p P tt ops r ((d, .row (.rd m) rty sz (((l.take b.toNat).drop a.toNat).map f)) :: fr) h (([], []) :: lg) K) : p3p P tt ops (⟨some d, .slice t x lo hi none, ty, pos, af, none⟩ :: r) fr h lg K := by
 refine s3s ?_; simp only [a0p, Opt, hx, hs, hk, he, ha, hb]
 refine ⟨hz, h0, h1, by simpa using h2, ?_⟩
 rw [← List.map_take, ← List.map_drop]
 exact k

theorem u5u (w' : Value) (hx : evO fr x = some (.pv u)) (hy : evO fr y = some (.pv v)) (hv : b9h op u v = some w) (e : w = w') (k : p3p P tt ops r ((d, .pv w') :: fr) h (([], []) :: lg) K) : p3p P tt ops (⟨some d, .binOp op t x y t', ty, pos, af, none⟩ :: r) fr h lg K := by
 subst e; exact a0j hx hy hv k
theorem s5s (w' : Int) (hx : evO fr x = some (.pv (.int kd n))) (hs : tt s = some S) (ht : tt t = some D) (h0 : S.kind = .int k0) (h1 : D.kind = .int k') (e : k'.wrap n = w') (k : p3p P tt ops r ((d, .pv (.int k' w')) :: fr) h (([], []) :: lg) K) :
  p3p P tt ops (⟨some d, .convert s t x, ty, pos, af, none⟩ :: r) fr h lg K := by
 subst e; exact c4s hx hs ht h0 h1 k
theorem q3q (hk : k = .i64) (e : n = m) (h0 : -9223372036854775808 ≤ n) (h1 : n < 9223372036854775808) : Value.int k (k.wrap n) = .int k m := by
 subst hk e; rw [w0w h0 h1]
variable {t t' : Nat} {y : Operand}
theorem r0r {a b : Nat} (hx : evO fr x = some (.pv (.int .i64 (a : Int)))) (hy : evO fr y = some (.pv (.int .i64 (b : Int)))) (hb : a + b < 9223372036854775808) (k : p3p P tt ops r ((d, .pv (.int .i64 ((a + b : Nat) : Int))) :: fr) h (([], []) :: lg) K) : p3p P tt ops (⟨some d, .binOp .add t x y t', ty, pos, af, none⟩ :: r) fr h lg K :=
 u5u _ hx hy rfl (q3q rfl (by omega) (by omega) (by omega)) k
theorem a0w {a b : Nat} (hx : evO fr x = some (.pv (.int .i64 (a : Int)))) (hy : evO fr y = some (.pv (.int .i64 (b : Int)))) (hb : b ≤ a) (ha : a < 9223372036854775808) (k : p3p P tt ops r ((d, .pv (.int .i64 ((a - b : Nat) : Int))) :: fr) h (([], []) :: lg) K) : p3p P tt ops (⟨some d, .binOp .sub t x y t', ty, pos, af, none⟩ :: r) fr h lg K :=
 u5u _ hx hy rfl (q3q rfl (by omega) (by omega) (by omega)) k
theorem b0i {a b : Nat} (hx : evO fr x = some (.pv (.int .i64 (a : Int)))) (hy : evO fr y = some (.pv (.int .i64 (b : Int)))) (hb : a * b < 9223372036854775808) (k : p3p P tt ops r ((d, .pv (.int .i64 ((a * b : Nat) : Int))) :: fr) h (([], []) :: lg) K) : p3p P tt ops (⟨some d, .binOp .mul t x y t', ty, pos, af, none⟩ :: r) fr h lg K := by
 have e : (a : Int) * (b : Int) = ((a * b : Nat) : Int) := by simp
 exact u5u _ hx hy rfl (q3q rfl e (by omega) (by omega)) k
theorem a4h {a b : Nat} (hx : evO fr x = some (.pv (.int .i64 (a : Int)))) (hy : evO fr y = some (.pv (.int .i64 (b : Int)))) (hb : b ≠ 0) (k : p3p P tt ops r ((d, .pv (.int .i64 ((a % b : Nat) : Int))) :: fr) h (([], []) :: lg) K) : p3p P tt ops (⟨some d, .binOp .rem t x y t', ty, pos, af, none⟩ :: r) fr h lg K := by
 have hb' : ¬ (b : Int) = 0 := by omega
 have e : ((a % b : Nat) : Int) = (a : Int).tmod (b : Int) := (IntWalk.up_tmod rfl rfl).symm
 exact a0j hx hy (by simp only [b9h, if_true, hb', if_false]; rw [e]) k
theorem b6m {a b : Nat} (hx : evO fr x = some (.pv (.int .i64 (a : Int)))) (hy : evO fr y = some (.pv (.int .i64 (b : Int)))) (hb : b ≠ 0) (ha : a < 9223372036854775808) (k : p3p P tt ops r ((d, .pv (.int .i64 ((a / b : Nat) : Int))) :: fr) h (([], []) :: lg) K) : p3p P tt ops (⟨some d, .binOp .quo t x y t', ty, pos, af, none⟩ :: r) fr h lg K := by
 have hb' : ¬ (b : Int) = 0 := by omega
 have e : (a : Int).tdiv (b : Int) = ((a / b : Nat) : Int) := IntWalk.up_tdiv rfl rfl
 have h2 := Nat.div_le_self a b
 refine a0j hx hy (w := .int .i64 ((a / b : Nat) : Int)) ?_ k
 simp only [b9h, if_true, hb', if_false]
 rw [e]
 generalize a / b = q at h2 ⊢
 rw [w0w (by omega) (by omega)]
theorem c5d {a b : Nat} (hx : evO fr x = some (.pv (.int .i64 (a : Int)))) (hy : evO fr y = some (.pv (.int .i64 (b : Int)))) (ha : a < 9223372036854775808) (hb : b < 9223372036854775808) (k : p3p P tt ops r ((d, .pv (.int .i64 ((a ^^^ b : Nat) : Int))) :: fr) h (([], []) :: lg) K) : p3p P tt ops (⟨some d, .binOp .xor t x y t', ty, pos, af, none⟩ :: r) fr h lg K := by
 have h2 : a ^^^ b < 2 ^ 63 := Nat.xor_lt_two_pow (by omega) (by omega)
 have e : (BitVec.ofInt IntKind.i64.bits (a : Int) ^^^ BitVec.ofInt IntKind.i64.bits (b : Int)).toNat = a ^^^ b := by
  have e1 : IntKind.i64.bits = 64 := rfl
  rw [BitVec.toNat_xor, BitVec.toNat_ofInt, BitVec.toNat_ofInt, e1]
  have p : (2 : Int) ^ 64 = 18446744073709551616 := by decide
  congr 1
  ·have : ((a : Int) % ((2 ^ 64 : Nat) : Int)).toNat = a := by omega
   exact this
  ·have : ((b : Int) % ((2 ^ 64 : Nat) : Int)).toNat = b := by omega
   exact this
 refine a0j hx hy (w := .int .i64 ((a ^^^ b : Nat) : Int)) ?_ k
 simp only [b9h, if_true, e]
 rw [w0w (by omega) (by omega)]
theorem a5h {s t : Nat} {a : Nat} (hx : evO fr x = some (.pv (.int kd (a : Int)))) (hs : tt s = some S) (ht : tt t = some D) (h0 : S.kind = .int k0) (h1 : D.kind = .int .i64) (ha : a < 9223372036854775808) (k : p3p P tt ops r ((d, .pv (.int .i64 (a : Int))) :: fr) h (([], []) :: lg) K) :
  p3p P tt ops (⟨some d, .convert s t x, ty, pos, af, none⟩ :: r) fr h lg K :=
 s5s _ hx hs ht h0 h1 (w0w (by omega) (by omega)) k

theorem c0f {tt : TT} (h1 : b6h tt fr h rs = some [.agg cs]) (he : cs = cs') (hc : (cs'.all AV.cl) = true) (ho : (cs'.all AV.one) = true) : ∃ l h', b6h tt fr h rs = some l ∧ FinL h l [.agg cs'] h' := by
 subst he
 exact ⟨_, _, h1, .agg ho (FinL.pvs hc) .nil⟩
end
section
variable {P : Program}
abbrev pI (n : Int) : AV := .pv (.int .i64 n)
def b1x (P : Program) (f : Field) (i : Nat) : Bool := f.name != "_" && f.offset == i && (match P.underlying f.type with
 | some (.int .i64) => true
 | _ => false)
theorem b7i {f : Field} {i : Nat} (hf : b1x P f i = true) (w : World) {xs : List Value} {v : Value} (hv : xs[i]? = some v) : (part f.type xs.toArray f.offset).run P w = .ok v w := by
 simp only [b1x, Bool.and_eq_true, beq_iff_eq] at hf
 obtain ⟨⟨h1, h2⟩, h3⟩ := hf
 split at h3
 ·rename_i hu
  have hag : (isAgg f.type).run P w = .ok false w := by
   unfold isAgg
   rw [Sem.run_bind, run_underlying hu w]
   simp [TypeDesc.isRow]
  subst h2
  simp [part, hag, hv]
 ·cases h3
theorem a7b (d : Nat) (w : World) : ∀ (fs : List Field) (i : Nat) (az bs : List Int), (fs.zipIdx i).all (fun p => b1x P p.1 p.2) = true → az.length = i + fs.length → bs.length = i + fs.length →
  (Op.eqFields (d + 1) (az.map (Value.int .i64)).toArray (bs.map (Value.int .i64)).toArray fs).run P w = .ok (az.drop i == bs.drop i) w
 | [], i, az, bs, _, h1, h2 => by
  rw [List.drop_of_length_le (by simp at h1; omega), List.drop_of_length_le (by simp at h2; omega)]
  simp [Op.eqFields]
 | f :: fs, i, az, bs, hf, h1, h2 => by
  rw [List.zipIdx_cons, List.all_cons, Bool.and_eq_true] at hf
  obtain ⟨hf0, hf⟩ := hf
  have la : i < az.length := by simp at h1; omega
  have lb : i < bs.length := by simp at h2; omega
  have ih := a7b d w fs (i + 1) az bs hf (by simp at h1 ⊢; omega) (by simp at h2 ⊢; omega)
  have pa := b7i hf0 w (xs := az.map (Value.int .i64)) (v := .int .i64 az[i]) (by simp [la])
  have pb := b7i hf0 w (xs := bs.map (Value.int .i64)) (v := .int .i64 bs[i]) (by simp [lb])
  have hn : f.name ≠ "_" := by
   simp only [b1x, Bool.and_eq_true] at hf0
   simpa using hf0.1.1
  have hu : P.underlying f.type = some (.int .i64) := by
   simp only [b1x, Bool.and_eq_true] at hf0
   have := hf0.2
   split at this
   ·assumption
   ·cases this
  rw [List.drop_eq_getElem_cons la, List.drop_eq_getElem_cons lb]
  simp only [Op.eqFields, if_pos hn, Sem.run_bind, pa, pb, Result.andThen_ok, run_equalIn_int w d f.type .i64 .i64 _ _ hu, List.cons_beq_cons]
  cases hc : (az[i] == bs[i])
  ·simp
  ·simpa using ih

theorem b7j (hu : P.underlying t = some (.struct fs)) (hp : P.stoodInHeld t = false) (hm : P.eqGuardType P.depth t = false) (hf : (fs.toList.zipIdx 0).all (fun p => b1x P p.1 p.2) = true) (x y : Operand) (az bs : List Int) (h1 : az.length = fs.size) (h2 : bs.length = fs.size) :
  EqA P t x y (.agg (az.map pI)) (.agg (bs.map pI)) (az == bs) := by
 intro X w u v h12 hu' hv' op hop
 have conv : ∀ (l : List Int) (us : List Value), VRs X w (l.map pI) us → us = l.map (Value.int .i64) := by
  intro l
  induction l with
  | nil => intro us h; exact List.eq_nil_of_length_eq_zero (by simpa using h.len)
  | cons a l ih =>
   intro us h
   cases us with
   | nil => have := h.len; simp at this
   | cons z zs =>
    have e1 : z = .int .i64 a := (h.rel 0 (pI a) z rfl rfl).pv_inv
    rw [List.map_cons, ← ih zs h.tail, e1]
 obtain ⟨us, rfl, hus⟩ := hu'.agg_inv
 obtain ⟨vs, rfl, hvs⟩ := hv'.agg_inv
 rw [conv _ _ hus, conv _ _ hvs]
 have e := a7b (P := P) 9998 w fs.toList 0 az bs hf (by simpa using h1) (by simpa using h2)
 have hfo : P.fieldsOf t = fs := by simp [Program.fieldsOf, hu]
 have he : (Op.equalIn 10000 t (.agg (az.map (Value.int .i64)).toArray) (.agg (bs.map (Value.int .i64)).toArray)).run P w = .ok (az == bs) w := by
  rw [run_equalIn_struct (P := P) w 9999 t _ _ (by rw [hfo]; exact hu) hp, hfo]
  simpa using e
 rw [Sem.run_bind, run_eqGuard_agg w op t x y _ _ hm, Result.andThen_ok]
 rcases hop with rfl | rfl
 ·rw [run_eql_struct, he]; rfl
 ·rw [run_neq_struct, he]; rfl
theorem c2m (hu : P.underlying t = some .bool) (x y : Operand) (a b : Bool) : EqA P t x y (.pv (.bool a)) (.pv (.bool b)) (a == b) := by
 intro X w u v h12 h1 h2 op hop
 have e1 := h1.pv_inv
 have e2 := h2.pv_inv
 subst e1 e2
 have he : (Op.equal t (.bool a) (.bool b)).run P w = .ok (a == b) w := run_equalIn_bool w 9999 t a b hu
 rcases hop with rfl | rfl
 ·simp [eqGuard, binOp, he, a6u]
 ·simp [eqGuard, binOp, he, a6u]

theorem c0g (t : Nat) (ht : fr.get t = some (.row (.rd m) ty sz xs)) (hx : xs.length ≤ 9223372036854775807 → Ex P n c fr h Q) : Ex P n c fr h Q := fun X B a w hS hF hd => by
 obtain ⟨v, h1, h2⟩ := hF.slot t _ ht
 obtain ⟨A, cp, u, e, g1, g2, _⟩ := h2.row_inv
 refine hx ?_ X B a w hS hF hd
 unfold maxLen at g2
 omega
theorem s1s {α : Type} {f : α → List AV} {l : List α} {n : Nat} {c : Code} {fr : Fr} {h : Hp} {Q : Exit → Fr → Hp → Prop} (t : Nat) {m : Bool} {ty sz : Nat} (ht : fr.get t = some (.row (.rd m) ty sz (l.map f))) (hx : l.length ≤ 9223372036854775807 → Ex P n c fr h Q) : Ex P n c fr h Q :=
 c0g t ht (fun hl => hx (by rwa [List.length_map] at hl))
end
section
variable {P : Program}
variable {n : Nat} {fr : Fr} {h : Hp} {Q : Exit → Fr → Hp → Prop}
theorem HE.app (ka : HE h a) (kb : HE h b) : HE h (a ++ b) := by
 induction ka with
 | nil => exact kb
 | same he _ ih => exact .same he ih
 | kill he _ ih => exact .kill he ih
theorem Fr.get_app (a b : Fr) (t : Nat) : Fr.get (a ++ b) t = match a.get t with
  | some v => some v
  | none => b.get t := by
 induction a with
 | nil => rfl
 | cons p a ih =>
  obtain ⟨k, v⟩ := p
  rw [List.cons_append, Fr.get_cons, Fr.get_cons]
  split
  ·rfl
  ·exact ih
theorem Cov.app (ka : Cov a f) (kb : Cov b f) : Cov (a ++ b) f := fun t av hg => by
 rw [Fr.get_app] at hg
 cases ha : a.get t with
 | some v => rw [ha] at hg; cases hg; exact ka t _ ha
 | none => rw [ha] at hg; exact kb t av hg

abbrev c9i {ι : Type} (uF : ι → Gn → Fr) (uH : ι → Gn → Hp) (ok : ι → Prop) (bs : Fr) (bh : Hp) (fr' : Fr) (h' : Hp) : Prop :=
 ∃ i, ok i ∧ ∃ g' : List Nat, Cov (uF i (gl g')) fr' ∧ Cov bs fr' ∧ HE h' (uH i (gl g')) ∧ HE h' bh ∧ c7t h' (uH i (gl g') ++ bh) = true
theorem v9v (uF : ι → Gn → Fr) (uH : ι → Gn → Hp) (ok : ι → Prop) (μ : ι → Nat) (kf : Cov bs fr) (kh : HE h bh) (i0 : ι) (h0 : ok i0) (g0 : List Nat) (cf : Cov (uF i0 (gl g0)) fr) (ch : HE h (uH i0 (gl g0))) (hd : c7t h (uH i0 (gl g0) ++ bh) = true)
  (step : ∀ i γ, ok i → Ex P n c (uF i γ ++ bs) (uH i γ ++ bh) (b4k (c9i uF uH (fun i' => ok i' ∧ μ i' < μ i) bs bh) Q)) : Ex P n (.loop c) fr h Q :=
 c4p (ι := ι × Gn) (fun p => uF p.1 p.2 ++ bs) (fun p => uH p.1 p.2 ++ bh) (fun p => ok p.1) (fun p => μ p.1) (i0, gl g0) h0 (cf.app kf) (HE.hw (ch.app kh) hd) fun p hp => (step p.1 p.2 hp).mono fun e fr' h' hq => by
  cases e with
  | normal =>
   obtain ⟨i', ⟨h1, h2⟩, g', h3, h4, h5, h6, h7⟩ := hq
   exact ⟨(i', gl g'), h1, h2, h3.app h4, HE.hw (h5.app h6) h7⟩
  | _ => exact hq
theorem b0j (uF : ι → Gn → Fr) (uH : ι → Gn → Hp) (ok : ι → Prop) (kf : Cov bs fr) (kh : HE h bh)
  (h1 : Ex P n c fr h (b4k (c9i uF uH ok bs bh) Q)) (h2 : ∀ i γ, ok i → Ex P n d (uF i γ ++ bs) (uH i γ ++ bh) Q) : Ex P n (.seq c d) fr h Q :=
 b4l _ h1 fun fr' h' ⟨i, k1, g', k2, k3, k4, k5, k6⟩ => c4o (k2.app k3) (HE.hw (k4.app k5) k6) (h2 i (gl g') k1)

theorem c6x (t : Nat) (ht : fr.get t = some a) (hf' : FinL h [a] [b] h') (hx : Ex P n c ((t, b) :: fr) h' Q) : Ex P n c fr h Q := fun X B A w hS hF hd => by
 obtain ⟨v, g1, g2⟩ := hF.slot t a ht
 obtain ⟨Y, k1, k2, k3⟩ := hf'.sound hS (vs := [v]) rfl (fun i a' v' ha hv => by
  cases i with
  | zero => simp only [List.getElem?_cons_zero, Option.some.injEq] at ha hv; subst ha hv; exact g2
  | succ i => simp at ha)
 have hF' : FrOK Y w n (Fr.get ((t, b) :: fr)) A := by
  refine ⟨hF.size, fun k av hk => ?_⟩
  rw [Fr.get_cons] at hk
  split at hk
  ·rename_i e; subst e; cases hk
   exact ⟨v, g1, .cl (k3 0 b v rfl rfl)⟩
  ·obtain ⟨u, q1, q2⟩ := hF.slot k av hk
   exact ⟨u, q1, q2.mono k1 hS.ok12 (fun _ _ => rfl)⟩
 refine wp_mono (hx Y B A w k2 hF' hd) fun e a' w' ⟨fr', h'', X', q1, q2, q3, q4, q5, q6⟩ => ⟨fr', h'', X', q1, k1.trans q2, q3, q4, q5, fun b hb => q6 b (k1.ok2 b hb)⟩
theorem TRs.mid (h : TRs X w (cs1 ++ c :: cs2) us S) : ∃ us1 v us2 S1 S0 S2, us = us1 ++ v :: us2 ∧ S = S1 ++ (S0 ++ S2) ∧ us1.length = cs1.length ∧ TRs X w cs1 us1 S1 ∧ TRs X w [c] [v] S0 ∧ TRs X w cs2 us2 S2 := by
 obtain ⟨us1, us', S1, S', rfl, rfl, k1, k2⟩ := h.split
 obtain ⟨us0, us2, S0, S2, rfl, rfl, k3, k4⟩ := TRs.split (cs := [c]) k2
 have := k3.len
 match us0, this with
 | [v], _ => exact ⟨us1, v, us2, S1, S0, S2, rfl, rfl, k1.len, k1, k3, k4⟩
theorem TRs.ow1 (h : TRs X w [.row .ow ty sz ys] [v] S) : ∃ ws S', S = (a3y v).toList ++ S' ∧ Own w ty sz v ys.length ws ∧ Lens sz ys ∧ TRs X.bare w ys.flatten ws S' := by
 generalize hl : [AV.row .ow ty sz ys] = l at h
 cases h with
 | vr h1 h2 => cases hl; simp [AV.isOw] at h2
 | own ho hlen hi t =>
  cases hl
  cases t
  exact ⟨_, _, by simp, ho, hlen, hi⟩
variable {ty2 sz2 : Nat} {ys : List (List AV)}

theorem SRf.splitCell {X : Cx} {B : Base} {h : HF} {F : Nat → List Nat} {w : World} (H : SRf X B h F w) {id g id' g' : Nat} {e : Ent} (he : h id = some (g, e)) (hd : h id' = some (g', .dead)) (hne : id ≠ id') {cs1 cs2 : List AV} {e' : Ent}
  (hin : ∀ f, EntOK X w id g f e → ∃ (us : List Value) (S S0 : List Nat), TRs X w (cs1 ++ .row .ow ty2 sz2 ys :: cs2) us S ∧ (S0 ++ S).Nodup ∧ (∀ c ∈ S0 ++ S, c ∈ f) ∧ ∀ (Y : Cx) S', X.le Y → TRs Y w (cs1 ++ .ref id' (g' + 1) :: cs2) us S' → (S0 ++ S').Nodup → EntOK Y w id g (S0 ++ S') e') :
  ∃ Y, X.le Y ∧ Y.ok2 = X.ok2 ∧ SRh Y B (upd (upd h id' (g' + 1, .row ty2 sz2 ys)) id (g, e')) w := by
 obtain ⟨us, S, S0, k1, k2, k3, k4⟩ := hin _ (H.ent id g e he)
 obtain ⟨us1, v, us2, S1, Sm, S2, rfl, rfl, l1, t1, tm, t2⟩ := k1.mid
 obtain ⟨ws, S', rfl, o1, o2, o3⟩ := tm.ow1
 have hfree := H.free hd
 let Y := X.setR id' (g' + 1) (v, sz2)
 have hX : X.le Y := Cx.le_setR hfree.2
 obtain ⟨A, nn, c, hv⟩ : ∃ A nn c, v = .slice A nn c := by
  rcases o1.2 with ⟨A, e1, _⟩ | ⟨b, cap, cur, e1, _⟩ <;> exact ⟨_, _, _, e1⟩
 have hnd := List.nodup_append.1 k2
 have hnd2 := List.nodup_append.1 hnd.2.1
 have hnd3 := List.nodup_append.1 hnd2.2.1
 have hS13 : (S0 ++ (S1 ++ S2)).Nodup := by
  refine List.nodup_append.2 ⟨hnd.1, List.nodup_append.2 ⟨hnd2.1, hnd3.2.1, fun a ha b hb => hnd2.2.2 a ha b (List.mem_append_right _ hb)⟩, fun a ha b hb => hnd.2.2 a ha b ?_⟩
  rcases List.mem_append.1 hb with hb | hb
  ·exact List.mem_append_left _ hb
  ·exact List.mem_append_right _ (List.mem_append_right _ hb)
 have tr : TRs Y w (cs1 ++ .ref id' (g' + 1) :: cs2) (us1 ++ v :: us2) (S1 ++ S2) := by
  have q1 := t1.mono hX H.ok12 (fun _ _ => rfl) (fun _ _ => rfl)
  have q2 := t2.mono hX H.ok12 (fun _ _ => rfl) (fun _ _ => rfl)
  subst hv
  exact q1.append (.vr rfl rfl VR.setR q2)
 have hE := k4 Y (S1 ++ S2) hX tr hS13
 have hown : ∀ c ∈ (a3y v).toList ++ S', c ∈ F id := fun c hc => k3 c (List.mem_append_right _ (List.mem_append_right _ (List.mem_append_left _ hc)))
 have b0m : ∀ c ∈ S0 ++ (S1 ++ S2), c ∈ F id := fun c hc => by
  rcases List.mem_append.1 hc with hc | hc
  ·exact k3 c (List.mem_append_left _ hc)
  ·rcases List.mem_append.1 hc with hc | hc
   ·exact k3 c (List.mem_append_right _ (List.mem_append_left _ hc))
   ·exact k3 c (List.mem_append_right _ (List.mem_append_right _ (List.mem_append_right _ hc)))
 have hdisj : ∀ c ∈ S0 ++ (S1 ++ S2), c ∉ (a3y v).toList ++ S' := fun c hc hc' => by
  rcases List.mem_append.1 hc with hc | hc
  ·exact hnd.2.2 c hc c (List.mem_append_right _ (List.mem_append_left _ hc')) rfl
  ·rcases List.mem_append.1 hc with hc | hc
   ·exact hnd2.2.2 c hc c (List.mem_append_left _ hc') rfl
   ·exact hnd3.2.2 c hc' c hc rfl
 let F' := a4d (a4d F id' ((a3y v).toList ++ S')) id (S0 ++ (S1 ++ S2))
 have f1 : F' id = S0 ++ (S1 ++ S2) := by simp [F', a4d]
 have f2 : F' id' = (a3y v).toList ++ S' := by simp [F', a4d, Ne.symm hne]
 have f3 : ∀ k, k ≠ id → k ≠ id' → F' k = F k := fun k h1 h2 => by simp [F', a4d, h1, h2]
 have u1 : (upd (upd h id' (g' + 1, .row ty2 sz2 ys)) id (g, e')) id = some (g, e') := a2i _ _ _
 have u2 : (upd (upd h id' (g' + 1, .row ty2 sz2 ys)) id (g, e')) id' = some (g' + 1, .row ty2 sz2 ys) := by rw [p8p _ (Ne.symm hne), a2i]
 have u3 : ∀ k, k ≠ id → k ≠ id' → (upd (upd h id' (g' + 1, .row ty2 sz2 ys)) id (g, e')) k = h k := fun k h1 h2 => by rw [p8p _ h1, p8p _ h2]
 have mem : ∀ k ge b, (upd (upd h id' (g' + 1, .row ty2 sz2 ys)) id (g, e')) k = some ge → b ∈ F' k → (k = id ∧ b ∈ S0 ++ (S1 ++ S2)) ∨ (k = id' ∧ b ∈ (a3y v).toList ++ S') ∨ (k ≠ id ∧ k ≠ id' ∧ h k = some ge ∧ b ∈ F k) := fun k ge b hk hb => by
  by_cases h1 : k = id
  ·subst h1; rw [f1] at hb; exact .inl ⟨rfl, hb⟩
  ·by_cases h2 : k = id'
   ·subst h2; rw [f2] at hb; exact .inr (.inl ⟨rfl, hb⟩)
   ·rw [u3 k h1 h2] at hk; rw [f3 k h1 h2] at hb; exact .inr (.inr ⟨h1, h2, hk, hb⟩)
 have inF : ∀ k ge b, (upd (upd h id' (g' + 1, .row ty2 sz2 ys)) id (g, e')) k = some ge → b ∈ F' k → ∃ j ge', h j = some ge' ∧ b ∈ F j := fun k ge b hk hb => by
  rcases mem k ge b hk hb with ⟨_, h1⟩ | ⟨_, h1⟩ | ⟨_, _, h1, h2⟩
  ·exact ⟨id, _, he, b0m b h1⟩
  ·exact ⟨id, _, he, hown b h1⟩
  ·exact ⟨k, ge, h1, h2⟩
 refine ⟨Y, hX, rfl, F', ?_, ?_, ?_, ?_, H.ok12, H.in1, H.in2, ?_, ?_, H.os, H.tape, H.output, H.size, H.keep⟩
 ·intro k gk ek hk
  by_cases h1 : k = id
  ·subst h1; rw [u1] at hk; cases hk; rw [f1]; exact hE
  ·by_cases h2 : k = id'
   ·subst h2; rw [u2] at hk; cases hk; rw [f2]
    refine ⟨v, ws, S', by simp [Y, Cx.setR], o1, o2, o3.mono ⟨fun _ h => h, fun _ h => h, fun _ _ _ h => (by cases h), fun _ _ _ h => (by cases h)⟩ H.ok12 (fun _ _ => rfl) (fun _ _ => rfl), hnd3.1, fun c hc => hc⟩
   ·rw [u3 k h1 h2] at hk; rw [f3 k h1 h2]
    exact (H.ent k gk ek hk).mono hX H.ok12 (fun _ _ => rfl) (fun _ _ => rfl)
 ·intro k ge b hk hb
  obtain ⟨j, ge', h1, h2⟩ := inF k ge b hk hb
  exact H.blk j ge' b h1 h2
 ·intro k j ge ge' b hk hj hb hb'
  rcases mem k ge b hk hb with ⟨q1, q2⟩ | ⟨q1, q2⟩ | ⟨q1, q2, q3, q4⟩ <;> rcases mem j ge' b hj hb' with ⟨r1, r2⟩ | ⟨r1, r2⟩ | ⟨r1, r2, r3, r4⟩
  ·rw [q1, r1]
  ·exact absurd r2 (hdisj b q2)
  ·exact absurd (H.sep _ _ _ _ b he r3 (b0m b q2) r4) (Ne.symm r1)
  ·exact absurd q2 (hdisj b r2)
  ·rw [q1, r1]
  ·exact absurd (H.sep _ _ _ _ b he r3 (hown b q2) r4) (Ne.symm r1)
  ·exact absurd (H.sep _ _ _ _ b q3 he q4 (b0m b r2)) q1
  ·exact absurd (H.sep _ _ _ _ b q3 he q4 (hown b r2)) q1
  ·exact H.sep _ _ _ _ b q3 r3 q4 r4
 ·refine fun b hb => ⟨(H.ok2 b hb).1, fun k ge hk hbk => ?_⟩
  obtain ⟨j, ge', h1, h2⟩ := inF k ge b hk hbk
  exact (H.ok2 b hb).2 j ge' h1 h2
 ·intro k ge b hk hb
  obtain ⟨j, ge', h1, h2⟩ := inF k ge b hk hb
  exact H.own j ge' b h1 h2
 ·intro k gk hk
  by_cases h2 : k = id'
  ·subst h2
   have hg : g' + 1 < gk := hk _ _ u2
   have := H.hist k gk (fun g2 e2 hh => by rw [hd] at hh; cases hh; omega)
   refine ⟨this.1, ?_⟩
   show (X.setR k (g' + 1) (v, sz2)).rw k gk = none
   simp only [Cx.setR]
   rw [if_neg (by omega)]
   exact this.2
  ·have := H.hist k gk (fun g2 e2 hh => by
    by_cases h1 : k = id
    ·subst h1; rw [he] at hh; cases hh; exact hk _ e' u1
    ·exact hk g2 e2 (by rw [u3 k h1 h2]; exact hh))
   refine ⟨this.1, ?_⟩
   show (X.setR id' (g' + 1) (v, sz2)).rw k gk = none
   simp only [Cx.setR]
   rw [if_neg (fun h => h2 h.1)]
   exact this.2
theorem hf2 (h : Hp) (i j : Nat) (p q : Nat × Ent) : hf ((i, p) :: (j, q) :: h) = upd (upd (hf h) j q) i p := by rw [a3n, a3n]
theorem b2t (hk : ∀ (X : Cx) (B : Base) (w : World), SRh X B (hf h) w → ∃ Y, X.le Y ∧ Y.ok2 = X.ok2 ∧ SRh Y B (hf h') w) (hx : Ex P n c fr h' Q) : Ex P n c fr h Q := fun X B a w hS hF hd => by
 obtain ⟨Y, k1, k2, k3⟩ := hk X B w hS
 refine wp_mono (hx Y B a w k3 (hF.mono k1 hS.ok12 (fun _ _ => rfl)) hd) fun e a' w' ⟨fr', h'', X', q1, q2, q3, q4, q5, q6⟩ => ⟨fr', h'', X', q1, k1.trans q2, q3, q4, q5, fun b hb => q6 b (by rw [k2]; exact hb)⟩
theorem a6g (hc : cs[off]? = some c) : cs = cs.take off ++ c :: cs.drop (off + 1) ∧ ∀ c', cs.set off c' = cs.take off ++ c' :: cs.drop (off + 1) := by
 obtain ⟨hp, he⟩ := List.getElem?_eq_some_iff.1 hc
 refine ⟨by rw [← he, List.getElem_cons_drop, List.take_append_drop], fun c' => by rw [List.set_eq_take_append_cons_drop, if_pos hp]⟩
theorem c0h {c : Code} (id off id' : Nat) {g g' ty ty2 sz2 : Nat} {cs cs' : List AV} (hh : u8u h id = some (g, .box ty cs)) (hc : cs[off]? = some (.row .ow ty2 sz2 ys)) (hd : u8u h id' = some (g', .dead)) (hne : Nat.beq id id' = false) (hcs : cs.set off (.ref id' (g' + 1)) = cs')
  (k : Ex P n c fr ((id, (g, .box ty cs')) :: (id', (g' + 1, .row ty2 sz2 ys)) :: h) Q) : Ex P n c fr h Q := by
 subst hcs
 have hne' : id ≠ id' := fun e => by subst e; rw [Nat.beq_refl] at hne; cases hne
 refine b2t (fun X B w hS => ?_) k
 obtain ⟨F, hS⟩ := hS
 rw [hf2]
 refine hS.splitCell (e := .box ty cs) (cs1 := cs.take off) (cs2 := cs.drop (off + 1)) hh hd hne' fun f hE => ?_
 obtain ⟨b, us, S, h1, h2, h3, h4, h5⟩ := hE
 obtain ⟨p1, p2⟩ := a6g hc
 refine ⟨us, S, [b], by rw [← p1]; exact h3, h4, h5, fun Y S' hX ht hn => ?_⟩
 exact ⟨b, us, S', hX.bx _ _ _ h1, h2, by rw [p2]; exact ht, hn, fun c hc => hc⟩
end
section
variable {P : Program}

inductive Strict : AV → Prop
 | pv (v : Value) : Strict (.pv v)
 | row {ty sz : Nat} {xs : List (List AV)} (h : ∀ x ∈ xs, ∀ y ∈ x, Strict y) : Strict (.row (.rd true) ty sz xs)
 | ifc {t : TypeId} {a : AV} (h : Strict a) : Strict (.ifc t a)
 | agg {cs : List AV} (h : ∀ y ∈ cs, Strict y) : Strict (.agg cs)
 | tup {cs : List AV} (h : ∀ y ∈ cs, Strict y) : Strict (.tup cs)
theorem Strict.cr (hs : Strict a) : ∀ {v : Value}, CR o1 o2 w a v → CR o1 o1 w a v := by
 induction hs with
 | pv u => intro v h; cases h; exact .pv u
 | row _ ih =>
  intro v h
  cases h with
  | row A c u hc hm hlen hone had hcell hrec => exact .row A c u hc hm hlen hone had hcell (fun j i x y hx hy => ih x (List.mem_of_getElem? hx) y (List.mem_of_getElem? hy) (hrec j i x y hx hy))
 | ifc _ ih => intro v h; cases h with | ifc _ _ u h => exact .ifc _ _ u (ih h)
 | agg _ ih => intro v h; cases h with | agg us hl hone h => exact .agg us hl hone (fun i y u hy hu => ih y (List.mem_of_getElem? hy) (h i y u hy hu))
 | tup => intro v h; cases h
theorem Strict.vr (hs : Strict a) (h1 : ∀ b, X.ok1 b → Y.ok1 b) (h2 : ∀ b, X.ok1 b → Y.ok2 b) : ∀ {v : Value}, VR X w a v → VR Y w a v := by
 have base : ∀ {a : AV} {v : Value}, Strict a → CR X.ok1 X.ok2 w a v → VR Y w a v := fun hs h => .cl ((hs.cr h).mono h1 h2 (fun _ h => h) (fun b hb => rfl))
 induction hs with
 | pv u => intro v h; rw [h.pv_inv]; exact .pv u
 | row h0 => intro v h; cases h with | cl h => exact base (.row h0) h
 | ifc h0 ih =>
  intro v h
  cases h with
  | cl h => exact base (.ifc h0) h
  | ifc _ _ u h => exact .ifc _ _ u (ih h)
 | agg h0 ih =>
  intro v h
  cases h with
  | cl h => exact base (.agg h0) h
  | agg us hl hone h => exact .agg us hl hone (fun i y u hy hu => ih y (List.mem_of_getElem? hy) (h i y u hy hu))
 | tup h0 ih =>
  intro v h
  cases h with
  | cl h => exact base (.tup h0) h
  | tup us hl h => exact .tup us hl (fun i y u hy hu => ih y (List.mem_of_getElem? hy) (h i y u hy hu))
theorem b8k {α : Type} {f : α → List AV} {ty sz : Nat} {l : List α} (h : ∀ a, ∀ y ∈ f a, Strict y) : Strict (.row (.rd true) ty sz (l.map f)) := .row fun x hx y hy => by
 obtain ⟨a, _, rfl⟩ := List.mem_map.1 hx
 exact h a y hy

inductive LendL (h : Hp) : List AV → List AV → TL → Prop
 | nil : LendL h [] [] []
 | cl {a : AV} {az bs : List AV} {T : TL} (hc : a.cl = true) (t : LendL h az bs T) : LendL h (a :: az) (a :: bs) T
 | le {a b : AV} {az bs : List AV} {T : TL} (hc : a.cl = true) (hl : Le false a b) (t : LendL h az bs T) : LendL h (a :: az) (b :: bs) T
 | ref {id g ty sz : Nat} {xs xs' : List (List AV)} {az bs : List AV} {T : TL} (hh : u8u h id = some (g, .row ty sz xs)) (hl : Le false (.row .ow ty sz xs) (.row (.rd false) ty sz xs')) (t : LendL h az bs T) :
   LendL h (.ref id g :: az) (.row (.rd false) ty sz xs' :: bs) ((id, (g, .row ty sz xs)) :: T)
 | agg {cs ds az bs : List AV} {T1 T : TL} (h1 : (cs.all AV.one) = true) (hc : LendL h cs ds T1) (t : LendL h az bs T) : LendL h (.agg cs :: az) (.agg ds :: bs) (T1 ++ T)
theorem LendL.one (k : LendL h az bs T) : (az.all AV.one) = true → (bs.all AV.one) = true := by
 induction k with
 | nil => exact fun h => h
 | cl hc t ih => intro ha; rw [List.all_cons, Bool.and_eq_true] at ha ⊢; exact ⟨ha.1, ih ha.2⟩
 | le hc hl t ih => intro ha; rw [List.all_cons, Bool.and_eq_true] at ha ⊢; exact ⟨hl.one ha.1, ih ha.2⟩
 | ref hh hl t ih => intro ha; rw [List.all_cons, Bool.and_eq_true] at ha ⊢; exact ⟨rfl, ih ha.2⟩
 | agg => intro ha; simp [AV.one] at ha
theorem LendL.len (k : LendL h az bs T) : bs.length = az.length := by
 induction k with
 | nil => rfl
 | cl _ _ ih => simp [ih]
 | le _ _ _ ih => simp [ih]
 | ref _ _ _ ih => simp [ih]
 | agg _ _ _ _ ih => simp [ih]
theorem LendL.inH (k : LendL h az bs T) : InH h T := by
 induction k with
 | nil => exact .nil
 | cl _ _ ih => exact ih
 | le _ _ _ ih => exact ih
 | ref hh _ _ ih => exact .cons hh ih
 | agg _ _ _ ih1 ih2 =>
  intro p hp
  rcases List.mem_append.1 hp with hp | hp
  ·exact ih1 p hp
  ·exact ih2 p hp
theorem LendL.sound (k : LendL h az bs T) : ∀ {X : Cx} {B : Base} {hF : HF} {F : Nat → List Nat} {w : World} {o2 : Nat → Prop} {vs : List Value}, SRf X B hF F w → (∀ b, X.ok2 b → o2 b) → (∀ id ge, (id, ge) ∈ T → hF id = some ge) → (∀ id ge, (id, ge) ∈ T → ∀ b ∈ F id, o2 b) →
  vs.length = az.length → (∀ (i : Nat) (a : AV) (v : Value), az[i]? = some a → vs[i]? = some v → VR X w a v) → ∀ (i : Nat) (b : AV) (v : Value), bs[i]? = some b → vs[i]? = some v → CR X.ok1 o2 w b v := by
 have glue : ∀ {o1 o2 : Nat → Prop} {w : World} {b : AV} {bs : List AV} {v : Value} {vs : List Value}, CR o1 o2 w b v → (∀ (i : Nat) (c : AV) (u : Value), bs[i]? = some c → vs[i]? = some u → CR o1 o2 w c u) → ∀ (i : Nat) (c : AV) (u : Value), (b :: bs)[i]? = some c → (v :: vs)[i]? = some u → CR o1 o2 w c u := by
  intro o1 o2 w b bs v vs h1 h2 i c u hc hu
  cases i with
  | zero =>
   simp only [List.getElem?_cons_zero, Option.some.injEq] at hc hu
   rw [← hc, ← hu]; exact h1
  | succ i => exact h2 i c u (by simpa using hc) (by simpa using hu)
 induction k with
 | nil => intro X B hF F w o2 vs _ _ _ _ _ _ i b v hb; simp at hb
 | cl hc t ih =>
  intro X B hF F w o2 vs hS h2 hT hb hl hr
  cases vs with
  | nil => simp at hl
  | cons v vs =>
   exact glue (((hr 0 _ v rfl rfl).closed hc).1.mono (fun _ h => h) h2 hS.ok12 (fun _ _ => rfl)) (ih hS h2 hT hb (by simpa using hl) (fun i c u hc hu => hr (i + 1) c u (by simpa using hc) (by simpa using hu)))
 | le hc hle t ih =>
  intro X B hF F w o2 vs hS h2 hT hb hl hr
  cases vs with
  | nil => simp at hl
  | cons v vs =>
   exact glue ((((hr 0 _ v rfl rfl).closed hc).1.mono (fun _ h => h) h2 hS.ok12 (fun _ _ => rfl)).le (fun b hb => h2 b (hS.ok12 b hb)) hle) (ih hS h2 hT hb (by simpa using hl) (fun i c u hc hu => hr (i + 1) c u (by simpa using hc) (by simpa using hu)))
 | @ref id g ty sz xs xs' az bs T hh hle t ih =>
  intro X B hF F w o2 vs hS h2 hT hb hl hr
  cases vs with
  | nil => simp at hl
  | cons v vs =>
   refine glue ?_ (ih hS h2 (fun i ge hm => hT i ge (List.mem_cons_of_mem _ hm)) (fun i ge hm => hb i ge (List.mem_cons_of_mem _ hm)) (by simpa using hl) (fun i c u hc hu => hr (i + 1) c u (by simpa using hc) (by simpa using hu)))
   obtain ⟨v0, us, S, q1, q2, q3, q4, q5, q6⟩ := hS.ent _ _ _ (hT id _ (List.mem_cons_self ..))
   obtain ⟨A, nn, c, s0, e1, e2⟩ := (hr 0 _ v rfl rfl).ref_inv
   rw [q1] at e2
   cases e2
   have hF' := hb id _ (List.mem_cons_self ..)
   cases hle with
   | ow hc hl1 h1 h =>
    have hfl : LeL false xs.flatten xs'.flatten := LeL.flat xs xs' hl1 (fun j x x' hx hx' => ⟨h1 j x x' hx hx', fun i y y' hy hy' => h j i x x' y y' hx hx' hy hy'⟩)
    have hcr := q4.le (k := false) (o1 := X.ok1) (o2 := o2) (fun b hb => h2 b (hS.ok12 b hb)) (fun _ h => h) h2 hS.ok12 hfl (fun b hb => ⟨hF' b (q6 b (List.mem_append_right _ hb)), fun h => (by cases h)⟩)
    rw [e1]
    refine a7z (by rw [hl1]; exact q2) (fun j x' hx' => ?_) hcr (fun b hb => hF' b (q6 b (by simp [hb])))
    have hlt := (List.getElem?_eq_some_iff.1 hx').1
    have hx0 : xs[j]? = some (xs[j]'(by omega)) := List.getElem?_eq_getElem _
    rw [h1 j _ x' hx0 hx']
    exact q3 j _ hx0
 | @agg cs ds az bs T1 T h1 hc t ih1 ih2 =>
  intro X B hF F w o2 vs hS h2 hT hb hl hr
  cases vs with
  | nil => simp at hl
  | cons v vs =>
   refine glue ?_ (ih2 hS h2 (fun i ge hm => hT i ge (List.mem_append_right _ hm)) (fun i ge hm => hb i ge (List.mem_append_right _ hm)) (by simpa using hl) (fun i c u hc hu => hr (i + 1) c u (by simpa using hc) (by simpa using hu)))
   obtain ⟨us, rfl, hu⟩ := (hr 0 _ v rfl rfl).agg_inv
   have h1' := hc.one h1
   exact .agg us (by rw [hu.len, hc.len]) (fun i y hy => List.all_eq_true.1 h1' y (List.mem_of_getElem? hy)) (ih1 hS h2 (fun i ge hm => hT i ge (List.mem_append_left _ hm)) (fun i ge hm => hb i ge (List.mem_append_left _ hm)) hu.len hu.rel)

theorem c0i (hP : a2g P f bs out) (hl : LendL h az bs T) (hs : Strict out) : b6a P f az T [] out := by
 refine ⟨hP.1, fun X B hF w vs hS hlen hr hT => ?_⟩
 obtain ⟨F, hS⟩ := hS
 let lent : Nat → Prop := fun b => ∃ id ge, (id, ge) ∈ T ∧ b ∈ F id
 let X0 : Cx := ⟨X.ok1, fun b => X.ok2 b ∨ lent b, fun _ _ => none, fun _ _ => none⟩
 let B0 : Base := ⟨w, fun _ => False, X0.ok1, X0.ok2⟩
 have lt : ∀ b, lent b → b < w.heap.size := fun b ⟨id, ge, h1, h2⟩ => hS.blk id ge b (hT id ge h1) h2
 have lno : ∀ b, lent b → ¬ X.ok2 b := fun b ⟨id, ge, h1, h2⟩ h3 => (hS.ok2 b h3).2 id ge (hT id ge h1) h2
 have hcr := hl.sound (o2 := X0.ok2) hS (fun b hb => .inl hb) hT (fun id ge hm b hb => .inr ⟨id, ge, hm, hb⟩) hlen hr
 have hS0 : SRh X0 B0 (hf []) w := by
  refine ⟨fun _ => [], ?_, ?_, ?_, ?_, fun b hb => .inl (hS.ok12 b hb), fun b hb => .inl hb, fun b hb => .inl hb, ?_, fun _ _ _ => ⟨rfl, rfl⟩, rfl, rfl, rfl, Nat.le_refl _, fun _ _ _ => rfl⟩
  ·intro id g e he; cases he
  ·intro id ge b he; cases he
  ·intro id id' ge ge' b he; cases he
  ·refine fun b hb => ⟨?_, fun id ge he => by cases he⟩
   rcases hb with hb | hb
   ·exact (hS.ok2 b hb).1
   ·exact lt b hb
  ·intro id ge b he; cases he
 refine (hP.2 X0 B0 (hf []) w vs hS0 (by rw [hl.len]; exact hlen) (fun i a v ha hv => .cl (hcr i a v ha hv)) (fun _ _ h => by cases h)).mono fun e w' hh => ?_
 obtain ⟨v, rfl, X', k1, ⟨F', k2⟩, k3, k4⟩ := hh
 have hkeep : ∀ b, b < w.heap.size → w'.heap[b]? = w.heap[b]? := fun b hb => k2.keep b hb (fun h => h)
 have in1 : ∀ b, X'.ok1 b → X.ok1 b ∨ w.heap.size ≤ b := fun b hb => by
  rcases k2.in1 b hb with h | h | h
  ·exact .inl h
  ·exact h.elim
  ·exact .inr h
 have nol : ∀ b, X'.ok1 b → ¬ lent b := fun b hb hlb => by
  rcases in1 b hb with h | h
  ·exact lno b hlb (hS.ok12 b h)
  ·exact absurd (lt b hlb) (Nat.not_lt.2 h)
 let Z : Cx := ⟨X'.ok1, fun b => X'.ok2 b ∧ ¬ lent b, X.bx, X.rw⟩
 have hX : X.le Z := ⟨k1.ok1, fun b hb => ⟨k1.ok2 b (.inl hb), fun h => lno b h hb⟩, fun _ _ _ h => h, fun _ _ _ h => h⟩
 refine ⟨v, rfl, Z, hX, ⟨F, ?_, ?_, ?_, ?_, fun b hb => ⟨k2.ok12 b hb, nol b hb⟩, ?_, ?_, ?_, ?_, k2.os.trans hS.os, k2.tape.trans hS.tape, k2.output.trans hS.output, Nat.le_trans hS.size k2.size, fun b hb hs' => (hkeep b (Nat.lt_of_lt_of_le hb hS.size)).trans (hS.keep b hb hs')⟩, fun b hb => hkeep b (hS.ok2 b hb).1, hs.vr (X := X') (Y := Z) (fun _ h => h) (fun b hb => ⟨k2.ok12 b hb, nol b hb⟩) k4⟩
 ·intro id g e he
  rw [a3o] at he
  exact (hS.ent id g e he).mono hX hS.ok12 (fun b hb => hkeep b (hS.ok2 b hb).1) (fun b hb => hkeep b (hS.blk id _ b he hb))
 ·intro id ge b he hb
  rw [a3o] at he
  exact Nat.lt_of_lt_of_le (hS.blk id ge b he hb) k2.size
 ·intro id id' ge ge' b he he' hb hb'
  rw [a3o] at he he'
  exact hS.sep id id' ge ge' b he he' hb hb'
 ·refine fun b hb => ⟨(k2.ok2 b hb.1).1, fun id ge he hm => ?_⟩
  rw [a3o] at he
  rcases k2.in2 b hb.1 with h | h | h
  ·rcases h with h | h
   ·exact (hS.ok2 b h).2 id ge he hm
   ·exact hb.2 h
  ·exact h.elim
  ·exact absurd (hS.blk id ge b he hm) (Nat.not_lt.2 h)
 ·intro b hb
  rcases in1 b hb with h | h
  ·exact hS.in1 b h
  ·exact .inr (.inr (Nat.le_trans hS.size h))
 ·intro b hb
  rcases k2.in2 b hb.1 with h | h | h
  ·rcases h with h | h
   ·exact hS.in2 b h
   ·exact absurd h hb.2
  ·exact h.elim
  ·exact .inr (.inr (Nat.le_trans hS.size h))
 ·intro id ge b he hb
  rw [a3o] at he
  exact hS.own id ge b he hb
 ·intro id g hg
  refine hS.hist id g (fun g' e hh => hg g' e ?_)
  rw [a3o]; exact hh
theorem c5e {tt : TT}
  (hf : evO fr x = some (.fn (.func f) fi cap)) (ha : evL (evO fr) args.toList = some avs) (he : fi ++ avs ++ cap = az) (hl : LendL h az bs T) (hC : a2g P f bs out) (hs : Strict out) (k : p3p P tt ops r ((d, out) :: fr) h ((ids T, []) :: lg) K) :
  p3p P tt ops (⟨some d, .call { callee := .value x, args := args, argTypes := at' }, ty, pos, af, none⟩ :: r) fr h lg K := by
 subst he
 refine s3s ?_; simp only [a0p, Opt, hf, ha]
 exact ⟨out, T, [], c0i hC hl hs, hl.inH, Sub.nil, k⟩
end
section
variable {P : Program} {ev : Operand → Option AV}
def c9j {κ : Type} [DecidableEq κ] : List κ → κ → Option Nat
 | [], _ => none
 | a :: r, k => if a = k then some 0 else (c9j r k).map (· + 1)
structure FindK (P : Program) (kt : TypeId) {κ : Type} [DecidableEq κ] (enc : κ → Value) : Prop where
 check : ∀ (w : World) (em : Bool) (k : κ), (Instr.checkKey em 10000 kt (enc k)).run P w = .ok () w
 find : ∀ (w : World) (k : κ) (es : List MapEntry) (ks : List κ), es.map (·.key) = ks.map enc → (Instr.findKey kt (enc k) es).run P w = .ok ((c9j ks k).bind fun j => (es[j]?).map fun e => (j, e.val)) w
 stays : ∀ (w : World) (k : κ), (Instr.keyThatStays (enc k) (enc k)).run P w = .ok (enc k) w
section
variable {κ : Type} [DecidableEq κ] {enc : κ → Value} {kt : TypeId}
end
end
section
variable {P : Program} {ev : Operand → Option AV}
variable {id : Nat}

theorem c5f {tt : TT} (htt : a1j P tt) (ho : o.op = .slice t x none none none) (hx : ev x = some (.ptr id g off)) (hs : tt t = some S) (hk : S.kind = .arr n e) (hi : P.info? e = some i) (hm : n ≤ maxLen) :
  OpS P o ev [] [] (.bsl id g off n) :=
 .quiet fun X B hF a w hS hop hT => by
  obtain ⟨b, e1, hb⟩ := (hop x (by simp [ho, Op.operands]) _ hx).ptr_inv
  refine ⟨.slice (some ⟨b, off, none⟩) n n, ?_, .bsl hb (Nat.le_refl _) hm⟩
  obtain ⟨d, h5, h6⟩ := (htt _ _ hs).desc
  rw [hk] at h6
  simp only [KOk] at h6
  subst h6
  have hA : P.arrayLen t = n := by simp [Program.arrayLen, h5]
  have hE : P.elem t = e := by simp [Program.elem, h5]
  have h0 : (⟨b, off, none⟩ : Addr).add 0 = ⟨b, off, none⟩ := by simp [Addr.add]
  have := run_sliceAt_array_all (P := P) w t ⟨b, off, none⟩ (by rw [hA, hE]; exact h5)
  rw [hA, hE, run_sizeOf w hi] at this
  rw [Result.andThen_ok] at this
  simp only [execOp, ho, e1, Option.map_none, Sem.run_bind]
  rw [this]
  simp [slicedAt, h0]
section
variable {tt : TT} {ops : Array Oper} {r : List Oper} {fr : Fr} {h : Hp} {lg : Log} {K : Fr → Hp → Log → Prop} {d : Nat} {ty : TypeId} {pos : String} {af : Array Edge}
theorem b7k (htt : a1j P tt) (hx : evO fr x = some (.ptr id g off)) (hs : tt t = some S) (hk : S.kind = .arr n e) (he : tt e = some E) (hm : Nat.ble n 1000000 = true)
  (k : p3p P tt ops r ((d, .bsl id g off n) :: fr) h (([], []) :: lg) K) : p3p P tt ops (⟨some d, .slice t x none none none, ty, pos, af, none⟩ :: r) fr h lg K := by
 obtain ⟨i, h1, _⟩ := (htt _ _ he).info
 exact a6w (c5f htt rfl hx hs hk h1 (by have := Nat.le_of_ble_eq_true hm; unfold maxLen; omega)) .nil .nil k
theorem c0j {t e : Nat} {x ix : Operand} {S E : TS} {id g off len j : Nat} {kd : IntKind} (htt : a1j P tt) (hx : evO fr x = some (.bsl id g off len)) (hi : evO fr ix = some (.pv (.int kd (j : Int)))) (hs : tt t = some S) (hk : S.kind = .sl e) (he : tt e = some E) (hz : E.size = 1) (hj : j < len) (k : p3p P tt ops r ((d, .ptr id g (off + j)) :: fr) h (([], []) :: lg) K) :
  p3p P tt ops (⟨some d, .indexAddr t x ix, ty, pos, af, none⟩ :: r) fr h lg K :=
 a6w (a9q htt rfl hx hi hs hk he hz (by omega) (by omega)) .nil .nil (by rw [Int.toNat_natCast]; exact k)
variable {κ : Type} [DecidableEq κ] {enc : κ → Value} {kt : TypeId}
end
end
section
variable {P : Program} {ev : Operand → Option AV}
def a8h (n e sz : Nat) : List (Nat × Nat) := (List.range n).map fun i => (i * sz, e)
theorem b4s {tt : TT} (htt : a1j P tt) (ho : o.op = .build t parts) (hs : tt t = some S) (hk : S.kind = .arr n e) (he : tt e = some E)
  (hp : a4f ev parts.toList = some l) (hf : a0v tt (a8h n e E.size) (S.zero.map .pv) l = some cs) : OpS P o ev [] [] (.agg cs) :=
 .quiet fun X B hF a w hS hop hT => by
  have T := htt _ _ hs
  have TE := htt _ _ he
  obtain ⟨i, h1, h2, h3, h4⟩ := T.info
  obtain ⟨d, h5, h6⟩ := T.desc
  rw [hk] at h6
  simp only [KOk] at h6
  subst h6
  obtain ⟨k1, k2⟩ := a6e (X := X) (w := w) (a := a) parts.toList l hp (fun x hx => hop x (by
   simp only [ho, Op.operands]
   simpa using hx))
  obtain ⟨us', g3, g4⟩ := a6d htt (place := fun j => some (j * E.size, E.size)) (fun i off ft s h h' => by
   simp only [a8h, List.getElem?_map] at h
   cases hr : (List.range n)[i]? with
   | none => rw [hr] at h; cases h
   | some j =>
    rw [hr] at h
    have hj : j = i := by
     have := List.getElem?_eq_some_iff.1 hr
     obtain ⟨q, q2⟩ := this
     simpa using q2.symm
    simp only [Option.map_some, Option.some.injEq, Prod.mk.injEq] at h
    obtain ⟨rfl, rfl⟩ := h
    rw [he] at h'; cases h'
    rw [hj]) l _ _ cs S.zero hf (VRs.pvs (X := X) (w := w) T.z1) k1 k2
  have hag : S.agg = true := by simp [TS.agg, hk]
  have hz := T.zeroValue w
  rw [hag] at hz
  simp only [if_true] at hz
  refine ⟨.agg us'.toArray, ?_, g4.agg⟩
  have g3' : Instr.fill (fun j => some (j * E.size, E.size)) S.zero.toArray (parts.map fun (i, x) => (i, a.eval x)).toList = some us'.toArray := by
   rw [Array.toList_map]; exact g3
  simp only [execOp, ho, Sem.run_bind, Instr.build, hz, Result.andThen_ok, run_underlying h5, TE.sizeOf, Value.cells, g3', Sem.run_pure]
section
variable {tt : TT} {ops : Array Oper} {r : List Oper} {fr : Fr} {h : Hp} {lg : Log} {K : Fr → Hp → Log → Prop} {d : Nat} {ty : TypeId} {pos : String} {af : Array Edge}
theorem a6h (htt : a1j P tt) (hs : tt t = some S) (hk : S.kind = .arr n e) (he : tt e = some E) (hz : S.zero.map .pv = zs) (hp : a4f (evO fr) parts.toList = some l) (hf : a0v tt (a8h n e E.size) zs l = some cs)
  (k : p3p P tt ops r ((d, .agg cs) :: fr) h (([], []) :: lg) K) : p3p P tt ops (⟨some d, .build t parts, ty, pos, af, none⟩ :: r) fr h lg K := by
 subst hz
 exact a6w (b4s htt rfl hs hk he hp hf) .nil .nil k
variable {x ix : Operand} {S E : TS} {kd : IntKind} {j : Nat}
theorem a0c (htt : a1j P tt) {t n e : Nat} {a out : AV} (hx : evO fr x = some a) (hi : evO fr ix = some (.pv (.int kd (j : Int)))) (hs : tt t = some S) (hk : S.kind = .arr n e) (he : tt e = some E) (h1 : j < n) (ho : shift (j * E.size) a = some out)
  (k : p3p P tt ops r ((d, out) :: fr) h (([], []) :: lg) K) : p3p P tt ops (⟨some d, .indexAddr t x ix, ty, pos, af, none⟩ :: r) fr h lg K :=
 a6w (a9r htt rfl hx hi hs hk he (by omega) (by omega) (by rw [Int.toNat_natCast]; exact ho)) .nil .nil k
variable {α : Type}
theorem b2u {f : α → List AV} {l : List α} {el : α} (hj : l[j]? = some el) : (l.map f).getD j [] = f el := by
 rw [List.getD_eq_getElem?_getD, List.getElem?_map, hj]; rfl
theorem a1m {l : List α} {el : α} (hj : l[j]? = some el) : j < l.length := (List.getElem?_eq_some_iff.1 hj).1
variable {t id g off rty sz : Nat} {out : AV}
theorem w8w {f : α → List AV} {l : List α} {el : α} (hx : evO fr x = some (.elt id g j off)) (hs : tt t = some S) (hh : u8u h id = some (g, .row rty sz (l.map f))) (hj : l[j]? = some el) (hl : ldv S ((f el).drop off) = some out)
  (k : p3p P tt ops r ((d, out) :: fr) h (([id], []) :: lg) K) : p3p P tt ops (⟨some d, .load t x, ty, pos, af, none⟩ :: r) fr h lg K :=
 b6k hx hs hh (by rw [List.length_map]; exact a1m hj) (b2u hj) hl k
theorem a4i {f : α → List AV} {l : List α} {el : α} (hx : evO fr x = some (.elt id g j 0)) (hs : tt t = some S) (hh : u8u h id = some (g, .row rty sz (l.map f))) (hj : l[j]? = some el) (ha : S.agg = true) (hn : S.size = (f el).length)
  (k : p3p P tt ops r ((d, .agg (f el)) :: fr) h (([id], []) :: lg) K) : p3p P tt ops (⟨some d, .load t x, ty, pos, af, none⟩ :: r) fr h lg K :=
 w8w hx hs hh hj (by rw [List.drop_zero]; exact b6j ha hn) k
variable {e : Nat}

theorem w6w {f : α → List AV} {l : List α} (hx : evO fr x = some (.ref id g)) (hi : evO fr ix = some (.pv (.int kd (j : Int)))) (hs : tt t = some S) (hk : S.kind = .sl e) (he : tt e = some E) (hh : u8u h id = some (g, .row rty sz (l.map f))) (hz : sz = E.size) (h1 : j < l.length)
  (k : p3p P tt ops r ((d, .elt id g j 0) :: fr) h (([id], []) :: lg) K) : p3p P tt ops (⟨some d, .indexAddr t x ix, ty, pos, af, none⟩ :: r) fr h lg K :=
 c4t hx hi hs hk he hh hz (by rw [List.length_map]; exact h1) k
theorem a8y (hx : evO fr x = some (.elt id g i off)) (hy : evO fr y = some b) (hs : tt t = some S) (hb : b.okc = true) (hn : (p2p b).length = S.size) (hh : u8u h id = some (g, .row rty sz xs)) (hi : i < xs.length) (hl : off + S.size ≤ sz)
  (hab : Abs (p2p b) h cs' T W) (hT : (T.any (·.1 == id)) = false) (k : p3p P tt ops r fr (((id, (g, .row rty sz (xs.set i ((xs.getD i []).take off ++ cs' ++ (xs.getD i []).drop (off + S.size))))) :: W) ++ h) ((id :: ids T, id :: ids W) :: lg) K) : p3p P tt ops (⟨none, .store t x y, ty, pos, af, none⟩ :: r) fr h lg K := by
 refine s3s ?_; simp only [a0p, Opt, hx, hy, hs]
 exact ⟨hb, hn, by simp only [hh, true_and]; exact ⟨hi, hl, (cs', T, W), hab, hT, k⟩⟩
theorem Abs.len (k : Abs cs h cs' T W) : cs'.length = cs.length := by
 induction k with
 | nil => rfl
 | ref _ _ _ _ _ ih => simp [ih]
 | val _ _ _ ih => simp [ih]
variable {y : Operand} {T W : TL}

theorem a5i {f : α → List AV} {l : List α} {el : α} {bs cs' : List AV} (el' : α) (hx : evO fr x = some (.elt id g j 0)) (hy : evO fr y = some (.agg bs)) (hs : tt t = some S) (hn : bs.length = S.size) (hz : S.size = sz) (hh : u8u h id = some (g, .row rty sz (l.map f))) (hj : l[j]? = some el) (hf : (f el).length = sz)
  (hab : Abs bs h cs' T W) (he : cs' = f el') (hT : (T.any (·.1 == id)) = false) (k : p3p P tt ops r fr (((id, (g, .row rty sz ((l.set j el').map f))) :: W) ++ h) ((id :: ids T, id :: ids W) :: lg) K) : p3p P tt ops (⟨none, .store t x y, ty, pos, af, none⟩ :: r) fr h lg K := by
 have hj' := a1m hj
 refine a8y hx hy hs rfl hn hh (by rw [List.length_map]; exact hj') (by omega) hab hT ?_
 have : (l.map f).set j (((l.map f).getD j []).take 0 ++ cs' ++ ((l.map f).getD j []).drop (0 + S.size)) = (l.set j el').map f := by
  rw [b2u hj, List.take_zero, List.nil_append, Nat.zero_add, List.drop_of_length_le (by omega), List.append_nil, he, List.map_set]
 rw [this]; exact k
variable {cs' : List AV}

theorem b8l {f : α → List AV} {l : List α} {el : α} {b : AV} (el' : α) (hx : evO fr x = some (.elt id g j off)) (hy : evO fr y = some b) (hs : tt t = some S) (hb : b.one = true) (hn : S.size = 1) (hh : u8u h id = some (g, .row rty sz (l.map f))) (hj : l[j]? = some el) (hf : (f el).length = sz) (ho : off < sz)
  (hab : Abs [b] h cs' T W) (he : (f el).take off ++ cs' ++ (f el).drop (off + 1) = f el') (hT : (T.any (·.1 == id)) = false) (k : p3p P tt ops r fr (((id, (g, .row rty sz ((l.set j el').map f))) :: W) ++ h) ((id :: ids T, id :: ids W) :: lg) K) : p3p P tt ops (⟨none, .store t x y, ty, pos, af, none⟩ :: r) fr h lg K := by
 have hj' := a1m hj
 refine a8y hx hy hs (b6i hb) (by rw [a2l hb, hn]; rfl) hh (by rw [List.length_map]; exact hj') (by omega) (by rw [a2l hb]; exact hab) hT ?_
 have : (l.map f).set j (((l.map f).getD j []).take off ++ cs' ++ ((l.map f).getD j []).drop (off + S.size)) = (l.set j el').map f := by
  rw [b2u hj, hn, he, List.map_set]
 rw [this]; exact k
end
theorem HE.map {id : Nat} (he : u8u h id = some (g, .map xs)) (e : xs = xs') (t : HE h r) : HE h ((id, (g, .map xs')) :: r) := by
 subst e; exact .same he t
end
section
variable {P : Program} {n : Nat} {fr : Fr} {h : Hp} {Q : Exit → Fr → Hp → Prop}
theorem TRs.toOw (h : TRs X w (cs1 ++ .pv (.slice none 0 0) :: cs2) us S) (ty sz : Nat) : TRs X w (cs1 ++ .row .ow ty sz [] :: cs2) us S := by
 obtain ⟨us1, v, us2, S1, S0, S2, rfl, rfl, l1, t1, tm, t2⟩ := h.mid
 have h0 : v = .slice none 0 0 ∧ S0 = [] := by
  generalize hl : [AV.pv (.slice none 0 0)] = l at tm
  cases tm with
  | vr _ _ k t => cases hl; cases t; exact ⟨k.pv_inv, rfl⟩
  | own => cases hl
 obtain ⟨rfl, rfl⟩ := h0
 exact t1.append (.own (X := X) (w := w) (xs := []) (ws := []) (S' := []) (v := .slice none 0 0) ⟨by simp, .inl ⟨none, rfl, rfl⟩⟩ (fun j x hx => by simp at hx) .nil t2)
variable {id g : Nat}
theorem SRf.re {X : Cx} {B : Base} {h : HF} {F : Nat → List Nat} {w : World} (H : SRf X B h F w) {e e' : Ent} (he : h id = some (g, e)) (hin : EntOK X w id g (F id) e → EntOK X w id g (F id) e') : SRh X B (upd h id (g, e')) w :=
 ⟨_, H.turn (f := F id) he (Cx.le.refl X) rfl rfl (fun _ _ _ => ⟨rfl, rfl⟩) (Nat.le_refl g) (Grew.refl w _) (hin (H.ent id g e he)) (fun b hb => ⟨.inl hb, H.blk _ _ b he hb⟩)⟩
theorem c5g (id off e sz : Nat) (hh : u8u h id = some (g, .box ty cs)) (hc : cs[off]? = some (.pv (.slice none 0 0))) (hcs : cs.set off (.row .ow e sz []) = cs')
  (k : Ex P n c fr ((id, (g, .box ty cs')) :: h) Q) : Ex P n c fr h Q := by
 subst hcs
 refine b2t (fun X B w hS => ⟨X, Cx.le.refl X, rfl, ?_⟩) k
 obtain ⟨F, hS⟩ := hS
 rw [a3n]
 refine hS.re hh fun hE => ?_
 obtain ⟨b, us, S, h1, h2, h3, h4, h5⟩ := hE
 obtain ⟨p1, p2⟩ := a6g hc
 rw [p1] at h3
 exact ⟨b, us, S, h1, h2, by rw [p2]; exact h3.toOw e sz, h4, h5⟩
theorem c2n (he : hf h = hf h') (k : Ex P n c fr h' Q) : Ex P n c fr h Q := fun X B a w hS hF hd => k X B a w (he ▸ hS) hF hd

theorem b2v (id off id' e sz : Nat) (hh : u8u h id = some (g, .box ty cs)) (hc : cs[off]? = some (.pv (.slice none 0 0))) (hd : u8u h id' = some (g', .dead)) (hne : Nat.beq id id' = false) (hcs : cs.set off (.ref id' (g' + 1)) = cs')
  (k : Ex P n c fr ((id, (g, .box ty cs')) :: (id', (g' + 1, .row e sz [])) :: h) Q) : Ex P n c fr h Q := by
 subst hcs
 have hne' : id ≠ id' := fun e => by subst e; rw [Nat.beq_refl] at hne; cases hne
 have hlt := (List.getElem?_eq_some_iff.1 hc).1
 refine c5g id off e sz hh hc rfl ?_
 refine c0h (ty2 := e) (sz2 := sz) (ys := []) (cs := cs.set off (.row .ow e sz [])) id off id' (by rw [w7w, if_pos rfl]) (by rw [List.getElem?_set, if_pos rfl, if_pos hlt]) (by rw [w7w, if_neg hne']; exact hd) hne (List.set_set ..) ?_
 refine c2n (funext fun q => ?_) k
 show u8u _ q = u8u _ q
 simp only [w7w]
 by_cases h1 : id = q
 ·simp [h1]
 ·by_cases h2 : id' = q <;> simp [h1, h2]
theorem c2o (u : List Int) : (u.map pI).map (inC ρ c) = u.map pI := by
 rw [List.map_map]; exact List.map_congr_left fun _ _ => rfl
theorem b4t (m : Nat) (u : List Int) : ((u.map pI).all (c0a m)) = true := by
 rw [List.all_map]; exact List.all_eq_true.2 fun _ _ => rfl
theorem HE.cast (e : a = b) (k : HE h b) : HE h a := e ▸ k
theorem b7l {S : TS} {u : List Int} {i : Nat} {a : Int} (hS : S.agg = false) (h : u[i]? = some a) : ldv S ((u.map pI).drop (0 + i)) = some (pI a) := by
 unfold ldv; rw [hS, Nat.zero_add, List.head?_drop, List.getElem?_map, h]; rfl
theorem a7c : ∀ u : List Int, Abs (u.map pI) h (u.map pI) [] []
 | [] => .nil
 | _ :: u => .val rfl rfl (a7c u)
theorem a0z {α : Type} {f : α → List AV} {l : List α} {c : Code} (t : Nat) {id g ty sz : Nat} (ht : fr.get t = some (.ref id g)) (hh : u8u h id = some (g, .row ty sz (l.map f))) (hf : ∀ a, ((f a).all AV.cl) = true)
  (k : Ex P n c ((t, .row (.rd true) ty sz (l.map f)) :: fr) ((id, (g, .dead)) :: h) Q) : Ex P n c fr h Q := c6x t ht (.ref hh (Le.ow_map l (fun _ => rfl) hf) .nil) k
end
section
variable {P : Program} {n : Nat} {fr : Fr} {h : Hp} {Q : Exit → Fr → Hp → Prop}
def c6y (n : Nat) (Q : Exit → Fr → Hp → Prop) (B : Base) (X0 : Cx) (w0 : World) : Exit → Act → World → Prop := fun e a' w' => ∃ fr' h' X', Q e fr' h' ∧ X0.le X' ∧ SRh X' B (hf h') w' ∧ FrOK X' w' n (Fr.get fr') a' ∧ a'.defers = [] ∧ ∀ b, X0.ok2 b → w'.heap[b]? = w0.heap[b]?

def c9t (P : Program) (n : Nat) (ops : Array Oper) (Q : Exit → Fr → Hp → Prop) (B : Base) (X0 : Cx) (w0 : World) (fuel : Nat) (listed : Array Bool) (fr : Fr) (h : Hp) : Prop :=
 ∀ (X : Cx) (a : Act) (w : World), X0.le X → (∀ b, X0.ok2 b → w.heap[b]? = w0.heap[b]?) → SRh X B (hf h) w → FrOK X w n fr.get a → a.defers = [] → wpAny P .any ops (c6y n Q B X0 w0) fuel listed a w
section
variable {tt : TT} {ops : Array Oper} {B : Base} {X0 : Cx} {w0 : World} {fuel : Nat} {listed : Array Bool}

inductive AnyL (P : Program) (n : Nat) (ops : Array Oper) (Q : Exit → Fr → Hp → Prop) (B : Base) (X0 : Cx) (w0 : World) (fuel : Nat) (listed : Array Bool) (tt : TT) (fr : Fr) (h : Hp) : List Nat → Prop
 | nil : AnyL P n ops Q B X0 w0 fuel listed tt fr h []
 | cons {i : Nat} {o : Oper} {r : List Nat} (ho : ops[i]? = some o) (hg : o.guard = none) (hd : (match o.dst with | some d => decide (d < n) | none => true) = true)
   (k : p3p P tt ops [o] fr h [] fun fr' h' _ => c9t P n ops Q B X0 w0 fuel (listed.setIfInBounds i true) fr' h') (t : AnyL P n ops Q B X0 w0 fuel listed tt fr h r) : AnyL P n ops Q B X0 w0 fuel listed tt fr h (i :: r)
end
end
section
variable {P : Program} {n : Nat} {fr : Fr} {h : Hp} {Q : Exit → Fr → Hp → Prop}
theorem TRs.swap (hl : us1.length = cs1.length) (h : TRs X w (cs1 ++ a :: cs2) (us1 ++ v :: us2) S) (ha : a.isOw = false) (hb1 : b.one = true) (hb2 : b.isOw = false) (hv : VR X w b v) : TRs X w (cs1 ++ b :: cs2) (us1 ++ v :: us2) S := by
 obtain ⟨us1', v', us2', S1, S0, S2, he, rfl, l1, t1, tm, t2⟩ := h.mid
 obtain ⟨e1, e2⟩ := List.append_inj he (by omega)
 cases e2
 subst e1
 have : S0 = [] := by
  generalize hl : [a] = l at tm
  cases tm with
  | vr _ _ _ t => cases hl; cases t; rfl
  | own => cases hl; cases ha
 subst this
 exact t1.append (.vr hb1 hb2 hv t2)
theorem p5p (id off : Nat) (hh : u8u h id = some (g, .box ty cs)) (hc : cs[off]? = some a) (ha : a.isOw = false) (hf' : FinL h [a] [b] h') (hh' : u8u h' id = some (g, .box ty cs)) (hb1 : b.one = true) (hb2 : b.isOw = false) (hcs : cs.set off b = cs')
  (k : Ex P n c fr ((id, (g, .box ty cs')) :: h') Q) : Ex P n c fr h Q := fun X B A w hS hF hd => by
 subst hcs
 obtain ⟨F, hS0⟩ := hS
 obtain ⟨p1, p2⟩ := a6g hc
 obtain ⟨b0, us, S, h1, h2, h3, h4, h5⟩ := hS0.ent id g _ hh
 rw [p1] at h3
 obtain ⟨us1, v, us2, S1, S0, S2, rfl, rfl, l1, t1, tm, t2⟩ := h3.mid
 have hv : VR X w a v := by
  have := tm.vrs
  exact this.rel 0 _ _ rfl rfl
 obtain ⟨Y, k1, k2, k3⟩ := hf'.sound ⟨F, hS0⟩ (vs := [v]) rfl (fun i a' v' ha hv' => by
  cases i with
  | zero => simp only [List.getElem?_cons_zero, Option.some.injEq] at ha hv'; subst ha hv'; exact hv
  | succ i => simp at ha)
 have hb := k3 0 b v rfl rfl
 obtain ⟨F', hS'⟩ := k2
 have hS2 : SRh Y B (upd (hf h') id (g, .box ty (cs.set off b))) w := hS'.re hh' fun hE => by
  obtain ⟨b1, us', S', g1, g2, g3, g4, g5⟩ := hE
  have e1 : b1 = b0 := by
   have := k1.bx _ _ _ h1
   rw [g1] at this; exact Option.some.inj this
  subst e1
  have e2 : us' = us1 ++ v :: us2 := by
   rw [h2] at g2
   have := Option.some.inj g2
   injection this with this
   exact (List.toArray_inj this).symm
  subst e2
  rw [p1] at g3
  exact ⟨b1, _, S', g1, g2, by rw [p2]; exact TRs.swap l1 g3 ha hb1 hb2 (.cl hb), g4, g5⟩
 rw [← a3n] at hS2
 refine wp_mono (k Y B A w hS2 (hF.mono k1 hS0.ok12 (fun _ _ => rfl)) hd) fun e a' w' ⟨fr', h'', X', q1, q2, q3, q4, q5, q6⟩ => ⟨fr', h'', X', q1, k1.trans q2, q3, q4, q5, fun b hb => q6 b (k1.ok2 b hb)⟩

inductive NilL : List AV → List AV → Prop
 | nil : NilL [] []
 | same {c : AV} {r r' : List AV} (t : NilL r r') : NilL (c :: r) (c :: r')
 | own {ty sz : Nat} {r r' : List AV} (t : NilL r r') : NilL (.pv (.slice none 0 0) :: r) (.row .ow ty sz [] :: r')
theorem NilL.len (k : NilL a b) : b.length = a.length := by
 induction k with
 | nil => rfl
 | same _ ih => simp [ih]
 | own _ ih => simp [ih]
theorem NilL.append (k : NilL a b) (m : NilL c d) : NilL (a ++ c) (b ++ d) := by
 induction k with
 | nil => exact m
 | same _ ih => exact .same ih
 | own _ ih => exact .own ih
theorem NilL.flatten {α : Type} {f f' : α → List AV} (hf : ∀ a, NilL (f a) (f' a)) : ∀ l : List α, NilL (l.map f).flatten (l.map f').flatten
 | [] => .nil
 | a :: l => by simp only [List.map_cons, List.flatten_cons]; exact (hf a).append (NilL.flatten hf l)
end
section
variable {P : Program}

structure Trn (X Z : Cx) : Prop where
 ok1 : ∀ b, X.ok1 b → Z.ok1 b
 ok12 : ∀ b, X.ok1 b → Z.ok2 b
 bx : ∀ i g b, X.bx i g = some b → Z.bx i g = some b
 rw : ∀ i g v, X.rw i g = some v → Z.rw i g = some v
theorem Trn.bare (T : Trn X Z) : Trn X.bare Z.bare := ⟨T.ok1, T.ok12, fun _ _ _ h => (by cases h), fun _ _ _ h => (by cases h)⟩
inductive Str : AV → Prop
 | any : Str .any
 | st {a : AV} (h : Strict a) : Str a
 | ow {ty sz : Nat} {xs : List (List AV)} : Str (.row .ow ty sz xs)
 | ref (id g : Nat) : Str (.ref id g)
 | bsl (id g a b : Nat) : Str (.bsl id g a b)
 | cut (id g a b : Nat) : Str (.cut id g a b)
 | ptr (id g a : Nat) : Str (.ptr id g a)
 | elt (id g a b : Nat) : Str (.elt id g a b)
 | mp (id g : Nat) : Str (.mp id g)
 | agg {cs : List AV} (h : ∀ y ∈ cs, Str y) : Str (.agg cs)
 | tup {cs : List AV} (h : ∀ y ∈ cs, Str y) : Str (.tup cs)
 | fn {f : Fn} {fi cap : List AV} (h : ∀ y ∈ fi, Str y) (h' : ∀ y ∈ cap, Str y) : Str (.fn f fi cap)
 | ifc {t : TypeId} {a : AV} (h : Str a) : Str (.ifc t a)
theorem Str.pv (v : Value) : Str (.pv v) := .st (.pv v)
theorem Strict.trn (T : Trn X Z) (hs : Strict a) (h : VR X w a v) : VR Z w a v := hs.vr T.ok1 T.ok12 h
theorem CR.trn (T : Trn X Z) (hs : Strict a) (h : CR X.ok1 X.ok2 w a v) : CR Z.ok1 Z.ok2 w a v :=
 (hs.cr h).mono T.ok1 T.ok12 (fun _ h => h) (fun _ _ => rfl)
theorem Str.trn (T : Trn X Z) (hs : Str a) : ∀ {v : Value}, VR X w a v → VR Z w a v := by
 have cl : ∀ {a : AV} {v : Value}, CR X.ok1 X.ok2 w a v → (∀ y, a ≠ .agg y) → (∀ y, a ≠ .tup y) → (∀ t y, a ≠ .ifc t y) → (∀ m ty sz xs, a ≠ .row m ty sz xs) → VR Z w a v := fun h h1 h2 h3 h4 => by
  cases h with
  | pv => exact .pv _
  | row => exact absurd rfl (h4 _ _ _ _)
  | ifc => exact absurd rfl (h3 _ _)
  | agg => exact absurd rfl (h1 _)
 induction hs with
 | any => intro v _; exact .any v
 | st h => intro v hv; exact h.trn T hv
 | ow =>
  intro v h
  cases h with
  | owd v h => exact .owd v h
  | cl h => cases h
 | ref => intro v h; cases h with
  | ref h => exact .ref (T.rw _ _ _ h)
  | cl h => cases h
 | bsl => intro v h; cases h with
  | bsl h hc hm => exact .bsl (T.bx _ _ _ h) hc hm
  | cl h => cases h
 | cut => intro v h; cases h with
  | cut h a b c d e => exact .cut (T.rw _ _ _ h) a b c d e
  | cl h => cases h
 | ptr => intro v h; cases h with
  | ptr h => exact .ptr (T.bx _ _ _ h)
  | cl h => cases h
 | elt => intro v h; cases h with
  | elt h => exact .elt (T.rw _ _ _ h)
  | cl h => cases h
 | mp => intro v h; cases h with
  | mp h => exact .mp (T.bx _ _ _ h)
  | cl h => cases h
 | agg h0 ih =>
  intro v h
  obtain ⟨us, rfl, hu⟩ := h.agg_inv
  exact .agg us hu.len hu.one (fun i y u hy hu' => ih y (List.mem_of_getElem? hy) (hu.rel i y u hy hu'))
 | tup h0 ih =>
  intro v h
  cases h with
  | tup us hl h => exact .tup us hl (fun i y u hy hu => ih y (List.mem_of_getElem? hy) (h i y u hy hu))
  | cl h => cases h
 | fn h1 h2 ih1 ih2 =>
  intro v h
  obtain ⟨us, vs, rfl, q1, q2, q3, q4⟩ := h.fn_inv
  exact .fn us vs q1 q2 (fun i y u hy hu => ih1 y (List.mem_of_getElem? hy) (q3 i y u hy hu)) (fun i y u hy hu => ih2 y (List.mem_of_getElem? hy) (q4 i y u hy hu))
 | ifc h ih =>
  intro v h
  obtain ⟨u, rfl, h1⟩ := h.ifc_inv
  exact .ifc _ _ u (ih h1)

inductive StrC : List AV → Prop
 | nil : StrC []
 | cons {y : AV} {r : List AV} (h : Str y) (hn : y.isOw = false) (t : StrC r) : StrC (y :: r)
 | own {ty sz : Nat} {xs : List (List AV)} {r : List AV} (h : StrC xs.flatten) (t : StrC r) : StrC (.row .ow ty sz xs :: r)
theorem StrC.append (h : StrC a) (k : StrC b) : StrC (a ++ b) := by
 induction h with
 | nil => exact k
 | cons h hn _ ih => exact .cons h hn ih
 | own h _ _ ih => exact .own h ih
theorem StrC.map {α : Type} {f : α → List AV} (h : ∀ a, StrC (f a)) : ∀ l : List α, StrC (l.map f).flatten
 | [] => .nil
 | a :: l => by simp only [List.map_cons, List.flatten_cons]; exact (h a).append (StrC.map h l)
theorem StrC.trn (hs : StrC a) : ∀ {X Z : Cx}, Trn X Z → ∀ {w : World} {us : List Value} {S : List Nat}, TRs X w a us S → TRs Z w a us S := by
 induction hs with
 | nil => intro X Z T w us S h; cases h; exact .nil
 | cons h hn _ ih =>
  intro X Z T w us S k
  cases k with
  | vr h1 h2 h3 t => exact .vr h1 h2 (h.trn T h3) (ih T t)
  | own => cases hn
 | own h _ ih1 ih2 =>
  intro X Z T w us S k
  cases k with
  | vr h1 h2 => cases h2
  | own h1 h2 h3 t => exact .own h1 h2 (ih1 T.bare h3) (ih2 T t)
def c5h : Ent → Prop
 | .dead => True
 | .box _ cs => StrC cs
 | .row _ _ xs => StrC xs.flatten
 | .map es => ∀ p ∈ es, Str p.2
 | .chn _ _ xs => ∀ x ∈ xs, ∀ y ∈ x, Strict y
 | .blk l => ∀ p ∈ l, ∀ y ∈ p.2.2, Strict y
theorem b0k {nx : Option Nat} : ∀ {bs : List Nat} {xs : List (List AV)}, (∀ x ∈ xs, ∀ y ∈ x, Strict y) → ∀ p ∈ c6j lty nx bs xs, ∀ y ∈ p.2.2, Strict y
 | [], _, _, p, hp => by simp [c6j] at hp
 | _ :: _, [], _, p, hp => by simp [c6j] at hp
 | b :: bs, x :: xs, h, p, hp => by
  rw [c6j, List.mem_cons] at hp
  rcases hp with rfl | hp
  ·intro y hy
   rcases List.mem_append.1 hy with hy | hy
   ·exact h x (List.mem_cons_self ..) y hy
   ·rw [List.mem_singleton] at hy; subst hy; exact .pv _
  ·exact b0k (fun x hx => h x (List.mem_cons_of_mem _ hx)) p hp
theorem EntOK.trn (T : Trn X Z) {id : Nat} (hs : c5h e) (h : EntOK X w id g F e) : EntOK Z w id g F e := by
 cases e with
 | dead => trivial
 | box ty cs =>
  obtain ⟨b, us, S, h1, h2, h3, h4, h5⟩ := h
  exact ⟨b, us, S, T.bx _ _ _ h1, h2, hs.trn T h3, h4, h5⟩
 | row ty sz xs =>
  obtain ⟨v, us, S, h1, h2, h3, h4, h5, h6⟩ := h
  exact ⟨v, us, S, T.rw _ _ _ h1, h2, h3, hs.trn T h4, h5, h6⟩
 | map es =>
  obtain ⟨b, en, h1, h2, h3, h4, h5⟩ := h
  exact ⟨b, en, T.bx _ _ _ h1, h2, h3, h4, fun i k a e he hn => ⟨(h5 i k a e he hn).1, (hs _ (List.mem_of_getElem? he)).trn T (h5 i k a e he hn).2.1, (h5 i k a e he hn).2.2⟩⟩
 | chn ty lty xs =>
  obtain ⟨b, bs, h1, h2⟩ := h
  refine ⟨b, bs, h1, h2.imp (fun _ h => T.bx _ _ _ h) (fun _ h => h) (fun _ _ => rfl) fun p hp us hu => ⟨hu.len, hu.one, fun j y u hy hu' => CR.trn T ?_ (hu.rel j y u hy hu')⟩⟩
  rw [chB, List.mem_cons] at hp
  rcases hp with rfl | hp
  ·have := List.mem_of_getElem? hy
   simp only [List.mem_cons, List.not_mem_nil, or_false] at this
   rcases this with rfl | rfl <;> exact .pv _
  ·exact b0k hs p hp y (List.mem_of_getElem? hy)
 | blk l => exact BlkOK.imp h (fun _ h => T.bx _ _ _ h) (fun _ h => h) (fun _ _ => rfl) fun p hp us hu => ⟨hu.len, hu.one, fun j y u hy hu' => CR.trn T (hs p hp y (List.mem_of_getElem? hy)) (hu.rel j y u hy hu')⟩

inductive LendM (h : Hp) : List AV → List AV → TL → List Nat → Prop
 | base {az bs : List AV} {T : TL} (hl : LendL h az bs T) : LendM h az bs T []
 | ptr {id g off : Nat} {az bs : List AV} {T : TL} {K : List Nat} (t : LendM h az bs T K) : LendM h (.ptr id g off :: az) (.ptr id g off :: bs) T (id :: K)
theorem LendM.inH (k : LendM h az bs T K) : InH h T := by
 induction k with
 | base hl => exact hl.inH
 | ptr _ ih => exact ih
theorem LendM.len (k : LendM h az bs T K) : bs.length = az.length := by
 induction k with
 | base hl => exact hl.len
 | ptr _ ih => simp [ih]
theorem LendM.sound (k : LendM h az bs T K) : ∀ {X X2 : Cx} {B : Base} {hF : HF} {F : Nat → List Nat} {w : World} {vs : List Value}, SRf X B hF F w → X2.ok1 = X.ok1 → (∀ b, X.ok2 b → X2.ok2 b) → (∀ id ge, (id, ge) ∈ T → hF id = some ge) → (∀ id ge, (id, ge) ∈ T → ∀ b ∈ F id, X2.ok2 b) → (∀ id g, id ∈ K → X2.bx id g = X.bx id g) →
  vs.length = az.length → (∀ (i : Nat) (a : AV) (v : Value), az[i]? = some a → vs[i]? = some v → VR X w a v) → ∀ (i : Nat) (b : AV) (v : Value), bs[i]? = some b → vs[i]? = some v → VR X2 w b v := by
 induction k with
 | base hl =>
  intro X X2 B hF F w vs hS e1 h2 hT hb hK hlen hr i b v hbi hvi
  have := hl.sound (o2 := X2.ok2) hS h2 hT hb hlen hr i b v hbi hvi
  rw [← e1] at this
  exact .cl this
 | ptr t ih =>
  intro X X2 B hF F w vs hS e1 h2 hT hb hK hlen hr i b v hbi hvi
  cases vs with
  | nil => simp at hlen
  | cons u vs =>
   cases i with
   | zero =>
    simp only [List.getElem?_cons_zero, Option.some.injEq] at hbi hvi
    subst hbi hvi
    obtain ⟨b, rfl, hb'⟩ := (hr 0 _ u rfl rfl).ptr_inv
    exact .ptr ((hK _ _ (List.mem_cons_self ..)).trans hb')
   | succ i => exact ih hS e1 h2 hT hb (fun id g hm => hK id g (List.mem_cons_of_mem _ hm)) (by simpa using hlen) (fun i c u hc hu => hr (i + 1) c u (by simpa using hc) (by simpa using hu)) i b v (by simpa using hbi) (by simpa using hvi)
theorem b8m (hP : b6a P f bs T0 W0 out) (hl : LendM h az bs T K) (hs : Str out) (hd : ∀ i, i ∈ ids T → i ∉ ids T0) (hK : ∀ i, i ∈ K → i ∈ ids T0) (hW : Sub W0 T0) (h0 : ∀ p ∈ T0, c5h p.2.2) (h1 : ∀ p ∈ W0, c5h p.2.2)
  (hE : ∀ (X X2 : Cx), (∀ b, X.ok1 b → X.ok2 b) → X2.ok1 = X.ok1 → (∀ b, X.ok2 b → X2.ok2 b) → (∀ i g, i ∈ ids T0 → X2.bx i g = X.bx i g ∧ X2.rw i g = X.rw i g) → ∀ p ∈ T0, ∀ w F, EntOK X w p.1 p.2.1 F p.2.2 → EntOK X2 w p.1 p.2.1 F p.2.2) : b6a P f az (T ++ T0) W0 out := by
 refine ⟨hP.1, fun X B hF w vs hS hlen hr hT => ?_⟩
 obtain ⟨F, hS⟩ := hS
 classical
 have hT1 : ∀ id ge, (id, ge) ∈ T → hF id = some ge := fun id ge hm => hT id ge (List.mem_append_left _ hm)
 have hT2 : ∀ id ge, (id, ge) ∈ T0 → hF id = some ge := fun id ge hm => hT id ge (List.mem_append_right _ hm)
 have mid : ∀ {T : TL} {id : Nat}, id ∈ ids T → ∃ ge, (id, ge) ∈ T := fun hm => by
  obtain ⟨p, hp, rfl⟩ := List.mem_map.1 hm; exact ⟨p.2, hp⟩
 let lent : Nat → Prop := fun b => ∃ id ge, (id, ge) ∈ T ∧ b ∈ F id
 let h2 : HF := fun i => if i ∈ ids T0 then hF i else none
 let X2 : Cx := ⟨X.ok1, fun b => X.ok2 b ∨ lent b, fun i g => if i ∈ ids T0 then X.bx i g else none, fun i g => if i ∈ ids T0 then X.rw i g else none⟩
 let S2 : Nat → Prop := fun b => ∃ id ge, (id, ge) ∈ T0 ∧ b ∈ F id
 let B2 : Base := ⟨w, S2, X2.ok1, X2.ok2⟩
 have h2in : ∀ id ge, h2 id = some ge → id ∈ ids T0 ∧ hF id = some ge := fun id ge he => by
  simp only [h2] at he
  split at he
  ·exact ⟨‹_›, he⟩
  ·cases he
 have lt : ∀ b, lent b → b < w.heap.size := fun b ⟨id, ge, q1, q2⟩ => hS.blk id ge b (hT1 id ge q1) q2
 have lno : ∀ b, lent b → ¬ X.ok2 b := fun b ⟨id, ge, q1, q2⟩ h3 => (hS.ok2 b h3).2 id ge (hT1 id ge q1) q2
 have lns : ∀ b, lent b → ¬ S2 b := fun b ⟨id, ge, q1, q2⟩ ⟨id', ge', q3, q4⟩ => by
  have := hS.sep id id' _ _ b (hT1 id ge q1) (hT2 id' ge' q3) q2 q4
  subst this
  exact hd id (List.mem_map.2 ⟨_, q1, rfl⟩) (List.mem_map.2 ⟨_, q3, rfl⟩)
 have hS2 : SRf X2 B2 h2 F w := by
  refine ⟨?_, ?_, ?_, ?_, fun b hb => .inl (hS.ok12 b hb), fun b hb => .inl hb, fun b hb => .inl hb, ?_, ?_, rfl, rfl, rfl, Nat.le_refl _, fun _ _ _ => rfl⟩
  ·intro id g e he
   obtain ⟨q1, q2⟩ := h2in id _ he
   obtain ⟨ge, hm⟩ := mid q1
   have e1 := hT2 id ge hm
   rw [q2] at e1
   cases e1
   exact hE X X2 hS.ok12 rfl (fun b hb => .inl hb) (fun i g hi => by simp only [X2, if_pos hi]; exact ⟨trivial, trivial⟩) _ hm w _ (hS.ent id g e q2)
  ·intro id ge b he hb; obtain ⟨_, q2⟩ := h2in id _ he; exact hS.blk id ge b q2 hb
  ·intro id id' ge ge' b he he' hb hb'; exact hS.sep id id' _ _ b (h2in id _ he).2 (h2in id' _ he').2 hb hb'
  ·refine fun b hb => ⟨?_, fun id ge he hm => ?_⟩
   ·rcases hb with hb | hb
    ·exact (hS.ok2 b hb).1
    ·exact lt b hb
   ·obtain ⟨q1, q2⟩ := h2in id _ he
    rcases hb with hb | hb
    ·exact (hS.ok2 b hb).2 id ge q2 hm
    ·obtain ⟨ge', hm'⟩ := mid q1
     exact lns b hb ⟨id, ge', hm', hm⟩
  ·intro id ge b he hb
   obtain ⟨q1, q2⟩ := h2in id _ he
   obtain ⟨ge', hm'⟩ := mid q1
   exact .inl ⟨id, ge', hm', hb⟩
  ·intro id g hg
   by_cases hi : id ∈ ids T0
   ·have := hS.hist id g (fun g' e hh => hg g' e (by simp only [h2, if_pos hi]; exact hh))
    simpa only [X2, if_pos hi] using this
   ·simp only [X2, if_neg hi]; exact ⟨trivial, trivial⟩
 have hr2 := hl.sound (X2 := X2) hS rfl (fun b hb => .inl hb) hT1 (fun id ge hm b hb => .inr ⟨id, ge, hm, hb⟩) (fun id g hk => by simp only [X2, if_pos (hK id hk)]) hlen hr
 refine (hP.2 X2 B2 h2 w vs ⟨F, hS2⟩ (by rw [hl.len]; exact hlen) hr2 (fun id ge hm => by
  show (if id ∈ ids T0 then hF id else none) = some ge
  have hmi : id ∈ ids T0 := List.mem_map.2 ⟨_, hm, rfl⟩
  rw [if_pos hmi]; exact hT2 id ge hm)).mono fun e w' hh => ?_
 obtain ⟨v, rfl, X', k1, ⟨F', k2⟩, k3, k4⟩ := hh
 refine ⟨v, rfl, ?_⟩
 have hkeep : ∀ b, b < w.heap.size → ¬ S2 b → w'.heap[b]? = w.heap[b]? := fun b hb hn => k2.keep b hb hn
 have in1 : ∀ b, X'.ok1 b → X.ok1 b ∨ S2 b ∨ w.heap.size ≤ b := fun b hb => k2.in1 b hb
 have nol : ∀ b, X'.ok1 b → ¬ lent b := fun b hb hlb => by
  rcases in1 b hb with h | h | h
  ·exact lno b hlb (hS.ok12 b h)
  ·exact lns b hlb h
  ·exact absurd (lt b hlb) (Nat.not_lt.2 h)
 let Z : Cx := ⟨X'.ok1, fun b => X'.ok2 b ∧ ¬ lent b, fun i g => if i ∈ ids T0 then X'.bx i g else X.bx i g, fun i g => if i ∈ ids T0 then X'.rw i g else X.rw i g⟩
 have hX : X.le Z := by
  refine ⟨k1.ok1, fun b hb => ⟨k1.ok2 b (.inl hb), fun h => lno b h hb⟩, fun i g b hb => ?_, fun i g b hb => ?_⟩
  ·show (if i ∈ ids T0 then X'.bx i g else X.bx i g) = some b
   by_cases hi : i ∈ ids T0
   ·rw [if_pos hi]; exact k1.bx i g b (by simp only [X2, if_pos hi]; exact hb)
   ·rw [if_neg hi]; exact hb
  ·show (if i ∈ ids T0 then X'.rw i g else X.rw i g) = some b
   by_cases hi : i ∈ ids T0
   ·rw [if_pos hi]; exact k1.rw i g b (by simp only [X2, if_pos hi]; exact hb)
   ·rw [if_neg hi]; exact hb
 have hWin : ∀ i, (u8u W0 i).isSome = true → i ∈ ids T0 := fun i hi => by
  obtain ⟨ge, hg⟩ := Option.isSome_iff_exists.1 hi
  obtain ⟨ge', hm⟩ := hW _ (a0m hg)
  exact List.mem_map.2 ⟨_, hm, rfl⟩
 have up1 : ∀ i, i ∈ ids T0 → a2z hF W0 i = a2z h2 W0 i := fun i hi => by
  simp only [a2z, h2, if_pos hi]
 have up2 : ∀ i, i ∉ ids T0 → a2z hF W0 i = hF i := fun i hi => by
  simp only [a2z]
  cases hw : u8u W0 i with
  | none => rfl
  | some ge => exact absurd (hWin i (by rw [hw]; rfl)) hi
 have up3 : ∀ i, i ∉ ids T0 → a2z h2 W0 i = none := fun i hi => by
  simp only [a2z]
  cases hw : u8u W0 i with
  | none => simp only [h2, if_neg hi]
  | some ge => exact absurd (hWin i (by rw [hw]; rfl)) hi
 have TZ : Trn X' Z := by
  refine ⟨fun _ h => h, fun b hb => ⟨k2.ok12 b hb, nol b hb⟩, fun i g b hb => ?_, fun i g b hb => ?_⟩
  ·by_cases hi : i ∈ ids T0
   ·simp only [Z, if_pos hi]; exact hb
   ·rw [(k2.hist i g (fun g' e hh => by rw [up3 i hi] at hh; cases hh)).1] at hb; cases hb
  ·by_cases hi : i ∈ ids T0
   ·simp only [Z, if_pos hi]; exact hb
   ·rw [(k2.hist i g (fun g' e hh => by rw [up3 i hi] at hh; cases hh)).2] at hb; cases hb
 have nS : ∀ i ge b, i ∉ ids T0 → hF i = some ge → b ∈ F i → ¬ S2 b := fun i ge b hi he hb ⟨id, ge', q1, q2⟩ => by
  have := hS.sep i id _ _ b he (hT2 id ge' q1) hb q2
  subst this
  exact hi (List.mem_map.2 ⟨_, q1, rfl⟩)
 have n2 : ∀ b, X.ok2 b → ¬ S2 b := fun b hb ⟨id, ge', q1, q2⟩ => (hS.ok2 b hb).2 id ge' (hT2 id ge' q1) q2
 let F2 : Nat → List Nat := fun i => if i ∈ ids T0 then F' i else F i
 have f1 : ∀ i, i ∈ ids T0 → F2 i = F' i := fun i hi => by simp only [F2, if_pos hi]
 have f2 : ∀ i, i ∉ ids T0 → F2 i = F i := fun i hi => by simp only [F2, if_neg hi]
 have own1 : ∀ i ge b, i ∈ ids T0 → a2z hF W0 i = some ge → b ∈ F' i → (S2 b ∨ w.heap.size ≤ b) ∧ b < w'.heap.size := fun i ge b hi he hb => by
  rw [up1 i hi] at he
  exact ⟨k2.own i ge b he hb, k2.blk i ge b he hb⟩
 refine ⟨Z, hX, ⟨F2, ?_, ?_, ?_, ?_, fun b hb => ⟨k2.ok12 b hb, nol b hb⟩, ?_, ?_, ?_, ?_, k2.os.trans hS.os, k2.tape.trans hS.tape, k2.output.trans hS.output, Nat.le_trans hS.size k2.size, ?_⟩, fun b hb => k3 b (.inl hb), hs.trn TZ k4⟩
 ·intro id g e he
  by_cases hi : id ∈ ids T0
  ·rw [f1 id hi]
   rw [up1 id hi] at he
   refine (k2.ent id g e he).trn TZ ?_
   simp only [a2z] at he
   cases hw : u8u W0 id with
   | some ge =>
    rw [hw] at he
    simp only [Option.some.injEq] at he
    subst he
    exact h1 _ (a0m hw)
   | none =>
    rw [hw] at he
    obtain ⟨_, q2⟩ := h2in id _ he
    obtain ⟨ge, hm⟩ := mid hi
    have e1 := hT2 id ge hm
    rw [q2] at e1
    cases e1
    exact h0 _ hm
  ·rw [f2 id hi]
   rw [up2 id hi] at he
   exact (hS.ent id g e he).mono hX hS.ok12 (fun b hb => hkeep b (hS.ok2 b hb).1 (n2 b hb)) (fun b hb => hkeep b (hS.blk id _ b he hb) (nS id _ b hi he hb))
 ·intro id ge b he hb
  by_cases hi : id ∈ ids T0
  ·rw [f1 id hi] at hb; exact (own1 id ge b hi he hb).2
  ·rw [f2 id hi] at hb
   rw [up2 id hi] at he
   exact Nat.lt_of_lt_of_le (hS.blk id ge b he hb) k2.size
 ·intro id id' ge ge' b he he' hb hb'
  by_cases hi : id ∈ ids T0 <;> by_cases hi' : id' ∈ ids T0
  ·rw [f1 id hi] at hb; rw [f1 id' hi'] at hb'
   rw [up1 id hi] at he; rw [up1 id' hi'] at he'
   exact k2.sep id id' ge ge' b he he' hb hb'
  ·rw [f1 id hi] at hb; rw [f2 id' hi'] at hb'
   rw [up2 id' hi'] at he'
   rcases (own1 id ge b hi he hb).1 with h | h
   ·exact absurd h (nS id' ge' b hi' he' hb')
   ·exact absurd (hS.blk id' ge' b he' hb') (Nat.not_lt.2 h)
  ·rw [f2 id hi] at hb; rw [f1 id' hi'] at hb'
   rw [up2 id hi] at he
   rcases (own1 id' ge' b hi' he' hb').1 with h | h
   ·exact absurd h (nS id ge b hi he hb)
   ·exact absurd (hS.blk id ge b he hb) (Nat.not_lt.2 h)
  ·rw [f2 id hi] at hb; rw [f2 id' hi'] at hb'
   rw [up2 id hi] at he; rw [up2 id' hi'] at he'
   exact hS.sep id id' ge ge' b he he' hb hb'
 ·refine fun b hb => ⟨(k2.ok2 b hb.1).1, fun id ge he hm => ?_⟩
  by_cases hi : id ∈ ids T0
  ·rw [f1 id hi] at hm
   rw [up1 id hi] at he
   exact (k2.ok2 b hb.1).2 id ge he hm
  ·rw [f2 id hi] at hm
   rw [up2 id hi] at he
   rcases k2.in2 b hb.1 with h | h | h
   ·rcases h with h | h
    ·exact (hS.ok2 b h).2 id ge he hm
    ·exact hb.2 h
   ·exact nS id ge b hi he hm h
   ·exact absurd (hS.blk id ge b he hm) (Nat.not_lt.2 h)
 ·intro b hb
  rcases in1 b hb with h | ⟨id, ge, q1, q2⟩ | h
  ·exact hS.in1 b h
  ·rcases hS.own id ge b (hT2 id ge q1) q2 with h | h
   ·exact .inr (.inl h)
   ·exact .inr (.inr h)
  ·exact .inr (.inr (Nat.le_trans hS.size h))
 ·intro b hb
  rcases k2.in2 b hb.1 with h | ⟨id, ge, q1, q2⟩ | h
  ·rcases h with h | h
   ·exact hS.in2 b h
   ·exact absurd h hb.2
  ·rcases hS.own id ge b (hT2 id ge q1) q2 with h | h
   ·exact .inr (.inl h)
   ·exact .inr (.inr h)
  ·exact .inr (.inr (Nat.le_trans hS.size h))
 ·intro id ge b he hb
  by_cases hi : id ∈ ids T0
  ·rw [f1 id hi] at hb
   rcases (own1 id ge b hi he hb).1 with ⟨i2, ge2, q1, q2⟩ | h
   ·exact hS.own i2 ge2 b (hT2 i2 ge2 q1) q2
   ·exact .inr (Nat.le_trans hS.size h)
  ·rw [f2 id hi] at hb
   rw [up2 id hi] at he
   exact hS.own id ge b he hb
 ·intro id g hg
  by_cases hi : id ∈ ids T0
  ·simp only [Z, if_pos hi]
   exact k2.hist id g (fun g' e hh => hg g' e (by rw [up1 id hi]; exact hh))
  ·simp only [Z, if_neg hi]
   exact hS.hist id g (fun g' e hh => hg g' e (by rw [up2 id hi]; exact hh))
 ·intro b hb hn
  refine (hkeep b (Nat.lt_of_lt_of_le hb hS.size) fun ⟨id, ge, q1, q2⟩ => ?_).trans (hS.keep b hb hn)
  rcases hS.own id ge b (hT2 id ge q1) q2 with h | h
  ·exact hn h
  ·exact absurd hb (Nat.not_lt.2 h)
inductive StrH : Hp → Prop
 | nil : StrH []
 | dead {i g : Nat} {r : Hp} (t : StrH r) : StrH ((i, (g, .dead)) :: r)
 | box {i g ty : Nat} {cs : List AV} {r : Hp} (h : StrC cs) (t : StrH r) : StrH ((i, (g, .box ty cs)) :: r)
 | row {i g ty sz : Nat} {xs : List (List AV)} {r : Hp} (h : StrC xs.flatten) (t : StrH r) : StrH ((i, (g, .row ty sz xs)) :: r)
 | map {i g : Nat} {es : List (Value × AV)} {r : Hp} (h : ∀ p ∈ es, Str p.2) (t : StrH r) : StrH ((i, (g, .map es)) :: r)
 | chn {i g ty lty : Nat} {xs : List (List AV)} {r : Hp} (h : ∀ x ∈ xs, ∀ y ∈ x, Strict y) (t : StrH r) : StrH ((i, (g, .chn ty lty xs)) :: r)
theorem StrH.all (k : StrH h) : ∀ p ∈ h, c5h p.2.2 := by
 have cons : ∀ {q : Nat × (Nat × Ent)} {r : Hp}, c5h q.2.2 → (∀ p ∈ r, c5h p.2.2) → ∀ p ∈ q :: r, c5h p.2.2 := fun h1 h2 p hp => by
  rcases List.mem_cons.1 hp with rfl | hp
  ·exact h1
  ·exact h2 p hp
 induction k with
 | nil => intro p h; cases h
 | dead _ ih => exact cons trivial ih
 | box h0 _ ih => exact cons h0 ih
 | row h0 _ ih => exact cons h0 ih
 | map h0 _ ih => exact cons h0 ih
 | chn h0 _ ih => exact cons h0 ih
def c6z (a b : List Nat) : Bool := a.all fun i => !v2v b i
theorem c2p (h : c6z a b = true) : ∀ i, i ∈ a → i ∉ b := fun i hi hb => by
 have := List.all_eq_true.1 h i hi
 rw [a6y.2 hb] at this
 cases this
theorem b2w {tt : TT}
  (L gs : List Nat) (hM : Meth P f m kp A0 I0 O0 U0) (hf : evO fr x = some (.fn (.func f) fi cap)) (ha : evL (evO fr) args.toList = some avs) (he : fi ++ avs ++ cap = az) (hl : LendM h az bs T J) (hb : bs = A0.map (inT (gl L) (gl gs))) (hn : L.Nodup) (hL : L.length = m)
  (hT : I0.map (a1h (gl L) (gl gs)) = T0) (hi : InH h T0) (ho : inT (gl L) (nx kp (gl gs)) O0 = out) (hw : U0.map (a1h (gl L) (nx kp (gl gs))) = W) (hd : c6z (ids T) (ids T0) = true) (hj : (J.all fun i => v2v (ids T0) i) = true) (hs : Str out) (h0 : StrH T0) (h1 : StrH W)
  (k : p3p P tt ops r ((d, out) :: fr) (W ++ h) ((ids (T ++ T0), ids W) :: lg) K) :
  p3p P tt ops (⟨some d, .call { callee := .value x, args := args, argTypes := at' }, ty, pos, af, none⟩ :: r) fr h lg K := by
 subst he ho hw hT
 have hC := b4r hM L (gl gs) hn hL
 rw [← hb] at hC
 have hok := hM.ok
 simp only [c1x, Bool.and_eq_true] at hok
 obtain ⟨⟨⟨⟨⟨o1, o2⟩, o3⟩, o4⟩, o5⟩, o6⟩ := hok
 have hi1 : ∀ p ∈ I0, p.1 < m := fun p hp => a2t (List.all_eq_true.1 o1 p hp)
 have hsub : Sub (U0.map (a1h (gl L) (nx kp (gl gs)))) (I0.map (a1h (gl L) (gl gs))) := fun p hp => by
  obtain ⟨q, hq, rfl⟩ := List.mem_map.1 hp
  have hq1 := a2t (List.all_eq_true.1 o3 q hq)
  have := List.all_eq_true.1 o2 q.1 (a3f.2 hq1)
  rw [a2j] at this
  obtain ⟨ge, hg⟩ := Option.isSome_iff_exists.1 this
  exact ⟨_, List.mem_map.2 ⟨(q.1, ge), a0m hg, rfl⟩⟩
 have hall : ∀ i, i < m → gl L i ∈ ids (I0.map (a1h (gl L) (gl gs))) := fun i hi => by
  have := List.all_eq_true.1 o2 i (a3f.2 hi)
  rw [a2j] at this
  obtain ⟨ge, hg⟩ := Option.isSome_iff_exists.1 this
  exact List.mem_map.2 ⟨_, List.mem_map.2 ⟨(i, ge), a0m hg, rfl⟩, rfl⟩
 have hC2 := b8m hC hl hs (c2p hd) (fun i hi => a6y.1 (List.all_eq_true.1 hj i hi)) hsub h0.all h1.all (fun X X2 h12 e1 e2 e3 p hp w F hE => by
  obtain ⟨q, hq, rfl⟩ := List.mem_map.1 hp
  have hq1 := hi1 q hq
  exact EntOK.tr (m := m) (ρ := gl L) (c := gl gs) (ρ' := gl L) (c' := gl gs) ⟨fun b hb => e1 ▸ hb, e2, fun i hi => (e3 _ _ (hall i hi)).1, fun i hi => (e3 _ _ (hall i hi)).2⟩ h12 hq1 (hM.ib.all q hq) hE)
 refine s3s ?_; simp only [a0p, Opt, hf, ha]
 refine ⟨_, _, _, hC2, fun p hp => ?_, fun p hp => ?_, k⟩
 ·rcases List.mem_append.1 hp with hp | hp
  ·exact hl.inH p hp
  ·exact hi p hp
 ·obtain ⟨ge, hm⟩ := hsub p hp
  exact ⟨ge, List.mem_append_right _ hm⟩
end
section
variable {P : Program} {ev : Operand → Option AV}
theorem CRs.set (h : CRs o1 o2 w cs us) (k : Nat) (hc : c.one = true) (hr : CR o1 o2 w c u) : CRs o1 o2 w (cs.set k c) (us.set k u) := by
 refine ⟨by simp [h.len], fun i y hy => ?_, fun i y v hy hv => ?_⟩
 ·rw [List.getElem?_set] at hy
  split at hy
  ·split at hy
   ·cases hy; exact hc
   ·cases hy
  ·exact h.one i y hy
 ·rw [List.getElem?_set] at hy hv
  split at hy
  ·rename_i e
   rw [if_pos e] at hv
   split at hy
   ·split at hv
    ·cases hy; cases hv; exact hr
    ·cases hv
   ·cases hy
  ·rename_i e
   rw [if_neg e] at hv
   exact h.rel i y v hy hv
theorem HE.chn {id : Nat} (he : u8u h id = some (g, .chn ty lty xs)) (e : xs = xs') (t : HE h r) : HE h ((id, (g, .chn ty lty xs')) :: r) := by subst e; exact .same he t
variable {n : Nat} {fr : Fr} {h : Hp} {Q : Exit → Fr → Hp → Prop}
abbrev c9k (P : Program) (h h' : Hp) : Prop := ∀ (X : Cx) (B : Base) (w : World), SRh X B (hf h) w → ∃ Y, X.le Y ∧ Y.ok2 = X.ok2 ∧ SRh Y B (hf h') w

def Conv (P : Program) (h : Hp) (K : Hp → Prop) : Prop := ∃ h', c9k P h h' ∧ K h'
theorem Conv.done (hk : K h) : Conv P h K := ⟨h, fun X B w hS => ⟨X, Cx.le.refl X, rfl, hS⟩, hk⟩
theorem Conv.step (s : c9k P h h') (k : Conv P h' K) : Conv P h K := by
 obtain ⟨h'', s', hk⟩ := k
 refine ⟨h'', fun X B w hS => ?_, hk⟩
 obtain ⟨Y, k1, k2, k3⟩ := s X B w hS
 obtain ⟨Z, g1, g2, g3⟩ := s' Y B w k3
 exact ⟨Z, k1.trans g1, g2.trans k2, g3⟩
variable {tt : TT} {ops : Array Oper} {r : List Oper} {lg : Log} {K : Fr → Hp → Log → Prop} {d : Nat} {ty : TypeId} {pos : String} {af : Array Edge}
theorem Sub.one1 {id : Nat} : Sub [(id, ge)] [(id, ge')] := fun p hp => by rw [List.mem_singleton] at hp; subst hp; exact ⟨ge', List.mem_singleton.2 rfl⟩
end
section
variable {P : Program} {H : Type} {enc : TypeId × Value → H} {w : World}
theorem TSOk.cells (h : TSOk P t s) : P.cellsOf t = s.size := by
 obtain ⟨i, h1, h2, _⟩ := h.info
 simp [Program.cellsOf, h1, h2]
end
section
variable {P : Program} {ev : Operand → Option AV}
theorem c5i (h : HF) (id : Nat) (a b : Nat × Ent) : upd (upd h id a) id b = upd h id b := by
 funext k
 by_cases e : k = id <;> simp [upd, e]
variable {id : Nat}
theorem OpS.frz (h : OpS P o ev T [(id, (g, .row ty sz zs))] (.ref id g)) (hle : Le true (.row .ow ty sz zs) (.row (.rd true) ty sz zs')) : OpS P o ev T [(id, (g, .dead))] (.row (.rd true) ty sz zs') := by
 intro X B hp a w Q K hS hop hT hK
 refine h X B hp a w Q K hS hop hT fun X' w' v hX hS' hok hv => ?_
 rw [a1r] at hS'
 obtain ⟨Y, k1, k2, k3⟩ := hS'.freeze (a2i _ _ _) hle
 rw [c5i] at k2
 exact hK Y w' v (hX.trans k1) (by rw [a1r]; exact k2) hok (k3 v hv)
theorem c7a {a : AV} (h : a.cl = true) : a.one = true := by
 cases a with
 | pv v => exact h
 | row m _ _ _ => rfl
 | ifc => rfl
 | _ => cases h

theorem Le.low (h : ∀ x ∈ xs, ∀ y ∈ x, y.cl = true) : Le k (.row (.rd true) ty sz xs) (.row (.rd c) ty sz xs) :=
 .rd (fun _ => rfl) rfl (fun j x x' hx hx' => by rw [hx] at hx'; cases hx'; rfl)
  (fun j i x x' y y' hx hx' hy hy' => c7a (h x' (List.mem_of_getElem? hx') y' (List.mem_of_getElem? hy')))
  (fun j i x x' y y' hx hx' hy hy' => by
   rw [hx] at hx'; cases hx'
   rw [hy] at hy'; cases hy'
   exact .cl (h x (List.mem_of_getElem? hx) y (List.mem_of_getElem? hy)))
variable {tt : TT} {ops : Array Oper} {r : List Oper} {fr : Fr} {h : Hp} {lg : Log} {K : Fr → Hp → Log → Prop} {d : Nat} {ty : TypeId} {pos : String} {af : Array Edge}
theorem Sub.one' : Sub [(id, ge)] ((id, ge') :: T) := fun p hp => by rw [List.mem_singleton] at hp; subst hp; exact ⟨ge', List.mem_cons_self ..⟩

theorem c5j (htt : a1j P tt) (hx : evO fr x = some (.ref id g)) (hy : evO fr y = some (.row (.rd m) ty2 E.size ys)) (hs : tt t = some S) (hk : S.kind = .sl e) (he : tt e = some E) (h2 : Nat.ble 1 E.size = true) (h3 : Nat.ble 1 E.bytes = true) (hh : u8u h id = some (g, .row e E.size xs))
  (how : (ys.flatten.all fun c => !c.isOw) = true) (hz : xs ++ ys = zs) (h4 : zs.length * E.bytes ≤ 140737488355328) (hle : Le true (.row .ow e E.size zs) (.row (.rd true) e E.size zs')) (k : p3p P tt ops r ((d, .row (.rd true) e E.size zs') :: fr) ((id, (g + 1, .dead)) :: h) (([id], [id]) :: lg) K) :
  p3p P tt ops (⟨some d, .call { callee := .builtin .append, args := #[x, y], argTypes := #[t, t] }, ty, pos, af, none⟩ :: r) fr h lg K := by
 subst hz
 exact a6w (OpS.frz (b1u (T := []) htt (h := h) rfl hs hk he hx hy (.inl rfl) how (Nat.le_of_ble_eq_true h2) (Nat.le_of_ble_eq_true h3) (by rw [← List.length_append]; exact h4)) hle) (InH.one hh) Sub.one' k
inductive LeCs : List AV → List AV → Prop
 | nil : LeCs [] []
 | same {c : AV} {r r' : List AV} (t : LeCs r r') : LeCs (c :: r) (c :: r')
 | le {a b : AV} {r r' : List AV} (hc : a.cl = true) (hl : Le false a b) (hb : b.isOw = false) (t : LeCs r r') : LeCs (a :: r) (b :: r')
theorem LeCs.refl : ∀ l : List AV, LeCs l l
 | [] => .nil
 | _ :: l => .same (LeCs.refl l)
theorem LeCs.app (h : LeCs a a') (k : LeCs b b') : LeCs (a ++ b) (a' ++ b') := by
 induction h with
 | nil => exact k
 | same _ ih => exact .same ih
 | le h1 h2 h3 _ ih => exact .le h1 h2 h3 ih
theorem LeCs.len (h : LeCs a b) : a.length = b.length := by
 induction h with
 | nil => rfl
 | same _ ih => simp [ih]
 | le _ _ _ _ ih => simp [ih]
theorem LeCs.flatten {α : Type} {f f' : α → List AV} (h : ∀ a, LeCs (f a) (f' a)) : ∀ l : List α, LeCs (l.map f).flatten (l.map f').flatten
 | [] => .nil
 | a :: l => by simpa using (h a).app (LeCs.flatten h l)
theorem TRs.leC (h : LeCs cs cs') : ∀ {X : Cx} {w : World} {us : List Value} {S : List Nat}, (∀ b, X.ok1 b → X.ok2 b) → TRs X w cs us S → TRs X w cs' us S := by
 induction h with
 | nil => exact fun _ h => h
 | same _ ih =>
  intro X w us S h12 h
  cases h with
  | vr h1 h2 h t => exact .vr h1 h2 h (ih h12 t)
  | own h1 h2 h3 t => exact .own h1 h2 h3 (ih h12 t)
 | le hc hl hb _ ih =>
  intro X w us S h12 h
  cases h with
  | vr h1 h2 h t => exact .vr (hl.one h1) hb (.cl ((h.closed hc).1.le h12 hl)) (ih h12 t)
  | own h1 h2 h3 t => cases hc
variable {n : Nat} {Q : Exit → Fr → Hp → Prop}
theorem a5x (id : Nat) (hh : u8u h id = some (g, .box ty cs)) (hl : LeCs cs cs') (k : Ex P n c fr ((id, (g, .box ty cs')) :: h) Q) : Ex P n c fr h Q := by
 refine b2t (fun X B w hS => ⟨X, Cx.le.refl X, rfl, ?_⟩) k
 obtain ⟨F, hS⟩ := hS
 rw [a3n]
 refine hS.re hh fun hE => ?_
 obtain ⟨b, us, S, h1, h2, h3, h4, h5⟩ := hE
 exact ⟨b, us, S, h1, h2, TRs.leC hl hS.ok12 h3, h4, h5⟩
end
section
def c8h : AV → Bool
 | .pv _ => true
 | .row .ow _ _ _ => true
 | .ref _ _ => true
 | .bsl _ _ _ _ => true
 | .cut _ _ _ _ => true
 | .ptr _ _ _ => true
 | .elt _ _ _ _ => true
 | .mp _ _ => true
 | _ => false
theorem c0k (h : c8h a = true) : Str a := by
 cases a with
 | pv v => exact .pv v
 | row m ty sz xs => cases m with
  | ow => exact .ow
  | rd => cases h
 | ref => exact .ref _ _
 | bsl => exact .bsl _ _ _ _
 | cut => exact .cut _ _ _ _
 | ptr => exact .ptr _ _ _
 | elt => exact .elt _ _ _ _
 | mp => exact .mp _ _
 | _ => cases h
def c8i : AV → Bool
 | .agg cs => cs.all c8h
 | a => c8h a
theorem c0l (h : c8i a = true) : Str a := by
 cases a with
 | agg cs => exact .agg fun y hy => c0k (List.all_eq_true.1 h y hy)
 | _ => exact c0k h
def c9u : AV → Bool
 | .tup cs => cs.all c8i
 | a => c8i a
theorem c0m (h : c9u a = true) : Str a := by
 cases a with
 | tup cs => exact .tup fun y hy => c0l (List.all_eq_true.1 h y hy)
 | _ => exact c0l h
end
section
variable {P : Program} {n : Nat} {fr : Fr} {h : Hp} {Q : Exit → Fr → Hp → Prop}
variable {tt : TT} {id : Nat}
theorem x7x (htt : a1j P tt) (hd : (ops.toList.all fun o => match o.dst with | some d => decide (d < n) | none => true) = true) (hr : p3p P tt ops ops.toList fr h [] fun fr' h' _ => Ex P n c fr' h' Q) : Ex P n (.seq (.region id ops false) c) fr h Q :=
 b4l (fun fr h => Ex P n c fr h Q) (y0y htt hd hr) (fun _ _ h => h)
theorem q5q (htt : a1j P tt) (hm : P.follows .mixedOrders = true) (hd : (ops.toList.all fun o => match o.dst with | some d => decide (d < n) | none => true) = true) (hr : p3p P tt ops ops.toList fr h [] fun fr' h' lg => chk ops lg.reverse = true ∧ Ex P n c fr' h' Q) : Ex P n (.seq (.region id ops true) c) fr h Q :=
 b4l (fun fr h => Ex P n c fr h Q) (a1k htt hm hd hr) (fun _ _ h => h)
end
section
variable {P : Program}

inductive NilLs : List (List AV) → List (List AV) → Prop
 | refl (l : List (List AV)) : NilLs l l
 | cons {x x' : List AV} {r r' : List (List AV)} (h : NilL x x') (t : NilLs r r') : NilLs (x :: r) (x' :: r')
theorem NilL.refl : ∀ l : List AV, NilL l l
 | [] => .nil
 | _ :: l => .same (NilL.refl l)
theorem NilL.app (h : NilL a a') (k : NilL b b') : NilL (a ++ b) (a' ++ b') := by
 induction h with
 | nil => exact k
 | same _ ih => exact .same ih
 | own _ ih => exact .own ih
theorem NilLs.flat (h : NilLs a b) : NilL a.flatten b.flatten := by
 induction h with
 | refl l => exact NilL.refl _
 | cons h _ ih => simpa using h.app ih
theorem NilLs.len (h : NilLs a b) : a.length = b.length := by
 induction h with
 | refl l => rfl
 | cons _ _ ih => simp [ih]
variable {n : Nat} {fr : Fr} {h : Hp} {Q : Exit → Fr → Hp → Prop}

inductive LeLs : List (List AV) → List (List AV) → Prop
 | refl (l : List (List AV)) : LeLs l l
 | cons {x x' : List AV} {r r' : List (List AV)} (h : LeCs x x') (t : LeLs r r') : LeLs (x :: r) (x' :: r')
theorem LeLs.flat (h : LeLs a b) : LeCs a.flatten b.flatten := by
 induction h with
 | refl l => exact LeCs.refl _
 | cons h _ ih => simpa using h.app ih
theorem LeLs.len (h : LeLs a b) : a.length = b.length := by
 induction h with
 | refl l => rfl
 | cons _ _ ih => simp [ih]
variable {tt : TT} {ops : Array Oper} {r : List Oper} {lg : Log} {K : Fr → Hp → Log → Prop} {d : Nat} {ty : TypeId} {pos : String} {af : Array Edge}
theorem Sub.two : Sub [(i, a), (j, b)] [(i, a'), (j, b')] := fun p hp => by
 simp only [List.mem_cons, List.not_mem_nil, or_false] at hp
 rcases hp with rfl | rfl
 ·exact ⟨a', List.mem_cons_self ..⟩
 ·exact ⟨b', List.mem_cons_of_mem _ (List.mem_cons_self ..)⟩
end
section
theorem y2y : (∀ ρ c i g e, a1h ρ c (i, (g, e)) = (ρ i, (c i, inE ρ c e))) ∧
 (∀ ρ c, inB ρ c (.any) = .any) ∧
 (∀ ρ c, inD ρ c (.any) = .any) ∧
 (∀ ρ c, inC ρ c (.any) = .any) ∧
 (∀ ρ c, inA ρ c (.any) = .any) ∧
 (∀ ρ c, inT ρ c (.any) = .any) ∧
 (∀ ρ c v, inB ρ c (.pv v) = .pv v) ∧
 (∀ ρ c v, inD ρ c (.pv v) = .pv v) ∧
 (∀ ρ c v, inC ρ c (.pv v) = .pv v) ∧
 (∀ ρ c v, inA ρ c (.pv v) = .pv v) ∧
 (∀ ρ c v, inT ρ c (.pv v) = .pv v) ∧
 (∀ ρ c m ty sz xs, inB ρ c (.row m ty sz xs) = .row m ty sz xs) ∧
 (∀ ρ c m ty sz xs, inD ρ c (.row m ty sz xs) = .row m ty sz xs) ∧
 (∀ ρ c m ty sz xs, inC ρ c (.row m ty sz xs) = .row m ty sz xs) ∧
 (∀ ρ c m ty sz xs, inA ρ c (.row m ty sz xs) = .row m ty sz xs) ∧
 (∀ ρ c m ty sz xs, inT ρ c (.row m ty sz xs) = .row m ty sz xs) ∧
 (∀ ρ c i g, inB ρ c (.ref i g) = .ref (ρ i) (c i)) ∧
 (∀ ρ c i g, inD ρ c (.ref i g) = .ref (ρ i) (c i)) ∧
 (∀ ρ c i g, inC ρ c (.ref i g) = .ref (ρ i) (c i)) ∧
 (∀ ρ c i g, inA ρ c (.ref i g) = .ref (ρ i) (c i)) ∧
 (∀ ρ c i g, inT ρ c (.ref i g) = .ref (ρ i) (c i)) ∧
 (∀ ρ c i g a b, inB ρ c (.bsl i g a b) = .bsl (ρ i) (c i) a b) ∧
 (∀ ρ c i g a b, inD ρ c (.bsl i g a b) = .bsl (ρ i) (c i) a b) ∧
 (∀ ρ c i g a b, inC ρ c (.bsl i g a b) = .bsl (ρ i) (c i) a b) ∧
 (∀ ρ c i g a b, inA ρ c (.bsl i g a b) = .bsl (ρ i) (c i) a b) ∧
 (∀ ρ c i g a b, inT ρ c (.bsl i g a b) = .bsl (ρ i) (c i) a b) ∧
 (∀ ρ c i g a b, inB ρ c (.cut i g a b) = .cut (ρ i) (c i) a b) ∧
 (∀ ρ c i g a b, inD ρ c (.cut i g a b) = .cut (ρ i) (c i) a b) ∧
 (∀ ρ c i g a b, inC ρ c (.cut i g a b) = .cut (ρ i) (c i) a b) ∧
 (∀ ρ c i g a b, inA ρ c (.cut i g a b) = .cut (ρ i) (c i) a b) ∧
 (∀ ρ c i g a b, inT ρ c (.cut i g a b) = .cut (ρ i) (c i) a b) ∧
 (∀ ρ c i g a, inB ρ c (.ptr i g a) = .ptr (ρ i) (c i) a) ∧
 (∀ ρ c i g a, inD ρ c (.ptr i g a) = .ptr (ρ i) (c i) a) ∧
 (∀ ρ c i g a, inC ρ c (.ptr i g a) = .ptr (ρ i) (c i) a) ∧
 (∀ ρ c i g a, inA ρ c (.ptr i g a) = .ptr (ρ i) (c i) a) ∧
 (∀ ρ c i g a, inT ρ c (.ptr i g a) = .ptr (ρ i) (c i) a) ∧
 (∀ ρ c i g a b, inB ρ c (.elt i g a b) = .elt (ρ i) (c i) a b) ∧
 (∀ ρ c i g a b, inD ρ c (.elt i g a b) = .elt (ρ i) (c i) a b) ∧
 (∀ ρ c i g a b, inC ρ c (.elt i g a b) = .elt (ρ i) (c i) a b) ∧
 (∀ ρ c i g a b, inA ρ c (.elt i g a b) = .elt (ρ i) (c i) a b) ∧
 (∀ ρ c i g a b, inT ρ c (.elt i g a b) = .elt (ρ i) (c i) a b) ∧
 (∀ ρ c cs, inB ρ c (.iel cs) = .iel cs) ∧
 (∀ ρ c cs, inD ρ c (.iel cs) = .iel cs) ∧
 (∀ ρ c cs, inC ρ c (.iel cs) = .iel cs) ∧
 (∀ ρ c cs, inA ρ c (.iel cs) = .iel cs) ∧
 (∀ ρ c cs, inT ρ c (.iel cs) = .iel cs) ∧
 (∀ ρ c cs, inB ρ c (.agg cs) = .agg cs) ∧
 (∀ ρ c cs, inD ρ c (.agg cs) = .agg (cs.map (inB ρ c))) ∧
 (∀ ρ c cs, inC ρ c (.agg cs) = .agg cs) ∧
 (∀ ρ c cs, inA ρ c (.agg cs) = .agg (cs.map (inC ρ c))) ∧
 (∀ ρ c cs, inT ρ c (.agg cs) = .agg (cs.map (inC ρ c))) ∧
 (∀ ρ c cs, inB ρ c (.tup cs) = .tup cs) ∧
 (∀ ρ c cs, inD ρ c (.tup cs) = .tup cs) ∧
 (∀ ρ c cs, inC ρ c (.tup cs) = .tup cs) ∧
 (∀ ρ c cs, inA ρ c (.tup cs) = .tup cs) ∧
 (∀ ρ c cs, inT ρ c (.tup cs) = .tup (cs.map (inA ρ c))) ∧
 (∀ ρ c f a b, inB ρ c (.fn f a b) = .fn f a b) ∧
 (∀ ρ c f a b, inD ρ c (.fn f a b) = .fn f a b) ∧
 (∀ ρ c f a b, inC ρ c (.fn f a b) = .fn f (a.map (inB ρ c)) (b.map (inB ρ c))) ∧
 (∀ ρ c f a b, inA ρ c (.fn f a b) = .fn f (a.map (inB ρ c)) (b.map (inB ρ c))) ∧
 (∀ ρ c f a b, inT ρ c (.fn f a b) = .fn f (a.map (inB ρ c)) (b.map (inB ρ c))) ∧
 (∀ ρ c t a, inB ρ c (.ifc t a) = .ifc t a) ∧
 (∀ ρ c t a, inD ρ c (.ifc t a) = .ifc t a) ∧
 (∀ ρ c t a, inC ρ c (.ifc t a) = .ifc t (inD ρ c a)) ∧
 (∀ ρ c t a, inA ρ c (.ifc t a) = .ifc t (inD ρ c a)) ∧
 (∀ ρ c t a, inT ρ c (.ifc t a) = .ifc t (inD ρ c a)) ∧
 (∀ ρ c i g, inB ρ c (.mp i g) = .mp (ρ i) (c i)) ∧
 (∀ ρ c i g, inD ρ c (.mp i g) = .mp (ρ i) (c i)) ∧
 (∀ ρ c i g, inC ρ c (.mp i g) = .mp (ρ i) (c i)) ∧
 (∀ ρ c i g, inA ρ c (.mp i g) = .mp (ρ i) (c i)) ∧
 (∀ ρ c i g, inT ρ c (.mp i g) = .mp (ρ i) (c i)) ∧
 (∀ ρ c, inE ρ c (.dead) = .dead) ∧
 (∀ ρ c ty cs, inE ρ c (.box ty cs) = .box ty (cs.map (inC ρ c))) ∧
 (∀ ρ c ty sz xs, inE ρ c (.row ty sz xs) = .row ty sz xs) ∧
 (∀ ρ c es, inE ρ c (.map es) = .map es) ∧
 (∀ ρ c ty lty xs, inE ρ c (.chn ty lty xs) = .chn ty lty xs) ∧
 (∀ ρ c l, inE ρ c (.blk l) = .blk l) := by
 refine ⟨?_, ?_, ?_, ?_, ?_, ?_, ?_, ?_, ?_, ?_, ?_, ?_, ?_, ?_, ?_, ?_, ?_, ?_, ?_, ?_, ?_, ?_, ?_, ?_, ?_, ?_, ?_, ?_, ?_, ?_, ?_, ?_, ?_, ?_, ?_, ?_, ?_, ?_, ?_, ?_, ?_, ?_, ?_, ?_, ?_, ?_, ?_, ?_, ?_, ?_, ?_, ?_, ?_, ?_, ?_, ?_, ?_, ?_, ?_, ?_, ?_, ?_, ?_, ?_, ?_, ?_, ?_, ?_, ?_, ?_, ?_, ?_, ?_, ?_, ?_, ?_, ?_⟩ <;> intros <;> rfl
theorem v4v : (∀ (α β : Type) (f : α → β), List.map f [] = []) ∧ (∀ (α β : Type) (f : α → β) (a : α) (l : List α), List.map f (a :: l) = f a :: List.map f l) ∧ (∀ x y : Nat, Nat.add x y = x + y) ∧
 (∀ (α : Type) (x d : α) (l : List α), (x :: l).getD 0 d = x) ∧ (∀ (α : Type) (x d : α) (l : List α) (n : Nat), (x :: l).getD (n + 1) d = l.getD n d) ∧ (∀ (α : Type) (d : α) (n : Nat), ([] : List α).getD n d = d) ∧
 (∀ b : Bool, (b || false) = b) ∧ (∀ b : Bool, (false || b) = b) ∧ (∀ b : Bool, (true || b) = true) ∧ (∀ b : Bool, (b || true) = true) ∧ (∀ n : Nat, n + 0 = n) ∧ (∀ n : Nat, 0 + n = n) :=
 ⟨fun _ _ _ => rfl, fun _ _ _ _ _ => rfl, fun _ _ => rfl, fun _ _ _ _ => rfl, fun _ _ _ _ _ => rfl, fun _ _ _ => rfl, Bool.or_false, Bool.false_or, Bool.true_or, Bool.or_true, Nat.add_zero, Nat.zero_add⟩
theorem a2b : (∀ (α : Type) (x y : α) (l : List α), (x :: l).set 0 y = y :: l) ∧ (∀ (α : Type) (x y : α) (l : List α) (n : Nat), (x :: l).set (n + 1) y = x :: l.set n y) := ⟨fun _ _ _ _ => rfl, fun _ _ _ _ _ => rfl⟩
theorem z2z (id : Nat) (he : u8u h id = some ge) (t : HE h r) : HE h ((id, ge) :: r) := .same he t
theorem x5x (t : Nat) (h : F.get t = some av) (k : Cov f F) : Cov ((t, av) :: f) F := .cons h k
theorem u3u (h : Nat.ble a b = true) : a ≤ b := Nat.le_of_ble_eq_true h
theorem s8s {α : Type} {l : List α} {i : Nat} (h : i < l.length) : ∃ a, l[i]? = some a := ⟨_, List.getElem?_eq_getElem h⟩
end
section
variable {P : Program}
theorem z0z {tt : TT} (hx : evO fr x = some (.pv u)) (hy : evO fr y = some (.pv v)) (hv : b9h op u v = some w) (k : p3p P tt ops r ((d, .pv w) :: fr) h (([], []) :: lg) K) :
  p3p P tt ops (⟨some d, .binOp op t x y t', ty, pos, af, none⟩ :: r) fr h lg K := a0j hx hy hv k
end
section
def b2x : List Int → List Int → Bool
 | a :: az, b :: bs => if a < b then true else if b < a then false else b2x az bs
 | _, _ => false
theorem a3g (a b : Int) (az bs : List Int) : b2x (a :: az) (b :: bs) = if a < b then true else if b < a then false else b2x az bs := rfl
theorem b2y : ∀ az, b2x az az = false
 | [] => rfl
 | a :: az => by rw [a3g, if_neg (by omega), if_neg (by omega)]; exact b2y az
theorem a8i : ∀ az bs cs, b2x az bs = true → b2x bs cs = true → b2x az cs = true
 | [], _, _, h, _ => by simp [b2x] at h
 | _ :: _, [], _, h, _ => by simp [b2x] at h
 | _ :: _, _ :: _, [], _, h => by simp [b2x] at h
 | a :: az, b :: bs, c :: cs, h, k => by
  rw [a3g] at *
  by_cases h1 : a < b <;> by_cases h2 : b < a <;> by_cases h3 : b < c <;> by_cases h4 : c < b <;> simp only [h1, h2, h3, h4, if_true, if_false] at h k <;> first | omega | (cases h; done) | (cases k; done) | (rw [if_pos (by omega)]; done) | (rw [if_neg (by omega), if_neg (by omega)]; exact a8i _ _ _ h k)
theorem b2z : ∀ az bs : List Int, az.length = bs.length → az ≠ bs → b2x az bs = true ∨ b2x bs az = true
 | [], [], _, h => absurd rfl h
 | [], _ :: _, h, _ => by simp at h
 | _ :: _, [], h, _ => by simp at h
 | a :: az, b :: bs, hl, hne => by
  rw [a3g, a3g]
  by_cases h1 : a < b
  ·exact .inl (if_pos h1)
  ·by_cases h2 : b < a
   ·exact .inr (if_pos h2)
   ·have e : a = b := by omega
    subst e
    rw [if_neg h1, if_neg h1, if_neg h1, if_neg h1]
    exact b2z az bs (by simpa using hl) (fun e => hne (by rw [e]))
structure STO {α : Type} (lt : α → α → Bool) : Prop where
 irr : ∀ a, lt a a = false
 trans : ∀ a b c, lt a b = true → lt b c = true → lt a c = true
 tot : ∀ a b, a ≠ b → lt a b = true ∨ lt b a = true
theorem STO.asymm (O : STO lt) (h : lt a b = true) : lt b a = false := by
 cases hb : lt b a
 ·rfl
 ·have := O.trans _ _ _ h hb; rw [O.irr] at this; cases this
theorem STO.eq (O : STO lt) (h : lt a b = false) (k : lt b a = false) : a = b := by
 apply Classical.byContradiction
 intro hne
 rcases O.tot a b hne with h1 | h1
 ·rw [h] at h1; cases h1
 ·rw [k] at h1; cases h1
theorem STO.ntrans (O : STO lt) (h : lt b a = false) (k : lt c b = false) : lt c a = false := by
 cases hc : lt c a
 ·rfl
 ·by_cases e : a = b
  ·subst e; rw [hc] at k; cases k
  ·rcases O.tot a b e with h1 | h1
   ·rw [O.trans _ _ _ hc h1] at k; cases k
   ·rw [h] at h1; cases h1
theorem STO.lt_of (O : STO lt) (h : lt b a = false) (hne : a ≠ b) : lt a b = true := by
 rcases O.tot a b hne with h1 | h1
 ·exact h1
 ·rw [h] at h1; cases h1
section
variable {α : Type} {lt : α → α → Bool}

def SS (lt : α → α → Bool) (l : List α) : Prop := l.Pairwise (fun a b => lt a b = true)

def WS (lt : α → α → Bool) (l : List α) : Prop := l.Pairwise (fun a b => lt b a = false)
theorem SS.uniq (O : STO lt) : ∀ {l l' : List α}, SS lt l → SS lt l' → (∀ x, x ∈ l ↔ x ∈ l') → l = l'
 | [], [], _, _, _ => rfl
 | [], b :: bs, _, _, h => absurd ((h b).2 (by simp)) (by simp)
 | a :: az, [], _, _, h => absurd ((h a).1 (by simp)) (by simp)
 | a :: az, b :: bs, h1, h2, h => by
  obtain ⟨h3, h4⟩ := List.pairwise_cons.1 h1
  obtain ⟨h5, h6⟩ := List.pairwise_cons.1 h2
  have e : a = b := by
   have hab := (h a).1 (by simp)
   have hba := (h b).2 (by simp)
   rcases List.mem_cons.1 hab with e | hm
   ·exact e
   ·rcases List.mem_cons.1 hba with e | hm'
    ·exact e.symm
    ·have := O.trans _ _ _ (h3 b hm') (h5 a hm); rw [O.irr] at this; cases this
  subst e
  rw [SS.uniq O h4 h6 (fun x => ?_)]
  have hx := h x
  simp only [List.mem_cons] at hx
  constructor
  ·intro hm
   rcases hx.1 (.inr hm) with e | e
   ·subst e; have := h3 x hm; rw [O.irr] at this; cases this
   ·exact e
  ·intro hm
   rcases hx.2 (.inr hm) with e | e
   ·subst e; have := h5 x hm; rw [O.irr] at this; cases this
   ·exact e
theorem WS.uniq (O : STO lt) : ∀ {l l' : List α}, WS lt l → WS lt l' → l.Perm l' → l = l'
 | [], l', _, _, h => (List.nil_perm.1 h).symm ▸ rfl
 | a :: az, [], _, _, h => absurd h.symm (by simp)
 | a :: az, b :: bs, h1, h2, h => by
  obtain ⟨h3, h4⟩ := List.pairwise_cons.1 h1
  obtain ⟨h5, h6⟩ := List.pairwise_cons.1 h2
  have e : a = b := by
   have hab : a ∈ b :: bs := h.mem_iff.1 (by simp)
   have hba : b ∈ a :: az := h.mem_iff.2 (by simp)
   rcases List.mem_cons.1 hab with e | hm
   ·exact e
   ·rcases List.mem_cons.1 hba with e | hm'
    ·exact e.symm
    ·exact O.eq (h5 a hm) (h3 b hm')
  subst e
  rw [WS.uniq O h4 h6 ((List.perm_cons a).1 h)]
theorem SS.ws (O : STO lt) (h : SS lt l) : WS lt l := List.Pairwise.imp (fun h => O.asymm h) h

def b4u [DecidableEq α] (lt : α → α → Bool) (x : α) : List α → List α
 | [] => [x]
 | y :: r => if x = y then y :: r else if lt x y then x :: y :: r else y :: b4u lt x r
def c5k [DecidableEq α] (lt : α → α → Bool) (l : List α) : List α := l.foldl (fun acc x => b4u lt x acc) []
theorem a9l [DecidableEq α] (x z : α) : ∀ l : List α, z ∈ b4u lt x l ↔ z = x ∨ z ∈ l
 | [] => by simp [b4u]
 | y :: r => by
  unfold b4u
  by_cases e : x = y
  ·subst e; rw [if_pos rfl]; simp only [List.mem_cons]; constructor
   ·exact .inr
   ·rintro (h | h | h)
    ·exact .inl h
    ·exact .inl h
    ·exact .inr h
  ·rw [if_neg e]
   by_cases h : lt x y = true
   ·rw [if_pos h]; simp
   ·rw [if_neg h]; simp only [List.mem_cons, a9l x z r]; constructor
    ·rintro (h | h | h)
     ·exact .inr (.inl h)
     ·exact .inl h
     ·exact .inr (.inr h)
    ·rintro (h | h | h)
     ·exact .inr (.inl h)
     ·exact .inl h
     ·exact .inr (.inr h)
theorem b6n [DecidableEq α] (O : STO lt) (x : α) : ∀ l : List α, SS lt l → SS lt (b4u lt x l)
 | [], _ => by simp [b4u, SS]
 | y :: r, h => by
  unfold b4u
  obtain ⟨h1, h2⟩ := List.pairwise_cons.1 h
  by_cases e : x = y
  ·rw [if_pos e]; exact h
  ·rw [if_neg e]
   by_cases hx : lt x y = true
   ·rw [if_pos hx]
    refine List.pairwise_cons.2 ⟨fun z hz => ?_, h⟩
    rcases List.mem_cons.1 hz with rfl | hz
    ·exact hx
    ·exact O.trans _ _ _ hx (h1 z hz)
   ·rw [if_neg hx]
    refine List.pairwise_cons.2 ⟨fun z hz => ?_, b6n O x r h2⟩
    rcases (a9l x z r).1 hz with rfl | hz
    ·exact O.lt_of (by simpa using hx) (Ne.symm e)
    ·exact h1 z hz
theorem a7d [DecidableEq α] (O : STO lt) : ∀ (l acc : List α), SS lt acc → SS lt (l.foldl (fun acc x => b4u lt x acc) acc)
 | [], _, h => h
 | x :: l, acc, h => a7d O l _ (b6n O x acc h)
theorem a5y [DecidableEq α] (z : α) : ∀ (l acc : List α), z ∈ l.foldl (fun acc x => b4u lt x acc) acc ↔ z ∈ acc ∨ z ∈ l
 | [], acc => by simp
 | x :: l, acc => by
  rw [List.foldl_cons, a5y z l, a9l]
  simp only [List.mem_cons]
  constructor
  ·rintro ((h | h) | h)
   ·exact .inr (.inl h)
   ·exact .inl h
   ·exact .inr (.inr h)
  ·rintro (h | h | h)
   ·exact .inl (.inr h)
   ·exact .inl (.inl h)
   ·exact .inr h
theorem c0n [DecidableEq α] (O : STO lt) (l : List α) : SS lt (c5k lt l) := a7d O l [] .nil
theorem c2q [DecidableEq α] (z : α) (l : List α) : z ∈ c5k lt l ↔ z ∈ l := by rw [c5k, a5y]; simp

theorem c5l [DecidableEq α] (O : STO lt) (h : SS lt s) (hm : ∀ x, x ∈ s ↔ x ∈ l) : s = c5k lt l :=
 SS.uniq O h (c0n O l) (fun x => (hm x).trans (c2q x l).symm)

def b7m (lt : α → α → Bool) (x : α) : List α → List α
 | [] => [x]
 | y :: r => if lt x y then x :: y :: r else y :: b7m lt x r
def c0o (lt : α → α → Bool) (l : List α) : List α := l.foldl (fun acc x => b7m lt x acc) []
theorem b0l (x : α) : ∀ l : List α, (b7m lt x l).Perm (x :: l)
 | [] => List.Perm.refl _
 | y :: r => by
  unfold b7m
  split
  ·exact List.Perm.refl _
  ·exact ((b0l x r).cons y).trans (List.Perm.swap x y r)
theorem c0p (O : STO lt) (x : α) : ∀ l : List α, WS lt l → WS lt (b7m lt x l)
 | [], _ => by simp [b7m, WS]
 | y :: r, h => by
  unfold b7m
  obtain ⟨h1, h2⟩ := List.pairwise_cons.1 h
  split
  ·rename_i hx
   refine List.pairwise_cons.2 ⟨fun z hz => ?_, h⟩
   rcases List.mem_cons.1 hz with rfl | hz
   ·exact O.asymm hx
   ·exact O.ntrans (O.asymm hx) (h1 z hz)
  ·rename_i hx
   refine List.pairwise_cons.2 ⟨fun z hz => ?_, c0p O x r h2⟩
   rcases List.mem_cons.1 ((b0l x r).mem_iff.1 hz) with rfl | hz
   ·simpa using hx
   ·exact h1 z hz
theorem a7e (O : STO lt) : ∀ (l acc : List α), WS lt acc → WS lt (l.foldl (fun acc x => b7m lt x acc) acc)
 | [], _, h => h
 | x :: l, acc, h => a7e O l _ (c0p O x acc h)
theorem a4j : ∀ (l acc : List α), (l.foldl (fun acc x => b7m lt x acc) acc).Perm (acc ++ l)
 | [], acc => by simp
 | x :: l, acc => (a4j l _).trans (((b0l x acc).append_right l).trans (by
   have := List.perm_middle (a := x) (l₁ := acc) (l₂ := l)
   exact this.symm))
theorem b3a (O : STO lt) (l : List α) : WS lt (c0o lt l) := a7e O l [] .nil
theorem a4k (l : List α) : (c0o lt l).Perm l := a4j l []
theorem c0q (O : STO lt) (h : WS lt s) (hp : s.Perm l) : s = c0o lt l := WS.uniq O h (b3a O l) (hp.trans (a4k l).symm)
theorem b8n (O : STO lt) (h : l.Perm l') : c0o lt l = c0o lt l' := c0q O (b3a O l) ((a4k l).trans h)
end
end
section
section
variable {α : Type} {lt : α → α → Bool}

def sw (l : List α) (i j : Nat) : List α := match l[i]?, l[j]? with
 | some a, some b => (l.set i b).set j a
 | _, _ => l
theorem c8j (hi : l[i]? = some a) (hj : l[j]? = some b) : sw l i j = (l.set i b).set j a := by simp [sw, hi, hj]
theorem b1y (l : List α) (i j : Nat) : (sw l i j).length = l.length := by
 unfold sw; split <;> simp
theorem c3s (hi : l[i]? = some a) (hj : l[j]? = some b) (k : Nat) : (sw l i j)[k]? = if k = j then some a else if k = i then some b else l[k]? := by
 have h1 := (List.getElem?_eq_some_iff.1 hi).1
 have h2 := (List.getElem?_eq_some_iff.1 hj).1
 rw [c8j hi hj, List.getElem?_set, List.getElem?_set]
 by_cases e : k = j
 ·subst e; simp [h2]
 ·rw [if_neg (Ne.symm e), if_neg e]
  by_cases e2 : k = i
  ·subst e2; simp [h1]
  ·rw [if_neg (Ne.symm e2), if_neg e2]
theorem c0r (l : List α) (i j : Nat) : (sw l i j).Perm l := by
 unfold sw
 split
 ·rename_i a b hi hj
  obtain ⟨h1, e1⟩ := List.getElem?_eq_some_iff.1 hi
  obtain ⟨h2, e2⟩ := List.getElem?_eq_some_iff.1 hj
  have := Array.swap_perm (xs := l.toArray) (i := i) (j := j) (by simpa using h1) (by simpa using h2)
  have e : (l.toArray.swap i j (by simpa using h1) (by simpa using h2)).toList = (l.set i b).set j a := by
   simp [Array.swap, e1, e2]
  have := this.toList
  rw [e] at this
  simpa using this
 ·exact List.Perm.refl _
def b8o (lt : α → α → Bool) (l : List α) : Prop := ∀ i a b, 0 < i → l[i]? = some a → l[(i - 1) / 2]? = some b → lt a b = false

def a3h (lt : α → α → Bool) (l : List α) (k : Nat) : List α :=
 if h : 0 < k then match l[k]?, l[(k - 1) / 2]? with
  | some a, some b => if lt a b then a3h lt (sw l k ((k - 1) / 2)) ((k - 1) / 2) else l
  | _, _ => l
 else l
termination_by k
decreasing_by omega
theorem b6o (h : 0 < k) (ha : l[k]? = some a) (hb : l[(k - 1) / 2]? = some b) (hl : lt a b = true) : a3h lt l k = a3h lt (sw l k ((k - 1) / 2)) ((k - 1) / 2) := by
 rw [a3h, dif_pos h, ha, hb]; simp [hl]
theorem b6p (ha : l[k]? = some a) (hb : l[(k - 1) / 2]? = some b) (hl : lt a b = false) : a3h lt l k = l := by
 rw [a3h]; split
 ·rw [ha, hb]; simp [hl]
 ·rfl
theorem b6q : a3h lt l 0 = l := by rw [a3h]; simp
def HU (lt : α → α → Bool) (l : List α) (k : Nat) : Prop :=
 (∀ i a b, 0 < i → i ≠ k → l[i]? = some a → l[(i - 1) / 2]? = some b → lt a b = false) ∧
 (∀ i a b, 0 < k → 0 < i → (i - 1) / 2 = k → l[i]? = some a → l[(k - 1) / 2]? = some b → lt a b = false)
theorem b6r (O : STO lt) (k : Nat) : ∀ (l : List α), k < l.length → HU lt l k → b8o lt (a3h lt l k) ∧ (a3h lt l k).Perm l := by
 induction k using Nat.strongRecOn with
 | _ k ih =>
 intro l hk h
 by_cases h0 : 0 < k
 ·obtain ⟨a, ha⟩ : ∃ a, l[k]? = some a := ⟨_, List.getElem?_eq_getElem hk⟩
  obtain ⟨b, hb⟩ : ∃ b, l[(k - 1) / 2]? = some b := ⟨_, List.getElem?_eq_getElem (by omega)⟩
  cases hl : lt a b
  ·rw [b6p ha hb hl]
   refine ⟨fun i c d hi hc hd => ?_, List.Perm.refl _⟩
   by_cases e : i = k
   ·subst e; rw [ha] at hc; rw [hb] at hd; cases hc; cases hd; exact hl
   ·exact h.1 i c d hi e hc hd
  ·rw [b6o h0 ha hb hl]
   have hg := c3s ha hb
   have := ih ((k - 1) / 2) (by omega) (sw l k ((k - 1) / 2)) (by rw [b1y]; omega) ⟨fun i c d hi hne hc hd => ?_, fun i c d hu hi hp hc hd => ?_⟩
   ·exact ⟨this.1, this.2.trans (c0r _ _ _)⟩
   ·rw [hg, if_neg hne] at hc
    rw [hg] at hd
    by_cases e : i = k
    ·subst e
     rw [if_pos rfl] at hc
     rw [if_pos rfl] at hd
     cases hc; cases hd
     exact O.asymm hl
    ·rw [if_neg e] at hc
     by_cases e1 : (i - 1) / 2 = (k - 1) / 2
     ·rw [if_pos e1] at hd
      cases hd
      have h1 := h.1 i c b hi e hc (by rw [e1]; exact hb)
      cases hc' : lt c a
      ·rfl
      ·rw [O.trans _ _ _ hc' hl] at h1; cases h1
     ·rw [if_neg e1] at hd
      by_cases e2 : (i - 1) / 2 = k
      ·rw [if_pos e2] at hd
       cases hd
       exact h.2 i c b h0 hi e2 hc hb
      ·rw [if_neg e2] at hd
       exact h.1 i c d hi e hc hd
   ·have hd' : l[((k - 1) / 2 - 1) / 2]? = some d := by
     rw [hg, if_neg (by omega), if_neg (by omega)] at hd; exact hd
    have hbd := h.1 ((k - 1) / 2) b d hu (by omega) hb hd'
    rw [hg, if_neg (by omega)] at hc
    by_cases e : i = k
    ·rw [if_pos e] at hc; cases hc; exact hbd
    ·rw [if_neg e] at hc
     exact O.ntrans hbd (h.1 i c b hi e hc (by rw [hp]; exact hb))
 ·have : k = 0 := by omega
  subst this
  rw [b6q]
  exact ⟨fun i c d hi hc hd => h.1 i c d hi (by omega) hc hd, List.Perm.refl _⟩
def b4v (lt : α → α → Bool) (l : List α) (x : α) : List α := a3h lt (l ++ [x]) l.length
theorem b8p (O : STO lt) (h : b8o lt l) (x : α) : b8o lt (b4v lt l x) ∧ (b4v lt l x).Perm (l ++ [x]) := by
 refine b6r O _ _ (by simp) ⟨fun i a b hi hne ha hb => ?_, fun i a b _ hi hp ha hb => ?_⟩
 ·have hlt := (List.getElem?_eq_some_iff.1 ha).1
  simp only [List.length_append, List.length_cons, List.length_nil] at hlt
  rw [List.getElem?_append_left (by omega)] at ha
  rw [List.getElem?_append_left (by omega)] at hb
  exact h i a b hi ha hb
 ·have hlt := (List.getElem?_eq_some_iff.1 ha).1
  simp only [List.length_append, List.length_cons, List.length_nil] at hlt
  omega
theorem b8q (k : Nat) : ∀ l : List α, (a3h lt l k).length = l.length := by
 induction k using Nat.strongRecOn with
 | _ k ih =>
 intro l
 rw [a3h]
 split
 ·split
  ·split
   ·rw [ih _ (by omega), b1y]
   ·rfl
  ·rfl
 ·rfl
theorem c0s (l : List α) (x : α) : (b4v lt l x).length = l.length + 1 := by rw [b4v, b8q]; simp

def a4l (lt : α → α → Bool) (l : List α) (k : Nat) : Nat := match l[2 * k + 2]?, l[2 * k + 1]? with
 | some c, some d => if lt c d then 2 * k + 2 else 2 * k + 1
 | _, _ => 2 * k + 1
theorem a7f (l : List α) (k : Nat) : a4l lt l k = 2 * k + 1 ∨ (a4l lt l k = 2 * k + 2 ∧ 2 * k + 2 < l.length) := by
 unfold a4l
 split
 ·rename_i c d h1 h2
  split
  ·exact .inr ⟨rfl, (List.getElem?_eq_some_iff.1 h1).1⟩
  ·exact .inl rfl
 ·exact .inl rfl

def a0t (lt : α → α → Bool) (l : List α) (k : Nat) : List α :=
 if h : 2 * k + 1 < l.length then match l[a4l lt l k]?, l[k]? with
  | some a, some b => if lt a b then a0t lt (sw l (a4l lt l k) k) (a4l lt l k) else l
  | _, _ => l
 else l
termination_by l.length - k
decreasing_by
 rw [b1y]
 rcases a7f (lt := lt) l k with h1 | h1 <;> omega
theorem a3r (h : ¬ 2 * k + 1 < l.length) : a0t lt l k = l := by rw [a0t, dif_neg h]
theorem b3c (h : 2 * k + 1 < l.length) (ha : l[a4l lt l k]? = some a) (hb : l[k]? = some b) (hl : lt a b = true) : a0t lt l k = a0t lt (sw l (a4l lt l k) k) (a4l lt l k) := by
 rw [a0t, dif_pos h, ha, hb]; simp [hl]
theorem b3d (ha : l[a4l lt l k]? = some a) (hb : l[k]? = some b) (hl : lt a b = false) : a0t lt l k = l := by
 rw [a0t]; split
 ·rw [ha, hb]; simp [hl]
 ·rfl
theorem c2r (O : STO lt) (hi : 0 < i) (hp : (i - 1) / 2 = k) (hc : l[i]? = some c) (hd : l[a4l lt l k]? = some d) : lt c d = false := by
 have hlt := (List.getElem?_eq_some_iff.1 hc).1
 unfold a4l at hd
 split at hd
 ·rename_i x y h1 h2
  split at hd
  ·rename_i hxy
   rw [h1] at hd; cases hd
   rcases (show i = 2 * k + 1 ∨ i = 2 * k + 2 by omega) with e | e
   ·subst e; rw [h2] at hc; cases hc; exact O.asymm hxy
   ·subst e; rw [h1] at hc; cases hc; exact O.irr _
  ·rename_i hxy
   rw [h2] at hd; cases hd
   rcases (show i = 2 * k + 1 ∨ i = 2 * k + 2 by omega) with e | e
   ·subst e; rw [h2] at hc; cases hc; exact O.irr _
   ·subst e; rw [h1] at hc; cases hc; simpa using hxy
 ·rename_i hno
  rcases (show i = 2 * k + 1 ∨ i = 2 * k + 2 by omega) with e | e
  ·subst e; rw [hc] at hd; cases hd; exact O.irr _
  ·subst e; exact absurd hd (fun h => hno c d hc h)
def HD (lt : α → α → Bool) (l : List α) (k : Nat) : Prop :=
 (∀ i a b, 0 < i → (i - 1) / 2 ≠ k → l[i]? = some a → l[(i - 1) / 2]? = some b → lt a b = false) ∧
 (∀ i a b, 0 < k → 0 < i → (i - 1) / 2 = k → l[i]? = some a → l[(k - 1) / 2]? = some b → lt a b = false)
theorem b3e (O : STO lt) : ∀ (n k : Nat) (l : List α), l.length - k ≤ n → HD lt l k → b8o lt (a0t lt l k) ∧ (a0t lt l k).Perm l := by
 intro n
 induction n with
 | zero =>
  intro k l hn h
  rw [a3r (by omega)]
  refine ⟨fun i c d hi hc hd => ?_, List.Perm.refl _⟩
  have := (List.getElem?_eq_some_iff.1 hc).1
  exact h.1 i c d hi (by omega) hc hd
 | succ n ih =>
  intro k l hn h
  by_cases h0 : 2 * k + 1 < l.length
  ·have hcl : a4l lt l k < l.length := by rcases a7f (lt := lt) l k with h1 | h1 <;> omega
   have hcp : (a4l lt l k - 1) / 2 = k := by rcases a7f (lt := lt) l k with h1 | h1 <;> omega
   have hc0 : 0 < a4l lt l k := by rcases a7f (lt := lt) l k with h1 | h1 <;> omega
   obtain ⟨a, ha⟩ : ∃ a, l[a4l lt l k]? = some a := ⟨_, List.getElem?_eq_getElem hcl⟩
   obtain ⟨b, hb⟩ : ∃ b, l[k]? = some b := ⟨_, List.getElem?_eq_getElem (by omega)⟩
   have hch := fun i c (hi : 0 < i) hp hc => c2r O (l := l) (k := k) (i := i) (c := c) hi hp hc ha
   cases hl : lt a b
   ·rw [b3d ha hb hl]
    refine ⟨fun i c d hi hc hd => ?_, List.Perm.refl _⟩
    by_cases e : (i - 1) / 2 = k
    ·rw [e, hb] at hd; cases hd
     exact O.ntrans hl (hch i c hi e hc)
    ·exact h.1 i c d hi e hc hd
   ·rw [b3c h0 ha hb hl]
    have hg := c3s ha hb
    generalize hm : a4l lt l k = m at *
    have := ih m (sw l m k) (by rw [b1y]; omega) ⟨fun i c d hi hne hc hd => ?_, fun i c d hm0 hi hp hc hd => ?_⟩
    ·exact ⟨this.1, this.2.trans (c0r _ _ _)⟩
    ·rw [hg] at hc hd
     by_cases e : (i - 1) / 2 = k
     ·rw [if_pos e] at hd; cases hd
      rw [if_neg (by omega)] at hc
      by_cases e1 : i = m
      ·rw [if_pos e1] at hc; cases hc; exact O.asymm hl
      ·rw [if_neg e1] at hc; exact hch i c hi e hc
     ·rw [if_neg e, if_neg hne] at hd
      by_cases e1 : i = k
      ·rw [if_pos e1] at hc; cases hc
       subst e1
       exact h.2 m a d hi hc0 hcp ha hd
      ·rw [if_neg e1] at hc
       by_cases e2 : i = m
       ·subst e2; exact absurd hcp e
       ·rw [if_neg e2] at hc
        exact h.1 i c d hi e hc hd
    ·rw [hg] at hc hd
     rw [if_neg (by omega), if_neg (by omega)] at hc
     rw [if_pos (by omega)] at hd
     cases hd
     exact h.1 i c a hi (by omega) hc (by rw [hp]; exact ha)
  ·rw [a3r h0]
   refine ⟨fun i c d hi hc hd => ?_, List.Perm.refl _⟩
   have := (List.getElem?_eq_some_iff.1 hc).1
   exact h.1 i c d hi (by omega) hc hd
theorem b4w (n k : Nat) : ∀ l : List α, l.length - k ≤ n → (a0t lt l k).length = l.length := by
 induction n generalizing k with
 | zero => intro l h; rw [a3r (by omega)]
 | succ n ih =>
  intro l h
  rw [a0t]
  split
  ·split
   ·split
    ·rw [ih _ _ (by rw [b1y]; rcases a7f (lt := lt) l k with h1 | h1 <;> omega), b1y]
    ·rfl
   ·rfl
  ·rfl

def b0m (lt : α → α → Bool) : List α → List α
 | [] => []
 | m :: r => a0t lt (((m :: r).set 0 ((m :: r).getLast (by simp))).take r.length) 0
theorem b3f (m : α) (r : List α) : (((m :: r).set 0 ((m :: r).getLast (by simp))).take r.length).Perm r := by
 rcases List.eq_nil_or_concat r with rfl | ⟨mid, x, rfl⟩
 ·simp
 ·simp only [List.set_cons_zero]
  have e : (m :: (mid.concat x)).getLast (by simp) = x := by simp [List.concat_eq_append, List.getLast_cons]
  rw [e]
  have e2 : (x :: mid.concat x).take (mid.concat x).length = x :: mid := by
   simp [List.concat_eq_append]
  rw [e2, List.concat_eq_append]
  exact (List.perm_append_comm (l₁ := [x]) (l₂ := mid))
theorem b8r (O : STO lt) (h : b8o lt (m :: r)) : b8o lt (b0m lt (m :: r)) ∧ (b0m lt (m :: r)).Perm r := by
 have := b3e O _ 0 (((m :: r).set 0 ((m :: r).getLast (by simp))).take r.length) (Nat.le_refl _) ⟨fun i a b hi hne ha hb => ?_, fun i a b h0 => by omega⟩
 ·exact ⟨this.1, this.2.trans (b3f m r)⟩
 ·rw [List.getElem?_take] at ha hb
  split at ha
  ·split at hb
   ·rw [List.getElem?_set_ne (by omega)] at ha hb
    exact h i a b hi ha hb
   ·cases hb
  ·cases ha
theorem c0t : ∀ l : List α, (b0m lt l).length = l.length - 1
 | [] => rfl
 | m :: r => by
  rw [b0m, b4w _ _ _ (Nat.le_refl _)]
  simp
theorem c2s (O : STO lt) (h : b8o lt (m :: r)) : ∀ (i : Nat) (a : α), (m :: r)[i]? = some a → lt a m = false := by
 intro i
 induction i using Nat.strongRecOn with
 | _ i ih =>
 intro a ha
 by_cases h0 : i = 0
 ·subst h0; simp at ha; subst ha; exact O.irr _
 ·have hlt := (List.getElem?_eq_some_iff.1 ha).1
  obtain ⟨b, hb⟩ : ∃ b, (m :: r)[(i - 1) / 2]? = some b := ⟨_, List.getElem?_eq_getElem (by omega)⟩
  exact O.ntrans (ih _ (by omega) b hb) (h i a b (by omega) ha hb)
def a8z (lt : α → α → Bool) : Nat → List α → List α
 | 0, _ => []
 | k + 1, l => match l with
  | [] => []
  | m :: r => m :: a8z lt k (b0m lt (m :: r))
theorem b0n (O : STO lt) : ∀ (k : Nat) (l : List α), l.length ≤ k → b8o lt l → WS lt (a8z lt k l) ∧ (a8z lt k l).Perm l
 | 0, l, hk, _ => by
  have : l = [] := List.length_eq_zero_iff.1 (by omega)
  subst this; exact ⟨.nil, List.Perm.refl _⟩
 | k + 1, [], _, _ => ⟨.nil, List.Perm.refl _⟩
 | k + 1, m :: r, hk, h => by
  obtain ⟨h1, h2⟩ := b8r O h
  obtain ⟨h3, h4⟩ := b0n O k (b0m lt (m :: r)) (by rw [c0t]; simpa using hk) h1
  refine ⟨List.pairwise_cons.2 ⟨fun z hz => ?_, h3⟩, (h4.trans h2).cons m⟩
  have hz' : z ∈ m :: r := List.mem_cons_of_mem _ ((h4.trans h2).mem_iff.1 hz)
  obtain ⟨i, hi⟩ := List.getElem?_of_mem hz'
  exact c2s O h i z hi
theorem c0u (O : STO lt) (h : b8o lt l) (hk : l.length ≤ k) : a8z lt k l = c0o lt l := c0q O (b0n O k l hk h).1 (b0n O k l hk h).2

theorem b4x : ∀ (k : Nat) (l : List α), (a8z lt k l).length ≤ k
 | 0, _ => Nat.le_refl _
 | k + 1, [] => Nat.zero_le _
 | k + 1, m :: r => by simp only [a8z, List.length_cons]; have := b4x k (b0m lt (m :: r)); omega
def b4y (lt : α → α → Bool) (l : List α) : List α := l.foldl (b4v lt) []
theorem c2t : b8o lt ([] : List α) := fun i a b _ h => by simp at h
theorem b0o (O : STO lt) : ∀ (l acc : List α), b8o lt acc → b8o lt (l.foldl (b4v lt) acc) ∧ (l.foldl (b4v lt) acc).Perm (acc ++ l)
 | [], acc, h => ⟨h, by simp⟩
 | x :: l, acc, h => by
  obtain ⟨h1, h2⟩ := b8p O h x
  obtain ⟨h3, h4⟩ := b0o O l _ h1
  refine ⟨h3, h4.trans ((h2.append_right l).trans ?_)⟩
  simp
theorem b7n (O : STO lt) (l : List α) : b8o lt (b4y lt l) ∧ (b4y lt l).Perm l := b0o O l [] c2t
theorem c0v (l : List α) : (b4y lt l).length = l.length := by
 have : ∀ (l acc : List α), (l.foldl (b4v lt) acc).length = acc.length + l.length := by
  intro l
  induction l with
  | nil => simp
  | cons x l ih => intro acc; rw [List.foldl_cons, ih, c0s]; simp; omega
 rw [b4y, this]; simp

theorem c2u (O : STO lt) (l : List α) : a8z lt l.length (b4y lt l) = c0o lt l := by
 rw [c0u O (b7n O l).1 (by rw [c0v]; exact Nat.le_refl _)]
 exact b8n O (b7n O l).2
theorem c0w [DecidableEq α] (O : STO lt) (hn : l'.Nodup) (hm : ∀ x, x ∈ l' ↔ x ∈ l) : c0o lt l' = c5k lt l := by
 refine c5l O ?_ fun x => ((a4k l').mem_iff).trans (hm x)
 have h1 := b3a O l'
 have h2 : (c0o lt l').Nodup := (a4k l').nodup_iff.2 hn
 exact (List.Pairwise.and h1 h2).imp fun {a b} h => O.lt_of h.1 h.2
end
end
section
structure Ev where
 time : Int
 to : Int
 from' : Int
 count : Int
 n : Int
 kind : Int
 arg : Int
 deriving DecidableEq, Inhabited
structure Ou where
 time : Int
 proc : Int
 count : Int
 n : Int
 value : Int
 deriving DecidableEq, Inhabited
structure St where
 x : Int
 y : Int
 count : Int
 deriving DecidableEq, Inhabited
structure Pa where
 ev : Ev
 after : St
 sends : List Ev
 outs : List Ou
 deriving DecidableEq, Inhabited
structure La where
 proc : Int
 base : St
 done : List Pa
 deriving DecidableEq, Inhabited
structure Vi where
 inc : Int
 version : Int
 events : List Ev
 deriving DecidableEq, Inhabited
structure Nd where
 id : Int
 up : Bool
 inc : Int
 g : Int
 lanes : List La
 kept : List Ev
 outs : List Ou
 led : Int
 version : Int
 views : List Vi
 known : List Int
 round : Int
 low : Int
 deriving DecidableEq, Inhabited
def evN (e : Ev) : List Int := [e.time, e.to, e.from', e.count, e.n, e.kind, e.arg]
def ouL (o : Ou) : List Int := [o.time, o.proc, o.count, o.n, o.value]
theorem c5m (h : evN a = evN b) : a = b := by
 cases a; cases b; simp [evN] at h; simp [h]
theorem c5n (h : ouL a = ouL b) : a = b := by
 cases a; cases b; simp [ouL] at h; simp [h]
def c1y : List Int → List Int → Int
 | a :: az, b :: bs => if a < b then -1 else if b < a then 1 else c1y az bs
 | [], [] => 0
 | [], _ :: _ => -1
 | _ :: _, [] => 1
theorem b4z (a b : Int) (az bs : List Int) : c1y (a :: az) (b :: bs) = if a < b then -1 else if b < a then 1 else c1y az bs := rfl
theorem b3g : ∀ az bs : List Int, az.length = bs.length → decide (c1y az bs < 0) = b2x az bs
 | [], [], _ => rfl
 | [], _ :: _, h => by simp at h
 | _ :: _, [], h => by simp at h
 | a :: az, b :: bs, h => by
  rw [b4z, a3g]
  by_cases h1 : a < b
  ·rw [if_pos h1, if_pos h1]; rfl
  ·rw [if_neg h1, if_neg h1]
   by_cases h2 : b < a
   ·rw [if_pos h2, if_pos h2]; rfl
   ·rw [if_neg h2, if_neg h2]; exact b3g az bs (by simpa using h)
theorem b5a {az bs : List Int} {i : Nat} {a b : Int} (ha : az[i]? = some a) (hb : bs[i]? = some b) : c1y (az.drop i) (bs.drop i) = if a < b then -1 else if b < a then 1 else c1y (az.drop (i + 1)) (bs.drop (i + 1)) := by
 obtain ⟨h1, e1⟩ := List.getElem?_eq_some_iff.1 ha
 obtain ⟨h2, e2⟩ := List.getElem?_eq_some_iff.1 hb
 rw [List.drop_eq_getElem_cons h1, List.drop_eq_getElem_cons h2, e1, e2, b4z]
def a3m (a b : Ev) : Bool := b2x (evN a) (evN b)
def a7g (a b : Ou) : Bool := b2x (ouL a) (ouL b)
theorem b8s : STO a3m := ⟨fun a => b2y _, fun a b c => a8i _ _ _, fun a b h => b2z _ _ rfl (fun e => h (c5m e))⟩
theorem c7b : STO a7g := ⟨fun a => b2y _, fun a b c => a8i _ _ _, fun a b h => b2z _ _ rfl (fun e => h (c5n e))⟩

def q6q (l : List Ev) : List Ev := c5k a3m l
def a1d (l : List Ou) : List Ou := c0o a7g l

def b0p : List Ev → List Ev := List.foldl (fun acc e => if e ∈ acc then acc else acc ++ [e]) []
theorem b1z (x : Ev) : ∀ (l acc : List Ev), x ∈ l.foldl (fun acc e => if e ∈ acc then acc else acc ++ [e]) acc ↔ x ∈ acc ∨ x ∈ l
 | [], acc => by simp
 | e :: l, acc => by
  rw [List.foldl_cons, b1z x l]
  split
  ·rename_i h
   simp only [List.mem_cons]
   constructor
   ·rintro (h' | h')
    ·exact .inl h'
    ·exact .inr (.inr h')
   ·rintro (h' | h' | h')
    ·exact .inl h'
    ·subst h'; exact .inl h
    ·exact .inr h'
  ·simp only [List.mem_append, List.mem_cons, List.not_mem_nil, or_false, or_assoc]
theorem a3w : ∀ (l acc : List Ev), acc.Nodup → (l.foldl (fun acc e => if e ∈ acc then acc else acc ++ [e]) acc).Nodup
 | [], acc, h => h
 | e :: l, acc, h => by
  rw [List.foldl_cons]
  refine a3w l _ ?_
  split
  ·exact h
  ·rename_i hne
   exact List.nodup_append.2 ⟨h, by simp, fun a ha b hb => by
    rw [List.mem_singleton] at hb; subst hb; rintro rfl; exact hne ha⟩
theorem b8t (x : Ev) (l : List Ev) : x ∈ b0p l ↔ x ∈ l := by rw [b0p, b1z]; simp
theorem b5c (l : List Ev) : (b0p l).Nodup := a3w l [] .nil
theorem b8u (l : List Ev) : (b0p l).length ≤ l.length := by
 have : ∀ (l acc : List Ev), (l.foldl (fun acc e => if e ∈ acc then acc else acc ++ [e]) acc).length ≤ acc.length + l.length := by
  intro l
  induction l with
  | nil => simp
  | cons e l ih =>
   intro acc
   rw [List.foldl_cons]
   refine Nat.le_trans (ih _) ?_
   split <;> simp <;> omega
 have := this l []
 simpa [b0p] using this

theorem b6s (l : List Ev) : a8z a3m (b0p l).length (b4y a3m (b0p l)) = q6q l := by
 rw [c2u b8s, c0w b8s (b5c l) (fun x => b8t x l)]; rfl
def c7d (p : Int) : Int := if 0 ≤ p ∧ p ≤ 3 then p.tmod 3 else -1
def c0x (id : Int) : Nat → List Int
 | 0 => []
 | k + 1 => if c7d (k : Int) = id then c0x id k ++ [(k : Int)] else c0x id k
def pkx (bs : List Nat) (p : Nat) : Nat := bs.getD (p % bs.length) 0 * 131 + bs.getD ((p * 7 + 3) % bs.length) 0 * 1117 + p * 29 + p / bs.length * 53
def pk (bs : List Nat) (p n : Nat) : Nat :=
 if n = 0 ∨ bs.length = 0 then 0
 else if p < bs.length then bs.getD p 0 % n
 else (pkx bs p ^^^ pkx bs p / 64) % n
theorem a1n (bs : List Nat) (p n : Nat) (h : 0 < n) : pk bs p n < n := by
 unfold pk
 split
 ·exact h
 ·split <;> exact Nat.mod_lt _ h
def bp (l : La) : St × Int := (l.base, l.proc)
def c7e (a b : Nd) : Prop := a.id = b.id ∧ a.inc = b.inc ∧ a.g = b.g ∧ a.led = b.led ∧ a.kept = b.kept ∧ a.outs = b.outs ∧ a.lanes.map bp = b.lanes.map bp
instance (a b : Nd) : Decidable (c7e a b) := by unfold c7e; infer_instance
theorem c7f {a b r : Int} (h : ¬ (if a < b then -1 else if b < a then 1 else 0 : Int) = 0) : (if a < b then -1 else if b < a then 1 else r) = (if a < b then -1 else if b < a then 1 else 0 : Int) := by
 split
 ·rfl
 ·split
  ·rfl
  ·rename_i h1 h2; rw [if_neg h1, if_neg h2] at h; exact absurd rfl h
theorem c7g {a b r : Int} (h : (if a < b then -1 else if b < a then 1 else 0 : Int) = 0) : (if a < b then -1 else if b < a then 1 else r) = r := by
 split at h
 ·omega
 ·split at h
  ·omega
  ·rename_i h1 h2; rw [if_neg h1, if_neg h2]
def vi0 : Vi := ⟨0, 0, []⟩
end
section
section
variable {α : Type} (sz : α → Nat) (mk : Nat → α → α)
end
variable {α : Type} {i : Nat}
theorem r8r {l : List α} {e : α} (h : l[i]? = some e) : l.take (i + 1) = l.take i ++ [e] := by
 rw [List.take_add_one, h]; rfl
theorem a4m {l : List α} {p : α} (h : l[i]? = some p) : l.drop i = p :: l.drop (i + 1) := by
 obtain ⟨hi, rfl⟩ := List.getElem?_eq_some_iff.1 h
 exact List.drop_eq_getElem_cons hi
end
section
def b0q (e : Ev) : Prop := (0 ≤ e.time ∧ e.time ≤ 40) ∧ (0 ≤ e.to ∧ e.to ≤ 3) ∧ (-1 ≤ e.from' ∧ e.from' ≤ 3) ∧ (0 ≤ e.count ∧ e.count ≤ 12) ∧ (0 ≤ e.n ∧ e.n ≤ 3) ∧ (0 ≤ e.kind ∧ e.kind ≤ 3) ∧ (0 ≤ e.arg ∧ e.arg ≤ 999)
instance (e : Ev) : Decidable (b0q e) := by unfold b0q; infer_instance
def c7u (s : St) : Prop := (0 ≤ s.x ∧ s.x ≤ 999) ∧ (0 ≤ s.y ∧ s.y ≤ 999) ∧ (0 ≤ s.count ∧ s.count ≤ 12)
instance (s : St) : Decidable (c7u s) := by unfold c7u; infer_instance
def b6t (o : Ou) : Prop := (0 ≤ o.time ∧ o.time ≤ 40) ∧ (0 ≤ o.proc ∧ o.proc ≤ 3) ∧ (0 ≤ o.count ∧ o.count ≤ 11) ∧ (0 ≤ o.n ∧ o.n ≤ 1) ∧ (0 ≤ o.value ∧ o.value ≤ 999)
instance (o : Ou) : Decidable (b6t o) := by unfold b6t; infer_instance
section
variable {α : Type} (ok : α → Bool) (lt : α → α → Bool)

def a8j : Option α → List α → Bool
 | _, [] => true
 | o, a :: r => ok a && (match o with
  | none => true
  | some b => lt b a) && a8j (some a) r
theorem a2u (h : ok a = false) : a8j ok lt o (a :: r) = false := by simp [a8j, h]
theorem b3h (h : lt b a = false) : a8j ok lt (some b) (a :: r) = false := by simp [a8j, h]
theorem a7h (h : ok a = true) (h2 : lt b a = true) : a8j ok lt (some b) (a :: r) = a8j ok lt (some a) r := by simp [a8j, h, h2]
theorem a5j (h : ok a = true) : a8j ok lt none (a :: r) = a8j ok lt (some a) r := by simp [a8j, h]
end
def a9d {α : Type} (l : List α) (i : Nat) : Option α := match i with
 | 0 => none
 | i + 1 => l[i]?
def a6m {α : Type} (ok : α → Bool) (lt : α → α → Bool) (l : List α) (most : Int) : Bool := decide ((l.length : Int) ≤ most) && a8j ok lt none l
theorem a7i (h : ¬ (l.length : Int) ≤ most) : a6m ok lt l most = false := by simp [a6m, h]
theorem b3i (h : (l.length : Int) ≤ most) : a6m ok lt l most = a8j ok lt none l := by simp [a6m, h]
def okE (e : Ev) : Bool := decide (b0q e)
def okO (o : Ou) : Bool := decide (b6t o)
theorem b7o (a b : Int) (x y : List Int) : b2x (a :: x) (b :: y) = true ↔ a < b ∨ (a = b ∧ b2x x y = true) := by
 rw [a3g]
 by_cases h1 : a < b
 ·simp [h1]
 ·by_cases h2 : b < a
  ·simp [h1, h2]; omega
  ·have : a = b := by omega
   subst this; simp
def c0y (a b : Ev) : Prop := a.time < b.time ∨ (a.time = b.time ∧ (a.to < b.to ∨ (a.to = b.to ∧ (a.from' < b.from' ∨ (a.from' = b.from' ∧ (a.count < b.count ∨ (a.count = b.count ∧ (a.n < b.n ∨ (a.n = b.n ∧ (a.kind < b.kind ∨ (a.kind = b.kind ∧ a.arg < b.arg)))))))))))
instance (a b : Ev) : Decidable (c0y a b) := by unfold c0y; infer_instance
theorem a3s (a b : Ev) : a3m a b = decide (c0y a b) := by
 rw [Bool.eq_iff_iff, decide_eq_true_iff]
 simp only [a3m, evN, b7o, c0y]
 simp [b2x]
def c2v (a b : Ou) : Prop := a.time < b.time ∨ (a.time = b.time ∧ (a.proc < b.proc ∨ (a.proc = b.proc ∧ (a.count < b.count ∨ (a.count = b.count ∧ (a.n < b.n ∨ (a.n = b.n ∧ a.value < b.value)))))))
instance (a b : Ou) : Decidable (c2v a b) := by unfold c2v; infer_instance
theorem a7j (a b : Ou) : a7g a b = decide (c2v a b) := by
 rw [Bool.eq_iff_iff, decide_eq_true_iff]
 simp only [a7g, ouL, b7o, c2v]
 simp [b2x]
def c9v (proc : Int) (p : Pa) : Bool := decide (b0q p.ev) && decide (p.ev.to = proc) && decide (c7u p.after) && a6m okE a3m p.sends 2 && a6m okO a7g p.outs 2
def c9w (a b : Pa) : Bool := a3m a.ev b.ev
def c9x (l : La) : Bool := decide (0 ≤ l.proc ∧ l.proc ≤ 3) && decide (c7u l.base) && a6m (c9v l.proc) c9w l.done 100
end
section
noncomputable def kb (p : Prop) : Bool := @decide p (Classical.propDecidable p)
def c0z (n : Nd) : Prop := (0 ≤ n.id ∧ n.id ≤ 2) ∧ (1 ≤ n.inc ∧ n.inc ≤ 9999) ∧ (0 ≤ n.g ∧ n.g ≤ 41) ∧ (0 ≤ n.led ∧ n.led ≤ 9999) ∧ (0 ≤ n.version ∧ n.version ≤ 9999) ∧ (0 ≤ n.round ∧ n.round ≤ 9999) ∧ (0 ≤ n.low ∧ n.low ≤ 41)
instance (n : Nd) : Decidable (c0z n) := by unfold c0z; infer_instance
def c9y (v : Vi) : Prop := (0 ≤ v.inc ∧ v.inc ≤ 9999) ∧ (0 ≤ v.version ∧ v.version ≤ 9999) ∧ a6m okE a3m v.events 100 = true
def c8k (n : Nd) : Prop := ∀ (i : Nat) v k, n.views[i]? = some v → n.known[i]? = some k → c9y v ∧ 0 ≤ k ∧ k ≤ 41
def c8l (n : Nd) : Prop := ∀ (i : Nat) l, n.lanes[i]? = some l → (c0x n.id 4)[i]? = some l.proc ∧ c9x l = true
def c5o (n : Nd) : Prop := c0z n ∧ a6m okE a3m n.kept 100 = true ∧ a6m okO a7g n.outs 96 = true ∧ (∀ (i : Nat) o, n.outs[i]? = some o → o.time < n.g) ∧ n.lanes.length = (c0x n.id 4).length ∧ n.views.length = 3 ∧ n.known.length = 3 ∧ c8l n ∧ c8k n

def c5p {α : Type} (l : List α) (p : Nat → α → Prop) (i : Nat) : Prop := ∀ (j : Nat) a, j < i → l[j]? = some a → p j a
theorem b0r : c5p l p 0 := fun j a h => absurd h (Nat.not_lt_zero j)
theorem b0s (h : c5p l p i) (ha : l[i]? = some a) (hp : p i a) : c5p l p (i + 1) := fun j b hj hb => by
 by_cases e : j = i
 ·subst e; rw [ha] at hb; cases hb; exact hp
 ·exact h j b (by omega) hb
theorem b3j (h : c5p l p i) (hi : l.length ≤ i) : ∀ (j : Nat) a, l[j]? = some a → p j a := fun j a ha => h j a (by have := (List.getElem?_eq_some_iff.1 ha).1; omega) ha
end
section
def c8m (l : La) : List Ev := l.done.flatMap Pa.sends
def c8n (n : Nd) : List Ev := n.kept ++ n.lanes.flatMap c8m
def c8o (n : Nd) (j : Nat) : List Ev := if (j : Int) = n.id then [] else (n.views.getD j vi0).events
def c7h (n : Nd) (i : Nat) : List Ev := (List.range i).flatMap (c8o n)
def c8p (proc g : Int) (e : Ev) : Bool := decide (e.to = proc ∧ g ≤ e.time)
def c5q (n : Nd) (proc : Int) : List Ev := q6q ((c8n n ++ c7h n 3).filter (c8p proc n.g))
end
section
def same : List Pa → List Ev → Nat
 | p :: r, e :: s => if p.ev = e then same r s + 1 else 0
 | _, _ => 0
section
variable {α : Type} [DecidableEq α] {lt : α → α → Bool}
theorem b2a (O : STO lt) : ∀ {a b : List α}, (∀ y ∈ a, lt y x = true) → (∀ y ∈ b, lt x y = true) → b4u lt x (a ++ b) = a ++ x :: b
 | [], [], _, _ => rfl
 | [], y :: b, _, hb => by
  have h := hb y (List.mem_cons_self ..)
  have hne : x ≠ y := fun e => by subst e; rw [O.irr] at h; cases h
  simp only [List.nil_append, b4u, if_neg hne, h, if_true]
 | y :: a, b, ha, hb => by
  have h := ha y (List.mem_cons_self ..)
  have hne : x ≠ y := fun e => by subst e; rw [O.irr] at h; cases h
  have hn : lt x y = false := O.asymm h
  simp only [List.cons_append, b4u, if_neg hne, hn, Bool.false_eq_true, if_false]
  rw [b2a O (fun z hz => ha z (List.mem_cons_of_mem _ hz)) hb]
theorem c5r (O : STO lt) (h : SS lt o) (hx : x ∈ o) : b4u lt x o = o :=
 SS.uniq O (b6n O x o h) h fun z => by rw [a9l]; exact ⟨fun q => q.elim (fun e => e ▸ hx) id, .inr⟩

theorem c1a (O : STO lt) (h : SS lt o) (hk : ∀ (j : Nat) y, k ≤ j → o[j]? = some y → lt x y = true) (hl : ∀ y, 0 < k → o[k - 1]? = some y → lt x y = false ∧ y ≠ x) (hk2 : k ≤ o.length) : b4u lt x o = o.take k ++ x :: o.drop k := by
 conv => lhs; rw [← List.take_append_drop k o]
 refine b2a O (fun y hy => ?_) (fun y hy => ?_)
 ·obtain ⟨j, hj⟩ := List.getElem?_of_mem hy
  rw [List.getElem?_take] at hj
  split at hj
  ·rename_i hjk
   have hkl : k - 1 < o.length := by omega
   obtain ⟨z, hz⟩ : ∃ z, o[k - 1]? = some z := ⟨_, List.getElem?_eq_getElem hkl⟩
   obtain ⟨q1, q2⟩ := hl z (by omega) hz
   have hzx : lt z x = true := by
    rcases O.tot _ _ q2 with h1 | h1
    ·exact h1
    ·rw [h1] at q1; cases q1
   by_cases e : j = k - 1
   ·subst e; rw [hj] at hz; cases hz; exact hzx
   ·have hlt : lt y z = true := by
     obtain ⟨p1, rfl⟩ := List.getElem?_eq_some_iff.1 hj
     obtain ⟨p2, rfl⟩ := List.getElem?_eq_some_iff.1 hz
     exact List.pairwise_iff_getElem.1 h j (k - 1) p1 p2 (by omega)
    exact O.trans _ _ _ hlt hzx
  ·cases hj
 ·obtain ⟨j, hj⟩ := List.getElem?_of_mem hy
  rw [List.getElem?_drop] at hj
  exact hk (k + j) y (by omega) hj
end
theorem b6u (l : List Ev) (x : Ev) : q6q (l ++ [x]) = b4u a3m x (q6q l) := by simp [q6q, c5k]
theorem a6i {l : List Ev} {i : Nat} {x : Ev} (h : l[i]? = some x) : q6q (l.take (i + 1)) = b4u a3m x (q6q (l.take i)) := by rw [r8r h, b6u]
theorem c1b (l : List Ev) : SS a3m (q6q l) := c0n b8s l
theorem c1d (l : List Ev) : (q6q l).length ≤ l.length := by
 have := (b6s l)
 rw [← this]
 exact Nat.le_trans (b4x _ _) (b8u l)
section
variable {α : Type} {o : List α} {n : Nat} {w x z : α}
theorem b5d (hn : n ≤ o.length) : (o.take n).length = n := by rw [List.length_take]; omega
theorem b7p (hn : n ≤ o.length) (h0 : 0 < n) (hz : o[n - 1]? = some z) : (o.take n ++ w :: o.drop n)[n - 1]? = some z := by
 rw [List.getElem?_append_left (by rw [b5d hn]; omega), List.getElem?_take, if_pos (by omega), hz]
theorem b5e (hn : n ≤ o.length) : (o.take n ++ w :: o.drop n)[n]? = some w := by
 rw [List.getElem?_append_right (by rw [b5d hn]; exact Nat.le_refl _), b5d hn, Nat.sub_self]; rfl
theorem c1e (hn : n ≤ o.length) : (o.take n ++ w :: o.drop n).set n x = o.take n ++ x :: o.drop n := by
 rw [List.set_append_right _ _ (by rw [b5d hn]; exact Nat.le_refl _), b5d hn, Nat.sub_self, List.set_cons_zero]
theorem c3t (hn : n ≤ o.length) (h0 : 0 < n) (hz : o[n - 1]? = some z) : (o.take n ++ w :: o.drop n).set n z = o.take (n - 1) ++ z :: o.drop (n - 1) := by
 rw [c1e hn]
 have e1 : o.take n = o.take (n - 1) ++ [z] := by
  have := r8r hz
  rwa [show n - 1 + 1 = n from by omega] at this
 have e2 : o.drop (n - 1) = z :: o.drop n := by
  have := a4m hz
  rwa [show n - 1 + 1 = n from by omega] at this
 rw [e1, e2]; simp
end
end
section
section
variable {α : Type} {ok : α → Bool} {lt : α → α → Bool}
theorem b7q : ∀ {l : List α} {o : Option α}, a8j ok lt o l = true → ∀ p ∈ l, ok p = true
 | [], _, _, p, hp => by cases hp
 | a :: r, o, h, p, hp => by
  simp only [a8j, Bool.and_eq_true] at h
  rcases List.mem_cons.1 hp with rfl | hp
  ·exact h.1.1
  ·exact b7q h.2 p hp
theorem a0n (h : a6m ok lt l most = true) : (l.length : Int) ≤ most ∧ ∀ p ∈ l, ok p = true := by
 simp only [a6m, Bool.and_eq_true, decide_eq_true_eq] at h
 exact ⟨h.1, b7q h.2⟩
end
def c7i (n : Nd) : Prop := c5o n ∧ ∀ (i : Nat) p l, (c0x n.id 4)[i]? = some p → n.lanes[i]? = some l → l.done.length ≤ same l.done (c5q n p) ∧ (c5q n p).length ≤ 100
end
section

def lb (l : La) : Prop := l.done.length ≤ 1000000 ∧ ∀ p ∈ l.done, p.sends.length ≤ 1000000 ∧ p.outs.length ≤ 1000000
end
section
structure Wo where
 kind : Int
 from' : Int
 to : Int
 inc : Int
 version : Int
 round : Int
 g : Int
 incs : List Int
 versions : List Int
 events : List Ev
 outs : List Ou
 deriving DecidableEq, Inhabited
def wo0 : Wo := ⟨0, 0, 0, 0, 0, 0, 0, [], [], [], []⟩
end
section
section
variable {α : Type} {lt : α → α → Bool}
theorem b2c : ∀ {a b : List α}, (∀ y ∈ a, lt x y = false) → (∀ y ∈ b, lt x y = true) → b7m lt x (a ++ b) = a ++ x :: b
 | [], [], _, _ => rfl
 | [], y :: b, _, hb => by
  have h := hb y (List.mem_cons_self ..)
  simp only [List.nil_append, b7m, h, if_true]
 | y :: a, b, ha, hb => by
  have h := ha y (List.mem_cons_self ..)
  simp only [List.cons_append, b7m, h, Bool.false_eq_true, if_false]
  rw [b2c (fun z hz => ha z (List.mem_cons_of_mem _ hz)) hb]
theorem c5s (O : STO lt) (h : WS lt o) (hk : ∀ (j : Nat) y, k ≤ j → o[j]? = some y → lt x y = true) (hl : ∀ y, 0 < k → o[k - 1]? = some y → lt x y = false) (hk2 : k ≤ o.length) : b7m lt x o = o.take k ++ x :: o.drop k := by
 conv => lhs; rw [← List.take_append_drop k o]
 refine b2c (fun y hy => ?_) (fun y hy => ?_)
 ·obtain ⟨j, hj⟩ := List.getElem?_of_mem hy
  rw [List.getElem?_take] at hj
  split at hj
  ·rename_i hjk
   have hkl : k - 1 < o.length := by omega
   obtain ⟨z, hz⟩ : ∃ z, o[k - 1]? = some z := ⟨_, List.getElem?_eq_getElem hkl⟩
   have q1 := hl z (by omega) hz
   by_cases e : j = k - 1
   ·subst e; rw [hj] at hz; cases hz; exact q1
   ·have hzy : lt z y = false := by
     obtain ⟨p1, rfl⟩ := List.getElem?_eq_some_iff.1 hj
     obtain ⟨p2, rfl⟩ := List.getElem?_eq_some_iff.1 hz
     exact List.pairwise_iff_getElem.1 h j (k - 1) p1 p2 (by omega)
    cases hxy : lt x y with
    | false => rfl
    | true =>
     by_cases ez : y = z
     ·subst ez; rw [q1] at hxy; cases hxy
     ·rcases O.tot _ _ ez with h1 | h1
      ·have := O.trans _ _ _ hxy h1
       rw [q1] at this; cases this
      ·rw [hzy] at h1; cases h1
  ·cases hj
 ·obtain ⟨j, hj⟩ := List.getElem?_of_mem hy
  rw [List.getElem?_drop] at hj
  exact hk (k + j) y (by omega) hj
end
theorem b6v {l : List Ou} {i : Nat} {x : Ou} (h : l[i]? = some x) : a1d (l.take (i + 1)) = b7m a7g x (a1d (l.take i)) := by rw [r8r h]; simp [a1d, c0o]
theorem c1f (l : List Ou) : WS a7g (a1d l) := b3a c7b l
theorem b8v (l : List Ou) : (a1d l).length = l.length := (a4k l).length_eq
end
section

def nl (n : Nd) (ls : List La) : Nd := { n with lanes := ls }
def keep (n : Nd) (ls : List La) (l : La) : Nat := same l.done (c5q (nl n ls) l.proc)
end
section

def c7j (v : Vi) (inc ver : Int) : Prop := v.inc < inc ∨ (inc = v.inc ∧ v.version < ver)
instance (v : Vi) (inc ver : Int) : Decidable (c7j v inc ver) := by unfold c7j; infer_instance
end
section
def a2m (p : Int) : List AV := [.pv (.int .i64 p)]
def a1o (p : Nat) : List AV := [.pv (.int .u8 (p : Int))]
def a0i (e : Ev) : List AV := (evN e).map pI
def a2c (o : Ou) : List AV := (ouL o).map pI
theorem c5t (a b : Ev) : (evN a == evN b) = decide (a = b) := by
 rw [Bool.eq_iff_iff]
 cases a; cases b
 simp [evN]
theorem c5u (a b : Ou) : (ouL a == ouL b) = decide (a = b) := by
 rw [Bool.eq_iff_iff]
 cases a; cases b
 simp [ouL]
theorem c9l (x y : Operand) (a b : Ev) : EqA Try.prog 81 x y (.agg (a0i a)) (.agg (a0i b)) (decide (a = b)) := by
 rw [← c5t]; exact b7j Try.underlying81 (by kernel_rfl) (by kernel_rfl) (by kernel_rfl) x y (evN a) (evN b) rfl rfl
theorem c9z (x y : Operand) (a b : Ou) : EqA Try.prog 84 x y (.agg (a2c a)) (.agg (a2c b)) (decide (a = b)) := by
 rw [← c5u]; exact b7j Try.underlying84 (by kernel_rfl) (by kernel_rfl) (by kernel_rfl) x y (ouL a) (ouL b) rfl rfl
def p1p (c : Bool) (l : List Int) : AV := .row (.rd c) 3 1 (l.map a2m)
def v5v (c : Bool) (l : List Nat) : AV := .row (.rd c) 5 1 (l.map a1o)
def a7x (c : Bool) (l : List Ev) : AV := .row (.rd c) 81 7 (l.map a0i)
def a6n (c : Bool) (l : List Ou) : AV := .row (.rd c) 84 5 (l.map a2c)
theorem nf {k : Bool} : false = true → k = true := fun h => by cases h
variable {α : Type}
theorem c7v [DecidableEq α] {l l' : List α} (h : ¬ l.length = l'.length) : [AV.pv (.bool false)] = [AV.pv (.bool (decide (l = l')))] := by
 rw [decide_eq_false (fun e => h (by rw [e]))]
variable {i : Nat}
theorem c7w [DecidableEq α] {l l' : List α} {x y : α} (hx : l[i]? = some x) (hy : l'[i]? = some y) (h : ¬ x = y) : [AV.pv (.bool false)] = [AV.pv (.bool (decide (l = l')))] := by
 rw [decide_eq_false (fun e => h (by subst e; rw [hx] at hy; exact Option.some.inj hy))]
theorem eqT [DecidableEq α] {l l' : List α} (h : l.take i = l'.take i) (h1 : l.length ≤ i) (h2 : l'.length ≤ i) : [AV.pv (.bool true)] = [AV.pv (.bool (decide (l = l')))] := by
 rw [List.take_of_length_le h1, List.take_of_length_le h2] at h
 rw [decide_eq_true h]
theorem a7k {l l' : List α} {x y : α} (h : l.take i = l'.take i) (hx : l[i]? = some x) (hy : l'[i]? = some y) (e : x = y) : l.take (i + 1) = l'.take (i + 1) := by
 subst e
 rw [List.take_add_one, List.take_add_one, h, hx, hy]
variable {p : Prop}
theorem kF [Decidable p] (h : ¬ p) : [AV.pv (.bool false)] = [AV.pv (.bool (decide p))] := by rw [decide_eq_false h]
theorem kT [Decidable p] (h : p) : [AV.pv (.bool true)] = [AV.pv (.bool (decide p))] := by rw [decide_eq_true h]
theorem c8q (l : List Int) : ∀ y ∈ l.map pI, Strict y := fun y hy => by
 obtain ⟨n, _, rfl⟩ := List.mem_map.1 hy
 exact .pv _
theorem c1g (l : List Ou) : Strict (a6n true l) := b8k fun e => c8q (ouL e)
def a5s (c : Bool) (w : Wo) : List AV := [pI w.kind, pI w.from', pI w.to, pI w.inc, pI w.version, pI w.round, pI w.g, p1p c w.incs, p1p c w.versions, a7x c w.events, a6n c w.outs]
theorem y3y : ∀ n : Nat, n + 0 = n := fun _ => rfl
variable {h : Hp} {g : Nat} {ls bs : List AV} {T : TL}
theorem c5v {l : List Ou} (h0 : u8u h i = some (g, .row 84 5 (l.map a2c))) (t : LendL h ls bs T) : LendL h (.ref i g :: ls) (a6n false l :: bs) ((i, (g, .row 84 5 (l.map a2c))) :: T) := .ref h0 (Le.ow_map _ nf (fun _ => rfl)) t
theorem b3k {l : List Int} (h0 : u8u h i = some (g, .row 3 1 (l.map a2m))) (t : LendL h ls bs T) : LendL h (.ref i g :: ls) (p1p false l :: bs) ((i, (g, .row 3 1 (l.map a2m))) :: T) := .ref h0 (Le.ow_map _ nf (fun _ => rfl)) t
end
section
theorem b3l (c : Bool) (bs : List Nat) : Meth Try.prog 17 1 [] [v5v c bs] [(0, (0, .dead))] (.ptr 0 0 0) [(0, (0, .box 76 [v5v c (bs.take 2000), .pv (.int .i64 0)]))] := by
 refine p6p x9x (fn := Try.f17) (by kernel_rfl) (by kernel_rfl) rfl (O0 := [.ptr 0 0 0]) 1 0 (u3u rfl) (by rfl) (by repeat (first | exact BndH.nil | refine BndH.dead ?_)) (by repeat (first | exact BndH.nil | refine BndH.box rfl ?_)) (by rfl) fun γ => ?_
 show Ex Try.prog _ _ [(0, v5v c bs)] [(0, ((γ 0), .dead))] _
 refine x7x x9x (by rfl) ?_
 refine x2x rfl ?_
 refine x8x fun K1 hK1 => ?_
 refine x7x x9x (by rfl) ?_
 refine x0x rfl ?_
 refine v3v rfl v6v rfl ?_
 refine z0z rfl rfl rfl ?_
 refine y1y rfl (fun hc2 => ?_) (fun hc2 => ?_)
 rotate_left
 ·try simp at hc2
  refine y8y ?_
  refine hK1 _ _ ?_
  clear hK1 K1
  refine x7x x9x (by rfl) ?_
  refine x0x rfl ?_
  refine r3r a8e rfl c6r rfl (by simp only [pI, y5y, T3, v6v, T22, a0v, p2p, AV.okc, AV.one, Value.oneCell', List.map_cons, List.map_nil, List.getElem?_cons_zero, List.getElem?_cons_succ, List.take_succ_cons, List.take_zero, List.drop_succ_cons, List.drop_zero, List.cons_append, List.nil_append, List.length_cons, List.length_nil, if_true, and_self, Nat.reduceAdd, Nat.reduceLeDiff]; rfl) ?_
  refine r5r (id := 0) rfl rfl rfl ?_
  refine x2x rfl ?_
  refine y6y ?_
  exact ⟨.inr rfl, [_], rfl, rfl, HE.box rfl (by show _ = [v5v c (bs.take 2000), _]; rw [List.take_of_length_le (by omega)]; rfl) HE.nil⟩
 try simp at hc2
 refine y0y x9x (by rfl) ?_
 refine x0x rfl ?_
 refine a5g rfl v6v rfl a0o rfl rfl rfl (by omega) (by omega) (by omega) ?_
 refine x2x rfl ?_
 refine hK1 _ _ ?_
 clear hK1 K1
 refine x7x x9x (by rfl) ?_
 refine x0x rfl ?_
 refine r3r a8e rfl c6r rfl (by simp only [pI, y5y, T3, v6v, T22, a0v, p2p, AV.okc, AV.one, Value.oneCell', List.map_cons, List.map_nil, List.getElem?_cons_zero, List.getElem?_cons_succ, List.take_succ_cons, List.take_zero, List.drop_succ_cons, List.drop_zero, List.cons_append, List.nil_append, List.length_cons, List.length_nil, if_true, and_self, Nat.reduceAdd, Nat.reduceLeDiff]; rfl) ?_
 refine r5r (id := 0) rfl rfl rfl ?_
 refine x2x rfl ?_
 refine y6y ?_
 exact ⟨.inr rfl, [_], rfl, rfl, HE.box rfl rfl HE.nil⟩
theorem y4y (c : Bool) (bs : List Nat) (p n : Nat) (hp : p < 1000000000) (hbs : ∀ b ∈ bs, b < 256) : Meth Try.prog 20 1 [0] [.ptr 0 0 0, .pv (.int .i64 (n : Int))] [(0, (0, .box 76 [v5v c bs, .pv (.int .i64 ((p : Nat) : Int))]))] (.pv (.int .i64 (pk bs p n : Int))) [(0, (0, .box 76 [v5v c bs, .pv (.int .i64 ((p + 1 : Nat) : Int))]))] := by
 refine p6p x9x (fn := Try.f20) (by kernel_rfl) (by kernel_rfl) rfl (O0 := [.pv (.int .i64 (pk bs p n : Int))]) 1 0 (u3u rfl) (by rfl) (by repeat (first | exact BndH.nil | refine BndH.box rfl ?_)) (by repeat (first | exact BndH.nil | refine BndH.box rfl ?_)) (by rfl) fun γ => ?_
 show Ex Try.prog _ _ [(0, .ptr 0 (γ 0) 0), (1, .pv (.int .i64 (n : Int)))] [(0, ((γ 0), .box 76 [v5v c bs, .pv (.int .i64 ((p : Nat) : Int))]))] _
 refine x7x x9x (by rfl) ?_
 refine x2x rfl ?_
 refine x7x x9x (by rfl) ?_
 refine x0x rfl ?_
 refine x0x rfl ?_
 refine u7u rfl rfl ?_
 refine x1x rfl a8e rfl rfl y5y rfl rfl ?_
 refine x3x rfl y5y rfl rfl ?_
 refine r0r (b := 1) rfl rfl (by omega) ?_
 refine u7u rfl rfl ?_
 refine x1x rfl a8e rfl rfl y5y rfl rfl ?_
 refine z8z rfl rfl y5y rfl rfl rfl rfl rfl (by simp only [a2b]; rfl) ?_
 refine x8x fun K1 hK1 => ?_
 refine x7x x9x (by rfl) ?_
 refine x0x rfl ?_
 refine z0z rfl rfl rfl ?_
 refine x0x rfl ?_
 refine a0d rfl rfl (fun hg2 => ?_) (fun hg2 => ?_)
 rotate_left
 ·try simp at hg2
  refine x4x rfl rfl ?_
  refine x4x rfl rfl ?_
  refine x4x rfl rfl ?_
  refine x4x rfl rfl ?_
  refine x4x rfl rfl ?_
  refine z4z rfl rfl ?_
  refine y1y rfl (fun hc6 => ?_) (fun hc6 => ?_)
  rotate_left
  ·simp at hc6
  try simp at hc6
  refine x7x x9x (by rfl) ?_
  refine x2x rfl ?_
  refine y6y ?_
  refine ⟨.inr rfl, [γ 0], rfl, congrArg (fun v : Nat => some [AV.pv (.int .i64 (v : Int))]) (?_ : _ = pk bs p n), HE.box rfl rfl HE.nil⟩
  (rw [pk, if_pos (.inl (by omega))])
 try simp at hg2
 refine x0x rfl ?_
 refine y9y rfl rfl ?_
 refine u7u rfl rfl ?_
 refine y9y rfl rfl ?_
 refine x1x rfl a8e rfl rfl v6v rfl rfl ?_
 refine y9y rfl rfl ?_
 refine x3x rfl v6v rfl rfl ?_
 refine y9y rfl rfl ?_
 refine v3v rfl v6v rfl ?_
 refine y9y rfl rfl ?_
 refine z0z rfl rfl rfl ?_
 refine x6x rfl rfl ?_
 refine y1y rfl (fun hc3 => ?_) (fun hc3 => ?_)
 ·try simp at hc3
  refine x7x x9x (by rfl) ?_
  refine x2x rfl ?_
  refine y6y ?_
  refine ⟨.inr rfl, [γ 0], rfl, congrArg (fun v : Nat => some [AV.pv (.int .i64 (v : Int))]) (?_ : _ = pk bs p n), HE.box rfl rfl HE.nil⟩
  (subst hc3; simp [pk]; done)
 try simp at hc3
 refine y8y ?_
 refine hK1 _ _ ?_
 clear hK1 K1
 refine x7x x9x (by rfl) ?_
 refine x0x rfl ?_
 refine u7u rfl rfl ?_
 refine x1x rfl a8e rfl rfl y5y rfl rfl ?_
 refine x3x rfl y5y rfl rfl ?_
 refine u5u (.int .i64 (p : Int)) rfl rfl rfl (q3q rfl (by omega) (by omega) (by omega)) ?_
 refine x2x rfl ?_
 refine x8x fun K4 hK4 => ?_
 refine x7x x9x (by rfl) ?_
 refine x0x rfl ?_
 refine x0x rfl ?_
 refine u7u rfl rfl ?_
 refine x1x rfl a8e rfl rfl v6v rfl rfl ?_
 refine x3x rfl v6v rfl rfl ?_
 refine v3v rfl v6v rfl ?_
 refine z0z rfl rfl rfl ?_
 refine y1y rfl (fun hc5 => ?_) (fun hc5 => ?_)
 ·try simp at hc5
  refine x7x x9x (by rfl) ?_
  refine x0x rfl ?_
  refine u7u rfl rfl ?_
  refine x1x rfl a8e rfl rfl v6v rfl rfl ?_
  refine x3x rfl v6v rfl rfl ?_
  refine x0x rfl ?_
  have hj : bs[p]? = some (bs.getD (p) 0) := by rw [List.getD_eq_getElem?_getD, List.getElem?_eq_getElem (by omega)]; rfl
  have h256 := hbs _ (List.mem_of_getElem? hj)
  refine v0v (j := p) rfl rfl v6v rfl a0o rfl hj ?_
  refine z6z rfl a0o rfl ?_
  refine a5h rfl a0o y5y rfl rfl (by omega) ?_
  refine x0x rfl ?_
  refine a4h rfl rfl (by omega) ?_
  refine x2x rfl ?_
  refine y6y ?_
  refine ⟨.inr rfl, [γ 0], rfl, congrArg (fun v : Nat => some [AV.pv (.int .i64 (v : Int))]) (?_ : _ = pk bs p n), HE.box rfl rfl HE.nil⟩
  (rw [pk, if_neg (by omega), if_pos (by omega)])
 try simp at hc5
 refine y8y ?_
 refine hK4 _ _ ?_
 clear hK4 K4
 refine q5q x9x s7s (by rfl) ?_
 refine x0x rfl ?_
 refine u7u rfl rfl ?_
 refine x1x rfl a8e rfl rfl v6v rfl rfl ?_
 refine x3x rfl v6v rfl rfl ?_
 refine x0x rfl ?_
 refine x0x rfl ?_
 refine u7u rfl rfl ?_
 refine x1x rfl a8e rfl rfl v6v rfl rfl ?_
 refine x3x rfl v6v rfl rfl ?_
 refine v3v rfl v6v rfl ?_
 have hm0 : bs.length ≠ 0 := by intro h0; exact absurd (List.length_eq_zero_iff.1 h0) (by assumption)
 refine a4h rfl rfl hm0 ?_
 have hj1 : bs[p % bs.length]? = some (bs.getD (p % bs.length) 0) := by rw [List.getD_eq_getElem?_getD, List.getElem?_eq_getElem (Nat.mod_lt _ (by omega))]; rfl
 have h1 := hbs _ (List.mem_of_getElem? hj1)
 refine v0v rfl rfl v6v rfl a0o rfl hj1 ?_
 refine z6z rfl a0o rfl ?_
 refine a5h rfl a0o y5y rfl rfl (by omega) ?_
 refine b0i (b := 131) rfl rfl (by omega) ?_
 refine x0x rfl ?_
 refine u7u rfl rfl ?_
 refine x1x rfl a8e rfl rfl v6v rfl rfl ?_
 refine x3x rfl v6v rfl rfl ?_
 refine x0x rfl ?_
 refine b0i (b := 7) rfl rfl (by omega) ?_
 refine r0r (b := 3) rfl rfl (by omega) ?_
 refine x0x rfl ?_
 refine u7u rfl rfl ?_
 refine x1x rfl a8e rfl rfl v6v rfl rfl ?_
 refine x3x rfl v6v rfl rfl ?_
 refine v3v rfl v6v rfl ?_
 refine a4h rfl rfl (by omega) ?_
 have hj2 : bs[(p * 7 + 3) % bs.length]? = some (bs.getD ((p * 7 + 3) % bs.length) 0) := by rw [List.getD_eq_getElem?_getD, List.getElem?_eq_getElem (Nat.mod_lt _ (by omega))]; rfl
 have h2 := hbs _ (List.mem_of_getElem? hj2)
 have hq := Nat.div_le_self p bs.length
 refine v0v rfl rfl v6v rfl a0o rfl hj2 ?_
 refine z6z rfl a0o rfl ?_
 refine a5h rfl a0o y5y rfl rfl (by omega) ?_
 refine b0i (b := 1117) rfl rfl (by omega) ?_
 refine r0r rfl rfl (by omega) ?_
 refine x0x rfl ?_
 refine b0i (b := 29) rfl rfl (by omega) ?_
 refine r0r rfl rfl (by omega) ?_
 refine x0x rfl ?_
 refine x0x rfl ?_
 refine u7u rfl rfl ?_
 refine x1x rfl a8e rfl rfl v6v rfl rfl ?_
 refine x3x rfl v6v rfl rfl ?_
 refine v3v rfl v6v rfl ?_
 refine b6m rfl rfl (by omega) (by omega) ?_
 refine b0i (b := 53) rfl rfl (by omega) ?_
 refine r0r rfl rfl (by omega) ?_
 refine x2x rfl ?_
 refine ⟨by kernel_rfl, ?_⟩
 refine x7x x9x (by rfl) ?_
 refine x0x rfl ?_
 refine x0x rfl ?_
 refine b6m (b := 64) rfl rfl (by omega) (by omega) ?_
 refine c5d rfl rfl (by omega) (by omega) ?_
 refine x2x rfl ?_
 refine x7x x9x (by rfl) ?_
 refine x0x rfl ?_
 refine x0x rfl ?_
 refine a4h rfl rfl (by omega) ?_
 refine x2x rfl ?_
 refine y6y ?_
 refine ⟨.inr rfl, [γ 0], rfl, congrArg (fun v : Nat => some [AV.pv (.int .i64 (v : Int))]) (?_ : _ = pk bs p n), HE.box rfl rfl HE.nil⟩
 (rw [pk, if_neg (by omega), if_neg (by omega)]; rfl)
theorem a7l (c c' : Bool) (l l' : List Int) : a2g Try.prog 28 [p1p c l, p1p c' l'] (.pv (.bool (decide (l = l')))) := by
 refine u9u x9x (fn := Try.f28) (by kernel_rfl) (by kernel_rfl) rfl (outs := [.pv (.bool (decide (l = l')))]) (by rfl) (u3u rfl) 0 ?_
 refine s1s 0 rfl fun hlen => ?_
 refine x7x x9x (by rfl) ?_
 refine x2x rfl ?_
 refine x8x fun K1 hK1 => ?_
 refine x7x x9x (by rfl) ?_
 refine x0x rfl ?_
 refine v3v rfl u1u rfl ?_
 refine x0x rfl ?_
 refine v3v rfl u1u rfl ?_
 refine z0z rfl rfl rfl ?_
 refine y1y rfl (fun hc2 => ?_) (fun hc2 => ?_)
 ·try simp at hc2
  refine x7x x9x (by rfl) ?_
  refine x2x rfl ?_
  refine y6y ⟨.inr rfl, ?_⟩
  clear hK1 K1
  refine z9z rfl ?_ rfl
  exact c7v (by omega)
 try simp at hc2
 refine y8y ?_
 refine hK1 _ _ ?_
 clear hK1 K1
 refine x8x fun K3 hK3 => ?_
 refine x7x x9x (by rfl) ?_
 refine x2x rfl ?_
 refine y7y ?_
 refine v9v (ι := Nat) (fun i γ1 => [(5, .pv (.int .i64 (i : Int)))]) (fun i γ1 => []) (fun i => i ≤ l.length ∧ l.length = l'.length ∧ l.take i = l'.take i) (fun i => l.length - i) (x5x 0 rfl (x5x 1 rfl Cov.nil)) HE.nil 0 ⟨by omega, by omega, rfl⟩ [] (x5x 5 rfl Cov.nil) HE.nil rfl fun i γ1 hi => ?_
 try dsimp only [List.cons_append, List.nil_append]
 obtain ⟨h1, h2, h3⟩ := hi
 refine x8x fun K4 hK4 => ?_
 refine x7x x9x (by rfl) ?_
 refine x0x rfl ?_
 refine x0x rfl ?_
 refine v3v rfl u1u rfl ?_
 refine z0z rfl rfl rfl ?_
 refine y1y rfl (fun hc5 => ?_) (fun hc5 => ?_)
 rotate_left
 ·try simp at hc5
  refine v7v ?_
  refine hK3 _ _ ?_
  clear hK4 K4 hK3 K3
  refine x7x x9x (by rfl) ?_
  refine x2x rfl ?_
  refine y6y ⟨.inr rfl, ?_⟩
  refine z9z rfl ?_ rfl
  exact eqT h3 (by omega) (by omega)
 try simp at hc5
 refine y8y ?_
 refine hK4 _ _ ?_
 clear hK4 K4
 refine x8x fun K6 hK6 => ?_
 refine y7y ?_
 refine q5q x9x s7s (by rfl) ?_
 refine x0x rfl ?_
 refine x0x rfl ?_
 obtain ⟨x, hx⟩ : ∃ x, l[i]? = some x := s8s (by omega)
 refine v0v rfl rfl u1u rfl y5y rfl hx ?_
 refine z6z rfl y5y rfl ?_
 refine x0x rfl ?_
 refine x0x rfl ?_
 obtain ⟨y, hy⟩ : ∃ y, l'[i]? = some y := s8s (by omega)
 refine v0v rfl rfl u1u rfl y5y rfl hy ?_
 refine z6z rfl y5y rfl ?_
 refine z0z rfl rfl rfl ?_
 refine ⟨by kernel_rfl, ?_⟩
 refine y1y rfl (fun hc7 => ?_) (fun hc7 => ?_)
 rotate_left
 ·try simp at hc7
  refine y8y ?_
  refine hK6 _ _ ?_
  clear hK6 K6
  refine y0y x9x (by rfl) ?_
  refine x0x rfl ?_
  refine u5u (.int .i64 ((i + 1 : Nat) : Int)) rfl rfl rfl (q3q rfl (by omega) (by omega) (by have := hlen; omega)) ?_
  refine x2x rfl ?_
  exact ⟨i + 1, ⟨⟨by omega, h2, a7k h3 hx hy (by assumption)⟩, by omega⟩, [], (x5x 5 rfl Cov.nil), (x5x 0 rfl (x5x 1 rfl Cov.nil)), HE.nil, HE.nil, rfl⟩
 try simp at hc7
 refine x7x x9x (by rfl) ?_
 refine x2x rfl ?_
 refine y6y ⟨.inr rfl, ?_⟩
 clear hK6 K6 hK3 K3
 refine z9z rfl ?_ rfl
 exact c7w hx hy (by assumption)
theorem b0t (c c' : Bool) (l l' : List Ev) : a2g Try.prog 29 [a7x c l, a7x c' l'] (.pv (.bool (decide (l = l')))) := by
 refine u9u x9x (fn := Try.f29) (by kernel_rfl) (by kernel_rfl) rfl (outs := [.pv (.bool (decide (l = l')))]) (by rfl) (u3u rfl) 0 ?_
 refine s1s 0 rfl fun hlen => ?_
 refine x7x x9x (by rfl) ?_
 refine x2x rfl ?_
 refine x8x fun K1 hK1 => ?_
 refine x7x x9x (by rfl) ?_
 refine x0x rfl ?_
 refine v3v rfl w2w rfl ?_
 refine x0x rfl ?_
 refine v3v rfl w2w rfl ?_
 refine z0z rfl rfl rfl ?_
 refine y1y rfl (fun hc2 => ?_) (fun hc2 => ?_)
 ·try simp at hc2
  refine x7x x9x (by rfl) ?_
  refine x2x rfl ?_
  refine y6y ⟨.inr rfl, ?_⟩
  clear hK1 K1
  refine z9z rfl ?_ rfl
  exact c7v (by omega)
 try simp at hc2
 refine y8y ?_
 refine hK1 _ _ ?_
 clear hK1 K1
 refine x8x fun K3 hK3 => ?_
 refine x7x x9x (by rfl) ?_
 refine x2x rfl ?_
 refine y7y ?_
 refine v9v (ι := Nat) (fun i γ1 => [(5, .pv (.int .i64 (i : Int)))]) (fun i γ1 => []) (fun i => i ≤ l.length ∧ l.length = l'.length ∧ l.take i = l'.take i) (fun i => l.length - i) (x5x 0 rfl (x5x 1 rfl Cov.nil)) HE.nil 0 ⟨by omega, by omega, rfl⟩ [] (x5x 5 rfl Cov.nil) HE.nil rfl fun i γ1 hi => ?_
 try dsimp only [List.cons_append, List.nil_append]
 obtain ⟨h1, h2, h3⟩ := hi
 refine x8x fun K4 hK4 => ?_
 refine x7x x9x (by rfl) ?_
 refine x0x rfl ?_
 refine x0x rfl ?_
 refine v3v rfl w2w rfl ?_
 refine z0z rfl rfl rfl ?_
 refine y1y rfl (fun hc5 => ?_) (fun hc5 => ?_)
 rotate_left
 ·try simp at hc5
  refine v7v ?_
  refine hK3 _ _ ?_
  clear hK4 K4 hK3 K3
  refine x7x x9x (by rfl) ?_
  refine x2x rfl ?_
  refine y6y ⟨.inr rfl, ?_⟩
  refine z9z rfl ?_ rfl
  exact eqT h3 (by omega) (by omega)
 try simp at hc5
 refine y8y ?_
 refine hK4 _ _ ?_
 clear hK4 K4
 refine x8x fun K6 hK6 => ?_
 refine y7y ?_
 refine q5q x9x s7s (by rfl) ?_
 refine x0x rfl ?_
 refine x0x rfl ?_
 obtain ⟨x, hx⟩ : ∃ x, l[i]? = some x := s8s (by omega)
 refine v0v rfl rfl w2w rfl v1v rfl hx ?_
 refine w1w rfl v1v rfl rfl ?_
 refine x0x rfl ?_
 refine x0x rfl ?_
 obtain ⟨y, hy⟩ : ∃ y, l'[i]? = some y := s8s (by omega)
 refine v0v rfl rfl w2w rfl v1v rfl hy ?_
 refine w1w rfl v1v rfl rfl ?_
 refine a8g rfl rfl (by intro a c h; cases h) (.inr rfl) (c9l _ _ _ _) ?_
 refine ⟨by kernel_rfl, ?_⟩
 refine y1y rfl (fun hc7 => ?_) (fun hc7 => ?_)
 rotate_left
 ·try simp at hc7
  refine y8y ?_
  refine hK6 _ _ ?_
  clear hK6 K6
  refine y0y x9x (by rfl) ?_
  refine x0x rfl ?_
  refine u5u (.int .i64 ((i + 1 : Nat) : Int)) rfl rfl rfl (q3q rfl (by omega) (by omega) (by have := hlen; omega)) ?_
  refine x2x rfl ?_
  exact ⟨i + 1, ⟨⟨by omega, h2, a7k h3 hx hy (by assumption)⟩, by omega⟩, [], (x5x 5 rfl Cov.nil), (x5x 0 rfl (x5x 1 rfl Cov.nil)), HE.nil, HE.nil, rfl⟩
 try simp at hc7
 refine x7x x9x (by rfl) ?_
 refine x2x rfl ?_
 refine y6y ⟨.inr rfl, ?_⟩
 clear hK6 K6 hK3 K3
 refine z9z rfl ?_ rfl
 exact c7w hx hy (by assumption)
theorem b3m (c c' : Bool) (l l' : List Ou) : a2g Try.prog 30 [a6n c l, a6n c' l'] (.pv (.bool (decide (l = l')))) := by
 refine u9u x9x (fn := Try.f30) (by kernel_rfl) (by kernel_rfl) rfl (outs := [.pv (.bool (decide (l = l')))]) (by rfl) (u3u rfl) 0 ?_
 refine s1s 0 rfl fun hlen => ?_
 refine x7x x9x (by rfl) ?_
 refine x2x rfl ?_
 refine x8x fun K1 hK1 => ?_
 refine x7x x9x (by rfl) ?_
 refine x0x rfl ?_
 refine v3v rfl w5w rfl ?_
 refine x0x rfl ?_
 refine v3v rfl w5w rfl ?_
 refine z0z rfl rfl rfl ?_
 refine y1y rfl (fun hc2 => ?_) (fun hc2 => ?_)
 ·try simp at hc2
  refine x7x x9x (by rfl) ?_
  refine x2x rfl ?_
  refine y6y ⟨.inr rfl, ?_⟩
  clear hK1 K1
  refine z9z rfl ?_ rfl
  exact c7v (by omega)
 try simp at hc2
 refine y8y ?_
 refine hK1 _ _ ?_
 clear hK1 K1
 refine x8x fun K3 hK3 => ?_
 refine x7x x9x (by rfl) ?_
 refine x2x rfl ?_
 refine y7y ?_
 refine v9v (ι := Nat) (fun i γ1 => [(5, .pv (.int .i64 (i : Int)))]) (fun i γ1 => []) (fun i => i ≤ l.length ∧ l.length = l'.length ∧ l.take i = l'.take i) (fun i => l.length - i) (x5x 0 rfl (x5x 1 rfl Cov.nil)) HE.nil 0 ⟨by omega, by omega, rfl⟩ [] (x5x 5 rfl Cov.nil) HE.nil rfl fun i γ1 hi => ?_
 try dsimp only [List.cons_append, List.nil_append]
 obtain ⟨h1, h2, h3⟩ := hi
 refine x8x fun K4 hK4 => ?_
 refine x7x x9x (by rfl) ?_
 refine x0x rfl ?_
 refine x0x rfl ?_
 refine v3v rfl w5w rfl ?_
 refine z0z rfl rfl rfl ?_
 refine y1y rfl (fun hc5 => ?_) (fun hc5 => ?_)
 rotate_left
 ·try simp at hc5
  refine v7v ?_
  refine hK3 _ _ ?_
  clear hK4 K4 hK3 K3
  refine x7x x9x (by rfl) ?_
  refine x2x rfl ?_
  refine y6y ⟨.inr rfl, ?_⟩
  refine z9z rfl ?_ rfl
  exact eqT h3 (by omega) (by omega)
 try simp at hc5
 refine y8y ?_
 refine hK4 _ _ ?_
 clear hK4 K4
 refine x8x fun K6 hK6 => ?_
 refine y7y ?_
 refine q5q x9x s7s (by rfl) ?_
 refine x0x rfl ?_
 refine x0x rfl ?_
 obtain ⟨x, hx⟩ : ∃ x, l[i]? = some x := s8s (by omega)
 refine v0v rfl rfl w5w rfl v8v rfl hx ?_
 refine w1w rfl v8v rfl rfl ?_
 refine x0x rfl ?_
 refine x0x rfl ?_
 obtain ⟨y, hy⟩ : ∃ y, l'[i]? = some y := s8s (by omega)
 refine v0v rfl rfl w5w rfl v8v rfl hy ?_
 refine w1w rfl v8v rfl rfl ?_
 refine a8g rfl rfl (by intro a c h; cases h) (.inr rfl) (c9z _ _ _ _) ?_
 refine ⟨by kernel_rfl, ?_⟩
 refine y1y rfl (fun hc7 => ?_) (fun hc7 => ?_)
 rotate_left
 ·try simp at hc7
  refine y8y ?_
  refine hK6 _ _ ?_
  clear hK6 K6
  refine y0y x9x (by rfl) ?_
  refine x0x rfl ?_
  refine u5u (.int .i64 ((i + 1 : Nat) : Int)) rfl rfl rfl (q3q rfl (by omega) (by omega) (by have := hlen; omega)) ?_
  refine x2x rfl ?_
  exact ⟨i + 1, ⟨⟨by omega, h2, a7k h3 hx hy (by assumption)⟩, by omega⟩, [], (x5x 5 rfl Cov.nil), (x5x 0 rfl (x5x 1 rfl Cov.nil)), HE.nil, HE.nil, rfl⟩
 try simp at hc7
 refine x7x x9x (by rfl) ?_
 refine x2x rfl ?_
 refine y6y ⟨.inr rfl, ?_⟩
 clear hK6 K6 hK3 K3
 refine z9z rfl ?_ rfl
 exact c7w hx hy (by assumption)
end
section
theorem w3w (v lo hi : Int) : a2g Try.prog 31 [.pv (.int .i64 v), .pv (.int .i64 lo), .pv (.int .i64 hi)] (.pv (.bool (decide (lo ≤ v ∧ v ≤ hi)))) := by
 refine u9u x9x (fn := Try.f31) (by kernel_rfl) (by kernel_rfl) rfl (outs := [.pv (.bool (decide (lo ≤ v ∧ v ≤ hi)))]) (by rfl) (u3u rfl) 0 ?_
 refine x7x x9x (by rfl) ?_
 refine x2x rfl ?_
 refine x7x x9x (by rfl) ?_
 refine x0x rfl ?_
 refine x0x rfl ?_
 refine z0z rfl rfl rfl ?_
 refine x0x rfl ?_
 refine a0d rfl rfl (fun hg1 => ?_) (fun hg1 => ?_)
 rotate_left
 ·try simp at hg1
  refine x4x rfl rfl ?_
  refine x4x rfl rfl ?_
  refine x6x rfl rfl ?_
  refine x2x rfl ?_
  refine y6y ⟨.inr rfl, ?_⟩
  refine z9z rfl ?_ rfl
  simp; omega
 try simp at hg1
 refine x0x rfl ?_
 refine y9y rfl rfl ?_
 refine x0x rfl ?_
 refine y9y rfl rfl ?_
 refine z0z rfl rfl rfl ?_
 refine z4z rfl rfl ?_
 refine x2x rfl ?_
 refine y6y ⟨.inr rfl, ?_⟩
 refine z9z rfl ?_ rfl
 simp; omega
theorem p4p (v lo hi : Int) : a2g Try.prog 74 [.pv (.int .i64 v), .pv (.int .i64 lo), .pv (.int .i64 hi)] (.pv (.bool (decide (lo ≤ v ∧ v ≤ hi)))) := by
 refine u9u x9x (fn := Try.f74) (by kernel_rfl) (by kernel_rfl) rfl (outs := [.pv (.bool (decide (lo ≤ v ∧ v ≤ hi)))]) (by rfl) (u3u rfl) 0 ?_
 refine x7x x9x (by rfl) ?_
 refine x2x rfl ?_
 refine x7x x9x (by rfl) ?_
 refine x0x rfl ?_
 refine x0x rfl ?_
 refine z0z rfl rfl rfl ?_
 refine x0x rfl ?_
 refine a0d rfl rfl (fun hg1 => ?_) (fun hg1 => ?_)
 rotate_left
 ·try simp at hg1
  refine x4x rfl rfl ?_
  refine x4x rfl rfl ?_
  refine x6x rfl rfl ?_
  refine x2x rfl ?_
  refine y6y ⟨.inr rfl, ?_⟩
  refine z9z rfl ?_ rfl
  simp; omega
 try simp at hg1
 refine x0x rfl ?_
 refine y9y rfl rfl ?_
 refine x0x rfl ?_
 refine y9y rfl rfl ?_
 refine z0z rfl rfl rfl ?_
 refine z4z rfl rfl ?_
 refine x2x rfl ?_
 refine y6y ⟨.inr rfl, ?_⟩
 refine z9z rfl ?_ rfl
 simp; omega
theorem a7m (p : Int) : a2g Try.prog 68 [.pv (.int .i64 p)] (.pv (.bool (decide (0 ≤ p ∧ p ≤ 3)))) := by
 refine u9u x9x (fn := Try.f68) (by kernel_rfl) (by kernel_rfl) rfl (outs := [.pv (.bool (decide (0 ≤ p ∧ p ≤ 3)))]) (by rfl) (u3u rfl) 0 ?_
 refine x7x x9x (by rfl) ?_
 refine x2x rfl ?_
 refine x7x x9x (by rfl) ?_
 refine x0x rfl ?_
 refine z7z rfl rfl rfl (w3w ..) ?_
 refine x2x rfl ?_
 refine y6y ⟨.inr rfl, ?_⟩
 exact z9z rfl rfl rfl
theorem a7n (p : Int) : a2g Try.prog 86 [.pv (.int .i64 p)] (.pv (.bool (decide (0 ≤ p ∧ p ≤ 3)))) := by
 refine u9u x9x (fn := Try.f86) (by kernel_rfl) (by kernel_rfl) rfl (outs := [.pv (.bool (decide (0 ≤ p ∧ p ≤ 3)))]) (by rfl) (u3u rfl) 0 ?_
 refine x7x x9x (by rfl) ?_
 refine x2x rfl ?_
 refine x7x x9x (by rfl) ?_
 refine x0x rfl ?_
 refine z7z rfl rfl rfl (p4p ..) ?_
 refine x2x rfl ?_
 refine y6y ⟨.inr rfl, ?_⟩
 exact z9z rfl rfl rfl
theorem a7o (p : Int) : a2g Try.prog 32 [.pv (.int .i64 p)] (.pv (.bool (decide (0 ≤ p ∧ p ≤ 2)))) := by
 refine u9u x9x (fn := Try.f32) (by kernel_rfl) (by kernel_rfl) rfl (outs := [.pv (.bool (decide (0 ≤ p ∧ p ≤ 2)))]) (by rfl) (u3u rfl) 0 ?_
 refine x7x x9x (by rfl) ?_
 refine x2x rfl ?_
 refine x7x x9x (by rfl) ?_
 refine x0x rfl ?_
 refine z7z rfl rfl rfl (w3w ..) ?_
 refine x2x rfl ?_
 refine y6y ⟨.inr rfl, ?_⟩
 exact z9z rfl rfl rfl
end
section
variable {P : Program} {n : Nat} {fr : Fr} {h : Hp} {Q : Exit → Fr → Hp → Prop}

def c5w (P : Program) (n : Nat) (ops : Array Oper) (Q : Exit → Fr → Hp → Prop) (B : Base) (X0 : Cx) (w0 : World) (i : Nat) (fr : Fr) (h : Hp) : Prop :=
 ∀ (X : Cx) (a : Act) (w : World), X0.le X → (∀ b, X0.ok2 b → w.heap[b]? = w0.heap[b]?) → SRh X B (hf h) w → FrOK X w n fr.get a → a.defers = [] → wpOps P ops (c6y n Q B X0 w0) (List.range' i (ops.size - i)) a w
section
variable {tt : TT} {ops : Array Oper} {B : Base} {X0 : Cx} {w0 : World}
theorem c5x (hd : (ops.toList.all fun o => match o.dst with | some d => decide (d < n) | none => true) = true) : ∀ i k, q8q ops i = some k → k < n := fun i k hk => by
 simp only [q8q] at hk
 cases ho : ops[i]? with
 | none => rw [ho] at hk; cases hk
 | some o =>
  rw [ho] at hk
  rw [List.all_eq_true] at hd
  have := hd o (by rw [Array.mem_toList_iff]; exact Array.mem_of_getElem? ho)
  simp only [Option.bind_some] at hk
  rw [hk] at this
  simpa using this
variable {id : Nat}
theorem c1h (hr : ∀ B X0 w0, c5w P n ops (b4k (fun fr h => Ex P n c fr h Q) Q) B X0 w0 0 fr h) : Ex P n (.seq (.region id ops false) c) fr h Q := by
 refine b4l (fun fr h => Ex P n c fr h Q) (fun X B a w hS hF hd => ?_) (fun _ _ h => h)
 refine wp_region ?_
 rw [List.range_eq_range']
 exact hr B X w X a w (Cx.le.refl X) (fun _ _ => rfl) hS hF hd
theorem c7k (hr : ∀ B X0 w0, c5w P n ops Q B X0 w0 0 fr h) : Ex P n (.region id ops false) fr h Q := fun X B a w hS hF hd => by
 refine wp_region ?_
 rw [List.range_eq_range']
 exact hr B X w X a w (Cx.le.refl X) (fun _ _ => rfl) hS hF hd
theorem b0u (hi : ops.size = i) (k : Q .normal fr h) : c5w P n ops Q B X0 w0 i fr h := fun X a w hX hw hS hF hdf => by
 rw [hi, Nat.sub_self]
 exact ⟨fr, h, X, k, hX, hS, hF, hdf, hw⟩

theorem a2p (htt : a1j P tt) (hd : (ops.toList.all fun o => match o.dst with | some d => decide (d < n) | none => true) = true) (m : Nat) (hl : (ops.toList.drop i).take m = l) (hm : l.length = m)
  (hr : p3p P tt ops l fr h [] fun fr' h' _ => c5w P n ops Q B X0 w0 (i + m) fr' h') : c5w P n ops Q B X0 w0 i fr h := fun X a w hX hw hS hF hdf => by
 subst hl
 obtain ⟨rs, fr', h', k1, k2, k3⟩ := a1p htt _ i fr h [] ((ops.toList.drop i).drop m) (List.take_append_drop _ _).symm hr
 have hle : i + m ≤ ops.size ∨ m = 0 := by
  rw [List.length_take, List.length_drop, Array.length_toList] at hm
  omega
 have e : List.range' i (ops.size - i) = List.range' i rs.length ++ List.range' (i + m) (ops.size - (i + m)) := by
  rw [k2, hm, List.range'_append_1]
  congr 1
  omega
 rw [e]
 refine b9s _ (c5x hd) k1 hS hF fun X' w' a' g1 g2 g3 g4 g5 => k3 X' a' w' (hX.trans g1) (fun b hb => (g4 b (hX.ok2 b hb)).trans (hw b hb)) g2 g3 (g5.trans hdf)
variable {i d m : Nat} {pos : String} {af : Array Edge} {f : FuncId} {x : Operand} {args : Array Operand} {at' : Array TypeId} {fi cap avs A0 : List AV} {I0 T : Hp} {ι : Type}

theorem c2w {ty : TypeId} {okι : ι → Prop} {kpF : ι → List Nat} {OF : ι → AV} {UF : ι → Hp}
  (L gs : List Nat) (hM : MethE P f m A0 I0 okι kpF OF UF) (ho : ops[i]? = some ⟨some d, .call { callee := .value x, args := args, argTypes := at' }, ty, pos, af, none⟩) (hf' : evO fr x = some (.fn (.func f) fi cap)) (ha : evL (evO fr) args.toList = some avs) (he : fi ++ avs ++ cap = A0.map (inT (gl L) (gl gs))) (hn : L.Nodup) (hL : L.length = m)
  (hT : I0.map (a1h (gl L) (gl gs)) = T) {out : ι → AV} {W : ι → Hp} (hout : ∀ j, inT (gl L) (nx (kpF j) (gl gs)) (OF j) = out j) (hW : ∀ j, (UF j).map (a1h (gl L) (nx (kpF j) (gl gs))) = W j)
  {X : Cx} {B : Base} {h : HF} {a : Act} {w : World} {Q : Exit → Act → World → Prop} {K : Act → World → Prop} (hS : SRh X B h w) (hin : ∀ t av, (t, av) ∈ b6e fr ⟨some d, .call { callee := .value x, args := args, argTypes := at' }, ty, pos, af, none⟩ → VR X w av (a.tmps.getD t undef)) (hent : ∀ id ge, (id, ge) ∈ T → h id = some ge)
  (hK : ∀ j, okι j → ∀ X' w' v, X.le X' → SRh X' B (a2z h (W j)) w' → (∀ b, X.ok2 b → w'.heap[b]? = w.heap[b]?) → VR X' w' (out j) v → K (a.put (q8q ops i) v) w') : wpOp P ops Q i K a w := by
 subst hT
 obtain rfl : out = fun j => inT (gl L) (nx (kpF j) (gl gs)) (OF j) := (funext hout).symm
 obtain rfl : W = fun j => (UF j).map (a1h (gl L) (nx (kpF j) (gl gs))) := (funext hW).symm
 have hC := b1w hM L (gl gs) hn hL
 rw [← he] at hC
 obtain ⟨⟨fn, code, h1, h2, h3⟩, hC⟩ := hC
 have hd : q8q ops i = some d := by simp [q8q, ho]
 rw [hd] at hK
 have hop : ∀ y ∈ (Op.call { callee := .value x, args := args, argTypes := at' }).operands, ∀ av, evO fr y = some av → VR X w av (a.eval y) := fun y hy => b2p hin (fun t ht av hav => a1u.2 ⟨⟨y, hy, ht⟩, hav⟩)
 have hxv := hop x (by simp [Op.operands, Call.operands]) _ hf'
 obtain ⟨us, vs, e1, hl1, hl2, r1, r2⟩ := hxv.fn_inv
 obtain ⟨k1, k2⟩ := b6c (X := X) (w := w) (a := a) args.toList avs ha (fun y hy => hop y (by
  simp only [Op.operands, Call.operands, Array.mem_append]
  exact .inr (by simpa using hy)))
 have hr := hC X B _ w (us ++ args.toList.map a.eval ++ vs) hS (by simp [hl1, hl2, ← k1]) (a5c (by simp [hl1, ← k1]) (a5c hl1 r1 k2) r2) hent
 have hargs : us.toArray ++ args.map a.eval ++ vs.toArray = (us ++ args.toList.map a.eval ++ vs).toArray := by
  apply Array.ext'
  simp
 unfold wpOp
 rw [ho]
 simp only [Region.wanted, if_true]
 refine .inl ?_
 unfold Oper.wp
 have hx2 : ∀ o : Oper, o.op = .call { callee := .value x, args := args, argTypes := at' } → (execOp a.eval o).run P w = .ok (.enter f (us ++ args.toList.map a.eval ++ vs).toArray) w := fun o e => by
  rw [← hargs]
  simp only [execOp, e, resolve, e1, Deferred.ofValue, Sem.run_bind, Sem.run_pure, Result.andThen_ok, invoke]
  have h4 : fn.name ≠ "runtime.NumGoroutine" := by simpa using h2
  simp [callFunc, h1, h4, h3]
 rw [hx2 _ rfl, Oper.upon_enter]
 refine hr.mono fun e w' hh => ?_
 obtain ⟨out, W, ⟨j, hj, rfl, rfl⟩, v, rfl, X', g1, g2, g3, g4⟩ := hh
 exact hK j hj X' w' v g1 g2 g3 g4

theorem a5k {ty : TypeId} {okι : ι → Prop} {kpF : ι → List Nat} {OF : ι → AV} {UF : ι → Hp}
  (L gs : List Nat) (hM : MethE P f m A0 I0 okι kpF OF UF) (ho : ops[i]? = some ⟨some d, .call { callee := .value x, args := args, argTypes := at' }, ty, pos, af, none⟩) (hdn : Nat.blt d n = true) (hf' : evO fr x = some (.fn (.func f) fi cap)) (ha : evL (evO fr) args.toList = some avs) (he : fi ++ avs ++ cap = A0.map (inT (gl L) (gl gs))) (hn : L.Nodup) (hL : L.length = m)
  (hT : I0.map (a1h (gl L) (gl gs)) = T) (hi : InH h T) {out : ι → AV} {W : ι → Hp} (hout : ∀ j, inT (gl L) (nx (kpF j) (gl gs)) (OF j) = out j) (hW : ∀ j, (UF j).map (a1h (gl L) (nx (kpF j) (gl gs))) = W j)
  (k : ∀ j, okι j → c5w P n ops Q B X0 w0 (i + 1) ((d, out j) :: fr) (W j ++ h)) : c5w P n ops Q B X0 w0 i fr h := fun X a w hX hw hS hF hdf => by
 have hlt : i < ops.size := (Array.getElem?_eq_some_iff.1 ho).1
 have hd : q8q ops i = some d := by simp [q8q, ho]
 rw [show ops.size - i = (ops.size - (i + 1)) + 1 from by omega, List.range'_succ, wpOps_cons]
 refine c2w L gs hM ho hf' ha he hn hL hT hout hW hS (fun t av hm => ?_) (fun id ge hm => hi _ hm) fun j hj X' w' v g1 g2 g3 g4 => ?_
 ·obtain ⟨v, q1, q2⟩ := hF.slot t av (a1u.1 hm).2
  rw [Array.getD_eq_getD_getElem?, q1]
  exact q2
 ·rw [← b2o] at g2
  rw [hd]
  refine k j hj X' _ w' (hX.trans g1) (fun b hb => (g3 b (hX.ok2 b hb)).trans (hw b hb)) g2 ?_ hdf
  have := (hF.mono g1 hS.ok12 g3).put (some d) g4 (fun q hq => by cases hq; exact a2t hdn)
  rw [show Fr.get ((d, out j) :: fr) = b5q fr.get (some d) (out j) from a6v fr (some d) _]
  exact this
end
end
section
variable {P : Program} {n : Nat} {fr : Fr} {h : Hp} {Q : Exit → Fr → Hp → Prop}
section
variable {ops : Array Oper} {f0 : FF} {h0 : HF}
end
structure At0 (ops : Array Oper) (fr : FF) (h : Hp) (i : Nat) (r : OR) : Prop where
 ins : ∀ t av, (t, av) ∈ r.ins → fr t = some av
 slots : ∀ t av, (t, av) ∈ r.ins → ∃ o, ops[i]? = some o ∧ ((∃ x ∈ o.op.operands, x = .tmp t) ∨ ∃ j w, o.guard = some (j, w) ∧ q8q ops j = some t)
 ent : InH h r.T
 sub : Sub r.W r.T
inductive TrP (P : Program) (ops : Array Oper) (c : Nat) : List Nat → FF → Hp → List OR → FF → Hp → Prop
 | nil {f : FF} {h : Hp} : TrP P ops c [] f h [] f h
 | cons {i : Nat} {π : List Nat} {f f' : FF} {h h' : Hp} {r : OR} {rs : List OR} (ha : At0 ops f h i r) (ho : i ≠ c → OpT P ops i r) (ht : TrP P ops c π (b5q f (q8q ops i) r.out) (c3o h r.W) rs f' h') : TrP P ops c (i :: π) f h (r :: rs) f' h'
section
variable {ops : Array Oper} {c : Nat}
theorem TrP.append (a : TrP P ops c π f h L f' h') (b : TrP P ops c π' f' h' L' f'' h'') : TrP P ops c (π ++ π') f h (L ++ L') f'' h'' := by
 induction a with
 | nil => exact b
 | cons ha ho _ ih => exact .cons ha ho (ih b)
theorem TrP.len (a : TrP P ops c π f h L f' h') : L.length = π.length := by
 induction a with
 | nil => rfl
 | cons _ _ _ ih => simp [ih]
end
end
section
variable {P : Program} {ev : Operand → Option AV}
theorem b0v {c : Code} {Q Q' : Exit → Act → World → Prop} (hq : ∀ e a w, Q e a w → Q' e a w) : ∀ (N : Nat) {a : Act} {w : World}, Code.rounds P c Q N a w → Code.rounds P c Q' N a w
 | 0, _, _, h => h.elim
 | N + 1, a, w, h => by
  rw [rounds_succ] at h ⊢
  refine wp_mono h fun e a w k => ?_
  cases e with
  | normal => exact b0v hq N k
  | exit id => exact hq _ _ _ k
  | goto l => exact hq _ _ _ k
  | ret => exact hq _ _ _ k
  | panic ch => exact hq _ _ _ k
  | outgrown => exact hq _ _ _ k

def ExR (P : Program) (n N : Nat) (c : Code) (fr : Fr) (h : Hp) (Q : Exit → Fr → Hp → Prop) : Prop :=
 ∀ (X : Cx) (B : Base) (a : Act) (w : World), SRh X B (hf h) w → FrOK X w n fr.get a → a.defers = [] →
  Code.rounds P c (fun e a' w' => ∃ fr' h' X', Q e fr' h' ∧ X.le X' ∧ SRh X' B (hf h') w' ∧ FrOK X' w' n (Fr.get fr') a' ∧ a'.defers = [] ∧ ∀ b, X.ok2 b → w'.heap[b]? = w.heap[b]?) N a w
variable {n : Nat} {fr : Fr} {h : Hp} {Q : Exit → Fr → Hp → Prop} {c : Code}
theorem a3i (N : Nat) (k : ExR P n N c fr h Q) : Ex P n (.loop c) fr h Q := fun X B a w hS hF hd => wp_loop_rounds N (k X B a w hS hF hd)
theorem p0p {N n : Nat} (h1 : ∀ K : Fr → Hp → Prop, (∀ fr h, ExR P n N c fr h Q → K fr h) → Ex P n c fr h (b4k K Q)) : ExR P n (N + 1) c fr h Q := fun X B a w hS hF hd => by
 rw [rounds_succ]
 refine wp_mono (h1 _ (fun _ _ h => h) X B a w hS hF hd) fun e a2 w2 hh => ?_
 obtain ⟨fr2, h2', X2, k1, k2, k3, k4, k5, k6⟩ := hh
 cases e with
 | normal =>
  refine b0v (fun e a3 w3 hh => ?_) N (k1 X2 B a2 w2 k3 k4 k5)
  obtain ⟨fr3, h3', X3, g1, g2, g3, g4, g5, g6⟩ := hh
  exact ⟨fr3, h3', X3, g1, k2.trans g2, g3, g4, g5, fun b hb => (g6 b (k2.ok2 b hb)).trans (k6 b hb)⟩
 | exit id => exact ⟨fr2, h2', X2, k1, k2, k3, k4, k5, k6⟩
 | goto l => exact ⟨fr2, h2', X2, k1, k2, k3, k4, k5, k6⟩
 | ret => exact ⟨fr2, h2', X2, k1, k2, k3, k4, k5, k6⟩
 | panic ch => exact ⟨fr2, h2', X2, k1, k2, k3, k4, k5, k6⟩
 | outgrown => exact ⟨fr2, h2', X2, k1, k2, k3, k4, k5, k6⟩
def b3n (l : List Nat) : ByteArray := strOfNums (l.map fun (b : Nat) => (b : Int))
theorem c3u : ∀ (l l' : List Nat), (∀ b ∈ l, b < 256) → (∀ b ∈ l', b < 256) → (l.map ((fun n : Int => UInt8.ofNat n.toNat) ∘ fun (b : Nat) => (b : Int))) = (l'.map ((fun n : Int => UInt8.ofNat n.toNat) ∘ fun (b : Nat) => (b : Int))) → l = l'
 | [], [], _, _, _ => rfl
 | [], _ :: _, _, _, h => by cases h
 | _ :: _, [], _, _, h => by cases h
 | a :: l, b :: l', ha, hb, h => by
  simp only [List.map_cons, List.cons.injEq] at h
  have h1 := congrArg UInt8.toNat h.1
  have h2 := ha a (by simp)
  have h3 := hb b (by simp)
  simp at h1
  rw [c3u l l' (fun x hx => ha x (by simp [hx])) (fun x hx => hb x (by simp [hx])) h.2]
  congr 1
  omega
theorem b0w {l l' : List Nat} (h : ∀ b ∈ l, b < 256) (h' : ∀ b ∈ l', b < 256) : ((b3n l).toList == (b3n l').toList) = decide (l = l') := by
 rw [ByteArray.toList_eq, ByteArray.toList_eq, b3n, b3n, strOfNums_data, strOfNums_data, Bool.eq_iff_iff, beq_iff_eq, decide_eq_true_iff, List.map_map, List.map_map]
 constructor
 ·exact c3u l l' h h'
 ·rintro rfl; rfl
variable {o : Oper} {x : Operand} {S E D : TS} {m : Bool} {l : List Nat}
theorem c5y {tt : TT} (htt : a1j P tt) {s d e : Nat} {ty : Nat} (ho : o.op = .convert s d x) (hx : ev x = some (.row (.rd m) ty 1 (l.map fun (b : Nat) => [AV.pv (.int .u8 (b : Int))])))
  (hs : tt s = some S) (hk : S.kind = .sl e) (he : tt e = some E) (hke : E.kind = .int .u8) (hd : tt d = some D) (hkd : D.kind = .str) : OpS P o ev [] [] (.pv (.string (b3n l))) :=
 .quiet fun X B hF a w hS hop hT => by
  obtain ⟨A, c, u, e1, h2, h3, h4, h5, h6, h7, h8⟩ := (hop x (by simp [ho, Op.operands]) _ hx).row_inv
  obtain ⟨d1, q1, q2⟩ := (htt _ _ hs).desc
  obtain ⟨d2, q3, q4⟩ := (htt _ _ he).desc
  obtain ⟨d3, q5, q6⟩ := (htt _ _ hd).desc
  rw [hk] at q2; rw [hke] at q4; rw [hkd] at q6
  simp only [KOk] at q2 q4 q6
  subst q2 q4 q6
  refine ⟨.string (b3n l), ?_, .pv _⟩
  rw [List.length_map] at e1 h6
  have hcell : ∀ (ad : Addr) (j : Nat) (v : Value), A = some ad → ((l.map fun (b : Nat) => (b : Int)).map (Value.int .u8))[j]? = some v → w.cell? (ad.add j) = some v := by
   intro ad j v hA hj
   rw [List.getElem?_map, List.getElem?_map] at hj
   cases hl : l[j]? with
   | none => rw [hl] at hj; simp at hj
   | some b =>
    rw [hl] at hj
    simp only [Option.map_some, Option.some.injEq] at hj
    have k1 : (l.map fun (b : Nat) => [AV.pv (.int .u8 (b : Int))])[j]? = some [AV.pv (.int .u8 (b : Int))] := by rw [List.getElem?_map, hl]; rfl
    have k2 := h7 ad j 0 _ _ hA k1 rfl
    have k3 := h8 j 0 _ _ k1 rfl
    rw [Nat.mul_one, Nat.add_zero] at k2
    rw [k2, ← hj, (VR.cl (X := X) k3).pv_inv]
  simp only [execOp, ho, e1]
  cases A with
  | none =>
   have : l = [] := by
    cases l with
    | nil => rfl
    | cons b r => obtain ⟨ad, h, _⟩ := h6 (by simp); cases h
   subst this
   have := run_convert_bytes_nil (P := P) w s e q1 q3 0 c d q5
   simp only [List.length_nil] at *
   simp [this]
   rfl
  | some ad =>
   have hl : (loadCells ad l.length).run P w = .ok ((l.map fun (b : Nat) => (b : Int)).map (Value.int .u8)).toArray w := by
    have := run_loadCells_list (P := P) w ad ((l.map fun (b : Nat) => (b : Int)).map (Value.int .u8)) (fun j v hj => hcell ad j v rfl hj)
    simpa using this
   have hr : (convert s d (.slice (some ad) l.length c)).run P w = .ok (.string (b3n l)) w := by
    rw [run_convert_bytes_string w s d e _ l.length c q1 q3 q5, run_bytesToString w ad l.length c _ hl, foldl_push_bytes]
    simp [b3n, strOfNums, ByteArray.empty, ByteArray.emptyWithCapacity]
    rfl
   simp [hr]
section
variable {tt : TT} {ops : Array Oper} {r : List Oper} {fr : Fr} {h : Hp} {lg : Log} {K : Fr → Hp → Log → Prop} {d : Nat} {ty : TypeId} {pos : String} {af : Array Edge}
variable {s t e : Nat}
theorem b2d (htt : a1j P tt) {ty' : Nat} (hx : evO fr x = some (.row (.rd m) ty' 1 (l.map fun (b : Nat) => [AV.pv (.int .u8 (b : Int))])))
  (hs : tt s = some S) (hk : S.kind = .sl e) (he : tt e = some E) (hke : E.kind = .int .u8) (hd : tt t = some D) (hkd : D.kind = .str) (k : p3p P tt ops r ((d, .pv (.string (b3n l))) :: fr) h (([], []) :: lg) K) :
  p3p P tt ops (⟨some d, .convert s t x, ty, pos, af, none⟩ :: r) fr h lg K := a6w (c5y htt rfl hx hs hk he hke hd hkd) .nil .nil k
variable {t' : Nat} {y : Operand} {k k' : IntKind} {a b : Int}
theorem c5z (ho : o.op = .binOp .shl t x y t') (hx : ev x = some (.pv (.int k a))) (hy : ev y = some (.pv (.int k' b))) (hb : 0 ≤ b) : OpS P o ev [] [] (.pv (.int k (k.wrap (a * 2 ^ (min b.toNat k.bits))))) :=
 a2n fun a w hop => by
  have h1 := hop x (by simp [ho, Op.operands]) _ hx
  have h2 := hop y (by simp [ho, Op.operands]) _ hy
  have hb' : ¬ b < 0 := by omega
  simp [execOp, ho, h1, h2, eqGuard, binOp, Op.shift, hb']
theorem b5f (w : Value) (hx : evO fr x = some (.pv (.int k a))) (hy : evO fr y = some (.pv (.int k' b))) (hb : 0 ≤ b) (e : Value.int k (k.wrap (a * 2 ^ (min b.toNat k.bits))) = w) (kk : p3p P tt ops r ((d, .pv w) :: fr) h (([], []) :: lg) K) :
  p3p P tt ops (⟨some d, .binOp .shl t x y t', ty, pos, af, none⟩ :: r) fr h lg K := by
 subst e; exact a6w (c5z rfl hx hy hb) .nil .nil kk
def c2x : TK → Bool
 | .int _ => true
 | .str => true
 | .st _ => true
 | .arr _ _ => true
 | .sl _ => true
 | _ => false
variable {v : Value}
theorem c6a (htt : a1j P tt) (ho : o.op = .makeInterface t x) (hx : ev x = some (.pv v)) (hs : tt t = some S) (hn : c2x S.kind = true) : OpS P o ev [] [] (.pv (.iface t v)) :=
 .quiet fun X B hF a w hS hop hT => by
  have e := (hop x (by simp [ho, Op.operands]) _ hx).pv_inv
  obtain ⟨d1, q1, q2⟩ := (htt _ _ hs).desc
  refine ⟨.iface t v, ?_, .pv _⟩
  simp only [execOp, ho, e]
  cases hk : S.kind <;> rw [hk] at q2 hn <;> first
   | (cases hn; done)
   | (simp only [KOk] at q2; subst q2; simp [Instr.makeInterface, run_underlying q1])
   | (simp only [KOk] at q2; obtain ⟨_, rfl⟩ := q2; simp [Instr.makeInterface, run_underlying q1])
   | (simp only [KOk] at q2; obtain ⟨_, rfl, _⟩ := q2; simp [Instr.makeInterface, run_underlying q1])
theorem c2y (htt : a1j P tt) {vs : List Value} (ho : o.op = .makeInterface t x) (hx : ev x = some (.agg (vs.map .pv))) (hs : tt t = some S) (hn : c2x S.kind = true) : OpS P o ev [] [] (.pv (.iface t (.agg vs.toArray))) :=
 .quiet fun X B hF a w hS hop hT => by
  obtain ⟨us, e, hu⟩ := (hop x (by simp [ho, Op.operands]) _ hx).agg_inv
  have e3 : us = vs := by
   refine List.ext_getElem? fun i => ?_
   have hl := hu.len
   rw [List.length_map] at hl
   cases hi : vs[i]? with
   | none => rw [List.getElem?_eq_none_iff] at hi ⊢; omega
   | some v =>
    have h1 : (vs.map AV.pv)[i]? = some (.pv v) := by rw [List.getElem?_map, hi]; rfl
    have h2 : i < us.length := by have := (List.getElem?_eq_some_iff.1 hi).1; omega
    have h3 := hu.rel i _ _ h1 (List.getElem?_eq_getElem h2)
    rw [List.getElem?_eq_getElem h2, h3.pv_inv]
  subst e3
  obtain ⟨d1, q1, q2⟩ := (htt _ _ hs).desc
  refine ⟨.iface t (.agg us.toArray), ?_, .pv _⟩
  simp only [execOp, ho, e]
  cases hk : S.kind <;> rw [hk] at q2 hn <;> first
   | (cases hn; done)
   | (simp only [KOk] at q2; subst q2; simp [Instr.makeInterface, run_underlying q1])
   | (simp only [KOk] at q2; obtain ⟨_, rfl⟩ := q2; simp [Instr.makeInterface, run_underlying q1])
   | (simp only [KOk] at q2; obtain ⟨_, rfl, _⟩ := q2; simp [Instr.makeInterface, run_underlying q1])
theorem c1i (htt : a1j P tt) (hx : evO fr x = some (.pv v)) (hs : tt t = some S) (hn : c2x S.kind = true) (k : p3p P tt ops r ((d, .pv (.iface t v)) :: fr) h (([], []) :: lg) K) :
  p3p P tt ops (⟨some d, .makeInterface t x, ty, pos, af, none⟩ :: r) fr h lg K := a6w (c6a htt rfl hx hs hn) .nil .nil k
theorem c6b (htt : a1j P tt) (vs : List Value) (hx : evO fr x = some (.agg (vs.map .pv))) (hs : tt t = some S) (hn : c2x S.kind = true) (k : p3p P tt ops r ((d, .pv (.iface t (.agg vs.toArray))) :: fr) h (([], []) :: lg) K) :
  p3p P tt ops (⟨some d, .makeInterface t x, ty, pos, af, none⟩ :: r) fr h lg K := a6w (c2y htt rfl hx hs hn) .nil .nil k
variable {ms : Array (String × TypeId)}
theorem a3t {t : TypeId} (hu' : P.underlying t = some (.interface ms)) (x : Operand) : EqA P t x (.const .nilIface) (.pv .nilIface) (.pv .nilIface) true := by
 have hu : P.underlying t = some (.interface (P.methodsAt t)) := by rw [hu']; simp only [Program.methodsAt, hu']
 intro X w u v h12 h1 h2 op hop
 have e1 := h1.pv_inv
 have e2 := h2.pv_inv
 subst e1 e2
 have he := run_equal_nil_nil (P := P) w t hu
 rcases hop with rfl | rfl
 ·simp [eqGuard, binOp, he, a6u]
 ·simp [eqGuard, binOp, he, a6u]
theorem b7r {t : TypeId} (hu' : P.underlying t = some (.interface ms)) (x y : Operand) (s : TypeId) (z : Value) : EqA P t x y (.pv (.iface s z)) (.pv .nilIface) false := by
 have hu : P.underlying t = some (.interface (P.methodsAt t)) := by rw [hu']; simp only [Program.methodsAt, hu']
 intro X w u v h12 h1 h2 op hop
 have e1 := h1.pv_inv
 have e2 := h2.pv_inv
 subst e1 e2
 have he := run_equal_held_nil (P := P) w t s z hu
 rcases hop with rfl | rfl
 ·simp [eqGuard, binOp, he, a6u]
 ·simp [eqGuard, binOp, he, a6u]
end
theorem SRh.grew {X : Cx} {B : Base} {h : HF} {w w' : World} (H : SRh X B h w) (hw : Grew w w' []) : SRh X B h w' :=
 let ⟨F, k⟩ := H
 ⟨F, { k with
  ent := fun id g e he => (k.ent id g e he).mono (Cx.le.refl X) k.ok12 (fun b hb => hw.block b (k.ok2 b hb).1 (by simp)) (fun b hb => hw.block b (k.blk id _ b he hb) (by simp))
  blk := fun id g b he hb => Nat.lt_of_lt_of_le (k.blk id g b he hb) hw.size
  ok2 := fun b hb => ⟨Nat.lt_of_lt_of_le (k.ok2 b hb).1 hw.size, (k.ok2 b hb).2⟩
  os := hw.os.trans k.os
  tape := hw.tape.trans k.tape
  output := hw.output.trans k.output
  size := Nat.le_trans k.size hw.size
  keep := fun b hb hs => (hw.block b (Nat.lt_of_lt_of_le hb k.size) (by simp)).trans (k.keep b hb hs) }⟩
theorem Grew.rfl' (w : World) : Grew w w [] := ⟨rfl, rfl, rfl, Nat.le_refl _, fun _ _ _ => rfl⟩
theorem Grew.alloc (w : World) (o : Obj) : Grew w (w.alloc o) [] := ⟨rfl, rfl, rfl, by show w.heap.size ≤ (w.heap.push o).size; rw [Array.size_push]; omega, fun b hb _ => by show (w.heap.push o)[b]? = _; rw [Array.getElem?_push, if_neg (Nat.ne_of_lt hb)]⟩

theorem a7p {f : FuncId} {fn : Func} (hfn : P.funcs[f]? = some fn) (hname : (fn.name == "runtime.NumGoroutine") = false) (hb : fn.body = some c) (vs : List Value) (v : Value) (hc : ∀ w, Calls P f vs.toArray w fun e w' => e = .returned v ∧ Grew w w' []) : a2g P f (vs.map .pv) (.pv v) := by
 refine ⟨⟨fn, c, hfn, hname, hb⟩, fun X B hF w us hS hl hr hT => ?_⟩
 have e3 : us = vs := by
  refine List.ext_getElem? fun i => ?_
  rw [List.length_map] at hl
  cases hi : vs[i]? with
  | none => rw [List.getElem?_eq_none_iff] at hi ⊢; omega
  | some v =>
   have h1 : (vs.map AV.pv)[i]? = some (.pv v) := by rw [List.getElem?_map, hi]; rfl
   have h2 : i < us.length := by have := (List.getElem?_eq_some_iff.1 hi).1; omega
   have h3 := hr i _ _ h1 (List.getElem?_eq_getElem h2)
   rw [List.getElem?_eq_getElem h2, h3.pv_inv]
 subst e3
 refine (hc w).mono ?_
 rintro e w' ⟨rfl, hg⟩
 exact ⟨v, rfl, X, Cx.le.refl X, hS.grew hg, fun b hb => hg.block b (let ⟨_, k⟩ := hS; (k.ok2 b hb).1) (by simp), .pv _⟩
end
section
structure Op_ where
 do' : Int
 a : Int
 b : Int
 c : Int
 d : Int
 deriving DecidableEq, Inhabited
structure Ru where
 kind : Int
 ops : List Op_
 deriving DecidableEq, Inhabited
structure Ap where
 rules : List Ru
 deriving DecidableEq, Inhabited
structure Hb where
 round : Int
 ones : List Wo
 twos : List Wo
 outs : List Wo
 deriving DecidableEq, Inhabited
structure Tw where
 time : Int
 apps : List Ap
 nodes : List Nd
 radio : List Wo
 hub : Hb
 sink : List Ou
 deriving DecidableEq, Inhabited
def hb0 : Hb := ⟨0, [], [], []⟩
def b5g (v : Int) : Prop := 0 ≤ v ∧ v ≤ 1
def c7x (v : Int) : Prop := 0 ≤ v ∧ v ≤ 999
instance (v : Int) : Decidable (b5g v) := by unfold b5g; infer_instance
instance (v : Int) : Decidable (c7x v) := by unfold c7x; infer_instance

def c8r (o : Op_) : Prop :=
 ((o.do' = 1 ∨ o.do' = 3) ∧ b5g o.a ∧ c7x o.b ∧ o.c = 0 ∧ o.d = 0) ∨ (o.do' = 2 ∧ b5g o.a ∧ b5g o.b ∧ o.c = 0 ∧ o.d = 0) ∨
 ((o.do' = 4 ∨ o.do' = 7) ∧ b5g o.a ∧ o.b = 0 ∧ o.c = 0 ∧ o.d = 0) ∨ (o.do' = 5 ∧ b5g o.a ∧ c7x o.b ∧ (1 ≤ o.c ∧ o.c ≤ 8) ∧ o.d = 0) ∨
 (o.do' = 6 ∧ (0 ≤ o.a ∧ o.a ≤ 3) ∧ (0 ≤ o.b ∧ o.b ≤ 3) ∧ (1 ≤ o.c ∧ o.c ≤ 40) ∧ b5g o.d)
instance (o : Op_) : Decidable (c8r o) := by unfold c8r; infer_instance
def c7l (l : List Op_) : Nat := (l.filter fun o => decide (o.do' = 6)).length
def c8s (l : List Op_) : Nat := (l.filter fun o => decide (o.do' = 7)).length
def d0a (r : Ru) : Prop := (∀ o ∈ r.ops, c8r o) ∧ r.ops.length ≤ 8 ∧ c7l r.ops ≤ 2 ∧ c8s r.ops ≤ 2

def c8t (l : List Ru) : Prop := ∀ (i : Nat) r, l[i]? = some r → (0 ≤ r.kind ∧ r.kind ≤ 3) ∧ d0a r ∧ ∀ p, 0 < i → l[i - 1]? = some p → p.kind < r.kind
def d0b (a : Ap) : Prop := a.rules.length ≤ 4 ∧ c8t a.rules
def c7m (l : List Ap) : Prop := l.length = 4 ∧ ∀ a ∈ l, d0b a
end
section

def a3z (l : List Int) : Prop := (l.length = 0 ∨ l.length = 3) ∧ ∀ v ∈ l, 0 ≤ v ∧ v ≤ 9999
instance (l : List Int) : Decidable (a3z l) := by unfold a3z; infer_instance
def r6r (w : Wo) : Prop := (1 ≤ w.kind ∧ w.kind ≤ 7) ∧ (0 ≤ w.from' ∧ w.from' ≤ 2) ∧ (0 ≤ w.to ∧ w.to ≤ 2) ∧ (0 ≤ w.inc ∧ w.inc ≤ 9999) ∧ (0 ≤ w.version ∧ w.version ≤ 9999) ∧ (0 ≤ w.round ∧ w.round ≤ 9999) ∧ (0 ≤ w.g ∧ w.g ≤ 41)
instance (w : Wo) : Decidable (r6r w) := by unfold r6r; infer_instance
def s9s (w : Wo) : Prop := r6r w ∧ a3z w.incs ∧ a3z w.versions ∧ a6m okE a3m w.events 100 = true ∧ a6m okO a7g w.outs 96 = true
instance (w : Wo) : Decidable (s9s w) := by unfold s9s; infer_instance

def c6d (l : List Wo) (kind : Int) : Prop := ∀ (i : Nat) w, l[i]? = some w → s9s w ∧ w.kind = kind ∧ ∀ p, 0 < i → l[i - 1]? = some p → p.from' < w.from'
def c8u (w : Wo) : Prop := w.incs.length = 3 ∧ w.versions.length = 3
def c8v (h : Hb) : Prop := (0 ≤ h.round ∧ h.round ≤ 9999) ∧ c6d h.ones 3 ∧ c6d h.twos 5 ∧ c6d h.outs 7 ∧ ∀ w ∈ h.ones, c8u w

def wob (w : Wo) : Prop := w.incs.length ≤ 1000000 ∧ w.versions.length ≤ 1000000 ∧ w.events.length ≤ 1000000 ∧ w.outs.length ≤ 1000000

def c3v (n : Nd) (w : Wo) : Prop := n.up = true ∧ s9s w ∧ w.to = n.id ∧ ¬ w.from' = n.id
instance (n : Nd) (w : Wo) : Decidable (c3v n w) := by unfold c3v; infer_instance
def c1j (n : Nd) : Prop := n.id = 0 ∧ n.up = true ∧ n.led < 9999 ∧ n.round < n.led + 1
instance (n : Nd) : Decidable (c1j n) := by unfold c1j; infer_instance
def b5h (n : Nd) (w : Wo) : Prop := n.id = 0 ∧ n.up = true ∧ s9s w ∧ w.to = 0 ∧ ¬ w.from' = 0
instance (n : Nd) (w : Wo) : Decidable (b5h n w) := by unfold b5h; infer_instance
def c9m (h : Hb) (w : Wo) : Prop := w.round = h.round ∧ ¬ w.incs.length = 0 ∧ ¬ w.versions.length = 0 ∧ h.ones.length < 3
instance (h : Hb) (w : Wo) : Decidable (c9m h w) := by unfold c9m; infer_instance
def c9n (h : Hb) (w : Wo) : Prop := w.round = h.round ∧ 3 ≤ h.ones.length ∧ h.twos.length < 3
instance (h : Hb) (w : Wo) : Decidable (c9n h w) := by unfold c9n; infer_instance
end
section
structure Te where
 kind : Int
 node : Int
 proc : Int
 word : Int
 keep : Bool
 deriving DecidableEq, Inhabited

structure Sm where
 w : Tw
 list : List Te
 p : Nat
def d0c (x : Wo) : Prop := (0 ≤ x.to ∧ x.to ≤ 2) ∧ wob x
end
section
def paT (p : Pa) : Prop := ∀ q ∈ p.outs, q.time = p.ev.time
def d0e (n : Nd) : Prop := ∀ l ∈ n.lanes, ∀ p ∈ l.done, paT p
def ndI (n : Nd) : Prop := c7i n ∧ d0e n
def d0f (w : Tw) : Prop := c7m w.apps ∧ w.nodes.length = 3 ∧ (∀ n ∈ w.nodes, ndI n) ∧ w.radio.length ≤ 40 ∧ (∀ x ∈ w.radio, d0c x) ∧ c8v w.hub ∧ w.sink.length ≤ 1000000
def smOk (S : Sm) (c : Nat) : Prop := d0f S.w ∧ S.list.length ≤ c ∧ S.p ≤ c
theorem smOk.mono {S : Sm} {c d : Nat} (h : smOk S c) (hd : c ≤ d) : smOk S d := ⟨h.1, by have := h.2.1; omega, by have := h.2.2; omega⟩
end
section
theorem c8w (bs : List Nat) (p n : Nat) : pk bs p n ≤ n := by
 rcases Nat.eq_zero_or_pos n with h | h
 ·subst h; unfold pk; rw [if_pos (.inl (by omega))]; exact Nat.le_refl _
 ·exact Nat.le_of_lt (a1n bs p n h)
end
section
theorem b0x (bs : List Nat) (hbs : ∀ b ∈ bs, b < 256) (p0 : Nat) (hp : p0 + 10 ≤ 100000000) : MethE Try.prog 80 1 [.ptr 0 0 0] [(0, (0, .box 76 [v5v true bs, .pv (.int .i64 ((p0 : Nat) : Int))]))] (ι := Ev × Nat) (fun S' => S'.2 ≤ p0 + 10) (fun S' => [0]) (fun S' => .agg (a0i S'.1)) (fun S' => [(0, (0, .box 76 [v5v true bs, .pv (.int .i64 ((S'.2 : Nat) : Int))]))]) := by
 refine a1q x9x (fn := Try.f80) (by kernel_rfl) (by kernel_rfl) rfl (ι := Ev × Nat) (OF := fun S' => [.agg (a0i S'.1)]) 1 5 (u3u rfl) (by rfl) (fun _ _ => by rfl) (by repeat (first | exact BndH.nil | refine BndH.box rfl ?_)) (fun _ _ => (by repeat (first | exact BndH.nil | refine BndH.box rfl ?_))) (fun _ _ => by rfl) fun γ => ?_
 show Ex Try.prog _ _ [(0, .ptr 0 (γ 0) 0)] [(0, ((γ 0), .box 76 [v5v true bs, .pv (.int .i64 ((p0 : Nat) : Int))])), (5, (0, .dead)), (4, (0, .dead)), (3, (0, .dead)), (2, (0, .dead)), (1, (0, .dead))] _
 refine x7x x9x (by rfl) ?_
 refine q0q (id := 1) v1v b2r rfl ?_
 refine x7x x9x (by rfl) ?_
 refine x0x rfl ?_
 refine z1z [0] [_] (y4y true bs (p0) (41) (by have := hp; omega) hbs) rfl rfl rfl (by decide) rfl rfl (by repeat (first | exact InH.nil | refine InH.cons rfl ?_)) (by (simp only [pI, y2y, y3y, v4v, gl, nx, v2v, Nat.beq]; rfl)) (by (simp only [pI, y2y, y3y, v4v, gl, nx, v2v, Nat.beq]; rfl)) ?_
 refine x0x rfl ?_
 refine z1z [0] [_] (y4y true bs (p0 + 1) (4) (by have := hp; omega) hbs) rfl rfl rfl (by decide) rfl rfl (by repeat (first | exact InH.nil | refine InH.cons rfl ?_)) (by (simp only [pI, y2y, y3y, v4v, gl, nx, v2v, Nat.beq]; rfl)) (by (simp only [pI, y2y, y3y, v4v, gl, nx, v2v, Nat.beq]; rfl)) ?_
 refine x0x rfl ?_
 refine z1z [0] [_] (y4y true bs (p0 + 1 + 1) (5) (by have := hp; omega) hbs) rfl rfl rfl (by decide) rfl rfl (by repeat (first | exact InH.nil | refine InH.cons rfl ?_)) (by (simp only [pI, y2y, y3y, v4v, gl, nx, v2v, Nat.beq]; rfl)) (by (simp only [pI, y2y, y3y, v4v, gl, nx, v2v, Nat.beq]; rfl)) ?_
 have h5 := a1n bs (p0 + 1 + 1) 5 (by omega)
 refine u5u (.int .i64 ((pk bs (p0 + 1 + 1) 5 : Int) - 1)) rfl rfl rfl (q3q rfl (by omega) (by omega) (by omega)) ?_
 refine x0x rfl ?_
 refine z1z [0] [_] (y4y true bs (p0 + 1 + 1 + 1) (13) (by have := hp; omega) hbs) rfl rfl rfl (by decide) rfl rfl (by repeat (first | exact InH.nil | refine InH.cons rfl ?_)) (by (simp only [pI, y2y, y3y, v4v, gl, nx, v2v, Nat.beq]; rfl)) (by (simp only [pI, y2y, y3y, v4v, gl, nx, v2v, Nat.beq]; rfl)) ?_
 refine x0x rfl ?_
 refine z1z [0] [_] (y4y true bs (p0 + 1 + 1 + 1 + 1) (3) (by have := hp; omega) hbs) rfl rfl rfl (by decide) rfl rfl (by repeat (first | exact InH.nil | refine InH.cons rfl ?_)) (by (simp only [pI, y2y, y3y, v4v, gl, nx, v2v, Nat.beq]; rfl)) (by (simp only [pI, y2y, y3y, v4v, gl, nx, v2v, Nat.beq]; rfl)) ?_
 refine x0x rfl ?_
 refine z1z [0] [_] (y4y true bs (p0 + 1 + 1 + 1 + 1 + 1) (3) (by have := hp; omega) hbs) rfl rfl rfl (by decide) rfl rfl (by repeat (first | exact InH.nil | refine InH.cons rfl ?_)) (by (simp only [pI, y2y, y3y, v4v, gl, nx, v2v, Nat.beq]; rfl)) (by (simp only [pI, y2y, y3y, v4v, gl, nx, v2v, Nat.beq]; rfl)) ?_
 refine x0x rfl ?_
 refine z1z [0] [_] (y4y true bs (p0 + 1 + 1 + 1 + 1 + 1 + 1) (40) (by have := hp; omega) hbs) rfl rfl rfl (by decide) rfl rfl (by repeat (first | exact InH.nil | refine InH.cons rfl ?_)) (by (simp only [pI, y2y, y3y, v4v, gl, nx, v2v, Nat.beq]; rfl)) (by (simp only [pI, y2y, y3y, v4v, gl, nx, v2v, Nat.beq]; rfl)) ?_
 refine r3r v1v rfl b2r rfl (by simp only [pI, a0v, p2p, AV.okc, AV.one, T3, T4, List.getElem?_cons_zero, List.getElem?_cons_succ, List.take_succ_cons, List.take_zero, List.drop_succ_cons, List.drop_zero, List.cons_append, List.nil_append, List.length_cons, List.length_nil, if_true, and_self, Nat.reduceAdd, Nat.reduceLeDiff]; rfl) ?_
 refine q0q (id := 2) v1v b2r rfl ?_
 refine u2u rfl rfl v1v rfl rfl rfl rfl ?_
 refine b0j (ι := Ev × Nat) (fun s γ1 => []) (fun s γ1 => [(0, ((γ 0), .box 76 [v5v true bs, .pv (.int .i64 ((s.2 : Nat) : Int))])), (2, ((0 + 1), .box 81 (a0i s.1))), (3, ((γ1 3), .dead)), (4, ((γ1 4), .dead)), (5, ((γ1 5), .dead))]) (fun s => s.2 ≤ p0 + 10) (x5x 2 rfl (x5x 3 rfl Cov.nil)) (z2z 1 rfl HE.nil) ?_ fun s γ1 hi => ?_
 ·refine x7x x9x (by rfl) ?_
  refine x0x rfl ?_
  refine z1z [0] [_] (y4y true bs (p0 + 1 + 1 + 1 + 1 + 1 + 1 + 1) (20) (by have := hp; omega) hbs) rfl rfl rfl (by decide) rfl rfl (by repeat (first | exact InH.nil | refine InH.cons rfl ?_)) (by (simp only [pI, y2y, y3y, v4v, gl, nx, v2v, Nat.beq]; rfl)) (by (simp only [pI, y2y, y3y, v4v, gl, nx, v2v, Nat.beq]; rfl)) ?_
  refine y7y ?_
  refine x7x x9x (by rfl) ?_
  refine z0z rfl rfl rfl ?_
  refine x2x rfl ?_
  refine y1y rfl (fun hc1 => ?_) (fun hc1 => ?_)
  ·try simp at hc1
   refine y0y x9x (by rfl) ?_
   refine u0u (id := 3) u1u rfl y5y rfl rfl rfl rfl (.val rfl rfl (.val rfl rfl (.val rfl rfl .nil))) rfl (u3u rfl) (u3u rfl) (u3u rfl) rfl rfl ?_
   refine x0x rfl ?_
   refine z1z [0] [_] (y4y true bs (p0 + 1 + 1 + 1 + 1 + 1 + 1 + 1 + 1) (3) (by have := hp; omega) hbs) rfl rfl rfl (by decide) rfl rfl (by repeat (first | exact InH.nil | refine InH.cons rfl ?_)) (by (simp only [pI, y2y, y3y, v4v, gl, nx, v2v, Nat.beq]; rfl)) (by (simp only [pI, y2y, y3y, v4v, gl, nx, v2v, Nat.beq]; rfl)) ?_
   obtain ⟨z, ez, hz⟩ : ∃ z, pk bs (p0 + 1 + 1 + 1 + 1 + 1 + 1 + 1 + 1) 3 = z ∧ z < 3 := ⟨_, rfl, a1n _ _ _ (by omega)⟩
   rw [ez]
   obtain ⟨v, hv⟩ : ∃ x, ([-1, 40, 41] : List Int)[z]? = some x := ⟨_, List.getElem?_eq_getElem hz⟩
   refine w6w (f := fun x : Int => [pI x]) (l := [-1, 40, 41]) (j := z) rfl rfl u1u rfl y5y rfl rfl hz ?_
   refine w8w (f := fun x : Int => [pI x]) (l := [-1, 40, 41]) rfl y5y rfl hv rfl ?_
   refine x1x rfl v1v rfl rfl y5y rfl rfl ?_
   refine z8z rfl rfl y5y rfl rfl rfl rfl rfl (by simp only [a2b]; rfl) ?_
   exact ⟨({ (⟨(pk bs (p0) 41 : Int), (pk bs (p0 + 1) 4 : Int), (pk bs (p0 + 1 + 1) 5 : Int) - 1, (pk bs (p0 + 1 + 1 + 1) 13 : Int), (pk bs (p0 + 1 + 1 + 1 + 1) 3 : Int), (pk bs (p0 + 1 + 1 + 1 + 1 + 1) 3 : Int), (pk bs (p0 + 1 + 1 + 1 + 1 + 1 + 1) 40 : Int)⟩ : Ev) with time := v }, p0 + 1 + 1 + 1 + 1 + 1 + 1 + 1 + 1 + 1), (by show p0 + 1 + 1 + 1 + 1 + 1 + 1 + 1 + 1 + 1 ≤ _; omega), [0, 0, 0, _, _, _], Cov.nil, (x5x 2 rfl (x5x 3 rfl Cov.nil)), (HE.box rfl rfl (HE.box rfl rfl (HE.kill rfl (HE.kill rfl (HE.kill rfl HE.nil))))), (z2z 1 rfl HE.nil), rfl⟩
  try simp at hc1
  refine x7x x9x (by rfl) ?_
  refine z0z rfl rfl rfl ?_
  refine x2x rfl ?_
  refine y1y rfl (fun hc2 => ?_) (fun hc2 => ?_)
  ·try simp at hc2
   refine y0y x9x (by rfl) ?_
   refine u0u (id := 4) u1u rfl y5y rfl rfl rfl rfl (.val rfl rfl (.val rfl rfl .nil)) rfl (u3u rfl) (u3u rfl) (u3u rfl) rfl rfl ?_
   refine x0x rfl ?_
   refine z1z [0] [_] (y4y true bs (p0 + 1 + 1 + 1 + 1 + 1 + 1 + 1 + 1) (2) (by have := hp; omega) hbs) rfl rfl rfl (by decide) rfl rfl (by repeat (first | exact InH.nil | refine InH.cons rfl ?_)) (by (simp only [pI, y2y, y3y, v4v, gl, nx, v2v, Nat.beq]; rfl)) (by (simp only [pI, y2y, y3y, v4v, gl, nx, v2v, Nat.beq]; rfl)) ?_
   obtain ⟨z, ez, hz⟩ : ∃ z, pk bs (p0 + 1 + 1 + 1 + 1 + 1 + 1 + 1 + 1) 2 = z ∧ z < 2 := ⟨_, rfl, a1n _ _ _ (by omega)⟩
   rw [ez]
   obtain ⟨v, hv⟩ : ∃ x, ([-1, 4] : List Int)[z]? = some x := ⟨_, List.getElem?_eq_getElem hz⟩
   refine w6w (f := fun x : Int => [pI x]) (l := [-1, 4]) (j := z) rfl rfl u1u rfl y5y rfl rfl hz ?_
   refine w8w (f := fun x : Int => [pI x]) (l := [-1, 4]) rfl y5y rfl hv rfl ?_
   refine x1x rfl v1v rfl rfl y5y rfl rfl ?_
   refine z8z rfl rfl y5y rfl rfl rfl rfl rfl (by simp only [a2b]; rfl) ?_
   exact ⟨({ (⟨(pk bs (p0) 41 : Int), (pk bs (p0 + 1) 4 : Int), (pk bs (p0 + 1 + 1) 5 : Int) - 1, (pk bs (p0 + 1 + 1 + 1) 13 : Int), (pk bs (p0 + 1 + 1 + 1 + 1) 3 : Int), (pk bs (p0 + 1 + 1 + 1 + 1 + 1) 3 : Int), (pk bs (p0 + 1 + 1 + 1 + 1 + 1 + 1) 40 : Int)⟩ : Ev) with to := v }, p0 + 1 + 1 + 1 + 1 + 1 + 1 + 1 + 1 + 1), (by show p0 + 1 + 1 + 1 + 1 + 1 + 1 + 1 + 1 + 1 ≤ _; omega), [0, 0, 0, _, _, _], Cov.nil, (x5x 2 rfl (x5x 3 rfl Cov.nil)), (HE.box rfl rfl (HE.box rfl rfl (HE.kill rfl (HE.kill rfl (HE.kill rfl HE.nil))))), (z2z 1 rfl HE.nil), rfl⟩
  try simp at hc2
  refine x7x x9x (by rfl) ?_
  refine z0z rfl rfl rfl ?_
  refine x2x rfl ?_
  refine y1y rfl (fun hc3 => ?_) (fun hc3 => ?_)
  rotate_left
  ·try simp at hc3
   refine y8y ?_
   exact ⟨((⟨(pk bs (p0) 41 : Int), (pk bs (p0 + 1) 4 : Int), (pk bs (p0 + 1 + 1) 5 : Int) - 1, (pk bs (p0 + 1 + 1 + 1) 13 : Int), (pk bs (p0 + 1 + 1 + 1 + 1) 3 : Int), (pk bs (p0 + 1 + 1 + 1 + 1 + 1) 3 : Int), (pk bs (p0 + 1 + 1 + 1 + 1 + 1 + 1) 40 : Int)⟩ : Ev), p0 + 1 + 1 + 1 + 1 + 1 + 1 + 1 + 1), (by show p0 + 1 + 1 + 1 + 1 + 1 + 1 + 1 + 1 ≤ _; omega), [0, 0, 0, _, _, _], Cov.nil, (x5x 2 rfl (x5x 3 rfl Cov.nil)), (HE.box rfl rfl (HE.box rfl rfl (HE.kill rfl (HE.kill rfl (HE.kill rfl HE.nil))))), (z2z 1 rfl HE.nil), rfl⟩
  try simp at hc3
  refine y0y x9x (by rfl) ?_
  refine u0u (id := 5) u1u rfl y5y rfl rfl rfl rfl (.val rfl rfl (.val rfl rfl (.val rfl rfl .nil))) rfl (u3u rfl) (u3u rfl) (u3u rfl) rfl rfl ?_
  refine x0x rfl ?_
  refine z1z [0] [_] (y4y true bs (p0 + 1 + 1 + 1 + 1 + 1 + 1 + 1 + 1) (3) (by have := hp; omega) hbs) rfl rfl rfl (by decide) rfl rfl (by repeat (first | exact InH.nil | refine InH.cons rfl ?_)) (by (simp only [pI, y2y, y3y, v4v, gl, nx, v2v, Nat.beq]; rfl)) (by (simp only [pI, y2y, y3y, v4v, gl, nx, v2v, Nat.beq]; rfl)) ?_
  obtain ⟨z, ez, hz⟩ : ∃ z, pk bs (p0 + 1 + 1 + 1 + 1 + 1 + 1 + 1 + 1) 3 = z ∧ z < 3 := ⟨_, rfl, a1n _ _ _ (by omega)⟩
  rw [ez]
  obtain ⟨v, hv⟩ : ∃ x, ([-1, 999, 1000] : List Int)[z]? = some x := ⟨_, List.getElem?_eq_getElem hz⟩
  refine w6w (f := fun x : Int => [pI x]) (l := [-1, 999, 1000]) (j := z) rfl rfl u1u rfl y5y rfl rfl hz ?_
  refine w8w (f := fun x : Int => [pI x]) (l := [-1, 999, 1000]) rfl y5y rfl hv rfl ?_
  refine x1x rfl v1v rfl rfl y5y rfl rfl ?_
  refine z8z rfl rfl y5y rfl rfl rfl rfl rfl (by simp only [a2b]; rfl) ?_
  exact ⟨({ (⟨(pk bs (p0) 41 : Int), (pk bs (p0 + 1) 4 : Int), (pk bs (p0 + 1 + 1) 5 : Int) - 1, (pk bs (p0 + 1 + 1 + 1) 13 : Int), (pk bs (p0 + 1 + 1 + 1 + 1) 3 : Int), (pk bs (p0 + 1 + 1 + 1 + 1 + 1) 3 : Int), (pk bs (p0 + 1 + 1 + 1 + 1 + 1 + 1) 40 : Int)⟩ : Ev) with arg := v }, p0 + 1 + 1 + 1 + 1 + 1 + 1 + 1 + 1 + 1), (by show p0 + 1 + 1 + 1 + 1 + 1 + 1 + 1 + 1 + 1 ≤ _; omega), [0, 0, 0, _, _, _], Cov.nil, (x5x 2 rfl (x5x 3 rfl Cov.nil)), (HE.box rfl rfl (HE.box rfl rfl (HE.kill rfl (HE.kill rfl (HE.kill rfl HE.nil))))), (z2z 1 rfl HE.nil), rfl⟩
 ·try dsimp only [List.cons_append, List.nil_append]
  refine x7x x9x (by rfl) ?_
  refine z3z rfl v1v rfl rfl rfl ?_
  refine u2u rfl rfl v1v rfl rfl rfl rfl ?_
  refine y6y ?_
  exact ⟨.inr rfl, s, hi, [γ 0], rfl, rfl, HE.box rfl rfl HE.nil⟩
theorem a7q (bs : List Nat) (hbs : ∀ b ∈ bs, b < 256) (p0 : Nat) (hp : p0 + 10 ≤ 100000000) : MethE Try.prog 57 1 [.ptr 0 0 0] [(0, (0, .box 76 [v5v true bs, .pv (.int .i64 ((p0 : Nat) : Int))]))] (ι := Ou × Nat) (fun S' => S'.2 ≤ p0 + 5) (fun S' => [0]) (fun S' => .agg (a2c S'.1)) (fun S' => [(0, (0, .box 76 [v5v true bs, .pv (.int .i64 ((S'.2 : Nat) : Int))]))]) := by
 refine a1q x9x (fn := Try.f57) (by kernel_rfl) (by kernel_rfl) rfl (ι := Ou × Nat) (OF := fun S' => [.agg (a2c S'.1)]) 1 1 (u3u rfl) (by rfl) (fun _ _ => by rfl) (by repeat (first | exact BndH.nil | refine BndH.box rfl ?_)) (fun _ _ => (by repeat (first | exact BndH.nil | refine BndH.box rfl ?_))) (fun _ _ => by rfl) fun γ => ?_
 show Ex Try.prog _ _ [(0, .ptr 0 (γ 0) 0)] [(0, ((γ 0), .box 76 [v5v true bs, .pv (.int .i64 ((p0 : Nat) : Int))])), (1, (0, .dead))] _
 refine x7x x9x (by rfl) ?_
 refine q0q (id := 1) v8v b4o rfl ?_
 refine x7x x9x (by rfl) ?_
 refine x0x rfl ?_
 refine z1z [0] [_] (y4y true bs (p0) (6) (by have := hp; omega) hbs) rfl rfl rfl (by decide) rfl rfl (by repeat (first | exact InH.nil | refine InH.cons rfl ?_)) (by (simp only [pI, y2y, y3y, v4v, gl, nx, v2v, Nat.beq]; rfl)) (by (simp only [pI, y2y, y3y, v4v, gl, nx, v2v, Nat.beq]; rfl)) ?_
 refine x0x rfl ?_
 refine z1z [0] [_] (y4y true bs (p0 + 1) (4) (by have := hp; omega) hbs) rfl rfl rfl (by decide) rfl rfl (by repeat (first | exact InH.nil | refine InH.cons rfl ?_)) (by (simp only [pI, y2y, y3y, v4v, gl, nx, v2v, Nat.beq]; rfl)) (by (simp only [pI, y2y, y3y, v4v, gl, nx, v2v, Nat.beq]; rfl)) ?_
 refine x0x rfl ?_
 refine z1z [0] [_] (y4y true bs (p0 + 1 + 1) (3) (by have := hp; omega) hbs) rfl rfl rfl (by decide) rfl rfl (by repeat (first | exact InH.nil | refine InH.cons rfl ?_)) (by (simp only [pI, y2y, y3y, v4v, gl, nx, v2v, Nat.beq]; rfl)) (by (simp only [pI, y2y, y3y, v4v, gl, nx, v2v, Nat.beq]; rfl)) ?_
 refine x0x rfl ?_
 refine z1z [0] [_] (y4y true bs (p0 + 1 + 1 + 1) (2) (by have := hp; omega) hbs) rfl rfl rfl (by decide) rfl rfl (by repeat (first | exact InH.nil | refine InH.cons rfl ?_)) (by (simp only [pI, y2y, y3y, v4v, gl, nx, v2v, Nat.beq]; rfl)) (by (simp only [pI, y2y, y3y, v4v, gl, nx, v2v, Nat.beq]; rfl)) ?_
 refine x0x rfl ?_
 refine z1z [0] [_] (y4y true bs (p0 + 1 + 1 + 1 + 1) (4) (by have := hp; omega) hbs) rfl rfl rfl (by decide) rfl rfl (by repeat (first | exact InH.nil | refine InH.cons rfl ?_)) (by (simp only [pI, y2y, y3y, v4v, gl, nx, v2v, Nat.beq]; rfl)) (by (simp only [pI, y2y, y3y, v4v, gl, nx, v2v, Nat.beq]; rfl)) ?_
 refine r3r v8v rfl b4o rfl (by simp only [pI, a0v, p2p, AV.okc, AV.one, T3, T4, List.getElem?_cons_zero, List.getElem?_cons_succ, List.take_succ_cons, List.take_zero, List.drop_succ_cons, List.drop_zero, List.cons_append, List.nil_append, List.length_cons, List.length_nil, if_true, and_self, Nat.reduceAdd, Nat.reduceLeDiff]; rfl) ?_
 refine u2u rfl rfl v8v rfl rfl rfl rfl ?_
 refine y6y ?_
 exact ⟨.inr rfl, ((⟨(pk bs (p0) 6 : Int), (pk bs (p0 + 1) 4 : Int), (pk bs (p0 + 1 + 1) 3 : Int), (pk bs (p0 + 1 + 1 + 1) 2 : Int), (pk bs (p0 + 1 + 1 + 1 + 1) 4 : Int)⟩ : Ou), p0 + 1 + 1 + 1 + 1 + 1), (by show p0 + 1 + 1 + 1 + 1 + 1 ≤ _; omega), [γ 0], rfl, rfl, HE.box rfl rfl HE.nil⟩
theorem a9e (bs : List Nat) (hbs : ∀ b ∈ bs, b < 256) (p0 m : Nat) (hm : m ≤ 1000) (hp : p0 + 1 + 13 * m ≤ 100000000) : MethE Try.prog 55 1 [.ptr 0 0 0, .pv (.int .i64 (m : Int))] [(0, (0, .box 76 [v5v true bs, .pv (.int .i64 ((p0 : Nat) : Int))]))] (ι := List Ev × Nat) (fun S' => S'.1.length ≤ m ∧ S'.2 ≤ p0 + 1 + 13 * m) (fun S' => [0]) (fun S' => a7x true S'.1) (fun S' => [(0, (0, .box 76 [v5v true bs, .pv (.int .i64 ((S'.2 : Nat) : Int))]))]) := by
 refine a1q x9x (fn := Try.f55) (by kernel_rfl) (by kernel_rfl) rfl (ι := List Ev × Nat) (OF := fun S' => [a7x true S'.1]) 1 4 (u3u rfl) (by rfl) (fun _ _ => by rfl) (by repeat (first | exact BndH.nil | refine BndH.box rfl ?_)) (fun _ _ => (by repeat (first | exact BndH.nil | refine BndH.box rfl ?_))) (fun _ _ => by rfl) fun γ => ?_
 show Ex Try.prog _ _ [(0, .ptr 0 (γ 0) 0), (1, .pv (.int .i64 (m : Int)))] [(0, ((γ 0), .box 76 [v5v true bs, .pv (.int .i64 ((p0 : Nat) : Int))])), (4, (0, .dead)), (3, (0, .dead)), (2, (0, .dead)), (1, (0, .dead))] _
 refine x7x x9x (by rfl) ?_
 refine x2x rfl ?_
 refine x7x x9x (by rfl) ?_
 refine a1x (id := 1) w2w rfl v1v rfl ?_
 refine x2x rfl ?_
 refine x8x fun K1 hK1 => ?_
 refine x7x x9x (by rfl) ?_
 refine x0x rfl ?_
 refine x0x rfl ?_
 refine z1z [0] [_] (y4y true bs (p0) (m) (by have := hp; omega) hbs) rfl rfl rfl (by decide) rfl rfl (by repeat (first | exact InH.nil | refine InH.cons rfl ?_)) (by (simp only [pI, y2y, y3y, v4v, gl, nx, v2v, Nat.beq]; rfl)) (by (simp only [pI, y2y, y3y, v4v, gl, nx, v2v, Nat.beq]; rfl)) ?_
 refine x2x rfl ?_
 obtain ⟨N, eN, hN⟩ : ∃ N, pk bs p0 m = N ∧ N ≤ m := ⟨_, rfl, c8w _ _ _⟩
 rw [eN]
 refine y7y ?_
 refine v9v (ι := List Ev × Nat × Nat) (fun p γ1 => [(5, .ref 1 (γ1 1)), (6, .pv (.int .i64 (p.2.2 : Int)))]) (fun p γ1 => [(1, ((γ1 1), .row 81 7 ((p.1).map a0i))), (0, ((γ 0), .box 76 [v5v true bs, .pv (.int .i64 ((p.2.1 : Nat) : Int))])), (2, ((γ1 2), .dead)), (3, ((γ1 3), .dead)), (4, ((γ1 4), .dead))]) (fun p => p.1.length + p.2.2 ≤ N ∧ p.2.1 + 13 * p.2.2 ≤ p0 + 1 + 13 * N) (fun p => p.2.2) (x5x 0 rfl Cov.nil) HE.nil ([], p0 + 1, N) ⟨Nat.le_of_eq (Nat.zero_add _), Nat.le_refl _⟩ [0, _, _, _, _] (x5x 5 rfl (x5x 6 rfl Cov.nil)) (HE.row rfl (by rfl) (HE.box rfl rfl (HE.kill rfl (HE.kill rfl (HE.kill rfl HE.nil))))) rfl fun p γ1 hi => ?_
 try dsimp only [List.cons_append, List.nil_append]
 obtain ⟨l, q, n⟩ := p
 obtain ⟨h1, h2⟩ := hi
 dsimp only at h1 h2 ⊢
 refine x8x fun K2 hK2 => ?_
 refine x7x x9x (by rfl) ?_
 refine x0x rfl ?_
 refine z0z rfl rfl rfl ?_
 refine y1y rfl (fun hc3 => ?_) (fun hc3 => ?_)
 rotate_left
 ·try simp at hc3
  refine v7v ?_
  refine hK1 _ _ ?_
  clear hK2 K2 hK1 K1
  refine a0z (f := a0i) 5 rfl rfl (fun _ => rfl) ?_
  refine x7x x9x (by rfl) ?_
  refine x0x rfl ?_
  refine x2x rfl ?_
  refine y6y ?_
  exact ⟨.inr rfl, (l, q), ⟨by show l.length ≤ m; omega, by show q ≤ p0 + 1 + 13 * m; omega⟩, [γ 0], rfl, rfl, HE.box rfl rfl HE.nil⟩
 try simp at hc3
 obtain ⟨n', rfl⟩ : ∃ n', n = n' + 1 := ⟨n - 1, by omega⟩
 refine y8y ?_
 refine hK2 _ _ ?_
 clear hK2 K2
 refine x8x fun K4 hK4 => ?_
 refine y7y ?_
 refine c1h fun B X0 w0 => ?_
 refine a2p x9x (by rfl) 1 rfl rfl ?_
 refine x0x rfl ?_
 refine a5k [0] [_] (b0x bs hbs q (by omega)) rfl rfl rfl rfl rfl (by decide) rfl rfl (by repeat (first | exact InH.nil | refine InH.cons rfl ?_)) (fun _ => (by (simp only [pI, y2y, y3y, v4v, gl, nx, v2v, Nat.beq]; rfl))) (fun _ => (by (simp only [pI, y2y, y3y, v4v, gl, nx, v2v, Nat.beq]; rfl))) fun e he => ?_
 refine a2p x9x (by rfl) 2 rfl rfl ?_
 refine q0q (id := 2) v1v b2r rfl ?_
 refine u2u rfl rfl v1v rfl rfl rfl rfl ?_
 refine b0u rfl ?_
 refine b0j (ι := Ev × Nat) (fun s γ2 => []) (fun s γ2 => [(0, ((γ 0), .box 76 [v5v true bs, .pv (.int .i64 ((s.2 : Nat) : Int))])), (2, ((γ1 2 + 1), .box 81 (a0i s.1)))]) (fun s => s.2 ≤ q + 13) (x5x 0 rfl (x5x 5 rfl (x5x 6 rfl (x5x 7 rfl Cov.nil)))) (z2z 1 rfl (z2z 3 rfl (z2z 4 rfl HE.nil))) ?_ fun s γ2 hi => ?_
 ·refine x7x x9x (by rfl) ?_
  refine x0x rfl ?_
  refine a2o (n := l.length) rfl w2w rfl rfl (List.length_map _) ?_
  refine z0z rfl rfl rfl ?_
  refine x0x rfl ?_
  refine a0d rfl rfl (fun hg5 => ?_) (fun hg5 => ?_)
  rotate_left
  ·try simp at hg5
   refine x4x rfl rfl ?_
   refine x4x rfl rfl ?_
   refine x6x rfl rfl ?_
   refine y1y rfl (fun hc7 => ?_) (fun hc7 => ?_)
   ·simp at hc7
   try simp at hc7
   refine y8y ?_
   exact ⟨(e.1, e.2), (by show e.2 ≤ _; omega), [], Cov.nil, (x5x 0 rfl (x5x 5 rfl (x5x 6 rfl (x5x 7 rfl Cov.nil)))), (HE.box rfl rfl (HE.box rfl rfl HE.nil)), (z2z 1 rfl (z2z 3 rfl (z2z 4 rfl HE.nil))), rfl⟩
  try simp at hg5
  refine x0x rfl ?_
  refine y9y rfl rfl ?_
  refine z1z [0] [_] (y4y true bs (e.2) (4) (by have := he; omega) hbs) rfl rfl rfl (by decide) rfl rfl (by repeat (first | exact InH.nil | refine InH.cons rfl ?_)) (by (simp only [pI, y2y, y3y, v4v, gl, nx, v2v, Nat.beq]; rfl)) (by (simp only [pI, y2y, y3y, v4v, gl, nx, v2v, Nat.beq]; rfl)) ?_
  refine y9y rfl rfl ?_
  refine z0z rfl rfl rfl ?_
  refine z4z rfl rfl ?_
  refine y1y rfl (fun hc6 => ?_) (fun hc6 => ?_)
  rotate_left
  ·try simp at hc6
   refine y8y ?_
   exact ⟨(e.1, e.2 + 1), (by show e.2 + 1 ≤ _; omega), [], Cov.nil, (x5x 0 rfl (x5x 5 rfl (x5x 6 rfl (x5x 7 rfl Cov.nil)))), (HE.box rfl rfl (HE.box rfl rfl HE.nil)), (z2z 1 rfl (z2z 3 rfl (z2z 4 rfl HE.nil))), rfl⟩
  try simp at hc6
  refine x7x x9x (by rfl) ?_
  refine x0x rfl ?_
  refine x0x rfl ?_
  refine x0x rfl ?_
  refine a2o (n := l.length) rfl w2w rfl rfl (List.length_map _) ?_
  refine z1z [0] [_] (y4y true bs (e.2 + 1) (l.length) (by have := he; omega) hbs) rfl rfl rfl (by decide) rfl rfl (by repeat (first | exact InH.nil | refine InH.cons rfl ?_)) (by (simp only [pI, y2y, y3y, v4v, gl, nx, v2v, Nat.beq]; rfl)) (by (simp only [pI, y2y, y3y, v4v, gl, nx, v2v, Nat.beq]; rfl)) ?_
  obtain ⟨z, ez, hz⟩ : ∃ z, pk bs (e.2 + 1) l.length = z ∧ z < l.length := ⟨_, rfl, a1n _ _ _ (by omega)⟩
  rw [ez]
  obtain ⟨v, hv⟩ : ∃ v, l[z]? = some v := ⟨_, List.getElem?_eq_getElem hz⟩
  refine w6w (j := z) rfl rfl w2w rfl v1v rfl rfl hz ?_
  refine a4i rfl v1v rfl (by assumption) rfl rfl ?_
  refine u2u rfl rfl v1v rfl rfl rfl rfl ?_
  refine y0y x9x (by rfl) ?_
  refine x0x rfl ?_
  refine z1z [0] [_] (y4y true bs (e.2 + 1 + 1) (3) (by have := he; omega) hbs) rfl rfl rfl (by decide) rfl rfl (by repeat (first | exact InH.nil | refine InH.cons rfl ?_)) (by (simp only [pI, y2y, y3y, v4v, gl, nx, v2v, Nat.beq]; rfl)) (by (simp only [pI, y2y, y3y, v4v, gl, nx, v2v, Nat.beq]; rfl)) ?_
  refine x1x rfl v1v rfl rfl y5y rfl rfl ?_
  refine z8z rfl rfl y5y rfl rfl rfl rfl rfl (by simp only [a2b]; rfl) ?_
  exact ⟨({ v with n := (pk bs (e.2 + 1 + 1) 3 : Int) }, e.2 + 1 + 1 + 1), (by show e.2 + 1 + 1 + 1 ≤ _; omega), [], Cov.nil, (x5x 0 rfl (x5x 5 rfl (x5x 6 rfl (x5x 7 rfl Cov.nil)))), (HE.box rfl rfl (HE.box rfl rfl HE.nil)), (z2z 1 rfl (z2z 3 rfl (z2z 4 rfl HE.nil))), rfl⟩
 ·try dsimp only [List.cons_append, List.nil_append]
  refine y0y x9x (by rfl) ?_
  refine x0x rfl ?_
  refine z3z rfl v1v rfl rfl rfl ?_
  refine a0s (id := 3) w2w rfl v1v rfl rfl rfl rfl rfl rfl ?_
  refine r7r (zs := (l ++ [s.1]).map a0i) rfl rfl w2w rfl v1v rfl rfl rfl rfl (by rfl) (a1l a0i l s.1) (by (simp only [List.length_map, List.length_append, List.length_cons, List.length_nil, List.length_take, List.length_range, T81]; omega)) ?_
  refine x2x rfl ?_
  refine hK4 _ _ ?_
  clear hK4 K4
  refine y0y x9x (by rfl) ?_
  refine x0x rfl ?_
  refine a0w (b := 1) rfl rfl (by omega) (by omega) ?_
  refine x2x rfl ?_
  exact ⟨(l ++ [s.1], s.2, n'), ⟨⟨by show (l ++ [s.1]).length + n' ≤ N; rw [List.length_append]; show l.length + 1 + n' ≤ N; omega, by show s.2 + 13 * n' ≤ _; omega⟩, (by show n' < n' + 1; omega)⟩, [0, _, _, _, _], (x5x 5 rfl (x5x 6 rfl Cov.nil)), (x5x 0 rfl Cov.nil), (HE.row rfl (by rfl) (HE.box rfl rfl (HE.kill rfl (HE.kill rfl (HE.kill rfl HE.nil))))), HE.nil, rfl⟩
end
end Go.Proofs.Ytdelokimkggeaaa.Am
