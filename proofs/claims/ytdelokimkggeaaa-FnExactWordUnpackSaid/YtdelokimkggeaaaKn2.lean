/- Part 2 of the texts that the proof of LawFnExactWordUnpack leans on, merged by program. -/
import Derived.Test.YtdelokimkggeaaaKn1
set_option linter.unusedVariables false
set_option linter.unusedSimpArgs false
set_option maxHeartbeats 4000000
set_option autoImplicit true
set_option relaxedAutoImplicit true
namespace Go.Proofs.Ytdelokimkggeaaa.Am
open Go Go.RowKit
section
variable {P : Program}
theorem FinL.pvs : ∀ {l : List AV}, (l.all AV.cl) = true → FinL h l l h
 | [], _ => .nil
 | a :: l, hc => by
  rw [List.all_cons, Bool.and_eq_true] at hc
  exact .cl hc.1 (FinL.pvs hc.2)
theorem z0z {tt : TT} (h1 : b5x tt fr h rs = some vs) (he : vs = outs) (hc : (outs.all AV.cl) = true) : ∃ l h', b5x tt fr h rs = some l ∧ FinL h l outs h' :=
 ⟨vs, h, h1, by subst he; exact FinL.pvs hc⟩

theorem a8r {n : Nat} {c : Code} {fr : Fr} {h : Hp} {Q : Exit → Fr → Hp → Prop} (t id e sz : Nat) {g : Nat} (ht : fr.get t = some (.pv (.slice none 0 0))) (hd : z8z h id = some (g, .dead)) (hx : Ex P n c ((t, .ref id (g + 1)) :: fr) ((id, (g + 1, .row e sz [])) :: h) Q) : Ex P n c fr h Q := by
 rintro X B a w ⟨F, hS⟩ hF hdf
 have hown : Own w e sz (.slice none 0 0) 0 [] := ⟨by simp, .inl ⟨none, rfl, rfl⟩⟩
 obtain ⟨hX, hS', hok⟩ := hS.newRow (id := id) hd (ty := e) (sz := sz) (xs := []) (us := []) (v := .slice none 0 0) (w' := w) (L := []) (S := []) (Grew.refl w _) (by simp) (by simp) List.nodup_nil hown (fun b hb => by simp [a3k] at hb) (fun j x hx => by simp at hx) .nil
 rw [← a2w] at hS'
 have hF' : FrOK (X.setR id (g + 1) (.slice none 0 0, sz)) w n (Fr.get ((t, .ref id (g + 1)) :: fr)) a := by
  refine ⟨hF.size, fun k av hk => ?_⟩
  rw [Fr.get_cons] at hk
  split at hk
  ·rename_i e
   subst e
   cases hk
   obtain ⟨v, h1, h2⟩ := hF.slot t _ ht
   have := h2.pv_inv
   subst this
   exact ⟨_, h1, .setR⟩
  ·exact (hF.mono hX hS.ok12 hok).slot k av hk
 refine wp_mono (hx _ B a w hS' hF' hdf) fun e a' w' hh => ?_
 obtain ⟨fr', h', X', k1, k2, k3, k4, k5, k6⟩ := hh
 exact ⟨fr', h', X', k1, hX.trans k2, k3, k4, k5, fun b hb => k6 b (hX.ok2 b hb)⟩
theorem v9v (h0 : -9223372036854775808 ≤ n) (h1 : n < 9223372036854775808) : IntKind.i64.wrap n = n := by
 rw [IntKind.wrap_i64]; omega
theorem Cov.cons' (h : F.get t = some av') (e : av' = av) (k : Cov f F) : Cov ((t, av) :: f) F := .cons (h.trans (by rw [e])) k
end
section
variable {P : Program}
abbrev Gn := Nat → Nat
def gl (L : List Nat) : Gn := fun i => L.getD i 0
def idf : Gn := fun i => i
def inB (ρ c : Gn) : AV → AV
 | .ref i _ => .ref (ρ i) (c i)
 | .bsl i _ a b => .bsl (ρ i) (c i) a b
 | .cut i _ a b => .cut (ρ i) (c i) a b
 | .ptr i _ a => .ptr (ρ i) (c i) a
 | .elt i _ a b => .elt (ρ i) (c i) a b
 | .mp i _ => .mp (ρ i) (c i)
 | a => a
def b7k (m : Nat) : AV → Bool
 | .ref i _ => Nat.blt i m
 | .bsl i _ _ _ => Nat.blt i m
 | .cut i _ _ _ => Nat.blt i m
 | .ptr i _ _ => Nat.blt i m
 | .elt i _ _ _ => Nat.blt i m
 | .mp i _ => Nat.blt i m
 | .any => true
 | .pv _ => true
 | .row _ _ _ _ => true
 | .iel _ => true
 | _ => false
def inD (ρ c : Gn) : AV → AV
 | .agg cs => .agg (cs.map (inB ρ c))
 | a => inB ρ c a
def c5i (m : Nat) : AV → Bool
 | .agg cs => cs.all (b7k m)
 | a => b7k m a
def inC (ρ c : Gn) : AV → AV
 | .fn f a b => .fn f (a.map (inB ρ c)) (b.map (inB ρ c))
 | .ifc t a => .ifc t (inD ρ c a)
 | a => inB ρ c a
def b7l (m : Nat) : AV → Bool
 | .fn _ a b => a.all (b7k m) && b.all (b7k m)
 | .ifc _ a => c5i m a
 | a => b7k m a
def inA (ρ c : Gn) : AV → AV
 | .agg cs => .agg (cs.map (inC ρ c))
 | a => inC ρ c a
def c1r (m : Nat) : AV → Bool
 | .agg cs => cs.all (b7l m)
 | a => b7l m a
def inT (ρ c : Gn) : AV → AV
 | .tup cs => .tup (cs.map (inA ρ c))
 | a => inA ρ c a
def c1s (m : Nat) : AV → Bool
 | .tup cs => cs.all (c1r m)
 | a => c1r m a

structure Sim (m : Nat) (ρ c ρ' c' : Gn) (X Y : Cx) : Prop where
 ok1 : ∀ b, X.ok1 b → Y.ok1 b
 ok2 : ∀ b, X.ok2 b → Y.ok2 b
 bx : ∀ i, i < m → Y.bx (ρ' i) (c' i) = X.bx (ρ i) (c i)
 rw : ∀ i, i < m → Y.rw (ρ' i) (c' i) = X.rw (ρ i) (c i)
variable {a : AV} {v : Value}
theorem CR.wid {X Y : Cx} {w : World} (h1 : ∀ b, X.ok1 b → Y.ok1 b) (h2 : ∀ b, X.ok2 b → Y.ok2 b) (h12 : ∀ b, X.ok1 b → X.ok2 b) (h : CR X.ok1 X.ok2 w a v) : CR Y.ok1 Y.ok2 w a v :=
 h.mono h1 h2 h12 (fun _ _ => rfl)
theorem a2m (h : Nat.blt i m = true) : i < m := Nat.le_of_ble_eq_true h
theorem VR.ifc_inv (h : VR X w (.ifc t a) v) : ∃ u, v = .iface t u ∧ VR X w a u := by
 cases h with
 | cl h => cases h with
  | ifc _ _ u h => exact ⟨u, rfl, .cl h⟩
 | ifc _ _ u h => exact ⟨u, rfl, h⟩
variable {cs : List AV} {us : List Value}
theorem a8s {R R' : AV → Value → Prop} {f f' : AV → AV} (hf : ∀ a v, a ∈ cs → R (f a) v → R' (f' a) v) (h : ∀ (i : Nat) (y : AV) (u : Value), (cs.map f)[i]? = some y → us[i]? = some u → R y u) :
  ∀ (i : Nat) (y : AV) (u : Value), (cs.map f')[i]? = some y → us[i]? = some u → R' y u := by
 intro i y u hy hu
 rw [List.getElem?_map] at hy
 cases hc : cs[i]? with
 | none => rw [hc] at hy; cases hy
 | some c =>
  rw [hc] at hy
  have : f' c = y := by simpa using hy
  rw [← this]
  exact hf c u (List.mem_of_getElem? hc) (h i (f c) u (by rw [List.getElem?_map, hc]; rfl) hu)
theorem b7m (a : AV) : (inB ρ c a).one = a.one := by cases a <;> rfl
theorem b4g (a : AV) : (inC ρ c a).one = a.one := by cases a <;> rfl
theorem c3a (a : AV) : (inC ρ c a).isOw = a.isOw := by
 cases a with
 | row m _ _ _ => cases m <;> rfl
 | _ => rfl
section
variable {m : Nat} {ρ c ρ' c' : Gn} {X Y : Cx} {w : World} (S : Sim m ρ c ρ' c' X Y) (h12 : ∀ b, X.ok1 b → X.ok2 b)
include S h12
theorem b2o (hb : b7k m a = true) (h : VR X w (inB ρ c a) v) : VR Y w (inB ρ' c' a) v := by
 cases a <;> simp only [b7k, Bool.false_eq_true] at hb <;> simp only [inB] at h ⊢
 case any => exact .any v
 case pv u => rw [h.pv_inv]; exact .pv u
 case row md ty sz xs =>
  cases h with
  | owd v h => exact .owd v h
  | cl h => exact .cl (h.wid S.ok1 S.ok2 h12)
 case ref => obtain ⟨A, n, c, sz, rfl, hr⟩ := h.ref_inv; exact .ref ((S.rw _ (a2m hb)).trans hr)
 case bsl => obtain ⟨b, c, rfl, h1, h2, h3⟩ := h.bsl_inv; exact .bsl ((S.bx _ (a2m hb)).trans h1) h2 h3
 case cut => obtain ⟨A, A', n, c, c', sz, rfl, h1, h2, h3, h4, h5, h6⟩ := h.cut_inv; exact .cut ((S.rw _ (a2m hb)).trans h1) h2 h3 h4 h5 h6
 case ptr => obtain ⟨b, rfl, h1⟩ := h.ptr_inv; exact .ptr ((S.bx _ (a2m hb)).trans h1)
 case elt => obtain ⟨ad, n, c, sz, rfl, h1⟩ := h.elt_inv; exact .elt ((S.rw _ (a2m hb)).trans h1)
 case iel =>
  obtain ⟨ad, u, rfl, h1, h2, h3, h4⟩ := h.iel_inv
  exact .iel ad u (S.ok2 _ h1) h2 h3 (fun i y hy => (h4 i y hy).wid S.ok1 S.ok2 h12)
 case mp =>
  cases h with
  | cl h => cases h
  | mp h => exact .mp ((S.bx _ (a2m hb)).trans h)
theorem c1t (hb : (cs.all (b7k m)) = true) (h : VRs X w (cs.map (inB ρ c)) us) : VRs Y w (cs.map (inB ρ' c')) us := by
 rw [List.all_eq_true] at hb
 refine ⟨by simpa using h.len, fun i y hy => ?_, a8s (fun a v ha hr => b2o S h12 (hb a ha) hr) h.rel⟩
 rw [List.getElem?_map] at hy
 cases hc : cs[i]? with
 | none => rw [hc] at hy; cases hy
 | some a =>
  rw [hc] at hy
  have : inB ρ' c' a = y := by simpa using hy
  rw [← this, b7m]
  have := h.one i (inB ρ c a) (by rw [List.getElem?_map, hc]; rfl)
  rwa [b7m] at this
theorem c3b (hb : c5i m a = true) (h : VR X w (inD ρ c a) v) : VR Y w (inD ρ' c' a) v := by
 have base : b7k m a = true → inD ρ c a = inB ρ c a → inD ρ' c' a = inB ρ' c' a → VR Y w (inD ρ' c' a) v := fun h1 h2 h3 => by rw [h3]; rw [h2] at h; exact b2o S h12 h1 h
 cases a with
 | agg cs =>
  obtain ⟨us, rfl, hu⟩ := h.agg_inv
  exact (c1t S h12 hb hu).agg
 | _ => exact base hb rfl rfl
theorem b7n (hb : b7l m a = true) (h : VR X w (inC ρ c a) v) : VR Y w (inC ρ' c' a) v := by
 have base : b7k m a = true → inC ρ c a = inB ρ c a → inC ρ' c' a = inB ρ' c' a → VR Y w (inC ρ' c' a) v := fun h1 h2 h3 => by rw [h3]; rw [h2] at h; exact b2o S h12 h1 h
 cases a with
 | fn f fi cap =>
  simp only [b7l, Bool.and_eq_true, List.all_eq_true] at hb
  obtain ⟨us, vs, rfl, h1, h2, h3, h4⟩ := h.fn_inv
  exact .fn us vs (by simpa using h1) (by simpa using h2) (a8s (fun a v ha hr => b2o S h12 (hb.1 a ha) hr) h3) (a8s (fun a v ha hr => b2o S h12 (hb.2 a ha) hr) h4)
 | ifc t b =>
  obtain ⟨u, rfl, h1⟩ := h.ifc_inv
  exact .ifc t _ u (c3b S h12 hb h1)
 | _ => exact base hb rfl rfl
theorem c1u (hb : (cs.all (b7l m)) = true) (h : VRs X w (cs.map (inC ρ c)) us) : VRs Y w (cs.map (inC ρ' c')) us := by
 rw [List.all_eq_true] at hb
 refine ⟨by simpa using h.len, fun i y hy => ?_, a8s (fun a v ha hr => b7n S h12 (hb a ha) hr) h.rel⟩
 rw [List.getElem?_map] at hy
 cases hc : cs[i]? with
 | none => rw [hc] at hy; cases hy
 | some a =>
  rw [hc] at hy
  have : inC ρ' c' a = y := by simpa using hy
  rw [← this, b4g]
  have := h.one i (inC ρ c a) (by rw [List.getElem?_map, hc]; rfl)
  rwa [b4g] at this
theorem b7o (hb : c1r m a = true) (h : VR X w (inA ρ c a) v) : VR Y w (inA ρ' c' a) v := by
 have base : b7l m a = true → inA ρ c a = inC ρ c a → inA ρ' c' a = inC ρ' c' a → VR Y w (inA ρ' c' a) v := fun h1 h2 h3 => by rw [h3]; rw [h2] at h; exact b7n S h12 h1 h
 cases a with
 | agg cs =>
  obtain ⟨us, rfl, hu⟩ := h.agg_inv
  exact (c1u S h12 hb hu).agg
 | _ => exact base hb rfl rfl
theorem c0k (hb : c1s m a = true) (h : VR X w (inT ρ c a) v) : VR Y w (inT ρ' c' a) v := by
 have base : c1r m a = true → inT ρ c a = inA ρ c a → inT ρ' c' a = inA ρ' c' a → VR Y w (inT ρ' c' a) v := fun h1 h2 h3 => by rw [h3]; rw [h2] at h; exact b7o S h12 h1 h
 cases a with
 | tup cs =>
  simp only [c1s, List.all_eq_true] at hb
  obtain ⟨us, rfl, g1, g2⟩ := h.tup_inv
  exact .tup us (by simpa using g1) (a8s (fun a v ha hr => b7o S h12 (hb a ha) hr) g2)
 | _ => exact base hb rfl rfl

theorem TRs.tr : ∀ {cs : List AV} {us : List Value} {T : List Nat}, (cs.all (b7l m)) = true → TRs X w (cs.map (inC ρ c)) us T → TRs Y w (cs.map (inC ρ' c')) us T
 | [], us, T, _, h => by
  generalize hl : ([] : List AV).map (inC ρ c) = l at h
  cases h with
  | nil => exact .nil
  | vr => cases hl
  | own => cases hl
 | a :: cs, us, T, hb, h => by
  rw [List.all_cons, Bool.and_eq_true] at hb
  generalize hl : (a :: cs).map (inC ρ c) = l at h
  cases h with
  | nil => cases hl
  | vr h1 h2 h t =>
   rw [List.map_cons] at hl
   injection hl with e1 e2
   subst e1 e2
   exact .vr (by rw [b4g] at h1 ⊢; exact h1) (by rw [c3a] at h2 ⊢; exact h2) (b7n S h12 hb.1 h) (TRs.tr hb.2 t)
  | @own _ _ ty sz xs v ws S' _ us' S2 ho hlen hi t =>
   rw [List.map_cons] at hl
   injection hl with e1 e2
   subst e2
   have ha : a = .row .ow ty sz xs := by
    cases a <;> simp only [inC, inB] at e1 <;> first | exact e1 | cases e1
   subst ha
   exact .own ho hlen (hi.mono ⟨S.ok1, S.ok2, fun _ _ _ h => (by cases h), fun _ _ _ h => (by cases h)⟩ h12 (fun _ _ => rfl) (fun _ _ => rfl)) (TRs.tr hb.2 t)
end
def inE (ρ c : Gn) : Ent → Ent
 | .box ty cs => .box ty (cs.map (inC ρ c))
 | e => e
def AV.flatA : AV → Bool
 | .agg cs => cs.all AV.flat
 | a => a.flat

def c1v (m : Nat) : Ent → Prop
 | .dead => True
 | .box _ cs => (cs.all (b7l m)) = true
 | .row _ _ xs => b9a xs
 | .map es => ∀ p ∈ es, p.2.flatA = true
 | .chn _ _ _ => True
 | .blk _ => True
theorem VR.flatA (h : VR X w a v) (hf : a.flatA = true) (h1 : ∀ b, X.ok1 b → Y.ok1 b) (h2 : ∀ b, X.ok2 b → Y.ok2 b) (h12 : ∀ b, X.ok1 b → X.ok2 b) : VR Y w a v := by
 have base : a.flat = true → VR Y w a v := fun h' => h.flat h' h1 h2 h12
 cases a with
 | agg cs =>
  simp only [AV.flatA, List.all_eq_true] at hf
  obtain ⟨us, rfl, hu⟩ := h.agg_inv
  exact VRs.agg ⟨hu.len, hu.one, fun i y u hy hu' => (hu.rel i y u hy hu').flat (hf y (List.mem_of_getElem? hy)) h1 h2 h12⟩
 | _ => exact base hf
theorem EntOK.tr (S : Sim m ρ c ρ' c' X Y) (h12 : ∀ b, X.ok1 b → X.ok2 b) (hi : i < m) (hb : c1v m e) (h : EntOK X w (ρ i) (c i) F (inE ρ c e)) : EntOK Y w (ρ' i) (c' i) F (inE ρ' c' e) := by
 cases e with
 | dead => trivial
 | box ty cs =>
  obtain ⟨b, us, T, h1, h2, h3, h4, h5⟩ := h
  exact ⟨b, us, T, (S.bx _ hi).trans h1, h2, h3.tr S h12 hb, h4, h5⟩
 | row ty sz xs =>
  obtain ⟨v, us, T, h1, h2, h3, h4, h5, h6⟩ := h
  refine ⟨v, us, T, (S.rw _ hi).trans h1, h2, h3, h4.flat S.ok1 S.ok2 h12 (fun a ha => ?_), h5, h6⟩
  obtain ⟨x, hx, hax⟩ := List.mem_flatten.1 ha
  exact hb x hx a hax
 | map es =>
  obtain ⟨b, en, h1, h2, h3, h4, h5⟩ := h
  refine ⟨b, en, (S.bx _ hi).trans h1, h2, h3, h4, fun j k a e hj he => ?_⟩
  obtain ⟨g1, g2, g3⟩ := h5 j k a e hj he
  exact ⟨g1, g2.flatA (hb (k, a) (List.mem_of_getElem? hj)) S.ok1 S.ok2 h12, g3⟩
 | chn ty lty xs =>
  obtain ⟨b, bs, h1, h2⟩ := h
  exact ⟨b, bs, h1, h2.imp (fun _ h => (S.bx _ hi).trans h) (fun _ h => h) (fun _ _ => rfl) fun p _ us hu => hu.mono S.ok1 S.ok2 h12 (fun _ _ => rfl)⟩
 | blk l => exact BlkOK.imp h (fun _ h => (S.bx _ hi).trans h) (fun _ h => h) (fun _ _ => rfl) fun p _ us hu => hu.mono S.ok1 S.ok2 h12 (fun _ _ => rfl)
def a1d (ρ c : Gn) (p : Nat × (Nat × Ent)) : Nat × (Nat × Ent) := (ρ p.1, (c p.1, inE ρ c p.2.2))
theorem c3d (h : L.Nodup) (hi : i < L.length) (hk : k < L.length) (e : gl L i = gl L k) : i = k := by
 simp only [gl, List.getD_eq_getElem?_getD, List.getElem?_eq_getElem hi, List.getElem?_eq_getElem hk, Option.getD_some] at e
 have hp := List.pairwise_iff_getElem.1 h
 rcases Nat.lt_trichotomy i k with h2 | h2 | h2
 ·exact absurd e (hp i k hi hk h2)
 ·exact h2
 ·exact absurd e.symm (hp k i hk hi h2)
theorem a0b (hρ : ∀ i k, i < m → k < m → ρ i = ρ k → i = k) : ∀ {H : Hp}, (∀ p ∈ H, p.1 < m) → ∀ i, i < m → z8z (H.map (a1d ρ c)) (ρ i) = (z8z H i).map fun ge => (c i, inE ρ c ge.2)
 | [], _, i, _ => rfl
 | (k, ge) :: H, hH, i, hi => by
  rw [List.map_cons]
  show z8z ((ρ k, (c k, inE ρ c ge.2)) :: H.map (a1d ρ c)) (ρ i) = _
  rw [v5v, v5v]
  have hk : k < m := hH (k, ge) (by simp)
  by_cases e : k = i
  ·subst e; rw [if_pos rfl, if_pos rfl]; rfl
  ·rw [if_neg e, if_neg (fun h => e (hρ k i hk hi h))]
   exact a0b hρ (fun p hp => hH p (by simp [hp])) i hi
theorem a0m : ∀ {H : Hp}, (∀ p ∈ H, p.1 < m) → ∀ j, (∀ i, i < m → ρ i ≠ j) → z8z (H.map (a1d ρ c)) j = none
 | [], _, j, _ => rfl
 | (k, ge) :: H, hH, j, hj => by
  rw [List.map_cons]
  show z8z ((ρ k, (c k, inE ρ c ge.2)) :: H.map (a1d ρ c)) j = _
  rw [v5v, if_neg (hj k (hH (k, ge) (by simp)))]
  exact a0m (fun p hp => hH p (by simp [hp])) j hj
theorem a0d : z8z H i = some ge → (i, ge) ∈ H := by
 induction H with
 | nil => intro h; cases h
 | cons p H ih =>
  obtain ⟨k, g⟩ := p
  rw [v5v]
  split
  ·rename_i e; intro h; cases h; subst e; simp
  ·intro h; exact List.mem_cons_of_mem _ (ih h)
theorem a0s (a b : Hp) (id : Nat) : z8z (a ++ b) id = match z8z a id with
  | some ge => some ge
  | none => z8z b id := by
 induction a with
 | nil => rfl
 | cons p a ih =>
  obtain ⟨k, g⟩ := p
  rw [List.cons_append, v5v, v5v]
  split
  ·rfl
  ·exact ih
def b6j : Hp → Nat → Bool
 | [], _ => false
 | (i, _) :: r, k => Nat.beq i k || b6j r k
theorem a1q : b6j U k = (z8z U k).isSome := by
 induction U with
 | nil => rfl
 | cons p U ih =>
  obtain ⟨i, ge⟩ := p
  rw [v5v]
  simp only [b6j, ih]
  by_cases e : i = k
  ·subst e; simp
  ·rw [if_neg e]
   have : Nat.beq i k = false := by
    cases hb : Nat.beq i k
    ·rfl
    ·exact absurd (Nat.eq_of_beq_eq_true hb) e
   simp [this]

def a2n (U : Hp) : Hp → Hp
 | [] => []
 | p :: I => match b6j U p.1 with
  | true => a2n U I
  | false => p :: a2n U I
theorem a4n : ∀ {I : Hp} {k : Nat}, z8z (a2n U I) k = if b6j U k then none else z8z I k
 | [], k => by simp [a2n, a7z]
 | (i, ge) :: I, k => by
  rw [a2n]
  have ih := a4n (U := U) (I := I) (k := k)
  split
  ·rename_i h
   simp only at h
   rw [ih, v5v]
   by_cases e : i = k
   ·subst e; simp [h]
   ·rw [if_neg e]
  ·rename_i h
   simp only at h
   rw [v5v, v5v, ih]
   by_cases e : i = k
   ·subst e; simp [h]
   ·rw [if_neg e, if_neg e]
theorem a5s : ∀ {I : Hp} {p : Nat × (Nat × Ent)}, p ∈ a2n U I → p ∈ I
 | [], p, h => h
 | q :: I, p, h => by
  rw [a2n] at h
  split at h
  ·exact List.mem_cons_of_mem _ (a5s h)
  ·rcases List.mem_cons.1 h with e | h
   ·subst e; simp
   ·exact List.mem_cons_of_mem _ (a5s h)
end
section
variable {P : Program}

def c4l (P : Program) (f : FuncId) (kp : List Nat) (A0 : List AV) (I0 : Hp) (O0 : AV) (U0 : Hp) : Prop :=
 (∃ fn c, P.funcs[f]? = some fn ∧ (fn.name == "runtime.NumGoroutine") = false ∧ fn.body = some c) ∧
 ∀ (X : Cx) (B : Base) (w : World) (vs : List Value) (γ : Gn), SRh X B (hf (I0.map (a1d idf γ))) w → vs.length = A0.length → (∀ (i : Nat) (a : AV) (v : Value), (A0.map (inT idf γ))[i]? = some a → vs[i]? = some v → VR X w a v) →
  Calls P f vs.toArray w fun e w' => ∃ v, e = .returned v ∧ ∃ γ' : Gn, (∀ i ∈ kp, γ' i = γ i) ∧ ∃ X', X.le X' ∧ SRh X' B (hf (U0.map (a1d idf γ') ++ (a2n U0 I0).map (a1d idf γ))) w' ∧ (∀ b, X.ok2 b → w'.heap[b]? = w.heap[b]?) ∧ VR X' w' (inT idf γ' O0) v
inductive BndH (m : Nat) : Hp → Prop
 | nil : BndH m []
 | dead {i g : Nat} {r : Hp} (t : BndH m r) : BndH m ((i, (g, .dead)) :: r)
 | box {i g ty : Nat} {cs : List AV} {r : Hp} (h : (cs.all (b7l m)) = true) (t : BndH m r) : BndH m ((i, (g, .box ty cs)) :: r)
 | row {i g ty sz : Nat} {xs : List (List AV)} {r : Hp} (h : b9a xs) (t : BndH m r) : BndH m ((i, (g, .row ty sz xs)) :: r)
 | map {i g : Nat} {es : List (Value × AV)} {r : Hp} (h : ∀ p ∈ es, p.2.flatA = true) (t : BndH m r) : BndH m ((i, (g, .map es)) :: r)
 | chn {i g ty lty : Nat} {xs : List (List AV)} {r : Hp} (t : BndH m r) : BndH m ((i, (g, .chn ty lty xs)) :: r)
theorem BndH.all (k : BndH m H) : ∀ p ∈ H, c1v m p.2.2 := by
 have cons : ∀ {q : Nat × (Nat × Ent)} {r : Hp}, c1v m q.2.2 → (∀ p ∈ r, c1v m p.2.2) → ∀ p ∈ q :: r, c1v m p.2.2 := fun h1 h2 p hp => by
  rcases List.mem_cons.1 hp with rfl | hp
  ·exact h1
  ·exact h2 p hp
 induction k with
 | nil => intro p h; cases h
 | dead _ ih => exact cons trivial ih
 | box h0 _ ih => exact cons h0 ih
 | row h0 _ ih => exact cons h0 ih
 | map h0 _ ih => exact cons h0 ih
 | chn _ ih => exact cons trivial ih
theorem w3w {α : Type} {f : α → List AV} {l : List α} (h : ∀ a, ((f a).all AV.flat) = true) : b9a (l.map f) := fun x hx c hc => by
 obtain ⟨a, _, rfl⟩ := List.mem_map.1 hx
 exact List.all_eq_true.1 (h a) c hc
def w0w : List Nat → Nat → Bool
 | [], _ => false
 | a :: l, k => Nat.beq a k || w0w l k
theorem a5t : w0w l k = true ↔ k ∈ l := by
 induction l with
 | nil => simp [w0w]
 | cons a l ih =>
  simp only [w0w, Bool.or_eq_true, ih, List.mem_cons]
  constructor
  ·rintro (h | h)
   ·exact .inl (Nat.eq_of_beq_eq_true h).symm
   ·exact .inr h
  ·rintro (h | h)
   ·subst h; exact .inl (Nat.beq_refl k)
   ·exact .inr h

def nx (kp : List Nat) (c : Gn) : Gn := fun i => match w0w kp i with
 | true => c i
 | false => c i + 1
def b0x : Nat → List Nat
 | 0 => []
 | n + 1 => n :: b0x n
theorem a2o : i ∈ b0x n ↔ i < n := by
 induction n with
 | zero => simp [b0x]
 | succ n ih => simp only [b0x, List.mem_cons, ih]; omega
def b8t (m : Nat) (kp : List Nat) (A0 : List AV) (I0 : Hp) (O0 : AV) (U0 : Hp) : Bool :=
 (I0.all fun p => Nat.blt p.1 m) && ((b0x m).all fun i => b6j I0 i) && (U0.all fun p => Nat.blt p.1 m) && ((b0x m).all fun i => b6j U0 i || w0w kp i) && A0.all (c1s m) && c1s m O0

structure Meth (P : Program) (f : FuncId) (m : Nat) (kp : List Nat) (A0 : List AV) (I0 : Hp) (O0 : AV) (U0 : Hp) : Prop where
 run : c4l P f kp A0 I0 O0 U0
 ok : b8t m kp A0 I0 O0 U0 = true
 ib : BndH m I0
 ub : BndH m U0

structure MethE (P : Program) (f : FuncId) (m : Nat) (A0 : List AV) (I0 : Hp) {ι : Type} (okι : ι → Prop) (kpF : ι → List Nat) (OF : ι → AV) (UF : ι → Hp) : Prop where
 fn : ∃ fn c, P.funcs[f]? = some fn ∧ (fn.name == "runtime.NumGoroutine") = false ∧ fn.body = some c
 run : ∀ (X : Cx) (B : Base) (w : World) (vs : List Value) (γ : Gn), SRh X B (hf (I0.map (a1d idf γ))) w → vs.length = A0.length → (∀ (i : Nat) (a : AV) (v : Value), (A0.map (inT idf γ))[i]? = some a → vs[i]? = some v → VR X w a v) →
  Calls P f vs.toArray w fun e w' => ∃ i, okι i ∧ ∃ v, e = .returned v ∧ ∃ γ' : Gn, (∀ k ∈ kpF i, γ' k = γ k) ∧ ∃ X', X.le X' ∧ SRh X' B (hf ((UF i).map (a1d idf γ') ++ (a2n (UF i) I0).map (a1d idf γ))) w' ∧ (∀ b, X.ok2 b → w'.heap[b]? = w.heap[b]?) ∧ VR X' w' (inT idf γ' (OF i)) v
 ok0 : ((I0.all fun p => Nat.blt p.1 m) && ((b0x m).all fun i => b6j I0 i) && A0.all (c1s m)) = true
 ok : ∀ i, okι i → b8t m (kpF i) A0 I0 (OF i) (UF i) = true
 ib : BndH m I0
 ub : ∀ i, okι i → BndH m (UF i)
theorem c5j (h : b8t m kp A0 I0 O0 U0 = true) : ((I0.all fun p => Nat.blt p.1 m) && ((b0x m).all fun i => b6j I0 i) && A0.all (c1s m)) = true := by
 simp only [b8t, Bool.and_eq_true] at h ⊢
 exact ⟨h.1.1.1.1, h.1.2⟩
theorem Meth.toE (hM : Meth P f m kp A0 I0 O0 U0) : MethE P f m A0 I0 (ι := Unit) (fun _ => True) (fun _ => kp) (fun _ => O0) (fun _ => U0) :=
 ⟨hM.run.1, fun X B w vs γ h1 h2 h3 => (hM.run.2 X B w vs γ h1 h2 h3).mono fun e w' h => ⟨(), trivial, h⟩, c5j hM.ok, fun _ _ => hM.ok, hM.ib, fun _ _ => hM.ub⟩

def c4m (P : Program) (f : FuncId) (avs : List AV) (T : TL) (R : AV → TL → Prop) : Prop :=
 (∃ fn c, P.funcs[f]? = some fn ∧ (fn.name == "runtime.NumGoroutine") = false ∧ fn.body = some c) ∧
 ∀ (X : Cx) (B : Base) (hF : HF) (w : World) (vs : List Value), SRh X B hF w → vs.length = avs.length → (∀ (i : Nat) (a : AV) (v : Value), avs[i]? = some a → vs[i]? = some v → VR X w a v) → (∀ id ge, (id, ge) ∈ T → hF id = some ge) →
  Calls P f vs.toArray w fun e w' => ∃ out W, R out W ∧ ∃ v, e = .returned v ∧ ∃ X', X.le X' ∧ SRh X' B (a2g hF W) w' ∧ (∀ b, X.ok2 b → w'.heap[b]? = w.heap[b]?) ∧ VR X' w' out v
theorem b6a (hM : MethE P f m A0 I0 okι kpF OF UF) (L : List Nat) (c : Gn) (hn : L.Nodup) (hL : L.length = m) :
  c4m P f (A0.map (inT (gl L) c)) (I0.map (a1d (gl L) c)) (fun out W => ∃ i, okι i ∧ out = inT (gl L) (nx (kpF i) c) (OF i) ∧ W = (UF i).map (a1d (gl L) (nx (kpF i) c))) := by
 have hok0 := hM.ok0
 simp only [Bool.and_eq_true] at hok0
 obtain ⟨⟨o1, o2⟩, o5⟩ := hok0
 have hi1 : ∀ p ∈ I0, p.1 < m := fun p hp => a2m (List.all_eq_true.1 o1 p hp)
 have hi2 : ∀ i, i < m → ∃ ge, z8z I0 i = some ge := fun i hi => by
  have := List.all_eq_true.1 o2 i (a2o.2 hi)
  rw [a1q] at this
  exact Option.isSome_iff_exists.1 this
 refine ⟨hM.fn, fun X B hF w vs hS hl hr hT => ?_⟩
 obtain ⟨F, hS⟩ := hS
 let ρ := gl L
 have hinj : ∀ i k, i < m → k < m → ρ i = ρ k → i = k := fun i k hi hk e => c3d hn (hL ▸ hi) (hL ▸ hk) e
 have hcal : ∀ i ge, z8z I0 i = some ge → hF (ρ i) = some (c i, inE ρ c ge.2) := fun i ge h => hT _ _ (List.mem_map.2 ⟨(i, ge), a0d h, rfl⟩)
 have hlt : ∀ {i ge}, z8z I0 i = some ge → i < m := fun h => hi1 _ (a0d h)
 -- the callee's context
 let Xc : Cx := ⟨X.ok1, X.ok2, fun i g => if i < m then X.bx (ρ i) g else none, fun i g => if i < m then X.rw (ρ i) g else none⟩
 let Fc : Nat → List Nat := fun i => if i < m then F (ρ i) else []
 let Bc : Base := ⟨w, fun b => ∃ i, i < m ∧ b ∈ F (ρ i), X.ok1, X.ok2⟩
 have S : Sim m ρ c idf c X Xc := ⟨fun _ h => h, fun _ h => h, fun i hi => by simp [Xc, hi, idf], fun i hi => by simp [Xc, hi, idf]⟩
 have wI : ∀ {H : Hp} (c : Gn) (i : Nat) (ge : Nat × Ent), (∀ p ∈ H, p.1 < m) → z8z (H.map (a1d idf c)) i = some ge → ∃ ge0, z8z H i = some ge0 ∧ ge = (c i, inE idf c ge0.2) ∧ i < m := fun {H} c i ge hH h => by
  by_cases him : i < m
  ·have := a0b (ρ := idf) (c := c) (m := m) (fun _ _ _ _ e => e) hH i him
   rw [show z8z (H.map (a1d idf c)) (idf i) = some ge from h] at this
   cases hw : z8z H i with
   | none => rw [hw] at this; cases this
   | some ge0 => rw [hw] at this; simp only [Option.map_some, Option.some.injEq] at this; exact ⟨ge0, rfl, this, him⟩
  ·rw [a0m (m := m) hH i (fun k hk e => him (by simp only [idf] at e; omega))] at h
   cases h
 have hSc : SRf Xc Bc (hf (I0.map (a1d idf c))) Fc w := by
  refine ⟨?_, ?_, ?_, ?_, hS.ok12, fun b hb => .inl hb, fun b hb => .inl hb, ?_, ?_, rfl, rfl, rfl, Nat.le_refl _, fun _ _ _ => rfl⟩
  ·intro i g e he
   obtain ⟨ge0, h1, h2, h3⟩ := wI c i _ hi1 he
   cases h2
   have := hS.ent _ _ _ (hcal i _ h1)
   simp only [Fc, h3, if_true]
   exact this.tr S hS.ok12 h3 (hM.ib.all _ (a0d h1))
  ·intro i ge b he hb
   obtain ⟨ge0, h1, h2, h3⟩ := wI c i _ hi1 he
   simp only [Fc, h3, if_true] at hb
   exact hS.blk _ _ b (hcal i _ h1) hb
  ·intro i k ge ge' b he he' hb hb'
   obtain ⟨ge0, h1, h2, h3⟩ := wI c i _ hi1 he
   obtain ⟨ge1, k1, k2, k3⟩ := wI c k _ hi1 he'
   simp only [Fc, h3, k3, if_true] at hb hb'
   exact hinj i k h3 k3 (hS.sep _ _ _ _ b (hcal i _ h1) (hcal k _ k1) hb hb')
  ·refine fun b hb => ⟨(hS.ok2 b hb).1, fun i ge he hm => ?_⟩
   obtain ⟨ge0, h1, h2, h3⟩ := wI c i _ hi1 he
   simp only [Fc, h3, if_true] at hm
   exact (hS.ok2 b hb).2 _ _ (hcal i _ h1) hm
  ·intro i ge b he hb
   obtain ⟨ge0, h1, h2, h3⟩ := wI c i _ hi1 he
   simp only [Fc, h3, if_true] at hb
   exact .inl ⟨i, h3, hb⟩
  ·intro i g hg
   by_cases hm : i < m
   ·obtain ⟨ge, h1⟩ := hi2 i hm
    have hlt' : c i < g := hg (c i) (inE idf c ge.2) (by
     have := a0b (ρ := idf) (c := c) (m := m) (fun _ _ _ _ e => e) hi1 i hm
     rw [h1] at this; exact this)
    have h2 := hS.hist (ρ i) g (fun g' e h => by
     rw [hcal i _ h1] at h
     cases h
     exact hlt')
    simp only [Xc, hm, if_true]
    exact h2
   ·simp [Xc, hm]
 have hrc : ∀ (i : Nat) (a : AV) (v : Value), (A0.map (inT idf c))[i]? = some a → vs[i]? = some v → VR Xc w a v :=
  a8s (R := VR X w) (R' := VR Xc w) (f := inT ρ c) (fun a v ha h => c0k S hS.ok12 (List.all_eq_true.1 o5 a ha) h) hr
 refine (hM.run Xc Bc w vs c ⟨Fc, hSc⟩ (by simpa using hl) hrc).mono fun e w' hh => ?_
 obtain ⟨iι, hiι, v, rfl, γ', hγ, Xc', g1, ⟨Fc', g2⟩, g3, g4⟩ := hh
 refine ⟨_, _, ⟨iι, hiι, rfl, rfl⟩, v, rfl, ?_⟩
 have hok := hM.ok iι hiι
 have hub := (hM.ub iι hiι).all
 generalize kpF iι = kp at hok hγ ⊢
 generalize OF iι = O0 at hok g4 ⊢
 generalize UF iι = U0 at hok hub g2 ⊢
 simp only [b8t, Bool.and_eq_true] at hok
 obtain ⟨⟨⟨⟨_, o3⟩, o4⟩, _⟩, o6⟩ := hok
 have hu1 : ∀ p ∈ U0, p.1 < m := fun p hp => a2m (List.all_eq_true.1 o3 p hp)
 have hkp : ∀ i, i < m → b6j U0 i = false → i ∈ kp := fun i hi h => by
  have := List.all_eq_true.1 o4 i (a2o.2 hi)
  rw [h, Bool.false_or] at this
  exact a5t.1 this
 classical
 -- the caller's context behind the call
 let t := nx kp c
 have tk : ∀ i, i ∈ kp → t i = c i := fun i hi => by simp only [t, nx, a5t.2 hi]
 have tn : ∀ i, i ∉ kp → t i = c i + 1 := fun i hi => by
  have : w0w kp i = false := by
   cases h : w0w kp i
   ·rfl
   ·exact absurd (a5t.1 h) hi
  simp only [t, nx, this]
 have hfut : ∀ i g, i < m → c i < g → X.bx (ρ i) g = none ∧ X.rw (ρ i) g = none := fun i g hi hg => by
  obtain ⟨ge, h1⟩ := hi2 i hi
  exact hS.hist (ρ i) g (fun g' e h => by rw [hcal i _ h1] at h; cases h; exact hg)
 let inv : Nat → Option Nat := fun j => (List.range m).find? fun i => ρ i == j
 have inv_rho : ∀ i, i < m → inv (ρ i) = some i := fun i him => by
  cases hv : inv (ρ i) with
  | none =>
   have := List.find?_eq_none.1 hv i (List.mem_range.2 him)
   simp at this
  | some k =>
   have h1 := List.find?_some hv
   have h2 := List.mem_of_find?_eq_some hv
   rw [List.mem_range] at h2
   rw [hinj k i h2 him (by simpa using h1)]
 have inv_some : ∀ j i, inv j = some i → i < m ∧ ρ i = j := fun j i hv => by
  have h1 := List.find?_some hv
  have h2 := List.mem_of_find?_eq_some hv
  rw [List.mem_range] at h2
  exact ⟨h2, by simpa using h1⟩
 let X' : Cx := ⟨Xc'.ok1, Xc'.ok2, fun j g => match inv j with
  | some i => if g = t i then Xc'.bx i (γ' i) else if g = c i then Xc'.bx i (c i) else X.bx j g
  | none => X.bx j g, fun j g => match inv j with
  | some i => if g = t i then Xc'.rw i (γ' i) else if g = c i then Xc'.rw i (c i) else X.rw j g
  | none => X.rw j g⟩
 have hX : X.le X' := by
  refine ⟨g1.ok1, g1.ok2, fun j g b h => ?_, fun j g b h => ?_⟩
  ·show (match inv j with
    | some i => if g = t i then Xc'.bx i (γ' i) else if g = c i then Xc'.bx i (c i) else X.bx j g
    | none => X.bx j g) = some b
   cases hv : inv j with
   | none => exact h
   | some i =>
    obtain ⟨him, rfl⟩ := inv_some j i hv
    simp only
    by_cases hk : i ∈ kp
    ·by_cases e : g = t i
     ·rw [if_pos e, hγ i hk]
      refine g1.bx i _ b ?_
      simp only [Xc, him, if_true]
      rw [← tk i hk, ← e]; exact h
     ·rw [if_neg e]
      by_cases e2 : g = c i
      ·rw [if_pos e2]
       refine g1.bx i _ b ?_
       simp only [Xc, him, if_true]
       rw [← e2]; exact h
      ·rw [if_neg e2]; exact h
    ·by_cases e : g = t i
     ·rw [(hfut i g him (by rw [e, tn i hk]; omega)).1] at h; cases h
     ·rw [if_neg e]
      by_cases e2 : g = c i
      ·rw [if_pos e2]
       refine g1.bx i _ b ?_
       simp only [Xc, him, if_true]
       rw [← e2]; exact h
      ·rw [if_neg e2]; exact h
  ·show (match inv j with
    | some i => if g = t i then Xc'.rw i (γ' i) else if g = c i then Xc'.rw i (c i) else X.rw j g
    | none => X.rw j g) = some b
   cases hv : inv j with
   | none => exact h
   | some i =>
    obtain ⟨him, rfl⟩ := inv_some j i hv
    simp only
    by_cases hk : i ∈ kp
    ·by_cases e : g = t i
     ·rw [if_pos e, hγ i hk]
      refine g1.rw i _ b ?_
      simp only [Xc, him, if_true]
      rw [← tk i hk, ← e]; exact h
     ·rw [if_neg e]
      by_cases e2 : g = c i
      ·rw [if_pos e2]
       refine g1.rw i _ b ?_
       simp only [Xc, him, if_true]
       rw [← e2]; exact h
      ·rw [if_neg e2]; exact h
    ·by_cases e : g = t i
     ·rw [(hfut i g him (by rw [e, tn i hk]; omega)).2] at h; cases h
     ·rw [if_neg e]
      by_cases e2 : g = c i
      ·rw [if_pos e2]
       refine g1.rw i _ b ?_
       simp only [Xc, him, if_true]
       rw [← e2]; exact h
      ·rw [if_neg e2]; exact h
 have S1 : Sim m idf γ' ρ t Xc' X' := ⟨fun _ h => h, fun _ h => h, fun i hi => by simp [X', inv_rho i hi, idf], fun i hi => by simp [X', inv_rho i hi, idf]⟩
 have S2 : Sim m idf c ρ c Xc' X' := by
  refine ⟨fun _ h => h, fun _ h => h, fun i hi => ?_, fun i hi => ?_⟩
  ·simp only [X', inv_rho i hi, idf]
   by_cases e : c i = t i
   ·rw [if_pos e]
    by_cases hk : i ∈ kp
    ·rw [hγ i hk]
    ·rw [tn i hk] at e; omega
   ·rw [if_neg e]; simp
  ·simp only [X', inv_rho i hi, idf]
   by_cases e : c i = t i
   ·rw [if_pos e]
    by_cases hk : i ∈ kp
    ·rw [hγ i hk]
    ·rw [tn i hk] at e; omega
   ·rw [if_neg e]; simp
 let F' : Nat → List Nat := fun j => match inv j with
  | some i => Fc' i
  | none => F j
 let Hc : Hp := U0.map (a1d idf γ') ++ (a2n U0 I0).map (a1d idf c)
 have hr1 : ∀ p ∈ a2n U0 I0, p.1 < m := fun p hp => hi1 p (a5s hp)
 -- what stands where
 have upU : ∀ i ge0, i < m → z8z U0 i = some ge0 → a2g hF (U0.map (a1d ρ t)) (ρ i) = some (t i, inE ρ t ge0.2) ∧ z8z Hc i = some (γ' i, inE idf γ' ge0.2) := fun i ge0 hi h => by
  have e1 := a0b (ρ := ρ) (c := t) hinj hu1 i hi
  have e2 := a0b (ρ := idf) (c := γ') (m := m) (fun _ _ _ _ e => e) hu1 i hi
  rw [h] at e1 e2
  refine ⟨by simp only [a2g, e1, Option.map_some], ?_⟩
  rw [a0s, show z8z (U0.map (a1d idf γ')) i = _ from e2]; rfl
 have upI : ∀ i ge0, i < m → z8z U0 i = none → z8z I0 i = some ge0 → a2g hF (U0.map (a1d ρ t)) (ρ i) = some (c i, inE ρ c ge0.2) ∧ z8z Hc i = some (c i, inE idf c ge0.2) := fun i ge0 hi h hI => by
  have e1 := a0b (ρ := ρ) (c := t) hinj hu1 i hi
  have e2 := a0b (ρ := idf) (c := γ') (m := m) (fun _ _ _ _ e => e) hu1 i hi
  have e3 := a0b (ρ := idf) (c := c) (m := m) (fun _ _ _ _ e => e) hr1 i hi
  have hb : b6j U0 i = false := by rw [a1q, h]; rfl
  rw [a4n, hb] at e3
  simp only [Bool.false_eq_true, if_false, hI, Option.map_some] at e3
  rw [h] at e1 e2
  refine ⟨by simp only [a2g, e1, Option.map_none]; exact hcal i _ hI, ?_⟩
  rw [a0s, show z8z (U0.map (a1d idf γ')) i = _ from e2]; exact e3
 have un : ∀ j, inv j = none → a2g hF (U0.map (a1d ρ t)) j = hF j := fun j hj => by
  have e' : z8z (U0.map (a1d ρ t)) j = none := a0m (m := m) hu1 j (fun i him e => by rw [← e, inv_rho i him] at hj; cases hj)
  simp only [a2g, e']
 have fin : ∀ {j ge}, a2g hF (U0.map (a1d ρ t)) j = some ge → (inv j = none ∧ hF j = some ge ∧ F' j = F j) ∨
   ∃ i ge1, inv j = some i ∧ i < m ∧ ρ i = j ∧ z8z Hc i = some ge1 ∧ F' j = Fc' i ∧ EntOK X' w' j ge.1 (Fc' i) ge.2 := by
  intro j ge he
  cases hv : inv j with
  | none => rw [un j hv] at he; exact .inl ⟨rfl, he, by simp [F', hv]⟩
  | some i =>
   obtain ⟨h1, rfl⟩ := inv_some j i hv
   cases hu : z8z U0 i with
   | some ge0 =>
    obtain ⟨q1, q2⟩ := upU i ge0 h1 hu
    rw [he] at q1; cases q1
    exact .inr ⟨i, _, rfl, h1, rfl, q2, by simp [F', hv], (g2.ent i _ _ q2).tr S1 g2.ok12 h1 (hub _ (a0d hu))⟩
   | none =>
    obtain ⟨ge0, hI⟩ := hi2 i h1
    obtain ⟨q1, q2⟩ := upI i ge0 h1 hu hI
    rw [he] at q1; cases q1
    exact .inr ⟨i, _, rfl, h1, rfl, q2, by simp [F', hv], (g2.ent i _ _ q2).tr S2 g2.ok12 h1 (hM.ib.all _ (a0d hI))⟩
 have old : ∀ j ge b, inv j = none → hF j = some ge → b ∈ F j → b < w.heap.size ∧ ¬ ∃ i, i < m ∧ b ∈ F (ρ i) := fun j ge b hj he hb => by
  refine ⟨hS.blk j ge b he hb, fun ⟨i, him, hbi⟩ => ?_⟩
  obtain ⟨ge', h1⟩ := hi2 i him
  have := hS.sep j (ρ i) ge _ b he (hcal i _ h1) hb hbi
  rw [this, inv_rho i him] at hj
  cases hj
 have newc : ∀ i ge b, z8z Hc i = some ge → b ∈ Fc' i → (∃ k, k < m ∧ b ∈ F (ρ k)) ∨ w.heap.size ≤ b := fun i ge b he hb => g2.own i ge b he hb
 have S0B : ∀ b, (∃ i, i < m ∧ b ∈ F (ρ i)) → B.S0 b ∨ B.w0.heap.size ≤ b := fun b ⟨i, him, hb⟩ => by
  obtain ⟨ge, h1⟩ := hi2 i him
  exact hS.own _ _ b (hcal i _ h1) hb
 have hsz := g2.size
 refine ⟨X', hX, ⟨F', ?_, ?_, ?_, ?_, g2.ok12, ?_, ?_, ?_, ?_, g2.os.trans hS.os, g2.tape.trans hS.tape, g2.output.trans hS.output, Nat.le_trans hS.size g2.size, ?_⟩, g3, c0k S1 g2.ok12 o6 g4⟩
 ·intro j g e he
  rcases fin he with ⟨h1, h2, h3⟩ | ⟨i, ge1, h1, h2, h3, h4, h5, h6⟩
  ·rw [h3]
   refine (hS.ent j g e h2).mono hX hS.ok12 g3 (fun b hb => ?_)
   obtain ⟨q1, q2⟩ := old j _ b h1 h2 hb
   exact g2.keep b q1 q2
  ·rw [h5]; exact h6
 ·intro j ge b he hb
  rcases fin he with ⟨h1, h2, h3⟩ | ⟨i, ge1, h1, h2, h3, h4, h5, h6⟩
  ·rw [h3] at hb
   exact Nat.lt_of_lt_of_le (hS.blk j ge b h2 hb) hsz
  ·rw [h5] at hb
   exact g2.blk i _ b h4 hb
 ·intro j k ge ge' b he he' hb hb'
  rcases fin he with ⟨h1, h2, h3⟩ | ⟨i, ge1, h1, h2, h3, h4, h5, h6⟩ <;> rcases fin he' with ⟨k1, k2, k3⟩ | ⟨i', ge2, k1, k2, k3, k4, k5, k6⟩
  ·rw [h3] at hb
   rw [k3] at hb'
   exact hS.sep j k ge ge' b h2 k2 hb hb'
  ·rw [h3] at hb
   rw [k5] at hb'
   obtain ⟨q1, q2⟩ := old j _ b h1 h2 hb
   rcases newc i' _ b k4 hb' with h | h
   ·exact absurd h q2
   ·exact absurd q1 (Nat.not_lt.2 h)
  ·rw [h5] at hb
   rw [k3] at hb'
   obtain ⟨q1, q2⟩ := old k _ b k1 k2 hb'
   rcases newc i _ b h4 hb with h | h
   ·exact absurd h q2
   ·exact absurd q1 (Nat.not_lt.2 h)
  ·rw [h5] at hb
   rw [k5] at hb'
   have := g2.sep i i' _ _ b h4 k4 hb hb'
   rw [← h3, ← k3, this]
 ·refine fun b hb => ⟨(g2.ok2 b hb).1, fun j ge he hm => ?_⟩
  rcases fin he with ⟨h1, h2, h3⟩ | ⟨i, ge1, h1, h2, h3, h4, h5, h6⟩
  ·rw [h3] at hm
   obtain ⟨q1, q2⟩ := old j _ b h1 h2 hm
   rcases g2.in2 b hb with h | h | h
   ·exact (hS.ok2 b h).2 j _ h2 hm
   ·exact q2 h
   ·exact absurd q1 (Nat.not_lt.2 h)
  ·rw [h5] at hm
   exact (g2.ok2 b hb).2 i _ h4 hm
 ·intro b hb
  rcases g2.in1 b hb with h | h | h
  ·exact hS.in1 b h
  ·exact .inr (S0B b h)
  ·exact .inr (.inr (Nat.le_trans hS.size h))
 ·intro b hb
  rcases g2.in2 b hb with h | h | h
  ·exact hS.in2 b h
  ·exact .inr (S0B b h)
  ·exact .inr (.inr (Nat.le_trans hS.size h))
 ·intro j ge b he hb
  rcases fin he with ⟨h1, h2, h3⟩ | ⟨i, ge1, h1, h2, h3, h4, h5, h6⟩
  ·rw [h3] at hb
   exact hS.own j ge b h2 hb
  ·rw [h5] at hb
   rcases newc i _ b h4 hb with h | h
   ·exact S0B b h
   ·exact .inr (Nat.le_trans hS.size h)
 ·intro j g hg
  cases hv : inv j with
  | none =>
   have h1 := hS.hist j g (fun g' e h => hg g' e (by rw [un j hv]; exact h))
   refine ⟨?_, ?_⟩
   ·simp only [X', hv, h1.1]
   ·simp only [X', hv, h1.2]
  | some i =>
   obtain ⟨him, rfl⟩ := inv_some j i hv
   obtain ⟨ge0, hI⟩ := hi2 i him
   have hcg : c i < g ∧ g ≠ t i := by
    cases hu : z8z U0 i with
    | some ge1 =>
     have := hg _ _ (upU i ge1 him hu).1
     by_cases hk : i ∈ kp
     ·rw [tk i hk] at this ⊢; omega
     ·rw [tn i hk] at this ⊢; omega
    | none =>
     have := hg _ _ (upI i ge0 him hu hI).1
     have hk := hkp i him (by rw [a1q, hu]; rfl)
     rw [tk i hk]; omega
   have := hfut i g him hcg.1
   refine ⟨?_, ?_⟩
   ·simp only [X', hv]; rw [if_neg hcg.2, if_neg (by omega)]; exact this.1
   ·simp only [X', hv]; rw [if_neg hcg.2, if_neg (by omega)]; exact this.2
 ·intro b hb hs
  rw [← hS.keep b hb hs]
  refine g2.keep b (Nat.lt_of_lt_of_le hb hS.size) (fun h => ?_)
  rcases S0B b h with h | h
  ·exact hs h
  ·exact absurd hb (Nat.not_lt.2 h)
theorem b2p (hM : Meth P f m kp A0 I0 O0 U0) (L : List Nat) (c : Gn) (hn : L.Nodup) (hL : L.length = m) :
  b3w P f (A0.map (inT (gl L) c)) (I0.map (a1d (gl L) c)) (U0.map (a1d (gl L) (nx kp c))) (inT (gl L) (nx kp c) O0) := by
 have h := b6a hM.toE L c hn hL
 exact ⟨h.1, fun X B hF w vs a1 a2 a3 a4 => (h.2 X B hF w vs a1 a2 a3 a4).mono fun e w' ⟨out, W, ⟨_, _, h1, h2⟩, h3⟩ => by subst h1 h2; exact h3⟩
end
section
variable {P : Program}
def a1k (m : Nat) : Nat → Hp
 | 0 => []
 | k + 1 => (m + k, (0, .dead)) :: a1k m k
theorem a5u {id : Nat} : ∀ {k : Nat}, z8z (a1k m k) id = some ge → ge = (0, .dead) ∧ m ≤ id
 | 0, h => by cases h
 | k + 1, h => by
  rw [a1k, v5v] at h
  split at h
  ·rename_i e; cases h; exact ⟨rfl, by omega⟩
  ·exact a5u h

theorem SRh.more (H : SRh X B (hf h) w) (m k : Nat) (hm : ∀ p ∈ h, p.1 < m) : SRh X B (hf (h ++ a1k m k)) w := by
 obtain ⟨F, H⟩ := H
 have hlt : ∀ id ge, z8z h id = some ge → id < m := fun id ge hg => hm _ (a0d hg)
 have get : ∀ id ge, hf (h ++ a1k m k) id = some ge → hf h id = some ge ∨ (z8z h id = none ∧ ge = (0, .dead) ∧ m ≤ id) := fun id ge hg => by
  simp only [hf, a0s] at hg ⊢
  cases hw : z8z h id with
  | some g => rw [hw] at hg; exact .inl hg
  | none => rw [hw] at hg; exact .inr ⟨rfl, a5u hg⟩
 let F' : Nat → List Nat := fun i => if i < m then F i else []
 have mem : ∀ id ge b, hf (h ++ a1k m k) id = some ge → b ∈ F' id → hf h id = some ge ∧ b ∈ F id := fun id ge b hg hb => by
  rcases get id ge hg with h1 | ⟨_, _, h1⟩
  ·simp only [F', hlt id ge h1, if_true] at hb
   exact ⟨h1, hb⟩
  ·simp only [F', Nat.not_lt.2 h1, if_false] at hb
   cases hb
 refine ⟨F', { H with ent := fun id g e he => ?_, blk := fun id ge b he hb => ?_, sep := fun id id' ge ge' b he he' hb hb' => ?_, ok2 := fun b hb => ⟨(H.ok2 b hb).1, fun id ge he hm => ?_⟩, own := fun id ge b he hb => ?_, hist := fun id g hg => ?_ }⟩
 ·rcases get id _ he with h1 | ⟨_, h1, _⟩
  ·have := H.ent id g e h1
   simpa only [F', hlt id _ h1, if_true] using this
  ·cases h1; trivial
 ·obtain ⟨h1, h2⟩ := mem id ge b he hb; exact H.blk id ge b h1 h2
 ·obtain ⟨h1, h2⟩ := mem id ge b he hb
  obtain ⟨h3, h4⟩ := mem id' ge' b he' hb'
  exact H.sep id id' ge ge' b h1 h3 h2 h4
 ·obtain ⟨h1, h2⟩ := mem id ge b he hm
  exact (H.ok2 b hb).2 id ge h1 h2
 ·obtain ⟨h1, h2⟩ := mem id ge b he hb; exact H.own id ge b h1 h2
 ·refine H.hist id g (fun g' e hh => hg g' e ?_)
  simp only [hf] at hh ⊢
  rw [a0s, hh]

theorem SRh.trunc (H : SRh X B (hf h) w) (hi1 : ∀ p ∈ I0, p.1 < m) (hi2 : ∀ i, i < m → ∃ ge, z8z I0 i = some ge) (hu1 : ∀ p ∈ U0, p.1 < m) (ib : ∀ p ∈ I0, c1v m p.2.2) (ub : ∀ p ∈ U0, c1v m p.2.2)
  (k : HE h (U0.map (a1d idf γ') ++ (a2n U0 I0).map (a1d idf γ))) :
  ∃ Y : Cx, Sim m idf γ' idf γ' X Y ∧ Y.ok1 = X.ok1 ∧ Y.ok2 = X.ok2 ∧ (∀ i g, i < m → Y.bx i g = X.bx i g ∧ Y.rw i g = X.rw i g) ∧ (∀ i g, m ≤ i → Y.bx i g = none ∧ Y.rw i g = none) ∧ SRh Y B (hf (U0.map (a1d idf γ') ++ (a2n U0 I0).map (a1d idf γ))) w := by
 obtain ⟨F, H⟩ := H
 let Y : Cx := ⟨X.ok1, X.ok2, fun i g => if i < m then X.bx i g else none, fun i g => if i < m then X.rw i g else none⟩
 have S : ∀ c : Gn, Sim m idf c idf c X Y := fun c => ⟨fun _ h => h, fun _ h => h, fun i hi => by simp [Y, hi, idf], fun i hi => by simp [Y, hi, idf]⟩
 let Hc : Hp := U0.map (a1d idf γ') ++ (a2n U0 I0).map (a1d idf γ)
 have get : ∀ id ge, z8z Hc id = some ge → ∃ e, hf h id = some (ge.1, e) ∧ (ge.2 = e ∨ ge.2 = .dead) := fun id ge hg => k.ent id ge hg
 have hr1 : ∀ p ∈ a2n U0 I0, p.1 < m := fun p hp => hi1 p (a5s hp)
 have cas : ∀ id ge, z8z Hc id = some ge → id < m ∧ ((∃ ge0, z8z U0 id = some ge0 ∧ ge = (γ' id, inE idf γ' ge0.2)) ∨ ∃ ge0, z8z I0 id = some ge0 ∧ ge = (γ id, inE idf γ ge0.2)) := fun id ge hg => by
  rw [a0s] at hg
  by_cases him : id < m
  ·refine ⟨him, ?_⟩
   have e1 := a0b (ρ := idf) (c := γ') (m := m) (fun _ _ _ _ e => e) hu1 id him
   have e2 := a0b (ρ := idf) (c := γ) (m := m) (fun _ _ _ _ e => e) hr1 id him
   rw [show z8z (U0.map (a1d idf γ')) id = _ from e1, show z8z ((a2n U0 I0).map (a1d idf γ)) id = _ from e2] at hg
   cases hw : z8z U0 id with
   | some ge0 => rw [hw] at hg; cases hg; exact .inl ⟨ge0, rfl, rfl⟩
   | none =>
    rw [hw, a4n, a1q, hw] at hg
    simp only [Option.map_none, Option.isSome_none, Bool.false_eq_true, if_false] at hg
    cases hI : z8z I0 id with
    | none => rw [hI] at hg; cases hg
    | some ge0 => rw [hI] at hg; cases hg; exact .inr ⟨ge0, rfl, rfl⟩
  ·rw [a0m (m := m) hu1 id (fun k hk e => him (by simp only [idf] at e; omega)), a0m (m := m) hr1 id (fun k hk e => him (by simp only [idf] at e; omega))] at hg
   cases hg
 refine ⟨Y, S γ', rfl, rfl, fun i g hi => ⟨by simp [Y, hi], by simp [Y, hi]⟩, fun i g hi => ⟨by simp [Y, Nat.not_lt.2 hi], by simp [Y, Nat.not_lt.2 hi]⟩, F, ?_, ?_, ?_, ?_, H.ok12, H.in1, H.in2, ?_, ?_, H.os, H.tape, H.output, H.size, H.keep⟩
 ·intro id g e he
  obtain ⟨e', h1, h2⟩ := get id _ he
  rcases h2 with h2 | h2
  ·simp only at h2; subst h2
   have he' := H.ent id g e h1
   obtain ⟨him, hc⟩ := cas id _ he
   rcases hc with ⟨ge0, q1, q2⟩ | ⟨ge0, q1, q2⟩
   ·cases q2
    exact EntOK.tr (S γ') H.ok12 him (ub _ (a0d q1)) he'
   ·cases q2
    exact EntOK.tr (S γ) H.ok12 him (ib _ (a0d q1)) he'
  ·simp only at h2; subst h2; trivial
 ·intro id ge b he hb
  obtain ⟨e', h1, _⟩ := get id _ he
  exact H.blk id _ b h1 hb
 ·intro id id' ge ge' b he he' hb hb'
  obtain ⟨e1, h1, _⟩ := get id _ he
  obtain ⟨e2, h2, _⟩ := get id' _ he'
  exact H.sep id id' _ _ b h1 h2 hb hb'
 ·refine fun b hb => ⟨(H.ok2 b hb).1, fun id ge he hm => ?_⟩
  obtain ⟨e', h1, _⟩ := get id _ he
  exact (H.ok2 b hb).2 id _ h1 hm
 ·intro id ge b he hb
  obtain ⟨e', h1, _⟩ := get id _ he
  exact H.own id _ b h1 hb
 ·intro id g hg
  by_cases hm : id < m
  ·obtain ⟨ge, h1⟩ : ∃ ge, z8z Hc id = some ge := by
    rw [a0s]
    have e1 := a0b (ρ := idf) (c := γ') (m := m) (fun _ _ _ _ e => e) hu1 id hm
    have e2 := a0b (ρ := idf) (c := γ) (m := m) (fun _ _ _ _ e => e) hr1 id hm
    rw [show z8z (U0.map (a1d idf γ')) id = _ from e1, show z8z ((a2n U0 I0).map (a1d idf γ)) id = _ from e2]
    cases hw : z8z U0 id with
    | some ge0 => exact ⟨_, rfl⟩
    | none =>
     rw [a4n, a1q, hw]
     obtain ⟨ge0, hI⟩ := hi2 id hm
     exact ⟨_, by simp only [Option.map_none, Option.isSome_none, Bool.false_eq_true, if_false, hI, Option.map_some]; rfl⟩
   obtain ⟨e', h4, _⟩ := get id _ h1
   have := H.hist id g (fun g' e hh => by
    rw [h4] at hh
    cases hh
    exact hg _ _ h1)
   simpa [Y, hm] using this
  ·simp [Y, hm]
variable {tt : TT} {f : FuncId} {fn : Func} {c : Code} {A0 : List AV} {I0 : Hp}

theorem b4h (htt : a0y P tt) (hfn : P.funcs[f]? = some fn) (hname : (fn.name == "runtime.NumGoroutine") = false) (hb : fn.body = some c) {ι : Type} {okι : ι → Prop} {kpF : ι → List Nat} {OF : ι → List AV} {UF : ι → Hp} (m k : Nat) (hn : A0.length ≤ fn.ntmps)
  (hok0 : ((I0.all fun p => Nat.blt p.1 m) && ((b0x m).all fun i => b6j I0 i) && A0.all (c1s m)) = true) (hok' : ∀ i, okι i → b8t m (kpF i) A0 I0 (one1 (OF i)) (UF i) = true) (ib : BndH m I0) (ub' : ∀ i, okι i → BndH m (UF i)) (hbo' : ∀ i, okι i → ((OF i).all (c1r m)) = true)
  (hx : ∀ γ : Gn, Ex P fn.ntmps c (b4u (A0.map (inT idf γ))) (I0.map (a1d idf γ) ++ a1k m k) fun e fr h => (e = .normal ∨ e = .ret) ∧ ∃ i, okι i ∧ ∃ g' : List Nat, (kpF i).map (gl g') = (kpF i).map γ ∧ b5x tt fr h fn.results.toList = some ((OF i).map (inA idf (gl g'))) ∧ HE h ((UF i).map (a1d idf (gl g')) ++ (a2n (UF i) I0).map (a1d idf γ))) :
  MethE P f m A0 I0 okι kpF (fun i => one1 (OF i)) UF := by
 have hok0' := hok0
 simp only [Bool.and_eq_true] at hok0'
 obtain ⟨⟨o1, o2⟩, o5⟩ := hok0'
 have hi1 : ∀ p ∈ I0, p.1 < m := fun p hp => a2m (List.all_eq_true.1 o1 p hp)
 have hi2 : ∀ i, i < m → ∃ ge, z8z I0 i = some ge := fun i hi => by
  have := List.all_eq_true.1 o2 i (a2o.2 hi)
  rw [a1q] at this
  exact Option.isSome_iff_exists.1 this
 refine ⟨⟨fn, c, hfn, hname, hb⟩, fun X B w vs γ hS hl hr => ?_, hok0, hok', ib, ub'⟩
 have hin : ∀ p ∈ I0.map (a1d idf γ), p.1 < m := fun p hp => by
  obtain ⟨q, hq, rfl⟩ := List.mem_map.1 hp
  exact hi1 q hq
 refine calls_of_wp hfn hb (wp_mono (hx γ X _ _ w (hS.more m k hin) (b2k (by rw [List.length_map]; exact hl) (by rw [List.length_map]; exact hn) hr) rfl) fun e a' w' hh => ?_)
 obtain ⟨fr', h', X', ⟨he, iι, hiι, g', hkp, hres, hw⟩, k2, k3, k4, k5, k6⟩ := hh
 have post0 : ∀ {kp : List Nat} {O0 : List AV} {U0 : Hp}, kpF iι = kp → OF iι = O0 → UF iι = U0 → ∃ kp O0 U0, kpF iι = kp ∧ OF iι = O0 ∧ UF iι = U0 := fun h1 h2 h3 => ⟨_, _, _, h1, h2, h3⟩
 obtain ⟨kp, O0, U0, ekp, eO, eU⟩ := post0 rfl rfl rfl
 have hok := hok' iι hiι
 have ub := ub' iι hiι
 have hbo := hbo' iι hiι
 rw [ekp] at hkp
 rw [ekp, eO, eU] at hok
 rw [eO] at hres hbo
 rw [eU] at hw ub
 simp only [b8t, Bool.and_eq_true] at hok
 have hu1 : ∀ p ∈ U0, p.1 < m := fun p hp => a2m (List.all_eq_true.1 hok.1.1.1.2 p hp)
 obtain ⟨us, g1, g2, g3⟩ := a8p htt k3 k4 hres
 obtain ⟨Y, S, q1, q2, q3, q4, q5⟩ := k3.trunc hi1 hi2 hu1 ib.all ub.all hw
 have hXY : X.le Y := by
  have out : ∀ i g, ¬ i < m → X.bx i g = none ∧ X.rw i g = none := fun i g hi => hS.hist i g (fun g' e h2 => by
   have := hin _ (a0d h2)
   exact absurd this hi)
  refine ⟨fun b h => by rw [q1]; exact k2.ok1 b h, fun b h => by rw [q2]; exact k2.ok2 b h, fun i g b h => ?_, fun i g b h => ?_⟩
  ·by_cases hi : i < m
   ·rw [(q3 i g hi).1]; exact k2.bx i g b h
   ·rw [(out i g hi).1] at h; cases h
  ·by_cases hi : i < m
   ·rw [(q3 i g hi).2]; exact k2.rw i g b h
   ·rw [(out i g hi).2] at h; cases h
 have g3' : ∀ (i : Nat) (b : AV) (v : Value), (O0.map (inA idf (gl g')))[i]? = some b → us[i]? = some v → VR Y w' b v :=
  a8s (fun a v ha h => b7o S k3.ok12 (List.all_eq_true.1 hbo a ha) h) g3
 have hkp' : ∀ i ∈ kp, gl g' i = γ i := fun i hi => by
  have := List.map_inj_left.1 hkp i hi
  exact this
 have post : a'.defers = [] ∧ ∃ v, (results fn a'.tmps).run P w' = .ok v w' ∧ ∃ i, okι i ∧ ∃ v', Ending.returned v = .returned v' ∧ ∃ γ' : Gn, (∀ k ∈ kpF i, γ' k = γ k) ∧ ∃ X', X.le X' ∧ SRh X' B (hf ((UF i).map (a1d idf γ') ++ (a2n (UF i) I0).map (a1d idf γ))) w' ∧ (∀ b, X.ok2 b → w'.heap[b]? = w.heap[b]?) ∧ VR X' w' (inT idf γ' (one1 (OF i))) v' := by
  refine ⟨k5, _, g1, iι, hiι, _, rfl, gl g', ?_⟩
  rw [ekp, eO, eU]
  refine ⟨hkp', Y, hXY, q5, k6, ?_⟩
  rw [List.length_map] at g2
  by_cases h1 : us.length = 1
  ·rw [dif_pos h1]
   obtain ⟨u, rfl⟩ := List.length_eq_one_iff.1 h1
   obtain ⟨b, rfl⟩ := List.length_eq_one_iff.1 (g2.symm.trans h1)
   have h0 := g3' 0 _ u rfl rfl
   have : inT idf (gl g') (one1 [b]) = inA idf (gl g') b := by
    have hbb := List.all_eq_true.1 hbo b (by simp)
    cases b with
    | tup cs => simp [c1r, b7l, b7k] at hbb
    | _ => rfl
   rw [this]; exact h0
  ·rw [dif_neg h1]
   have : one1 O0 = .tup O0 := by
    match O0, g2 with
    | [], _ => rfl
    | [b], hlo => exact absurd hlo h1
    | _ :: _ :: _, _ => rfl
   rw [this]
   exact .tup us (by rw [List.length_map]; exact g2) g3'
 rcases he with rfl | rfl
 ·exact post
 ·exact post
theorem v8v (htt : a0y P tt) (hfn : P.funcs[f]? = some fn) (hname : (fn.name == "runtime.NumGoroutine") = false) (hb : fn.body = some c) {kp : List Nat} {I0 U0 : Hp} {O0 : List AV} (m k : Nat) (hn : A0.length ≤ fn.ntmps)
  (hok : b8t m kp A0 I0 (one1 O0) U0 = true) (ib : BndH m I0) (ub : BndH m U0) (hbo : (O0.all (c1r m)) = true)
  (hx : ∀ γ : Gn, Ex P fn.ntmps c (b4u (A0.map (inT idf γ))) (I0.map (a1d idf γ) ++ a1k m k) fun e fr h => (e = .normal ∨ e = .ret) ∧ ∃ g' : List Nat, kp.map (gl g') = kp.map γ ∧ b5x tt fr h fn.results.toList = some (O0.map (inA idf (gl g'))) ∧ HE h (U0.map (a1d idf (gl g')) ++ (a2n U0 I0).map (a1d idf γ))) :
  Meth P f m kp A0 I0 (one1 O0) U0 := by
 have h := b4h (ι := Unit) (okι := fun _ => True) (kpF := fun _ => kp) (OF := fun _ => O0) (UF := fun _ => U0) htt hfn hname hb m k hn (c5j hok) (fun _ _ => hok) ib (fun _ _ => ub) (fun _ _ => hbo) (fun γ => (hx γ).mono fun e fr h ⟨h1, h2⟩ => ⟨h1, (), trivial, h2⟩)
 exact ⟨⟨h.fn, fun X B w vs γ a1 a2 a3 => (h.run X B w vs γ a1 a2 a3).mono fun e w' ⟨_, _, h4⟩ => h4⟩, hok, ib, ub⟩

theorem z6z
  (L gs : List Nat) (hM : Meth P f m kp A0 I0 O0 U0) (hf : evO fr x = some (.fn (.func f) fi cap)) (ha : evL (evO fr) args.toList = some avs) (he : fi ++ avs ++ cap = A0.map (inT (gl L) (gl gs))) (hn : L.Nodup) (hL : L.length = m)
  (hT : I0.map (a1d (gl L) (gl gs)) = T) (hi : InH h T) (ho : inT (gl L) (nx kp (gl gs)) O0 = out) (hw : U0.map (a1d (gl L) (nx kp (gl gs))) = W)
  (k : w9w P tt ops r ((d, out) :: fr) (W ++ h) ((ids T, ids W) :: lg) K) :
  w9w P tt ops (⟨some d, .call { callee := .value x, args := args, argTypes := at' }, ty, pos, af, none⟩ :: r) fr h lg K := by
 subst ho hw hT
 have hC := b2p hM L (gl gs) hn hL
 rw [← he] at hC
 refine r1r ?_; simp only [a0f, Opt, hf, ha]
 refine ⟨_, _, _, hC, hi, fun p hp => ?_, k⟩
 have hok := hM.ok
 simp only [b8t, Bool.and_eq_true] at hok
 obtain ⟨⟨⟨⟨⟨o1, o2⟩, o3⟩, o4⟩, o5⟩, o6⟩ := hok
 obtain ⟨q, hq, rfl⟩ := List.mem_map.1 hp
 have hq1 := a2m (List.all_eq_true.1 o3 q hq)
 have := List.all_eq_true.1 o2 q.1 (a2o.2 hq1)
 rw [a1q] at this
 obtain ⟨ge, hg⟩ := Option.isSome_iff_exists.1 this
 exact ⟨_, List.mem_map.2 ⟨(q.1, ge), a0d hg, rfl⟩⟩
end
section
variable {P : Program} {tt : TT} {ops : Array Oper} {r : List Oper} {fr : Fr} {h : Hp} {lg : Log} {K : Fr → Hp → Log → Prop} {d : Nat} {ty : TypeId} {pos : String} {af : Array Edge}
variable {id : Nat}
theorem c1w (hh : z8z h id = some (g, .row ty sz ys)) : src h (.ref id g) = some (sz, ys, [(id, (g, .row ty sz ys))]) := by simp [src, hh]
theorem a0g (hx : evO fr x = some (.ref id g)) (hy : evO fr y = some (.ref id2 g2)) (hs : tt t = some S) (hk : S.kind = .sl e) (he : tt e = some E) (h2 : Nat.ble 1 E.size = true) (h3 : Nat.ble 1 E.bytes = true) (hh : z8z h id = some (g, .row e E.size xs)) (hh2 : z8z h id2 = some (g2, .row ty2 E.size ys))
  (how : (ys.flatten.all fun c => !c.isOw) = true) (hz : xs ++ ys = zs) (h4 : zs.length * E.bytes ≤ 140737488355328) (k : w9w P tt ops r ((d, .ref id (g + 1)) :: fr) ((id, (g + 1, .row e E.size zs)) :: h) (([id, id2], [id]) :: lg) K) :
  w9w P tt ops (⟨some d, .call { callee := .builtin .append, args := #[x, y], argTypes := #[t, t] }, ty, pos, af, none⟩ :: r) fr h lg K :=
 c2z hx hy hs hk he h2 h3 hh (c1w hh2) how hz h4 k
theorem a5h (hx : evO fr x = some (.ref id g)) (hs : tt t = some S) (hk : S.kind = .sl e) (hh : z8z h id = some (g, .row rty sz xs)) (hn : xs.length = n) (k : w9w P tt ops r ((d, .pv (.int .i64 (n : Int))) :: fr) h (([id], []) :: lg) K) :
  w9w P tt ops (⟨some d, .call { callee := .builtin .len, args := #[x], argTypes := #[t] }, ty, pos, af, none⟩ :: r) fr h lg K :=
 b2n hx hs hk (T := [(id, (g, .row rty sz xs))]) (by simp [c0d, hh]) (fun s hs => by cases hs) hn k
theorem a4o (f : α → List AV) (l : List α) (a : α) : l.map f ++ [f a] = (l ++ [a]).map f := by simp

theorem Le.ow_map (l : List α) (hc : c = true → k = true) (hf : ∀ a, ((f a).all AV.cl) = true) : Le k (.row .ow ty sz (l.map f)) (.row (.rd c) ty sz (l.map f)) := by
 refine .ow hc rfl (fun j x x' h h' => ?_) (fun j i x x' y y' h h' hy hy' => ?_)
 ·rw [h] at h'; cases h'; rfl
 ·rw [h] at h'
  cases h'
  rw [hy] at hy'
  cases hy'
  rw [List.getElem?_map] at h
  cases hl : l[j]? with
  | none => rw [hl] at h; cases h
  | some a =>
   rw [hl] at h
   have : f a = x := by simpa using h
   have h2 := hf a
   rw [this, List.all_eq_true] at h2
   exact .cl (h2 y (List.mem_of_getElem? hy))
theorem LeL.nil : LeL k [] [] := ⟨rfl, fun i y y' h => by simp at h⟩
theorem LeL.cons (h : Le k a b) (t : LeL k az bs) : LeL k (a :: az) (b :: bs) :=
 ⟨by simp [t.len], fun i y y' hy hy' => by
  cases i with
  | zero => simp at hy hy'; subst hy hy'; exact h
  | succ i => exact t.le i y y' (by simpa using hy) (by simpa using hy')⟩
theorem HE.row {h : Hp} {id g ty sz : Nat} {xs xs' : List (List AV)} {r : Hp} (he : z8z h id = some (g, .row ty sz xs)) (e : xs = xs') (t : HE h r) : HE h ((id, (g, .row ty sz xs')) :: r) := by subst e; exact .same he t
theorem HE.box {h : Hp} {id g ty : Nat} {xs xs' : List AV} {r : Hp} (he : z8z h id = some (g, .box ty xs)) (e : xs = xs') (t : HE h r) : HE h ((id, (g, .box ty xs')) :: r) := by subst e; exact .same he t

theorem u0u (w' : Value) (hx : evO fr x = some (.pv u)) (hy : evO fr y = some (.pv v)) (hv : b8s op u v = some w) (e : w = w') (k : w9w P tt ops r ((d, .pv w') :: fr) h (([], []) :: lg) K) : w9w P tt ops (⟨some d, .binOp op t x y t', ty, pos, af, none⟩ :: r) fr h lg K := by
 subst e; exact a0r hx hy hv k
theorem r8r (w' : Int) (hx : evO fr x = some (.pv (.int kd n))) (hs : tt s = some S) (ht : tt t = some D) (h0 : S.kind = .int k0) (h1 : D.kind = .int k') (e : k'.wrap n = w') (k : w9w P tt ops r ((d, .pv (.int k' w')) :: fr) h (([], []) :: lg) K) :
  w9w P tt ops (⟨some d, .convert s t x, ty, pos, af, none⟩ :: r) fr h lg K := by
 subst e; exact c1p hx hs ht h0 h1 k
theorem p8p (hk : k = .i64) (e : n = m) (h0 : -9223372036854775808 ≤ n) (h1 : n < 9223372036854775808) : Value.int k (k.wrap n) = .int k m := by
 subst hk e; rw [v9v h0 h1]
variable {t t' : Nat} {x y : Operand}
theorem v0v {a b : Nat} (hx : evO fr x = some (.pv (.int .i64 (a : Int)))) (hy : evO fr y = some (.pv (.int .i64 (b : Int)))) (hb : a + b < 9223372036854775808) (k : w9w P tt ops r ((d, .pv (.int .i64 ((a + b : Nat) : Int))) :: fr) h (([], []) :: lg) K) : w9w P tt ops (⟨some d, .binOp .add t x y t', ty, pos, af, none⟩ :: r) fr h lg K :=
 u0u _ hx hy rfl (p8p rfl (by omega) (by omega) (by omega)) k
theorem b0y {a b : Nat} (hx : evO fr x = some (.pv (.int .i64 (a : Int)))) (hy : evO fr y = some (.pv (.int .i64 (b : Int)))) (hb : b ≤ a) (ha : a < 9223372036854775808) (k : w9w P tt ops r ((d, .pv (.int .i64 ((a - b : Nat) : Int))) :: fr) h (([], []) :: lg) K) : w9w P tt ops (⟨some d, .binOp .sub t x y t', ty, pos, af, none⟩ :: r) fr h lg K :=
 u0u _ hx hy rfl (p8p rfl (by omega) (by omega) (by omega)) k
theorem b0z {a b : Nat} (hx : evO fr x = some (.pv (.int .i64 (a : Int)))) (hy : evO fr y = some (.pv (.int .i64 (b : Int)))) (hb : b ≠ 0) (k : w9w P tt ops r ((d, .pv (.int .i64 ((a % b : Nat) : Int))) :: fr) h (([], []) :: lg) K) : w9w P tt ops (⟨some d, .binOp .rem t x y t', ty, pos, af, none⟩ :: r) fr h lg K := by
 have hb' : ¬ (b : Int) = 0 := by omega
 have e : ((a % b : Nat) : Int) = (a : Int).tmod (b : Int) := (IntWalk.up_tmod rfl rfl).symm
 exact a0r hx hy (by simp only [b8s, if_true, hb', if_false]; rw [e]) k
theorem c1x {a b : Nat} (hx : evO fr x = some (.pv (.int .i64 (a : Int)))) (hy : evO fr y = some (.pv (.int .i64 (b : Int)))) (hb : b ≠ 0) (ha : a < 9223372036854775808) (k : w9w P tt ops r ((d, .pv (.int .i64 ((a / b : Nat) : Int))) :: fr) h (([], []) :: lg) K) : w9w P tt ops (⟨some d, .binOp .quo t x y t', ty, pos, af, none⟩ :: r) fr h lg K := by
 have hb' : ¬ (b : Int) = 0 := by omega
 have e : (a : Int).tdiv (b : Int) = ((a / b : Nat) : Int) := IntWalk.up_tdiv rfl rfl
 have h2 := Nat.div_le_self a b
 refine a0r hx hy (w := .int .i64 ((a / b : Nat) : Int)) ?_ k
 simp only [b8s, if_true, hb', if_false]
 rw [e]
 generalize a / b = q at h2 ⊢
 rw [v9v (by omega) (by omega)]
theorem b1a {s t : Nat} {a : Nat} (hx : evO fr x = some (.pv (.int kd (a : Int)))) (hs : tt s = some S) (ht : tt t = some D) (h0 : S.kind = .int k0) (h1 : D.kind = .int .i64) (ha : a < 9223372036854775808) (k : w9w P tt ops r ((d, .pv (.int .i64 (a : Int))) :: fr) h (([], []) :: lg) K) :
  w9w P tt ops (⟨some d, .convert s t x, ty, pos, af, none⟩ :: r) fr h lg K :=
 r8r _ hx hs ht h0 h1 (v9v (by omega) (by omega)) k

theorem b7p {tt : TT} (h1 : b5x tt fr h rs = some [.agg cs]) (he : cs = cs') (hc : (cs'.all AV.cl) = true) (ho : (cs'.all AV.one) = true) : ∃ l h', b5x tt fr h rs = some l ∧ FinL h l [.agg cs'] h' := by
 subst he
 exact ⟨_, _, h1, .agg ho (FinL.pvs hc) .nil⟩
end
section
variable {P : Program}
abbrev pI (n : Int) : AV := .pv (.int .i64 n)
theorem b1c (hu : P.underlying t = some .bool) (x y : Operand) (a b : Bool) : EqA P t x y (.pv (.bool a)) (.pv (.bool b)) (a == b) := by
 intro X w u v h12 h1 h2 op hop
 have e1 := h1.pv_inv
 have e2 := h2.pv_inv
 subst e1 e2
 have he : (Op.equal t (.bool a) (.bool b)).run P w = .ok (a == b) w := run_equalIn_bool w 9999 t a b hu
 rcases hop with rfl | rfl
 ·simp [eqGuard, binOp, he, a8l]
 ·simp [eqGuard, binOp, he, a8l]

theorem b7q (t : Nat) (ht : fr.get t = some (.row (.rd m) ty sz xs)) (hx : xs.length ≤ 9223372036854775807 → Ex P n c fr h Q) : Ex P n c fr h Q := fun X B a w hS hF hd => by
 obtain ⟨v, h1, h2⟩ := hF.slot t _ ht
 obtain ⟨A, cp, u, e, g1, g2, _⟩ := h2.row_inv
 refine hx ?_ X B a w hS hF hd
 unfold maxLen at g2
 omega
theorem q6q {α : Type} {f : α → List AV} {l : List α} {n : Nat} {c : Code} {fr : Fr} {h : Hp} {Q : Exit → Fr → Hp → Prop} (t : Nat) {m : Bool} {ty sz : Nat} (ht : fr.get t = some (.row (.rd m) ty sz (l.map f))) (hx : l.length ≤ 9223372036854775807 → Ex P n c fr h Q) : Ex P n c fr h Q :=
 b7q t ht (fun hl => hx (by rwa [List.length_map] at hl))
end
section
variable {P : Program}
variable {n : Nat} {fr : Fr} {h : Hp} {Q : Exit → Fr → Hp → Prop}
theorem HE.app (ka : HE h a) (kb : HE h b) : HE h (a ++ b) := by
 induction ka with
 | nil => exact kb
 | same he _ ih => exact .same he ih
 | kill he _ ih => exact .kill he ih
theorem Fr.get_app (a b : Fr) (t : Nat) : Fr.get (a ++ b) t = match a.get t with
  | some v => some v
  | none => b.get t := by
 induction a with
 | nil => rfl
 | cons p a ih =>
  obtain ⟨k, v⟩ := p
  rw [List.cons_append, Fr.get_cons, Fr.get_cons]
  split
  ·rfl
  ·exact ih
theorem Cov.app (ka : Cov a f) (kb : Cov b f) : Cov (a ++ b) f := fun t av hg => by
 rw [Fr.get_app] at hg
 cases ha : a.get t with
 | some v => rw [ha] at hg; cases hg; exact ka t _ ha
 | none => rw [ha] at hg; exact kb t av hg

abbrev c5k {ι : Type} (uF : ι → Gn → Fr) (uH : ι → Gn → Hp) (ok : ι → Prop) (bs : Fr) (bh : Hp) (fr' : Fr) (h' : Hp) : Prop :=
 ∃ i, ok i ∧ ∃ g' : List Nat, Cov (uF i (gl g')) fr' ∧ Cov bs fr' ∧ HE h' (uH i (gl g')) ∧ HE h' bh ∧ c4b h' (uH i (gl g') ++ bh) = true
theorem v1v (uF : ι → Gn → Fr) (uH : ι → Gn → Hp) (ok : ι → Prop) (μ : ι → Nat) (kf : Cov bs fr) (kh : HE h bh) (i0 : ι) (h0 : ok i0) (g0 : List Nat) (cf : Cov (uF i0 (gl g0)) fr) (ch : HE h (uH i0 (gl g0))) (hd : c4b h (uH i0 (gl g0) ++ bh) = true)
  (step : ∀ i γ, ok i → Ex P n c (uF i γ ++ bs) (uH i γ ++ bh) (b4d (c5k uF uH (fun i' => ok i' ∧ μ i' < μ i) bs bh) Q)) : Ex P n (.loop c) fr h Q :=
 c1m (ι := ι × Gn) (fun p => uF p.1 p.2 ++ bs) (fun p => uH p.1 p.2 ++ bh) (fun p => ok p.1) (fun p => μ p.1) (i0, gl g0) h0 (cf.app kf) (HE.hw (ch.app kh) hd) fun p hp => (step p.1 p.2 hp).mono fun e fr' h' hq => by
  cases e with
  | normal =>
   obtain ⟨i', ⟨h1, h2⟩, g', h3, h4, h5, h6, h7⟩ := hq
   exact ⟨(i', gl g'), h1, h2, h3.app h4, HE.hw (h5.app h6) h7⟩
  | _ => exact hq
theorem c1y (uF : ι → Gn → Fr) (uH : ι → Gn → Hp) (ok : ι → Prop) (kf : Cov bs fr) (kh : HE h bh)
  (h1 : Ex P n c fr h (b4d (c5k uF uH ok bs bh) Q)) (h2 : ∀ i γ, ok i → Ex P n d (uF i γ ++ bs) (uH i γ ++ bh) Q) : Ex P n (.seq c d) fr h Q :=
 b4s _ h1 fun fr' h' ⟨i, k1, g', k2, k3, k4, k5, k6⟩ => b7e (k2.app k3) (HE.hw (k4.app k5) k6) (h2 i (gl g') k1)

theorem c3e (t : Nat) (ht : fr.get t = some a) (hf' : FinL h [a] [b] h') (hx : Ex P n c ((t, b) :: fr) h' Q) : Ex P n c fr h Q := fun X B A w hS hF hd => by
 obtain ⟨v, g1, g2⟩ := hF.slot t a ht
 obtain ⟨Y, k1, k2, k3⟩ := hf'.sound hS (vs := [v]) rfl (fun i a' v' ha hv => by
  cases i with
  | zero => simp only [List.getElem?_cons_zero, Option.some.injEq] at ha hv; subst ha hv; exact g2
  | succ i => simp at ha)
 have hF' : FrOK Y w n (Fr.get ((t, b) :: fr)) A := by
  refine ⟨hF.size, fun k av hk => ?_⟩
  rw [Fr.get_cons] at hk
  split at hk
  ·rename_i e; subst e; cases hk
   exact ⟨v, g1, .cl (k3 0 b v rfl rfl)⟩
  ·obtain ⟨u, q1, q2⟩ := hF.slot k av hk
   exact ⟨u, q1, q2.mono k1 hS.ok12 (fun _ _ => rfl)⟩
 refine wp_mono (hx Y B A w k2 hF' hd) fun e a' w' ⟨fr', h'', X', q1, q2, q3, q4, q5, q6⟩ => ⟨fr', h'', X', q1, k1.trans q2, q3, q4, q5, fun b hb => q6 b (k1.ok2 b hb)⟩
theorem TRs.mid (h : TRs X w (cs1 ++ c :: cs2) us S) : ∃ us1 v us2 S1 S0 S2, us = us1 ++ v :: us2 ∧ S = S1 ++ (S0 ++ S2) ∧ us1.length = cs1.length ∧ TRs X w cs1 us1 S1 ∧ TRs X w [c] [v] S0 ∧ TRs X w cs2 us2 S2 := by
 obtain ⟨us1, us', S1, S', rfl, rfl, k1, k2⟩ := h.split
 obtain ⟨us0, us2, S0, S2, rfl, rfl, k3, k4⟩ := TRs.split (cs := [c]) k2
 have := k3.len
 match us0, this with
 | [v], _ => exact ⟨us1, v, us2, S1, S0, S2, rfl, rfl, k1.len, k1, k3, k4⟩
theorem TRs.ow1 (h : TRs X w [.row .ow ty sz ys] [v] S) : ∃ ws S', S = (a3k v).toList ++ S' ∧ Own w ty sz v ys.length ws ∧ Lens sz ys ∧ TRs X.bare w ys.flatten ws S' := by
 generalize hl : [AV.row .ow ty sz ys] = l at h
 cases h with
 | vr h1 h2 => cases hl; simp [AV.isOw] at h2
 | own ho hlen hi t =>
  cases hl
  cases t
  exact ⟨_, _, by simp, ho, hlen, hi⟩
variable {ty2 sz2 : Nat} {ys : List (List AV)}

theorem SRf.splitCell {X : Cx} {B : Base} {h : HF} {F : Nat → List Nat} {w : World} (H : SRf X B h F w) {id g id' g' : Nat} {e : Ent} (he : h id = some (g, e)) (hd : h id' = some (g', .dead)) (hne : id ≠ id') {cs1 cs2 : List AV} {e' : Ent}
  (hin : ∀ f, EntOK X w id g f e → ∃ (us : List Value) (S S0 : List Nat), TRs X w (cs1 ++ .row .ow ty2 sz2 ys :: cs2) us S ∧ (S0 ++ S).Nodup ∧ (∀ c ∈ S0 ++ S, c ∈ f) ∧ ∀ (Y : Cx) S', X.le Y → TRs Y w (cs1 ++ .ref id' (g' + 1) :: cs2) us S' → (S0 ++ S').Nodup → EntOK Y w id g (S0 ++ S') e') :
  ∃ Y, X.le Y ∧ Y.ok2 = X.ok2 ∧ SRh Y B (upd (upd h id' (g' + 1, .row ty2 sz2 ys)) id (g, e')) w := by
 obtain ⟨us, S, S0, k1, k2, k3, k4⟩ := hin _ (H.ent id g e he)
 obtain ⟨us1, v, us2, S1, Sm, S2, rfl, rfl, l1, t1, tm, t2⟩ := k1.mid
 obtain ⟨ws, S', rfl, o1, o2, o3⟩ := tm.ow1
 have hfree := H.free hd
 let Y := X.setR id' (g' + 1) (v, sz2)
 have hX : X.le Y := Cx.le_setR hfree.2
 obtain ⟨A, nn, c, hv⟩ : ∃ A nn c, v = .slice A nn c := by
  rcases o1.2 with ⟨A, e1, _⟩ | ⟨b, cap, cur, e1, _⟩ <;> exact ⟨_, _, _, e1⟩
 have hnd := List.nodup_append.1 k2
 have hnd2 := List.nodup_append.1 hnd.2.1
 have hnd3 := List.nodup_append.1 hnd2.2.1
 have hS13 : (S0 ++ (S1 ++ S2)).Nodup := by
  refine List.nodup_append.2 ⟨hnd.1, List.nodup_append.2 ⟨hnd2.1, hnd3.2.1, fun a ha b hb => hnd2.2.2 a ha b (List.mem_append_right _ hb)⟩, fun a ha b hb => hnd.2.2 a ha b ?_⟩
  rcases List.mem_append.1 hb with hb | hb
  ·exact List.mem_append_left _ hb
  ·exact List.mem_append_right _ (List.mem_append_right _ hb)
 have tr : TRs Y w (cs1 ++ .ref id' (g' + 1) :: cs2) (us1 ++ v :: us2) (S1 ++ S2) := by
  have q1 := t1.mono hX H.ok12 (fun _ _ => rfl) (fun _ _ => rfl)
  have q2 := t2.mono hX H.ok12 (fun _ _ => rfl) (fun _ _ => rfl)
  subst hv
  exact q1.append (.vr rfl rfl VR.setR q2)
 have hE := k4 Y (S1 ++ S2) hX tr hS13
 have hown : ∀ c ∈ (a3k v).toList ++ S', c ∈ F id := fun c hc => k3 c (List.mem_append_right _ (List.mem_append_right _ (List.mem_append_left _ hc)))
 have b9p : ∀ c ∈ S0 ++ (S1 ++ S2), c ∈ F id := fun c hc => by
  rcases List.mem_append.1 hc with hc | hc
  ·exact k3 c (List.mem_append_left _ hc)
  ·rcases List.mem_append.1 hc with hc | hc
   ·exact k3 c (List.mem_append_right _ (List.mem_append_left _ hc))
   ·exact k3 c (List.mem_append_right _ (List.mem_append_right _ (List.mem_append_right _ hc)))
 have hdisj : ∀ c ∈ S0 ++ (S1 ++ S2), c ∉ (a3k v).toList ++ S' := fun c hc hc' => by
  rcases List.mem_append.1 hc with hc | hc
  ·exact hnd.2.2 c hc c (List.mem_append_right _ (List.mem_append_left _ hc')) rfl
  ·rcases List.mem_append.1 hc with hc | hc
   ·exact hnd2.2.2 c hc c (List.mem_append_left _ hc') rfl
   ·exact hnd3.2.2 c hc' c hc rfl
 let F' := a3o (a3o F id' ((a3k v).toList ++ S')) id (S0 ++ (S1 ++ S2))
 have f1 : F' id = S0 ++ (S1 ++ S2) := by simp [F', a3o]
 have f2 : F' id' = (a3k v).toList ++ S' := by simp [F', a3o, Ne.symm hne]
 have f3 : ∀ k, k ≠ id → k ≠ id' → F' k = F k := fun k h1 h2 => by simp [F', a3o, h1, h2]
 have u1 : (upd (upd h id' (g' + 1, .row ty2 sz2 ys)) id (g, e')) id = some (g, e') := a1x _ _ _
 have u2 : (upd (upd h id' (g' + 1, .row ty2 sz2 ys)) id (g, e')) id' = some (g' + 1, .row ty2 sz2 ys) := by rw [p0p _ (Ne.symm hne), a1x]
 have u3 : ∀ k, k ≠ id → k ≠ id' → (upd (upd h id' (g' + 1, .row ty2 sz2 ys)) id (g, e')) k = h k := fun k h1 h2 => by rw [p0p _ h1, p0p _ h2]
 have mem : ∀ k ge b, (upd (upd h id' (g' + 1, .row ty2 sz2 ys)) id (g, e')) k = some ge → b ∈ F' k → (k = id ∧ b ∈ S0 ++ (S1 ++ S2)) ∨ (k = id' ∧ b ∈ (a3k v).toList ++ S') ∨ (k ≠ id ∧ k ≠ id' ∧ h k = some ge ∧ b ∈ F k) := fun k ge b hk hb => by
  by_cases h1 : k = id
  ·subst h1; rw [f1] at hb; exact .inl ⟨rfl, hb⟩
  ·by_cases h2 : k = id'
   ·subst h2; rw [f2] at hb; exact .inr (.inl ⟨rfl, hb⟩)
   ·rw [u3 k h1 h2] at hk; rw [f3 k h1 h2] at hb; exact .inr (.inr ⟨h1, h2, hk, hb⟩)
 have inF : ∀ k ge b, (upd (upd h id' (g' + 1, .row ty2 sz2 ys)) id (g, e')) k = some ge → b ∈ F' k → ∃ j ge', h j = some ge' ∧ b ∈ F j := fun k ge b hk hb => by
  rcases mem k ge b hk hb with ⟨_, h1⟩ | ⟨_, h1⟩ | ⟨_, _, h1, h2⟩
  ·exact ⟨id, _, he, b9p b h1⟩
  ·exact ⟨id, _, he, hown b h1⟩
  ·exact ⟨k, ge, h1, h2⟩
 refine ⟨Y, hX, rfl, F', ?_, ?_, ?_, ?_, H.ok12, H.in1, H.in2, ?_, ?_, H.os, H.tape, H.output, H.size, H.keep⟩
 ·intro k gk ek hk
  by_cases h1 : k = id
  ·subst h1; rw [u1] at hk; cases hk; rw [f1]; exact hE
  ·by_cases h2 : k = id'
   ·subst h2; rw [u2] at hk; cases hk; rw [f2]
    refine ⟨v, ws, S', by simp [Y, Cx.setR], o1, o2, o3.mono ⟨fun _ h => h, fun _ h => h, fun _ _ _ h => (by cases h), fun _ _ _ h => (by cases h)⟩ H.ok12 (fun _ _ => rfl) (fun _ _ => rfl), hnd3.1, fun c hc => hc⟩
   ·rw [u3 k h1 h2] at hk; rw [f3 k h1 h2]
    exact (H.ent k gk ek hk).mono hX H.ok12 (fun _ _ => rfl) (fun _ _ => rfl)
 ·intro k ge b hk hb
  obtain ⟨j, ge', h1, h2⟩ := inF k ge b hk hb
  exact H.blk j ge' b h1 h2
 ·intro k j ge ge' b hk hj hb hb'
  rcases mem k ge b hk hb with ⟨q1, q2⟩ | ⟨q1, q2⟩ | ⟨q1, q2, q3, q4⟩ <;> rcases mem j ge' b hj hb' with ⟨r1, r2⟩ | ⟨r1, r2⟩ | ⟨r1, r2, r3, r4⟩
  ·rw [q1, r1]
  ·exact absurd r2 (hdisj b q2)
  ·exact absurd (H.sep _ _ _ _ b he r3 (b9p b q2) r4) (Ne.symm r1)
  ·exact absurd q2 (hdisj b r2)
  ·rw [q1, r1]
  ·exact absurd (H.sep _ _ _ _ b he r3 (hown b q2) r4) (Ne.symm r1)
  ·exact absurd (H.sep _ _ _ _ b q3 he q4 (b9p b r2)) q1
  ·exact absurd (H.sep _ _ _ _ b q3 he q4 (hown b r2)) q1
  ·exact H.sep _ _ _ _ b q3 r3 q4 r4
 ·refine fun b hb => ⟨(H.ok2 b hb).1, fun k ge hk hbk => ?_⟩
  obtain ⟨j, ge', h1, h2⟩ := inF k ge b hk hbk
  exact (H.ok2 b hb).2 j ge' h1 h2
 ·intro k ge b hk hb
  obtain ⟨j, ge', h1, h2⟩ := inF k ge b hk hb
  exact H.own j ge' b h1 h2
 ·intro k gk hk
  by_cases h2 : k = id'
  ·subst h2
   have hg : g' + 1 < gk := hk _ _ u2
   have := H.hist k gk (fun g2 e2 hh => by rw [hd] at hh; cases hh; omega)
   refine ⟨this.1, ?_⟩
   show (X.setR k (g' + 1) (v, sz2)).rw k gk = none
   simp only [Cx.setR]
   rw [if_neg (by omega)]
   exact this.2
  ·have := H.hist k gk (fun g2 e2 hh => by
    by_cases h1 : k = id
    ·subst h1; rw [he] at hh; cases hh; exact hk _ e' u1
    ·exact hk g2 e2 (by rw [u3 k h1 h2]; exact hh))
   refine ⟨this.1, ?_⟩
   show (X.setR id' (g' + 1) (v, sz2)).rw k gk = none
   simp only [Cx.setR]
   rw [if_neg (fun h => h2 h.1)]
   exact this.2
theorem hf2 (h : Hp) (i j : Nat) (p q : Nat × Ent) : hf ((i, p) :: (j, q) :: h) = upd (upd (hf h) j q) i p := by rw [a2w, a2w]
theorem b1d (hk : ∀ (X : Cx) (B : Base) (w : World), SRh X B (hf h) w → ∃ Y, X.le Y ∧ Y.ok2 = X.ok2 ∧ SRh Y B (hf h') w) (hx : Ex P n c fr h' Q) : Ex P n c fr h Q := fun X B a w hS hF hd => by
 obtain ⟨Y, k1, k2, k3⟩ := hk X B w hS
 refine wp_mono (hx Y B a w k3 (hF.mono k1 hS.ok12 (fun _ _ => rfl)) hd) fun e a' w' ⟨fr', h'', X', q1, q2, q3, q4, q5, q6⟩ => ⟨fr', h'', X', q1, k1.trans q2, q3, q4, q5, fun b hb => q6 b (by rw [k2]; exact hb)⟩
theorem a5i (hc : cs[off]? = some c) : cs = cs.take off ++ c :: cs.drop (off + 1) ∧ ∀ c', cs.set off c' = cs.take off ++ c' :: cs.drop (off + 1) := by
 obtain ⟨hp, he⟩ := List.getElem?_eq_some_iff.1 hc
 refine ⟨by rw [← he, List.getElem_cons_drop, List.take_append_drop], fun c' => by rw [List.set_eq_take_append_cons_drop, if_pos hp]⟩
theorem b7r {c : Code} (id off id' : Nat) {g g' ty ty2 sz2 : Nat} {cs cs' : List AV} (hh : z8z h id = some (g, .box ty cs)) (hc : cs[off]? = some (.row .ow ty2 sz2 ys)) (hd : z8z h id' = some (g', .dead)) (hne : Nat.beq id id' = false) (hcs : cs.set off (.ref id' (g' + 1)) = cs')
  (k : Ex P n c fr ((id, (g, .box ty cs')) :: (id', (g' + 1, .row ty2 sz2 ys)) :: h) Q) : Ex P n c fr h Q := by
 subst hcs
 have hne' : id ≠ id' := fun e => by subst e; rw [Nat.beq_refl] at hne; cases hne
 refine b1d (fun X B w hS => ?_) k
 obtain ⟨F, hS⟩ := hS
 rw [hf2]
 refine hS.splitCell (e := .box ty cs) (cs1 := cs.take off) (cs2 := cs.drop (off + 1)) hh hd hne' fun f hE => ?_
 obtain ⟨b, us, S, h1, h2, h3, h4, h5⟩ := hE
 obtain ⟨p1, p2⟩ := a5i hc
 refine ⟨us, S, [b], by rw [← p1]; exact h3, h4, h5, fun Y S' hX ht hn => ?_⟩
 exact ⟨b, us, S', hX.bx _ _ _ h1, h2, by rw [p2]; exact ht, hn, fun c hc => hc⟩
end
section
variable {P : Program}

inductive Strict : AV → Prop
 | pv (v : Value) : Strict (.pv v)
 | row {ty sz : Nat} {xs : List (List AV)} (h : ∀ x ∈ xs, ∀ y ∈ x, Strict y) : Strict (.row (.rd true) ty sz xs)
 | ifc {t : TypeId} {a : AV} (h : Strict a) : Strict (.ifc t a)
 | agg {cs : List AV} (h : ∀ y ∈ cs, Strict y) : Strict (.agg cs)
 | tup {cs : List AV} (h : ∀ y ∈ cs, Strict y) : Strict (.tup cs)
theorem Strict.cr (hs : Strict a) : ∀ {v : Value}, CR o1 o2 w a v → CR o1 o1 w a v := by
 induction hs with
 | pv u => intro v h; cases h; exact .pv u
 | row _ ih =>
  intro v h
  cases h with
  | row A c u hc hm hlen hone had hcell hrec => exact .row A c u hc hm hlen hone had hcell (fun j i x y hx hy => ih x (List.mem_of_getElem? hx) y (List.mem_of_getElem? hy) (hrec j i x y hx hy))
 | ifc _ ih => intro v h; cases h with | ifc _ _ u h => exact .ifc _ _ u (ih h)
 | agg _ ih => intro v h; cases h with | agg us hl hone h => exact .agg us hl hone (fun i y u hy hu => ih y (List.mem_of_getElem? hy) (h i y u hy hu))
 | tup => intro v h; cases h
theorem Strict.vr (hs : Strict a) (h1 : ∀ b, X.ok1 b → Y.ok1 b) (h2 : ∀ b, X.ok1 b → Y.ok2 b) : ∀ {v : Value}, VR X w a v → VR Y w a v := by
 have base : ∀ {a : AV} {v : Value}, Strict a → CR X.ok1 X.ok2 w a v → VR Y w a v := fun hs h => .cl ((hs.cr h).mono h1 h2 (fun _ h => h) (fun b hb => rfl))
 induction hs with
 | pv u => intro v h; rw [h.pv_inv]; exact .pv u
 | row h0 => intro v h; cases h with | cl h => exact base (.row h0) h
 | ifc h0 ih =>
  intro v h
  cases h with
  | cl h => exact base (.ifc h0) h
  | ifc _ _ u h => exact .ifc _ _ u (ih h)
 | agg h0 ih =>
  intro v h
  cases h with
  | cl h => exact base (.agg h0) h
  | agg us hl hone h => exact .agg us hl hone (fun i y u hy hu => ih y (List.mem_of_getElem? hy) (h i y u hy hu))
 | tup h0 ih =>
  intro v h
  cases h with
  | cl h => exact base (.tup h0) h
  | tup us hl h => exact .tup us hl (fun i y u hy hu => ih y (List.mem_of_getElem? hy) (h i y u hy hu))
theorem a4p {α : Type} {f : α → List AV} {ty sz : Nat} {l : List α} (h : ∀ a, ∀ y ∈ f a, Strict y) : Strict (.row (.rd true) ty sz (l.map f)) := .row fun x hx y hy => by
 obtain ⟨a, _, rfl⟩ := List.mem_map.1 hx
 exact h a y hy

inductive LendL (h : Hp) : List AV → List AV → TL → Prop
 | nil : LendL h [] [] []
 | cl {a : AV} {az bs : List AV} {T : TL} (hc : a.cl = true) (t : LendL h az bs T) : LendL h (a :: az) (a :: bs) T
 | le {a b : AV} {az bs : List AV} {T : TL} (hc : a.cl = true) (hl : Le false a b) (t : LendL h az bs T) : LendL h (a :: az) (b :: bs) T
 | ref {id g ty sz : Nat} {xs xs' : List (List AV)} {az bs : List AV} {T : TL} (hh : z8z h id = some (g, .row ty sz xs)) (hl : Le false (.row .ow ty sz xs) (.row (.rd false) ty sz xs')) (t : LendL h az bs T) :
   LendL h (.ref id g :: az) (.row (.rd false) ty sz xs' :: bs) ((id, (g, .row ty sz xs)) :: T)
 | agg {cs ds az bs : List AV} {T1 T : TL} (h1 : (cs.all AV.one) = true) (hc : LendL h cs ds T1) (t : LendL h az bs T) : LendL h (.agg cs :: az) (.agg ds :: bs) (T1 ++ T)
theorem LendL.one (k : LendL h az bs T) : (az.all AV.one) = true → (bs.all AV.one) = true := by
 induction k with
 | nil => exact fun h => h
 | cl hc t ih => intro ha; rw [List.all_cons, Bool.and_eq_true] at ha ⊢; exact ⟨ha.1, ih ha.2⟩
 | le hc hl t ih => intro ha; rw [List.all_cons, Bool.and_eq_true] at ha ⊢; exact ⟨hl.one ha.1, ih ha.2⟩
 | ref hh hl t ih => intro ha; rw [List.all_cons, Bool.and_eq_true] at ha ⊢; exact ⟨rfl, ih ha.2⟩
 | agg => intro ha; simp [AV.one] at ha
theorem LendL.len (k : LendL h az bs T) : bs.length = az.length := by
 induction k with
 | nil => rfl
 | cl _ _ ih => simp [ih]
 | le _ _ _ ih => simp [ih]
 | ref _ _ _ ih => simp [ih]
 | agg _ _ _ _ ih => simp [ih]
theorem LendL.inH (k : LendL h az bs T) : InH h T := by
 induction k with
 | nil => exact .nil
 | cl _ _ ih => exact ih
 | le _ _ _ ih => exact ih
 | ref hh _ _ ih => exact .cons hh ih
 | agg _ _ _ ih1 ih2 =>
  intro p hp
  rcases List.mem_append.1 hp with hp | hp
  ·exact ih1 p hp
  ·exact ih2 p hp
theorem LendL.sound (k : LendL h az bs T) : ∀ {X : Cx} {B : Base} {hF : HF} {F : Nat → List Nat} {w : World} {o2 : Nat → Prop} {vs : List Value}, SRf X B hF F w → (∀ b, X.ok2 b → o2 b) → (∀ id ge, (id, ge) ∈ T → hF id = some ge) → (∀ id ge, (id, ge) ∈ T → ∀ b ∈ F id, o2 b) →
  vs.length = az.length → (∀ (i : Nat) (a : AV) (v : Value), az[i]? = some a → vs[i]? = some v → VR X w a v) → ∀ (i : Nat) (b : AV) (v : Value), bs[i]? = some b → vs[i]? = some v → CR X.ok1 o2 w b v := by
 have glue : ∀ {o1 o2 : Nat → Prop} {w : World} {b : AV} {bs : List AV} {v : Value} {vs : List Value}, CR o1 o2 w b v → (∀ (i : Nat) (c : AV) (u : Value), bs[i]? = some c → vs[i]? = some u → CR o1 o2 w c u) → ∀ (i : Nat) (c : AV) (u : Value), (b :: bs)[i]? = some c → (v :: vs)[i]? = some u → CR o1 o2 w c u := by
  intro o1 o2 w b bs v vs h1 h2 i c u hc hu
  cases i with
  | zero =>
   simp only [List.getElem?_cons_zero, Option.some.injEq] at hc hu
   rw [← hc, ← hu]; exact h1
  | succ i => exact h2 i c u (by simpa using hc) (by simpa using hu)
 induction k with
 | nil => intro X B hF F w o2 vs _ _ _ _ _ _ i b v hb; simp at hb
 | cl hc t ih =>
  intro X B hF F w o2 vs hS h2 hT hb hl hr
  cases vs with
  | nil => simp at hl
  | cons v vs =>
   exact glue (((hr 0 _ v rfl rfl).closed hc).1.mono (fun _ h => h) h2 hS.ok12 (fun _ _ => rfl)) (ih hS h2 hT hb (by simpa using hl) (fun i c u hc hu => hr (i + 1) c u (by simpa using hc) (by simpa using hu)))
 | le hc hle t ih =>
  intro X B hF F w o2 vs hS h2 hT hb hl hr
  cases vs with
  | nil => simp at hl
  | cons v vs =>
   exact glue ((((hr 0 _ v rfl rfl).closed hc).1.mono (fun _ h => h) h2 hS.ok12 (fun _ _ => rfl)).le (fun b hb => h2 b (hS.ok12 b hb)) hle) (ih hS h2 hT hb (by simpa using hl) (fun i c u hc hu => hr (i + 1) c u (by simpa using hc) (by simpa using hu)))
 | @ref id g ty sz xs xs' az bs T hh hle t ih =>
  intro X B hF F w o2 vs hS h2 hT hb hl hr
  cases vs with
  | nil => simp at hl
  | cons v vs =>
   refine glue ?_ (ih hS h2 (fun i ge hm => hT i ge (List.mem_cons_of_mem _ hm)) (fun i ge hm => hb i ge (List.mem_cons_of_mem _ hm)) (by simpa using hl) (fun i c u hc hu => hr (i + 1) c u (by simpa using hc) (by simpa using hu)))
   obtain ⟨v0, us, S, q1, q2, q3, q4, q5, q6⟩ := hS.ent _ _ _ (hT id _ (List.mem_cons_self ..))
   obtain ⟨A, nn, c, s0, e1, e2⟩ := (hr 0 _ v rfl rfl).ref_inv
   rw [q1] at e2
   cases e2
   have hF' := hb id _ (List.mem_cons_self ..)
   cases hle with
   | ow hc hl1 h1 h =>
    have hfl : LeL false xs.flatten xs'.flatten := LeL.flat xs xs' hl1 (fun j x x' hx hx' => ⟨h1 j x x' hx hx', fun i y y' hy hy' => h j i x x' y y' hx hx' hy hy'⟩)
    have hcr := q4.le (k := false) (o1 := X.ok1) (o2 := o2) (fun b hb => h2 b (hS.ok12 b hb)) (fun _ h => h) h2 hS.ok12 hfl (fun b hb => ⟨hF' b (q6 b (List.mem_append_right _ hb)), fun h => (by cases h)⟩)
    rw [e1]
    refine a6n (by rw [hl1]; exact q2) (fun j x' hx' => ?_) hcr (fun b hb => hF' b (q6 b (by simp [hb])))
    have hlt := (List.getElem?_eq_some_iff.1 hx').1
    have hx0 : xs[j]? = some (xs[j]'(by omega)) := List.getElem?_eq_getElem _
    rw [h1 j _ x' hx0 hx']
    exact q3 j _ hx0
 | @agg cs ds az bs T1 T h1 hc t ih1 ih2 =>
  intro X B hF F w o2 vs hS h2 hT hb hl hr
  cases vs with
  | nil => simp at hl
  | cons v vs =>
   refine glue ?_ (ih2 hS h2 (fun i ge hm => hT i ge (List.mem_append_right _ hm)) (fun i ge hm => hb i ge (List.mem_append_right _ hm)) (by simpa using hl) (fun i c u hc hu => hr (i + 1) c u (by simpa using hc) (by simpa using hu)))
   obtain ⟨us, rfl, hu⟩ := (hr 0 _ v rfl rfl).agg_inv
   have h1' := hc.one h1
   exact .agg us (by rw [hu.len, hc.len]) (fun i y hy => List.all_eq_true.1 h1' y (List.mem_of_getElem? hy)) (ih1 hS h2 (fun i ge hm => hT i ge (List.mem_append_left _ hm)) (fun i ge hm => hb i ge (List.mem_append_left _ hm)) hu.len hu.rel)

theorem b7s (hP : a1f P f bs out) (hl : LendL h az bs T) (hs : Strict out) : b3w P f az T [] out := by
 refine ⟨hP.1, fun X B hF w vs hS hlen hr hT => ?_⟩
 obtain ⟨F, hS⟩ := hS
 let lent : Nat → Prop := fun b => ∃ id ge, (id, ge) ∈ T ∧ b ∈ F id
 let X0 : Cx := ⟨X.ok1, fun b => X.ok2 b ∨ lent b, fun _ _ => none, fun _ _ => none⟩
 let B0 : Base := ⟨w, fun _ => False, X0.ok1, X0.ok2⟩
 have lt : ∀ b, lent b → b < w.heap.size := fun b ⟨id, ge, h1, h2⟩ => hS.blk id ge b (hT id ge h1) h2
 have lno : ∀ b, lent b → ¬ X.ok2 b := fun b ⟨id, ge, h1, h2⟩ h3 => (hS.ok2 b h3).2 id ge (hT id ge h1) h2
 have hcr := hl.sound (o2 := X0.ok2) hS (fun b hb => .inl hb) hT (fun id ge hm b hb => .inr ⟨id, ge, hm, hb⟩) hlen hr
 have hS0 : SRh X0 B0 (hf []) w := by
  refine ⟨fun _ => [], ?_, ?_, ?_, ?_, fun b hb => .inl (hS.ok12 b hb), fun b hb => .inl hb, fun b hb => .inl hb, ?_, fun _ _ _ => ⟨rfl, rfl⟩, rfl, rfl, rfl, Nat.le_refl _, fun _ _ _ => rfl⟩
  ·intro id g e he; cases he
  ·intro id ge b he; cases he
  ·intro id id' ge ge' b he; cases he
  ·refine fun b hb => ⟨?_, fun id ge he => by cases he⟩
   rcases hb with hb | hb
   ·exact (hS.ok2 b hb).1
   ·exact lt b hb
  ·intro id ge b he; cases he
 refine (hP.2 X0 B0 (hf []) w vs hS0 (by rw [hl.len]; exact hlen) (fun i a v ha hv => .cl (hcr i a v ha hv)) (fun _ _ h => by cases h)).mono fun e w' hh => ?_
 obtain ⟨v, rfl, X', k1, ⟨F', k2⟩, k3, k4⟩ := hh
 have hkeep : ∀ b, b < w.heap.size → w'.heap[b]? = w.heap[b]? := fun b hb => k2.keep b hb (fun h => h)
 have in1 : ∀ b, X'.ok1 b → X.ok1 b ∨ w.heap.size ≤ b := fun b hb => by
  rcases k2.in1 b hb with h | h | h
  ·exact .inl h
  ·exact h.elim
  ·exact .inr h
 have nol : ∀ b, X'.ok1 b → ¬ lent b := fun b hb hlb => by
  rcases in1 b hb with h | h
  ·exact lno b hlb (hS.ok12 b h)
  ·exact absurd (lt b hlb) (Nat.not_lt.2 h)
 let Z : Cx := ⟨X'.ok1, fun b => X'.ok2 b ∧ ¬ lent b, X.bx, X.rw⟩
 have hX : X.le Z := ⟨k1.ok1, fun b hb => ⟨k1.ok2 b (.inl hb), fun h => lno b h hb⟩, fun _ _ _ h => h, fun _ _ _ h => h⟩
 refine ⟨v, rfl, Z, hX, ⟨F, ?_, ?_, ?_, ?_, fun b hb => ⟨k2.ok12 b hb, nol b hb⟩, ?_, ?_, ?_, ?_, k2.os.trans hS.os, k2.tape.trans hS.tape, k2.output.trans hS.output, Nat.le_trans hS.size k2.size, fun b hb hs' => (hkeep b (Nat.lt_of_lt_of_le hb hS.size)).trans (hS.keep b hb hs')⟩, fun b hb => hkeep b (hS.ok2 b hb).1, hs.vr (X := X') (Y := Z) (fun _ h => h) (fun b hb => ⟨k2.ok12 b hb, nol b hb⟩) k4⟩
 ·intro id g e he
  rw [a2x] at he
  exact (hS.ent id g e he).mono hX hS.ok12 (fun b hb => hkeep b (hS.ok2 b hb).1) (fun b hb => hkeep b (hS.blk id _ b he hb))
 ·intro id ge b he hb
  rw [a2x] at he
  exact Nat.lt_of_lt_of_le (hS.blk id ge b he hb) k2.size
 ·intro id id' ge ge' b he he' hb hb'
  rw [a2x] at he he'
  exact hS.sep id id' ge ge' b he he' hb hb'
 ·refine fun b hb => ⟨(k2.ok2 b hb.1).1, fun id ge he hm => ?_⟩
  rw [a2x] at he
  rcases k2.in2 b hb.1 with h | h | h
  ·rcases h with h | h
   ·exact (hS.ok2 b h).2 id ge he hm
   ·exact hb.2 h
  ·exact h.elim
  ·exact absurd (hS.blk id ge b he hm) (Nat.not_lt.2 h)
 ·intro b hb
  rcases in1 b hb with h | h
  ·exact hS.in1 b h
  ·exact .inr (.inr (Nat.le_trans hS.size h))
 ·intro b hb
  rcases k2.in2 b hb.1 with h | h | h
  ·rcases h with h | h
   ·exact hS.in2 b h
   ·exact absurd h hb.2
  ·exact h.elim
  ·exact .inr (.inr (Nat.le_trans hS.size h))
 ·intro id ge b he hb
  rw [a2x] at he
  exact hS.own id ge b he hb
 ·intro id g hg
  refine hS.hist id g (fun g' e hh => hg g' e ?_)
  rw [a2x]; exact hh
theorem a3c {tt : TT}
  (hf : evO fr x = some (.fn (.func f) fi cap)) (ha : evL (evO fr) args.toList = some avs) (he : fi ++ avs ++ cap = az) (hl : LendL h az bs T) (hC : a1f P f bs out) (hs : Strict out) (k : w9w P tt ops r ((d, out) :: fr) h ((ids T, []) :: lg) K) :
  w9w P tt ops (⟨some d, .call { callee := .value x, args := args, argTypes := at' }, ty, pos, af, none⟩ :: r) fr h lg K := by
 subst he
 refine r1r ?_; simp only [a0f, Opt, hf, ha]
 exact ⟨out, T, [], b7s hC hl hs, hl.inH, Sub.nil, k⟩
end
section
variable {P : Program} {ev : Operand → Option AV}
def c5l {κ : Type} [DecidableEq κ] : List κ → κ → Option Nat
 | [], _ => none
 | a :: r, k => if a = k then some 0 else (c5l r k).map (· + 1)
structure FindK (P : Program) (kt : TypeId) {κ : Type} [DecidableEq κ] (enc : κ → Value) : Prop where
 check : ∀ (w : World) (em : Bool) (k : κ), (Instr.checkKey em 10000 kt (enc k)).run P w = .ok () w
 find : ∀ (w : World) (k : κ) (es : List MapEntry) (ks : List κ), es.map (·.key) = ks.map enc → (Instr.findKey kt (enc k) es).run P w = .ok ((c5l ks k).bind fun j => (es[j]?).map fun e => (j, e.val)) w
 stays : ∀ (w : World) (k : κ), (Instr.keyThatStays (enc k) (enc k)).run P w = .ok (enc k) w
section
variable {κ : Type} [DecidableEq κ] {enc : κ → Value} {kt : TypeId}
end
end
section
variable {P : Program} {ev : Operand → Option AV}
variable {id : Nat}

theorem c1z {tt : TT} (htt : a0y P tt) (ho : o.op = .slice t x none none none) (hx : ev x = some (.ptr id g off)) (hs : tt t = some S) (hk : S.kind = .arr n e) (hi : P.info? e = some i) (hm : n ≤ maxLen) :
  OpS P o ev [] [] (.bsl id g off n) :=
 .quiet fun X B hF a w hS hop hT => by
  obtain ⟨b, e1, hb⟩ := (hop x (by simp [ho, Op.operands]) _ hx).ptr_inv
  refine ⟨.slice (some ⟨b, off, none⟩) n n, ?_, .bsl hb (Nat.le_refl _) hm⟩
  obtain ⟨d, h5, h6⟩ := (htt _ _ hs).desc
  rw [hk] at h6
  simp only [KOk] at h6
  subst h6
  have hA : P.arrayLen t = n := by simp [Program.arrayLen, h5]
  have hE : P.elem t = e := by simp [Program.elem, h5]
  have h0 : (⟨b, off, none⟩ : Addr).add 0 = ⟨b, off, none⟩ := by simp [Addr.add]
  have := run_sliceAt_array_all (P := P) w t ⟨b, off, none⟩ (by rw [hA, hE]; exact h5)
  rw [hA, hE, run_sizeOf w hi] at this
  rw [Result.andThen_ok] at this
  simp only [execOp, ho, e1, Option.map_none, Sem.run_bind]
  rw [this]
  simp [slicedAt, h0]
section
variable {tt : TT} {ops : Array Oper} {r : List Oper} {fr : Fr} {h : Hp} {lg : Log} {K : Fr → Hp → Log → Prop} {d : Nat} {ty : TypeId} {pos : String} {af : Array Edge}
theorem b4w (htt : a0y P tt) (hx : evO fr x = some (.ptr id g off)) (hs : tt t = some S) (hk : S.kind = .arr n e) (he : tt e = some E) (hm : Nat.ble n 1000000 = true)
  (k : w9w P tt ops r ((d, .bsl id g off n) :: fr) h (([], []) :: lg) K) : w9w P tt ops (⟨some d, .slice t x none none none, ty, pos, af, none⟩ :: r) fr h lg K := by
 obtain ⟨i, h1, _⟩ := (htt _ _ he).info
 exact a7j (c1z htt rfl hx hs hk h1 (by have := Nat.le_of_ble_eq_true hm; unfold maxLen; omega)) .nil .nil k
theorem b7t {t e : Nat} {x ix : Operand} {S E : TS} {id g off len j : Nat} {kd : IntKind} (htt : a0y P tt) (hx : evO fr x = some (.bsl id g off len)) (hi : evO fr ix = some (.pv (.int kd (j : Int)))) (hs : tt t = some S) (hk : S.kind = .sl e) (he : tt e = some E) (hz : E.size = 1) (hj : j < len) (k : w9w P tt ops r ((d, .ptr id g (off + j)) :: fr) h (([], []) :: lg) K) :
  w9w P tt ops (⟨some d, .indexAddr t x ix, ty, pos, af, none⟩ :: r) fr h lg K :=
 a7j (a8c htt rfl hx hi hs hk he hz (by omega) (by omega)) .nil .nil (by rw [Int.toNat_natCast]; exact k)
variable {κ : Type} [DecidableEq κ] {enc : κ → Value} {kt : TypeId}
end
end
section
variable {P : Program} {ev : Operand → Option AV}
def a6s (n e sz : Nat) : List (Nat × Nat) := (List.range n).map fun i => (i * sz, e)
theorem b2q {tt : TT} (htt : a0y P tt) (ho : o.op = .build t parts) (hs : tt t = some S) (hk : S.kind = .arr n e) (he : tt e = some E)
  (hp : a3r ev parts.toList = some l) (hf : a0z tt (a6s n e E.size) (S.zero.map .pv) l = some cs) : OpS P o ev [] [] (.agg cs) :=
 .quiet fun X B hF a w hS hop hT => by
  have T := htt _ _ hs
  have TE := htt _ _ he
  obtain ⟨i, h1, h2, h3, h4⟩ := T.info
  obtain ⟨d, h5, h6⟩ := T.desc
  rw [hk] at h6
  simp only [KOk] at h6
  subst h6
  obtain ⟨k1, k2⟩ := a5f (X := X) (w := w) (a := a) parts.toList l hp (fun x hx => hop x (by
   simp only [ho, Op.operands]
   simpa using hx))
  obtain ⟨us', g3, g4⟩ := a5e htt (place := fun j => some (j * E.size, E.size)) (fun i off ft s h h' => by
   simp only [a6s, List.getElem?_map] at h
   cases hr : (List.range n)[i]? with
   | none => rw [hr] at h; cases h
   | some j =>
    rw [hr] at h
    have hj : j = i := by
     have := List.getElem?_eq_some_iff.1 hr
     obtain ⟨q, q2⟩ := this
     simpa using q2.symm
    simp only [Option.map_some, Option.some.injEq, Prod.mk.injEq] at h
    obtain ⟨rfl, rfl⟩ := h
    rw [he] at h'; cases h'
    rw [hj]) l _ _ cs S.zero hf (VRs.pvs (X := X) (w := w) T.z1) k1 k2
  have hag : S.agg = true := by simp [TS.agg, hk]
  have hz := T.zeroValue w
  rw [hag] at hz
  simp only [if_true] at hz
  refine ⟨.agg us'.toArray, ?_, g4.agg⟩
  have g3' : Instr.fill (fun j => some (j * E.size, E.size)) S.zero.toArray (parts.map fun (i, x) => (i, a.eval x)).toList = some us'.toArray := by
   rw [Array.toList_map]; exact g3
  simp only [execOp, ho, Sem.run_bind, Instr.build, hz, Result.andThen_ok, run_underlying h5, TE.sizeOf, Value.cells, g3', Sem.run_pure]
section
variable {tt : TT} {ops : Array Oper} {r : List Oper} {fr : Fr} {h : Hp} {lg : Log} {K : Fr → Hp → Log → Prop} {d : Nat} {ty : TypeId} {pos : String} {af : Array Edge}
theorem a5j (htt : a0y P tt) (hs : tt t = some S) (hk : S.kind = .arr n e) (he : tt e = some E) (hz : S.zero.map .pv = zs) (hp : a3r (evO fr) parts.toList = some l) (hf : a0z tt (a6s n e E.size) zs l = some cs)
  (k : w9w P tt ops r ((d, .agg cs) :: fr) h (([], []) :: lg) K) : w9w P tt ops (⟨some d, .build t parts, ty, pos, af, none⟩ :: r) fr h lg K := by
 subst hz
 exact a7j (b2q htt rfl hs hk he hp hf) .nil .nil k
variable {x ix : Operand} {S E : TS} {kd : IntKind} {j : Nat}
theorem s2s (htt : a0y P tt) {t n e : Nat} {a out : AV} (hx : evO fr x = some a) (hi : evO fr ix = some (.pv (.int kd (j : Int)))) (hs : tt t = some S) (hk : S.kind = .arr n e) (he : tt e = some E) (h1 : j < n) (ho : shift (j * E.size) a = some out)
  (k : w9w P tt ops r ((d, out) :: fr) h (([], []) :: lg) K) : w9w P tt ops (⟨some d, .indexAddr t x ix, ty, pos, af, none⟩ :: r) fr h lg K :=
 a7j (a8d htt rfl hx hi hs hk he (by omega) (by omega) (by rw [Int.toNat_natCast]; exact ho)) .nil .nil k
variable {α : Type}
theorem b9j {f : α → List AV} {l : List α} {el : α} (hj : l[j]? = some el) : (l.map f).getD j [] = f el := by
 rw [List.getD_eq_getElem?_getD, List.getElem?_map, hj]; rfl
theorem b7u {l : List α} {el : α} (hj : l[j]? = some el) : j < l.length := (List.getElem?_eq_some_iff.1 hj).1
variable {t : Nat} {out : AV}
theorem a0i {f : α → List AV} {l : List α} {el : α} {id g j off rty sz : Nat} (hx : evO fr x = some (.elt id g j off)) (hs : tt t = some S) (hh : z8z h id = some (g, .row rty sz (l.map f))) (hj : l[j]? = some el) (hl : ldv S ((f el).drop off) = some out)
  (k : w9w P tt ops r ((d, out) :: fr) h (([id], []) :: lg) K) : w9w P tt ops (⟨some d, .load t x, ty, pos, af, none⟩ :: r) fr h lg K :=
 b4f hx hs hh (by rw [List.length_map]; exact b7u hj) (b9j hj) hl k
variable {e rty id g sz : Nat}

theorem a1e {f : α → List AV} {l : List α} (hx : evO fr x = some (.ref id g)) (hi : evO fr ix = some (.pv (.int kd (j : Int)))) (hs : tt t = some S) (hk : S.kind = .sl e) (he : tt e = some E) (hh : z8z h id = some (g, .row rty sz (l.map f))) (hz : sz = E.size) (h1 : j < l.length)
  (k : w9w P tt ops r ((d, .elt id g j 0) :: fr) h (([id], []) :: lg) K) : w9w P tt ops (⟨some d, .indexAddr t x ix, ty, pos, af, none⟩ :: r) fr h lg K :=
 b7j hx hi hs hk he hh hz (by rw [List.length_map]; exact h1) k
theorem b2r (hx : evO fr x = some (.elt id g i off)) (hy : evO fr y = some b) (hs : tt t = some S) (hb : b.okc = true) (hn : (p1p b).length = S.size) (hh : z8z h id = some (g, .row rty sz xs)) (hi : i < xs.length) (hl : off + S.size ≤ sz)
  (hab : Abs (p1p b) h cs' T W) (hT : (T.any (·.1 == id)) = false) (k : w9w P tt ops r fr (((id, (g, .row rty sz (xs.set i ((xs.getD i []).take off ++ cs' ++ (xs.getD i []).drop (off + S.size))))) :: W) ++ h) ((id :: ids T, id :: ids W) :: lg) K) : w9w P tt ops (⟨none, .store t x y, ty, pos, af, none⟩ :: r) fr h lg K := by
 refine r1r ?_; simp only [a0f, Opt, hx, hy, hs]
 exact ⟨hb, hn, by simp only [hh, true_and]; exact ⟨hi, hl, (cs', T, W), hab, hT, k⟩⟩
theorem Abs.len (k : Abs cs h cs' T W) : cs'.length = cs.length := by
 induction k with
 | nil => rfl
 | ref _ _ _ _ _ ih => simp [ih]
 | val _ _ _ ih => simp [ih]
end
theorem HE.map {id : Nat} (he : z8z h id = some (g, .map xs)) (e : xs = xs') (t : HE h r) : HE h ((id, (g, .map xs')) :: r) := by
 subst e; exact .same he t
end
section
variable {P : Program} {n : Nat} {fr : Fr} {h : Hp} {Q : Exit → Fr → Hp → Prop}
theorem TRs.toOw (h : TRs X w (cs1 ++ .pv (.slice none 0 0) :: cs2) us S) (ty sz : Nat) : TRs X w (cs1 ++ .row .ow ty sz [] :: cs2) us S := by
 obtain ⟨us1, v, us2, S1, S0, S2, rfl, rfl, l1, t1, tm, t2⟩ := h.mid
 have h0 : v = .slice none 0 0 ∧ S0 = [] := by
  generalize hl : [AV.pv (.slice none 0 0)] = l at tm
  cases tm with
  | vr _ _ k t => cases hl; cases t; exact ⟨k.pv_inv, rfl⟩
  | own => cases hl
 obtain ⟨rfl, rfl⟩ := h0
 exact t1.append (.own (X := X) (w := w) (xs := []) (ws := []) (S' := []) (v := .slice none 0 0) ⟨by simp, .inl ⟨none, rfl, rfl⟩⟩ (fun j x hx => by simp at hx) .nil t2)
variable {id g : Nat}
theorem SRf.re {X : Cx} {B : Base} {h : HF} {F : Nat → List Nat} {w : World} (H : SRf X B h F w) {e e' : Ent} (he : h id = some (g, e)) (hin : EntOK X w id g (F id) e → EntOK X w id g (F id) e') : SRh X B (upd h id (g, e')) w :=
 ⟨_, H.turn (f := F id) he (Cx.le.refl X) rfl rfl (fun _ _ _ => ⟨rfl, rfl⟩) (Nat.le_refl g) (Grew.refl w _) (hin (H.ent id g e he)) (fun b hb => ⟨.inl hb, H.blk _ _ b he hb⟩)⟩
theorem c2a (id off e sz : Nat) (hh : z8z h id = some (g, .box ty cs)) (hc : cs[off]? = some (.pv (.slice none 0 0))) (hcs : cs.set off (.row .ow e sz []) = cs')
  (k : Ex P n c fr ((id, (g, .box ty cs')) :: h) Q) : Ex P n c fr h Q := by
 subst hcs
 refine b1d (fun X B w hS => ⟨X, Cx.le.refl X, rfl, ?_⟩) k
 obtain ⟨F, hS⟩ := hS
 rw [a2w]
 refine hS.re hh fun hE => ?_
 obtain ⟨b, us, S, h1, h2, h3, h4, h5⟩ := hE
 obtain ⟨p1, p2⟩ := a5i hc
 rw [p1] at h3
 exact ⟨b, us, S, h1, h2, by rw [p2]; exact h3.toOw e sz, h4, h5⟩
theorem b9k (he : hf h = hf h') (k : Ex P n c fr h' Q) : Ex P n c fr h Q := fun X B a w hS hF hd => k X B a w (he ▸ hS) hF hd

theorem q7q (id off id' e sz : Nat) (hh : z8z h id = some (g, .box ty cs)) (hc : cs[off]? = some (.pv (.slice none 0 0))) (hd : z8z h id' = some (g', .dead)) (hne : Nat.beq id id' = false) (hcs : cs.set off (.ref id' (g' + 1)) = cs')
  (k : Ex P n c fr ((id, (g, .box ty cs')) :: (id', (g' + 1, .row e sz [])) :: h) Q) : Ex P n c fr h Q := by
 subst hcs
 have hne' : id ≠ id' := fun e => by subst e; rw [Nat.beq_refl] at hne; cases hne
 have hlt := (List.getElem?_eq_some_iff.1 hc).1
 refine c2a id off e sz hh hc rfl ?_
 refine b7r (ty2 := e) (sz2 := sz) (ys := []) (cs := cs.set off (.row .ow e sz [])) id off id' (by rw [v5v, if_pos rfl]) (by rw [List.getElem?_set, if_pos rfl, if_pos hlt]) (by rw [v5v, if_neg hne']; exact hd) hne (List.set_set ..) ?_
 refine b9k (funext fun q => ?_) k
 show z8z _ q = z8z _ q
 simp only [v5v]
 by_cases h1 : id = q
 ·simp [h1]
 ·by_cases h2 : id' = q <;> simp [h1, h2]
theorem b9l (u : List Int) : (u.map pI).map (inC ρ c) = u.map pI := by
 rw [List.map_map]; exact List.map_congr_left fun _ _ => rfl
theorem b2s (m : Nat) (u : List Int) : ((u.map pI).all (b7l m)) = true := by
 rw [List.all_map]; exact List.all_eq_true.2 fun _ _ => rfl
theorem HE.cast (e : a = b) (k : HE h b) : HE h a := e ▸ k
theorem b4x {S : TS} {u : List Int} {i : Nat} {a : Int} (hS : S.agg = false) (h : u[i]? = some a) : ldv S ((u.map pI).drop (0 + i)) = some (pI a) := by
 unfold ldv; rw [hS, Nat.zero_add, List.head?_drop, List.getElem?_map, h]; rfl
theorem b7v {α : Type} {f : α → List AV} {l : List α} {c : Code} (t : Nat) {id g ty sz : Nat} (ht : fr.get t = some (.ref id g)) (hh : z8z h id = some (g, .row ty sz (l.map f))) (hf : ∀ a, ((f a).all AV.cl) = true)
  (k : Ex P n c ((t, .row (.rd true) ty sz (l.map f)) :: fr) ((id, (g, .dead)) :: h) Q) : Ex P n c fr h Q := c3e t ht (.ref hh (Le.ow_map l (fun _ => rfl) hf) .nil) k
end
section
variable {P : Program} {n : Nat} {fr : Fr} {h : Hp} {Q : Exit → Fr → Hp → Prop}
def c4n (n : Nat) (Q : Exit → Fr → Hp → Prop) (B : Base) (X0 : Cx) (w0 : World) : Exit → Act → World → Prop := fun e a' w' => ∃ fr' h' X', Q e fr' h' ∧ X0.le X' ∧ SRh X' B (hf h') w' ∧ FrOK X' w' n (Fr.get fr') a' ∧ a'.defers = [] ∧ ∀ b, X0.ok2 b → w'.heap[b]? = w0.heap[b]?

def c5z (P : Program) (n : Nat) (ops : Array Oper) (Q : Exit → Fr → Hp → Prop) (B : Base) (X0 : Cx) (w0 : World) (fuel : Nat) (listed : Array Bool) (fr : Fr) (h : Hp) : Prop :=
 ∀ (X : Cx) (a : Act) (w : World), X0.le X → (∀ b, X0.ok2 b → w.heap[b]? = w0.heap[b]?) → SRh X B (hf h) w → FrOK X w n fr.get a → a.defers = [] → wpAny P .any ops (c4n n Q B X0 w0) fuel listed a w
section
variable {tt : TT} {ops : Array Oper} {B : Base} {X0 : Cx} {w0 : World} {fuel : Nat} {listed : Array Bool}

inductive AnyL (P : Program) (n : Nat) (ops : Array Oper) (Q : Exit → Fr → Hp → Prop) (B : Base) (X0 : Cx) (w0 : World) (fuel : Nat) (listed : Array Bool) (tt : TT) (fr : Fr) (h : Hp) : List Nat → Prop
 | nil : AnyL P n ops Q B X0 w0 fuel listed tt fr h []
 | cons {i : Nat} {o : Oper} {r : List Nat} (ho : ops[i]? = some o) (hg : o.guard = none) (hd : (match o.dst with | some d => decide (d < n) | none => true) = true)
   (k : w9w P tt ops [o] fr h [] fun fr' h' _ => c5z P n ops Q B X0 w0 fuel (listed.setIfInBounds i true) fr' h') (t : AnyL P n ops Q B X0 w0 fuel listed tt fr h r) : AnyL P n ops Q B X0 w0 fuel listed tt fr h (i :: r)
end
end
section
variable {P : Program} {n : Nat} {fr : Fr} {h : Hp} {Q : Exit → Fr → Hp → Prop}
theorem TRs.swap (hl : us1.length = cs1.length) (h : TRs X w (cs1 ++ a :: cs2) (us1 ++ v :: us2) S) (ha : a.isOw = false) (hb1 : b.one = true) (hb2 : b.isOw = false) (hv : VR X w b v) : TRs X w (cs1 ++ b :: cs2) (us1 ++ v :: us2) S := by
 obtain ⟨us1', v', us2', S1, S0, S2, he, rfl, l1, t1, tm, t2⟩ := h.mid
 obtain ⟨e1, e2⟩ := List.append_inj he (by omega)
 cases e2
 subst e1
 have : S0 = [] := by
  generalize hl : [a] = l at tm
  cases tm with
  | vr _ _ _ t => cases hl; cases t; rfl
  | own => cases hl; cases ha
 subst this
 exact t1.append (.vr hb1 hb2 hv t2)
theorem a6t (id off : Nat) (hh : z8z h id = some (g, .box ty cs)) (hc : cs[off]? = some a) (ha : a.isOw = false) (hf' : FinL h [a] [b] h') (hh' : z8z h' id = some (g, .box ty cs)) (hb1 : b.one = true) (hb2 : b.isOw = false) (hcs : cs.set off b = cs')
  (k : Ex P n c fr ((id, (g, .box ty cs')) :: h') Q) : Ex P n c fr h Q := fun X B A w hS hF hd => by
 subst hcs
 obtain ⟨F, hS0⟩ := hS
 obtain ⟨p1, p2⟩ := a5i hc
 obtain ⟨b0, us, S, h1, h2, h3, h4, h5⟩ := hS0.ent id g _ hh
 rw [p1] at h3
 obtain ⟨us1, v, us2, S1, S0, S2, rfl, rfl, l1, t1, tm, t2⟩ := h3.mid
 have hv : VR X w a v := by
  have := tm.vrs
  exact this.rel 0 _ _ rfl rfl
 obtain ⟨Y, k1, k2, k3⟩ := hf'.sound ⟨F, hS0⟩ (vs := [v]) rfl (fun i a' v' ha hv' => by
  cases i with
  | zero => simp only [List.getElem?_cons_zero, Option.some.injEq] at ha hv'; subst ha hv'; exact hv
  | succ i => simp at ha)
 have hb := k3 0 b v rfl rfl
 obtain ⟨F', hS'⟩ := k2
 have hS2 : SRh Y B (upd (hf h') id (g, .box ty (cs.set off b))) w := hS'.re hh' fun hE => by
  obtain ⟨b1, us', S', g1, g2, g3, g4, g5⟩ := hE
  have e1 : b1 = b0 := by
   have := k1.bx _ _ _ h1
   rw [g1] at this; exact Option.some.inj this
  subst e1
  have e2 : us' = us1 ++ v :: us2 := by
   rw [h2] at g2
   have := Option.some.inj g2
   injection this with this
   exact (List.toArray_inj this).symm
  subst e2
  rw [p1] at g3
  exact ⟨b1, _, S', g1, g2, by rw [p2]; exact TRs.swap l1 g3 ha hb1 hb2 (.cl hb), g4, g5⟩
 rw [← a2w] at hS2
 refine wp_mono (k Y B A w hS2 (hF.mono k1 hS0.ok12 (fun _ _ => rfl)) hd) fun e a' w' ⟨fr', h'', X', q1, q2, q3, q4, q5, q6⟩ => ⟨fr', h'', X', q1, k1.trans q2, q3, q4, q5, fun b hb => q6 b (k1.ok2 b hb)⟩

inductive NilL : List AV → List AV → Prop
 | nil : NilL [] []
 | same {c : AV} {r r' : List AV} (t : NilL r r') : NilL (c :: r) (c :: r')
 | own {ty sz : Nat} {r r' : List AV} (t : NilL r r') : NilL (.pv (.slice none 0 0) :: r) (.row .ow ty sz [] :: r')
theorem NilL.len (k : NilL a b) : b.length = a.length := by
 induction k with
 | nil => rfl
 | same _ ih => simp [ih]
 | own _ ih => simp [ih]
theorem NilL.append (k : NilL a b) (m : NilL c d) : NilL (a ++ c) (b ++ d) := by
 induction k with
 | nil => exact m
 | same _ ih => exact .same ih
 | own _ ih => exact .own ih
theorem NilL.flatten {α : Type} {f f' : α → List AV} (hf : ∀ a, NilL (f a) (f' a)) : ∀ l : List α, NilL (l.map f).flatten (l.map f').flatten
 | [] => .nil
 | a :: l => by simp only [List.map_cons, List.flatten_cons]; exact (hf a).append (NilL.flatten hf l)
end
section
variable {P : Program}
theorem b9m (hA : A.length = j) : (A ++ cs :: B).getD j [] = cs := by
 subst hA; simp
theorem c2b (hA : A.length = j) : (A ++ cs :: B).set j cs' = A ++ cs' :: B := by
 subst hA; simp
theorem c0l (hA : A.length = j) : j < (A ++ cs :: B).length := by
 rw [List.length_append, List.length_cons]; omega
section
variable {tt : TT} {ops : Array Oper} {r : List Oper} {fr : Fr} {h : Hp} {lg : Log} {K : Fr → Hp → Log → Prop} {d : Nat} {ty : TypeId} {pos : String} {af : Array Edge}
theorem a0p {t e rty id g sz : Nat} {x ix : Operand} {S E : TS} {kd : IntKind} {j : Nat} {A B : List (List AV)} {cs : List AV} (hx : evO fr x = some (.ref id g)) (hi : evO fr ix = some (.pv (.int kd (j : Int)))) (hs : tt t = some S) (hk : S.kind = .sl e) (he : tt e = some E) (hh : z8z h id = some (g, .row rty sz (A ++ cs :: B))) (hz : sz = E.size) (hA : A.length = j)
  (k : w9w P tt ops r ((d, .elt id g j 0) :: fr) h (([id], []) :: lg) K) : w9w P tt ops (⟨some d, .indexAddr t x ix, ty, pos, af, none⟩ :: r) fr h lg K :=
 b7j hx hi hs hk he hh hz (c0l hA) k
variable {id : Nat}
theorem r2r (hA : A.length = j) (hx : evO fr x = some (.elt id g j off)) (hy : evO fr y = some b) (hs : tt t = some S) (hb : b.one = true) (hw : b.isOw = false) (hr : (match b with | .ref _ _ => false | _ => true) = true) (hn : S.size = 1) (hh : z8z h id = some (g, .row rty sz (A ++ cs :: B))) (hl : Nat.blt off cs.length = true) (hz : cs.length = sz) (he : cs.set off b = cs')
  (k : w9w P tt ops r fr ((id, (g, .row rty sz (A ++ cs' :: B))) :: h) (([id], [id]) :: lg) K) : w9w P tt ops (⟨none, .store t x y, ty, pos, af, none⟩ :: r) fr h lg K := by
 subst he
 have hl' : off < cs.length := Nat.le_of_ble_eq_true hl
 refine b2r (T := []) (W := []) (cs' := [b]) hx hy hs (b4e hb) (by rw [a1s hb, hn]; rfl) hh (c0l hA) (by omega) (by rw [a1s hb]; exact .val hb hw .nil) rfl ?_
 have : (A ++ cs :: B).set j (((A ++ cs :: B).getD j []).take off ++ [b] ++ ((A ++ cs :: B).getD j []).drop (off + S.size)) = A ++ cs.set off b :: B := by
  rw [b9m hA, hn, c2b hA, List.append_assoc, List.singleton_append, List.set_eq_take_append_cons_drop, if_pos hl']
 rw [this]; exact k
end
variable {n : Nat} {fr : Fr} {h : Hp} {Q : Exit → Fr → Hp → Prop}
end
section
variable {P : Program}

structure Trn (X Z : Cx) : Prop where
 ok1 : ∀ b, X.ok1 b → Z.ok1 b
 ok12 : ∀ b, X.ok1 b → Z.ok2 b
 bx : ∀ i g b, X.bx i g = some b → Z.bx i g = some b
 rw : ∀ i g v, X.rw i g = some v → Z.rw i g = some v
theorem Trn.bare (T : Trn X Z) : Trn X.bare Z.bare := ⟨T.ok1, T.ok12, fun _ _ _ h => (by cases h), fun _ _ _ h => (by cases h)⟩
inductive Str : AV → Prop
 | any : Str .any
 | st {a : AV} (h : Strict a) : Str a
 | ow {ty sz : Nat} {xs : List (List AV)} : Str (.row .ow ty sz xs)
 | ref (id g : Nat) : Str (.ref id g)
 | bsl (id g a b : Nat) : Str (.bsl id g a b)
 | cut (id g a b : Nat) : Str (.cut id g a b)
 | ptr (id g a : Nat) : Str (.ptr id g a)
 | elt (id g a b : Nat) : Str (.elt id g a b)
 | mp (id g : Nat) : Str (.mp id g)
 | agg {cs : List AV} (h : ∀ y ∈ cs, Str y) : Str (.agg cs)
 | tup {cs : List AV} (h : ∀ y ∈ cs, Str y) : Str (.tup cs)
 | fn {f : Fn} {fi cap : List AV} (h : ∀ y ∈ fi, Str y) (h' : ∀ y ∈ cap, Str y) : Str (.fn f fi cap)
 | ifc {t : TypeId} {a : AV} (h : Str a) : Str (.ifc t a)
theorem Str.pv (v : Value) : Str (.pv v) := .st (.pv v)
theorem Strict.trn (T : Trn X Z) (hs : Strict a) (h : VR X w a v) : VR Z w a v := hs.vr T.ok1 T.ok12 h
theorem CR.trn (T : Trn X Z) (hs : Strict a) (h : CR X.ok1 X.ok2 w a v) : CR Z.ok1 Z.ok2 w a v :=
 (hs.cr h).mono T.ok1 T.ok12 (fun _ h => h) (fun _ _ => rfl)
theorem Str.trn (T : Trn X Z) (hs : Str a) : ∀ {v : Value}, VR X w a v → VR Z w a v := by
 have cl : ∀ {a : AV} {v : Value}, CR X.ok1 X.ok2 w a v → (∀ y, a ≠ .agg y) → (∀ y, a ≠ .tup y) → (∀ t y, a ≠ .ifc t y) → (∀ m ty sz xs, a ≠ .row m ty sz xs) → VR Z w a v := fun h h1 h2 h3 h4 => by
  cases h with
  | pv => exact .pv _
  | row => exact absurd rfl (h4 _ _ _ _)
  | ifc => exact absurd rfl (h3 _ _)
  | agg => exact absurd rfl (h1 _)
 induction hs with
 | any => intro v _; exact .any v
 | st h => intro v hv; exact h.trn T hv
 | ow =>
  intro v h
  cases h with
  | owd v h => exact .owd v h
  | cl h => cases h
 | ref => intro v h; cases h with
  | ref h => exact .ref (T.rw _ _ _ h)
  | cl h => cases h
 | bsl => intro v h; cases h with
  | bsl h hc hm => exact .bsl (T.bx _ _ _ h) hc hm
  | cl h => cases h
 | cut => intro v h; cases h with
  | cut h a b c d e => exact .cut (T.rw _ _ _ h) a b c d e
  | cl h => cases h
 | ptr => intro v h; cases h with
  | ptr h => exact .ptr (T.bx _ _ _ h)
  | cl h => cases h
 | elt => intro v h; cases h with
  | elt h => exact .elt (T.rw _ _ _ h)
  | cl h => cases h
 | mp => intro v h; cases h with
  | mp h => exact .mp (T.bx _ _ _ h)
  | cl h => cases h
 | agg h0 ih =>
  intro v h
  obtain ⟨us, rfl, hu⟩ := h.agg_inv
  exact .agg us hu.len hu.one (fun i y u hy hu' => ih y (List.mem_of_getElem? hy) (hu.rel i y u hy hu'))
 | tup h0 ih =>
  intro v h
  cases h with
  | tup us hl h => exact .tup us hl (fun i y u hy hu => ih y (List.mem_of_getElem? hy) (h i y u hy hu))
  | cl h => cases h
 | fn h1 h2 ih1 ih2 =>
  intro v h
  obtain ⟨us, vs, rfl, q1, q2, q3, q4⟩ := h.fn_inv
  exact .fn us vs q1 q2 (fun i y u hy hu => ih1 y (List.mem_of_getElem? hy) (q3 i y u hy hu)) (fun i y u hy hu => ih2 y (List.mem_of_getElem? hy) (q4 i y u hy hu))
 | ifc h ih =>
  intro v h
  obtain ⟨u, rfl, h1⟩ := h.ifc_inv
  exact .ifc _ _ u (ih h1)

inductive StrC : List AV → Prop
 | nil : StrC []
 | cons {y : AV} {r : List AV} (h : Str y) (hn : y.isOw = false) (t : StrC r) : StrC (y :: r)
 | own {ty sz : Nat} {xs : List (List AV)} {r : List AV} (h : StrC xs.flatten) (t : StrC r) : StrC (.row .ow ty sz xs :: r)
theorem StrC.append (h : StrC a) (k : StrC b) : StrC (a ++ b) := by
 induction h with
 | nil => exact k
 | cons h hn _ ih => exact .cons h hn ih
 | own h _ _ ih => exact .own h ih
theorem StrC.map {α : Type} {f : α → List AV} (h : ∀ a, StrC (f a)) : ∀ l : List α, StrC (l.map f).flatten
 | [] => .nil
 | a :: l => by simp only [List.map_cons, List.flatten_cons]; exact (h a).append (StrC.map h l)
theorem StrC.ints : ∀ u : List Int, StrC (u.map pI)
 | [] => .nil
 | _ :: u => .cons (.pv _) rfl (StrC.ints u)
theorem StrC.trn (hs : StrC a) : ∀ {X Z : Cx}, Trn X Z → ∀ {w : World} {us : List Value} {S : List Nat}, TRs X w a us S → TRs Z w a us S := by
 induction hs with
 | nil => intro X Z T w us S h; cases h; exact .nil
 | cons h hn _ ih =>
  intro X Z T w us S k
  cases k with
  | vr h1 h2 h3 t => exact .vr h1 h2 (h.trn T h3) (ih T t)
  | own => cases hn
 | own h _ ih1 ih2 =>
  intro X Z T w us S k
  cases k with
  | vr h1 h2 => cases h2
  | own h1 h2 h3 t => exact .own h1 h2 (ih1 T.bare h3) (ih2 T t)
def c2d : Ent → Prop
 | .dead => True
 | .box _ cs => StrC cs
 | .row _ _ xs => StrC xs.flatten
 | .map es => ∀ p ∈ es, Str p.2
 | .chn _ _ xs => ∀ x ∈ xs, ∀ y ∈ x, Strict y
 | .blk l => ∀ p ∈ l, ∀ y ∈ p.2.2, Strict y
theorem a8t {nx : Option Nat} : ∀ {bs : List Nat} {xs : List (List AV)}, (∀ x ∈ xs, ∀ y ∈ x, Strict y) → ∀ p ∈ c2p lty nx bs xs, ∀ y ∈ p.2.2, Strict y
 | [], _, _, p, hp => by simp [c2p] at hp
 | _ :: _, [], _, p, hp => by simp [c2p] at hp
 | b :: bs, x :: xs, h, p, hp => by
  rw [c2p, List.mem_cons] at hp
  rcases hp with rfl | hp
  ·intro y hy
   rcases List.mem_append.1 hy with hy | hy
   ·exact h x (List.mem_cons_self ..) y hy
   ·rw [List.mem_singleton] at hy; subst hy; exact .pv _
  ·exact a8t (fun x hx => h x (List.mem_cons_of_mem _ hx)) p hp
theorem EntOK.trn (T : Trn X Z) {id : Nat} (hs : c2d e) (h : EntOK X w id g F e) : EntOK Z w id g F e := by
 cases e with
 | dead => trivial
 | box ty cs =>
  obtain ⟨b, us, S, h1, h2, h3, h4, h5⟩ := h
  exact ⟨b, us, S, T.bx _ _ _ h1, h2, hs.trn T h3, h4, h5⟩
 | row ty sz xs =>
  obtain ⟨v, us, S, h1, h2, h3, h4, h5, h6⟩ := h
  exact ⟨v, us, S, T.rw _ _ _ h1, h2, h3, hs.trn T h4, h5, h6⟩
 | map es =>
  obtain ⟨b, en, h1, h2, h3, h4, h5⟩ := h
  exact ⟨b, en, T.bx _ _ _ h1, h2, h3, h4, fun i k a e he hn => ⟨(h5 i k a e he hn).1, (hs _ (List.mem_of_getElem? he)).trn T (h5 i k a e he hn).2.1, (h5 i k a e he hn).2.2⟩⟩
 | chn ty lty xs =>
  obtain ⟨b, bs, h1, h2⟩ := h
  refine ⟨b, bs, h1, h2.imp (fun _ h => T.bx _ _ _ h) (fun _ h => h) (fun _ _ => rfl) fun p hp us hu => ⟨hu.len, hu.one, fun j y u hy hu' => CR.trn T ?_ (hu.rel j y u hy hu')⟩⟩
  rw [chB, List.mem_cons] at hp
  rcases hp with rfl | hp
  ·have := List.mem_of_getElem? hy
   simp only [List.mem_cons, List.not_mem_nil, or_false] at this
   rcases this with rfl | rfl <;> exact .pv _
  ·exact a8t hs p hp y (List.mem_of_getElem? hy)
 | blk l => exact BlkOK.imp h (fun _ h => T.bx _ _ _ h) (fun _ h => h) (fun _ _ => rfl) fun p hp us hu => ⟨hu.len, hu.one, fun j y u hy hu' => CR.trn T (hs p hp y (List.mem_of_getElem? hy)) (hu.rel j y u hy hu')⟩

inductive LendM (h : Hp) : List AV → List AV → TL → List Nat → Prop
 | base {az bs : List AV} {T : TL} (hl : LendL h az bs T) : LendM h az bs T []
 | ptr {id g off : Nat} {az bs : List AV} {T : TL} {K : List Nat} (t : LendM h az bs T K) : LendM h (.ptr id g off :: az) (.ptr id g off :: bs) T (id :: K)
theorem LendM.inH (k : LendM h az bs T K) : InH h T := by
 induction k with
 | base hl => exact hl.inH
 | ptr _ ih => exact ih
theorem LendM.len (k : LendM h az bs T K) : bs.length = az.length := by
 induction k with
 | base hl => exact hl.len
 | ptr _ ih => simp [ih]
theorem LendM.sound (k : LendM h az bs T K) : ∀ {X X2 : Cx} {B : Base} {hF : HF} {F : Nat → List Nat} {w : World} {vs : List Value}, SRf X B hF F w → X2.ok1 = X.ok1 → (∀ b, X.ok2 b → X2.ok2 b) → (∀ id ge, (id, ge) ∈ T → hF id = some ge) → (∀ id ge, (id, ge) ∈ T → ∀ b ∈ F id, X2.ok2 b) → (∀ id g, id ∈ K → X2.bx id g = X.bx id g) →
  vs.length = az.length → (∀ (i : Nat) (a : AV) (v : Value), az[i]? = some a → vs[i]? = some v → VR X w a v) → ∀ (i : Nat) (b : AV) (v : Value), bs[i]? = some b → vs[i]? = some v → VR X2 w b v := by
 induction k with
 | base hl =>
  intro X X2 B hF F w vs hS e1 h2 hT hb hK hlen hr i b v hbi hvi
  have := hl.sound (o2 := X2.ok2) hS h2 hT hb hlen hr i b v hbi hvi
  rw [← e1] at this
  exact .cl this
 | ptr t ih =>
  intro X X2 B hF F w vs hS e1 h2 hT hb hK hlen hr i b v hbi hvi
  cases vs with
  | nil => simp at hlen
  | cons u vs =>
   cases i with
   | zero =>
    simp only [List.getElem?_cons_zero, Option.some.injEq] at hbi hvi
    subst hbi hvi
    obtain ⟨b, rfl, hb'⟩ := (hr 0 _ u rfl rfl).ptr_inv
    exact .ptr ((hK _ _ (List.mem_cons_self ..)).trans hb')
   | succ i => exact ih hS e1 h2 hT hb (fun id g hm => hK id g (List.mem_cons_of_mem _ hm)) (by simpa using hlen) (fun i c u hc hu => hr (i + 1) c u (by simpa using hc) (by simpa using hu)) i b v (by simpa using hbi) (by simpa using hvi)
theorem b6c (hP : b3w P f bs T0 W0 out) (hl : LendM h az bs T K) (hs : Str out) (hd : ∀ i, i ∈ ids T → i ∉ ids T0) (hK : ∀ i, i ∈ K → i ∈ ids T0) (hW : Sub W0 T0) (h0 : ∀ p ∈ T0, c2d p.2.2) (h1 : ∀ p ∈ W0, c2d p.2.2)
  (hE : ∀ (X X2 : Cx), (∀ b, X.ok1 b → X.ok2 b) → X2.ok1 = X.ok1 → (∀ b, X.ok2 b → X2.ok2 b) → (∀ i g, i ∈ ids T0 → X2.bx i g = X.bx i g ∧ X2.rw i g = X.rw i g) → ∀ p ∈ T0, ∀ w F, EntOK X w p.1 p.2.1 F p.2.2 → EntOK X2 w p.1 p.2.1 F p.2.2) : b3w P f az (T ++ T0) W0 out := by
 refine ⟨hP.1, fun X B hF w vs hS hlen hr hT => ?_⟩
 obtain ⟨F, hS⟩ := hS
 classical
 have hT1 : ∀ id ge, (id, ge) ∈ T → hF id = some ge := fun id ge hm => hT id ge (List.mem_append_left _ hm)
 have hT2 : ∀ id ge, (id, ge) ∈ T0 → hF id = some ge := fun id ge hm => hT id ge (List.mem_append_right _ hm)
 have mid : ∀ {T : TL} {id : Nat}, id ∈ ids T → ∃ ge, (id, ge) ∈ T := fun hm => by
  obtain ⟨p, hp, rfl⟩ := List.mem_map.1 hm; exact ⟨p.2, hp⟩
 let lent : Nat → Prop := fun b => ∃ id ge, (id, ge) ∈ T ∧ b ∈ F id
 let h2 : HF := fun i => if i ∈ ids T0 then hF i else none
 let X2 : Cx := ⟨X.ok1, fun b => X.ok2 b ∨ lent b, fun i g => if i ∈ ids T0 then X.bx i g else none, fun i g => if i ∈ ids T0 then X.rw i g else none⟩
 let S2 : Nat → Prop := fun b => ∃ id ge, (id, ge) ∈ T0 ∧ b ∈ F id
 let B2 : Base := ⟨w, S2, X2.ok1, X2.ok2⟩
 have h2in : ∀ id ge, h2 id = some ge → id ∈ ids T0 ∧ hF id = some ge := fun id ge he => by
  simp only [h2] at he
  split at he
  ·exact ⟨‹_›, he⟩
  ·cases he
 have lt : ∀ b, lent b → b < w.heap.size := fun b ⟨id, ge, q1, q2⟩ => hS.blk id ge b (hT1 id ge q1) q2
 have lno : ∀ b, lent b → ¬ X.ok2 b := fun b ⟨id, ge, q1, q2⟩ h3 => (hS.ok2 b h3).2 id ge (hT1 id ge q1) q2
 have lns : ∀ b, lent b → ¬ S2 b := fun b ⟨id, ge, q1, q2⟩ ⟨id', ge', q3, q4⟩ => by
  have := hS.sep id id' _ _ b (hT1 id ge q1) (hT2 id' ge' q3) q2 q4
  subst this
  exact hd id (List.mem_map.2 ⟨_, q1, rfl⟩) (List.mem_map.2 ⟨_, q3, rfl⟩)
 have hS2 : SRf X2 B2 h2 F w := by
  refine ⟨?_, ?_, ?_, ?_, fun b hb => .inl (hS.ok12 b hb), fun b hb => .inl hb, fun b hb => .inl hb, ?_, ?_, rfl, rfl, rfl, Nat.le_refl _, fun _ _ _ => rfl⟩
  ·intro id g e he
   obtain ⟨q1, q2⟩ := h2in id _ he
   obtain ⟨ge, hm⟩ := mid q1
   have e1 := hT2 id ge hm
   rw [q2] at e1
   cases e1
   exact hE X X2 hS.ok12 rfl (fun b hb => .inl hb) (fun i g hi => by simp only [X2, if_pos hi]; exact ⟨trivial, trivial⟩) _ hm w _ (hS.ent id g e q2)
  ·intro id ge b he hb; obtain ⟨_, q2⟩ := h2in id _ he; exact hS.blk id ge b q2 hb
  ·intro id id' ge ge' b he he' hb hb'; exact hS.sep id id' _ _ b (h2in id _ he).2 (h2in id' _ he').2 hb hb'
  ·refine fun b hb => ⟨?_, fun id ge he hm => ?_⟩
   ·rcases hb with hb | hb
    ·exact (hS.ok2 b hb).1
    ·exact lt b hb
   ·obtain ⟨q1, q2⟩ := h2in id _ he
    rcases hb with hb | hb
    ·exact (hS.ok2 b hb).2 id ge q2 hm
    ·obtain ⟨ge', hm'⟩ := mid q1
     exact lns b hb ⟨id, ge', hm', hm⟩
  ·intro id ge b he hb
   obtain ⟨q1, q2⟩ := h2in id _ he
   obtain ⟨ge', hm'⟩ := mid q1
   exact .inl ⟨id, ge', hm', hb⟩
  ·intro id g hg
   by_cases hi : id ∈ ids T0
   ·have := hS.hist id g (fun g' e hh => hg g' e (by simp only [h2, if_pos hi]; exact hh))
    simpa only [X2, if_pos hi] using this
   ·simp only [X2, if_neg hi]; exact ⟨trivial, trivial⟩
 have hr2 := hl.sound (X2 := X2) hS rfl (fun b hb => .inl hb) hT1 (fun id ge hm b hb => .inr ⟨id, ge, hm, hb⟩) (fun id g hk => by simp only [X2, if_pos (hK id hk)]) hlen hr
 refine (hP.2 X2 B2 h2 w vs ⟨F, hS2⟩ (by rw [hl.len]; exact hlen) hr2 (fun id ge hm => by
  show (if id ∈ ids T0 then hF id else none) = some ge
  have hmi : id ∈ ids T0 := List.mem_map.2 ⟨_, hm, rfl⟩
  rw [if_pos hmi]; exact hT2 id ge hm)).mono fun e w' hh => ?_
 obtain ⟨v, rfl, X', k1, ⟨F', k2⟩, k3, k4⟩ := hh
 refine ⟨v, rfl, ?_⟩
 have hkeep : ∀ b, b < w.heap.size → ¬ S2 b → w'.heap[b]? = w.heap[b]? := fun b hb hn => k2.keep b hb hn
 have in1 : ∀ b, X'.ok1 b → X.ok1 b ∨ S2 b ∨ w.heap.size ≤ b := fun b hb => k2.in1 b hb
 have nol : ∀ b, X'.ok1 b → ¬ lent b := fun b hb hlb => by
  rcases in1 b hb with h | h | h
  ·exact lno b hlb (hS.ok12 b h)
  ·exact lns b hlb h
  ·exact absurd (lt b hlb) (Nat.not_lt.2 h)
 let Z : Cx := ⟨X'.ok1, fun b => X'.ok2 b ∧ ¬ lent b, fun i g => if i ∈ ids T0 then X'.bx i g else X.bx i g, fun i g => if i ∈ ids T0 then X'.rw i g else X.rw i g⟩
 have hX : X.le Z := by
  refine ⟨k1.ok1, fun b hb => ⟨k1.ok2 b (.inl hb), fun h => lno b h hb⟩, fun i g b hb => ?_, fun i g b hb => ?_⟩
  ·show (if i ∈ ids T0 then X'.bx i g else X.bx i g) = some b
   by_cases hi : i ∈ ids T0
   ·rw [if_pos hi]; exact k1.bx i g b (by simp only [X2, if_pos hi]; exact hb)
   ·rw [if_neg hi]; exact hb
  ·show (if i ∈ ids T0 then X'.rw i g else X.rw i g) = some b
   by_cases hi : i ∈ ids T0
   ·rw [if_pos hi]; exact k1.rw i g b (by simp only [X2, if_pos hi]; exact hb)
   ·rw [if_neg hi]; exact hb
 have hWin : ∀ i, (z8z W0 i).isSome = true → i ∈ ids T0 := fun i hi => by
  obtain ⟨ge, hg⟩ := Option.isSome_iff_exists.1 hi
  obtain ⟨ge', hm⟩ := hW _ (a0d hg)
  exact List.mem_map.2 ⟨_, hm, rfl⟩
 have up1 : ∀ i, i ∈ ids T0 → a2g hF W0 i = a2g h2 W0 i := fun i hi => by
  simp only [a2g, h2, if_pos hi]
 have up2 : ∀ i, i ∉ ids T0 → a2g hF W0 i = hF i := fun i hi => by
  simp only [a2g]
  cases hw : z8z W0 i with
  | none => rfl
  | some ge => exact absurd (hWin i (by rw [hw]; rfl)) hi
 have up3 : ∀ i, i ∉ ids T0 → a2g h2 W0 i = none := fun i hi => by
  simp only [a2g]
  cases hw : z8z W0 i with
  | none => simp only [h2, if_neg hi]
  | some ge => exact absurd (hWin i (by rw [hw]; rfl)) hi
 have TZ : Trn X' Z := by
  refine ⟨fun _ h => h, fun b hb => ⟨k2.ok12 b hb, nol b hb⟩, fun i g b hb => ?_, fun i g b hb => ?_⟩
  ·by_cases hi : i ∈ ids T0
   ·simp only [Z, if_pos hi]; exact hb
   ·rw [(k2.hist i g (fun g' e hh => by rw [up3 i hi] at hh; cases hh)).1] at hb; cases hb
  ·by_cases hi : i ∈ ids T0
   ·simp only [Z, if_pos hi]; exact hb
   ·rw [(k2.hist i g (fun g' e hh => by rw [up3 i hi] at hh; cases hh)).2] at hb; cases hb
 have nS : ∀ i ge b, i ∉ ids T0 → hF i = some ge → b ∈ F i → ¬ S2 b := fun i ge b hi he hb ⟨id, ge', q1, q2⟩ => by
  have := hS.sep i id _ _ b he (hT2 id ge' q1) hb q2
  subst this
  exact hi (List.mem_map.2 ⟨_, q1, rfl⟩)
 have n2 : ∀ b, X.ok2 b → ¬ S2 b := fun b hb ⟨id, ge', q1, q2⟩ => (hS.ok2 b hb).2 id ge' (hT2 id ge' q1) q2
 let F2 : Nat → List Nat := fun i => if i ∈ ids T0 then F' i else F i
 have f1 : ∀ i, i ∈ ids T0 → F2 i = F' i := fun i hi => by simp only [F2, if_pos hi]
 have f2 : ∀ i, i ∉ ids T0 → F2 i = F i := fun i hi => by simp only [F2, if_neg hi]
 have own1 : ∀ i ge b, i ∈ ids T0 → a2g hF W0 i = some ge → b ∈ F' i → (S2 b ∨ w.heap.size ≤ b) ∧ b < w'.heap.size := fun i ge b hi he hb => by
  rw [up1 i hi] at he
  exact ⟨k2.own i ge b he hb, k2.blk i ge b he hb⟩
 refine ⟨Z, hX, ⟨F2, ?_, ?_, ?_, ?_, fun b hb => ⟨k2.ok12 b hb, nol b hb⟩, ?_, ?_, ?_, ?_, k2.os.trans hS.os, k2.tape.trans hS.tape, k2.output.trans hS.output, Nat.le_trans hS.size k2.size, ?_⟩, fun b hb => k3 b (.inl hb), hs.trn TZ k4⟩
 ·intro id g e he
  by_cases hi : id ∈ ids T0
  ·rw [f1 id hi]
   rw [up1 id hi] at he
   refine (k2.ent id g e he).trn TZ ?_
   simp only [a2g] at he
   cases hw : z8z W0 id with
   | some ge =>
    rw [hw] at he
    simp only [Option.some.injEq] at he
    subst he
    exact h1 _ (a0d hw)
   | none =>
    rw [hw] at he
    obtain ⟨_, q2⟩ := h2in id _ he
    obtain ⟨ge, hm⟩ := mid hi
    have e1 := hT2 id ge hm
    rw [q2] at e1
    cases e1
    exact h0 _ hm
  ·rw [f2 id hi]
   rw [up2 id hi] at he
   exact (hS.ent id g e he).mono hX hS.ok12 (fun b hb => hkeep b (hS.ok2 b hb).1 (n2 b hb)) (fun b hb => hkeep b (hS.blk id _ b he hb) (nS id _ b hi he hb))
 ·intro id ge b he hb
  by_cases hi : id ∈ ids T0
  ·rw [f1 id hi] at hb; exact (own1 id ge b hi he hb).2
  ·rw [f2 id hi] at hb
   rw [up2 id hi] at he
   exact Nat.lt_of_lt_of_le (hS.blk id ge b he hb) k2.size
 ·intro id id' ge ge' b he he' hb hb'
  by_cases hi : id ∈ ids T0 <;> by_cases hi' : id' ∈ ids T0
  ·rw [f1 id hi] at hb; rw [f1 id' hi'] at hb'
   rw [up1 id hi] at he; rw [up1 id' hi'] at he'
   exact k2.sep id id' ge ge' b he he' hb hb'
  ·rw [f1 id hi] at hb; rw [f2 id' hi'] at hb'
   rw [up2 id' hi'] at he'
   rcases (own1 id ge b hi he hb).1 with h | h
   ·exact absurd h (nS id' ge' b hi' he' hb')
   ·exact absurd (hS.blk id' ge' b he' hb') (Nat.not_lt.2 h)
  ·rw [f2 id hi] at hb; rw [f1 id' hi'] at hb'
   rw [up2 id hi] at he
   rcases (own1 id' ge' b hi' he' hb').1 with h | h
   ·exact absurd h (nS id ge b hi he hb)
   ·exact absurd (hS.blk id ge b he hb) (Nat.not_lt.2 h)
  ·rw [f2 id hi] at hb; rw [f2 id' hi'] at hb'
   rw [up2 id hi] at he; rw [up2 id' hi'] at he'
   exact hS.sep id id' ge ge' b he he' hb hb'
 ·refine fun b hb => ⟨(k2.ok2 b hb.1).1, fun id ge he hm => ?_⟩
  by_cases hi : id ∈ ids T0
  ·rw [f1 id hi] at hm
   rw [up1 id hi] at he
   exact (k2.ok2 b hb.1).2 id ge he hm
  ·rw [f2 id hi] at hm
   rw [up2 id hi] at he
   rcases k2.in2 b hb.1 with h | h | h
   ·rcases h with h | h
    ·exact (hS.ok2 b h).2 id ge he hm
    ·exact hb.2 h
   ·exact nS id ge b hi he hm h
   ·exact absurd (hS.blk id ge b he hm) (Nat.not_lt.2 h)
 ·intro b hb
  rcases in1 b hb with h | ⟨id, ge, q1, q2⟩ | h
  ·exact hS.in1 b h
  ·rcases hS.own id ge b (hT2 id ge q1) q2 with h | h
   ·exact .inr (.inl h)
   ·exact .inr (.inr h)
  ·exact .inr (.inr (Nat.le_trans hS.size h))
 ·intro b hb
  rcases k2.in2 b hb.1 with h | ⟨id, ge, q1, q2⟩ | h
  ·rcases h with h | h
   ·exact hS.in2 b h
   ·exact absurd h hb.2
  ·rcases hS.own id ge b (hT2 id ge q1) q2 with h | h
   ·exact .inr (.inl h)
   ·exact .inr (.inr h)
  ·exact .inr (.inr (Nat.le_trans hS.size h))
 ·intro id ge b he hb
  by_cases hi : id ∈ ids T0
  ·rw [f1 id hi] at hb
   rcases (own1 id ge b hi he hb).1 with ⟨i2, ge2, q1, q2⟩ | h
   ·exact hS.own i2 ge2 b (hT2 i2 ge2 q1) q2
   ·exact .inr (Nat.le_trans hS.size h)
  ·rw [f2 id hi] at hb
   rw [up2 id hi] at he
   exact hS.own id ge b he hb
 ·intro id g hg
  by_cases hi : id ∈ ids T0
  ·simp only [Z, if_pos hi]
   exact k2.hist id g (fun g' e hh => hg g' e (by rw [up1 id hi]; exact hh))
  ·simp only [Z, if_neg hi]
   exact hS.hist id g (fun g' e hh => hg g' e (by rw [up2 id hi]; exact hh))
 ·intro b hb hn
  refine (hkeep b (Nat.lt_of_lt_of_le hb hS.size) fun ⟨id, ge, q1, q2⟩ => ?_).trans (hS.keep b hb hn)
  rcases hS.own id ge b (hT2 id ge q1) q2 with h | h
  ·exact hn h
  ·exact absurd hb (Nat.not_lt.2 h)
inductive StrH : Hp → Prop
 | nil : StrH []
 | dead {i g : Nat} {r : Hp} (t : StrH r) : StrH ((i, (g, .dead)) :: r)
 | box {i g ty : Nat} {cs : List AV} {r : Hp} (h : StrC cs) (t : StrH r) : StrH ((i, (g, .box ty cs)) :: r)
 | row {i g ty sz : Nat} {xs : List (List AV)} {r : Hp} (h : StrC xs.flatten) (t : StrH r) : StrH ((i, (g, .row ty sz xs)) :: r)
 | map {i g : Nat} {es : List (Value × AV)} {r : Hp} (h : ∀ p ∈ es, Str p.2) (t : StrH r) : StrH ((i, (g, .map es)) :: r)
 | chn {i g ty lty : Nat} {xs : List (List AV)} {r : Hp} (h : ∀ x ∈ xs, ∀ y ∈ x, Strict y) (t : StrH r) : StrH ((i, (g, .chn ty lty xs)) :: r)
theorem StrH.all (k : StrH h) : ∀ p ∈ h, c2d p.2.2 := by
 have cons : ∀ {q : Nat × (Nat × Ent)} {r : Hp}, c2d q.2.2 → (∀ p ∈ r, c2d p.2.2) → ∀ p ∈ q :: r, c2d p.2.2 := fun h1 h2 p hp => by
  rcases List.mem_cons.1 hp with rfl | hp
  ·exact h1
  ·exact h2 p hp
 induction k with
 | nil => intro p h; cases h
 | dead _ ih => exact cons trivial ih
 | box h0 _ ih => exact cons h0 ih
 | row h0 _ ih => exact cons h0 ih
 | map h0 _ ih => exact cons h0 ih
 | chn h0 _ ih => exact cons h0 ih
def c3f (a b : List Nat) : Bool := a.all fun i => !w0w b i
theorem b9n (h : c3f a b = true) : ∀ i, i ∈ a → i ∉ b := fun i hi hb => by
 have := List.all_eq_true.1 h i hi
 rw [a5t.2 hb] at this
 cases this
theorem a5v {tt : TT}
  (L gs : List Nat) (hM : Meth P f m kp A0 I0 O0 U0) (hf : evO fr x = some (.fn (.func f) fi cap)) (ha : evL (evO fr) args.toList = some avs) (he : fi ++ avs ++ cap = az) (hl : LendM h az bs T J) (hb : bs = A0.map (inT (gl L) (gl gs))) (hn : L.Nodup) (hL : L.length = m)
  (hT : I0.map (a1d (gl L) (gl gs)) = T0) (hi : InH h T0) (ho : inT (gl L) (nx kp (gl gs)) O0 = out) (hw : U0.map (a1d (gl L) (nx kp (gl gs))) = W) (hd : c3f (ids T) (ids T0) = true) (hj : (J.all fun i => w0w (ids T0) i) = true) (hs : Str out) (h0 : StrH T0) (h1 : StrH W)
  (k : w9w P tt ops r ((d, out) :: fr) (W ++ h) ((ids (T ++ T0), ids W) :: lg) K) :
  w9w P tt ops (⟨some d, .call { callee := .value x, args := args, argTypes := at' }, ty, pos, af, none⟩ :: r) fr h lg K := by
 subst he ho hw hT
 have hC := b2p hM L (gl gs) hn hL
 rw [← hb] at hC
 have hok := hM.ok
 simp only [b8t, Bool.and_eq_true] at hok
 obtain ⟨⟨⟨⟨⟨o1, o2⟩, o3⟩, o4⟩, o5⟩, o6⟩ := hok
 have hi1 : ∀ p ∈ I0, p.1 < m := fun p hp => a2m (List.all_eq_true.1 o1 p hp)
 have hsub : Sub (U0.map (a1d (gl L) (nx kp (gl gs)))) (I0.map (a1d (gl L) (gl gs))) := fun p hp => by
  obtain ⟨q, hq, rfl⟩ := List.mem_map.1 hp
  have hq1 := a2m (List.all_eq_true.1 o3 q hq)
  have := List.all_eq_true.1 o2 q.1 (a2o.2 hq1)
  rw [a1q] at this
  obtain ⟨ge, hg⟩ := Option.isSome_iff_exists.1 this
  exact ⟨_, List.mem_map.2 ⟨(q.1, ge), a0d hg, rfl⟩⟩
 have hall : ∀ i, i < m → gl L i ∈ ids (I0.map (a1d (gl L) (gl gs))) := fun i hi => by
  have := List.all_eq_true.1 o2 i (a2o.2 hi)
  rw [a1q] at this
  obtain ⟨ge, hg⟩ := Option.isSome_iff_exists.1 this
  exact List.mem_map.2 ⟨_, List.mem_map.2 ⟨(i, ge), a0d hg, rfl⟩, rfl⟩
 have hC2 := b6c hC hl hs (b9n hd) (fun i hi => a5t.1 (List.all_eq_true.1 hj i hi)) hsub h0.all h1.all (fun X X2 h12 e1 e2 e3 p hp w F hE => by
  obtain ⟨q, hq, rfl⟩ := List.mem_map.1 hp
  have hq1 := hi1 q hq
  exact EntOK.tr (m := m) (ρ := gl L) (c := gl gs) (ρ' := gl L) (c' := gl gs) ⟨fun b hb => e1 ▸ hb, e2, fun i hi => (e3 _ _ (hall i hi)).1, fun i hi => (e3 _ _ (hall i hi)).2⟩ h12 hq1 (hM.ib.all q hq) hE)
 refine r1r ?_; simp only [a0f, Opt, hf, ha]
 refine ⟨_, _, _, hC2, fun p hp => ?_, fun p hp => ?_, k⟩
 ·rcases List.mem_append.1 hp with hp | hp
  ·exact hl.inH p hp
  ·exact hi p hp
 ·obtain ⟨ge, hm⟩ := hsub p hp
  exact ⟨ge, List.mem_append_right _ hm⟩
end
section
variable {P : Program} {ev : Operand → Option AV}
theorem CRs.set (h : CRs o1 o2 w cs us) (k : Nat) (hc : c.one = true) (hr : CR o1 o2 w c u) : CRs o1 o2 w (cs.set k c) (us.set k u) := by
 refine ⟨by simp [h.len], fun i y hy => ?_, fun i y v hy hv => ?_⟩
 ·rw [List.getElem?_set] at hy
  split at hy
  ·split at hy
   ·cases hy; exact hc
   ·cases hy
  ·exact h.one i y hy
 ·rw [List.getElem?_set] at hy hv
  split at hy
  ·rename_i e
   rw [if_pos e] at hv
   split at hy
   ·split at hv
    ·cases hy; cases hv; exact hr
    ·cases hv
   ·cases hy
  ·rename_i e
   rw [if_neg e] at hv
   exact h.rel i y v hy hv
theorem HE.chn {id : Nat} (he : z8z h id = some (g, .chn ty lty xs)) (e : xs = xs') (t : HE h r) : HE h ((id, (g, .chn ty lty xs')) :: r) := by subst e; exact .same he t
variable {n : Nat} {fr : Fr} {h : Hp} {Q : Exit → Fr → Hp → Prop}
abbrev c5m (P : Program) (h h' : Hp) : Prop := ∀ (X : Cx) (B : Base) (w : World), SRh X B (hf h) w → ∃ Y, X.le Y ∧ Y.ok2 = X.ok2 ∧ SRh Y B (hf h') w

def Conv (P : Program) (h : Hp) (K : Hp → Prop) : Prop := ∃ h', c5m P h h' ∧ K h'
theorem Conv.done (hk : K h) : Conv P h K := ⟨h, fun X B w hS => ⟨X, Cx.le.refl X, rfl, hS⟩, hk⟩
theorem Conv.step (s : c5m P h h') (k : Conv P h' K) : Conv P h K := by
 obtain ⟨h'', s', hk⟩ := k
 refine ⟨h'', fun X B w hS => ?_, hk⟩
 obtain ⟨Y, k1, k2, k3⟩ := s X B w hS
 obtain ⟨Z, g1, g2, g3⟩ := s' Y B w k3
 exact ⟨Z, k1.trans g1, g2.trans k2, g3⟩
variable {tt : TT} {ops : Array Oper} {r : List Oper} {lg : Log} {K : Fr → Hp → Log → Prop} {d : Nat} {ty : TypeId} {pos : String} {af : Array Edge}
theorem Sub.one1 {id : Nat} : Sub [(id, ge)] [(id, ge')] := fun p hp => by rw [List.mem_singleton] at hp; subst hp; exact ⟨ge', List.mem_singleton.2 rfl⟩
end
section
variable {P : Program} {H : Type} {enc : TypeId × Value → H} {w : World}
theorem TSOk.cells (h : TSOk P t s) : P.cellsOf t = s.size := by
 obtain ⟨i, h1, h2, _⟩ := h.info
 simp [Program.cellsOf, h1, h2]
end
section
variable {P : Program} {ev : Operand → Option AV}
theorem c3g {a : AV} (h : a.cl = true) : a.one = true := by
 cases a with
 | pv v => exact h
 | row m _ _ _ => rfl
 | ifc => rfl
 | _ => cases h

theorem Le.low (h : ∀ x ∈ xs, ∀ y ∈ x, y.cl = true) : Le k (.row (.rd true) ty sz xs) (.row (.rd c) ty sz xs) :=
 .rd (fun _ => rfl) rfl (fun j x x' hx hx' => by rw [hx] at hx'; cases hx'; rfl)
  (fun j i x x' y y' hx hx' hy hy' => c3g (h x' (List.mem_of_getElem? hx') y' (List.mem_of_getElem? hy')))
  (fun j i x x' y y' hx hx' hy hy' => by
   rw [hx] at hx'; cases hx'
   rw [hy] at hy'; cases hy'
   exact .cl (h x (List.mem_of_getElem? hx) y (List.mem_of_getElem? hy)))
variable {tt : TT} {ops : Array Oper} {r : List Oper} {fr : Fr} {h : Hp} {lg : Log} {K : Fr → Hp → Log → Prop} {d : Nat} {ty : TypeId} {pos : String} {af : Array Edge}
inductive LeCs : List AV → List AV → Prop
 | nil : LeCs [] []
 | same {c : AV} {r r' : List AV} (t : LeCs r r') : LeCs (c :: r) (c :: r')
 | le {a b : AV} {r r' : List AV} (hc : a.cl = true) (hl : Le false a b) (hb : b.isOw = false) (t : LeCs r r') : LeCs (a :: r) (b :: r')
theorem LeCs.refl : ∀ l : List AV, LeCs l l
 | [] => .nil
 | _ :: l => .same (LeCs.refl l)
theorem LeCs.app (h : LeCs a a') (k : LeCs b b') : LeCs (a ++ b) (a' ++ b') := by
 induction h with
 | nil => exact k
 | same _ ih => exact .same ih
 | le h1 h2 h3 _ ih => exact .le h1 h2 h3 ih
theorem LeCs.len (h : LeCs a b) : a.length = b.length := by
 induction h with
 | nil => rfl
 | same _ ih => simp [ih]
 | le _ _ _ _ ih => simp [ih]
theorem LeCs.flatten {α : Type} {f f' : α → List AV} (h : ∀ a, LeCs (f a) (f' a)) : ∀ l : List α, LeCs (l.map f).flatten (l.map f').flatten
 | [] => .nil
 | a :: l => by simpa using (h a).app (LeCs.flatten h l)
theorem TRs.leC (h : LeCs cs cs') : ∀ {X : Cx} {w : World} {us : List Value} {S : List Nat}, (∀ b, X.ok1 b → X.ok2 b) → TRs X w cs us S → TRs X w cs' us S := by
 induction h with
 | nil => exact fun _ h => h
 | same _ ih =>
  intro X w us S h12 h
  cases h with
  | vr h1 h2 h t => exact .vr h1 h2 h (ih h12 t)
  | own h1 h2 h3 t => exact .own h1 h2 h3 (ih h12 t)
 | le hc hl hb _ ih =>
  intro X w us S h12 h
  cases h with
  | vr h1 h2 h t => exact .vr (hl.one h1) hb (.cl ((h.closed hc).1.le h12 hl)) (ih h12 t)
  | own h1 h2 h3 t => cases hc
variable {n : Nat} {Q : Exit → Fr → Hp → Prop}
theorem b4y (id : Nat) (hh : z8z h id = some (g, .box ty cs)) (hl : LeCs cs cs') (k : Ex P n c fr ((id, (g, .box ty cs')) :: h) Q) : Ex P n c fr h Q := by
 refine b1d (fun X B w hS => ⟨X, Cx.le.refl X, rfl, ?_⟩) k
 obtain ⟨F, hS⟩ := hS
 rw [a2w]
 refine hS.re hh fun hE => ?_
 obtain ⟨b, us, S, h1, h2, h3, h4, h5⟩ := hE
 exact ⟨b, us, S, h1, h2, TRs.leC hl hS.ok12 h3, h4, h5⟩
end
section
def c4o : AV → Bool
 | .pv _ => true
 | .row .ow _ _ _ => true
 | .ref _ _ => true
 | .bsl _ _ _ _ => true
 | .cut _ _ _ _ => true
 | .ptr _ _ _ => true
 | .elt _ _ _ _ => true
 | .mp _ _ => true
 | _ => false
theorem b7w (h : c4o a = true) : Str a := by
 cases a with
 | pv v => exact .pv v
 | row m ty sz xs => cases m with
  | ow => exact .ow
  | rd => cases h
 | ref => exact .ref _ _
 | bsl => exact .bsl _ _ _ _
 | cut => exact .cut _ _ _ _
 | ptr => exact .ptr _ _ _
 | elt => exact .elt _ _ _ _
 | mp => exact .mp _ _
 | _ => cases h
def c4p : AV → Bool
 | .agg cs => cs.all c4o
 | a => c4o a
theorem b7x (h : c4p a = true) : Str a := by
 cases a with
 | agg cs => exact .agg fun y hy => b7w (List.all_eq_true.1 h y hy)
 | _ => exact b7w h
def c6a : AV → Bool
 | .tup cs => cs.all c4p
 | a => c4p a
theorem b2t (h : c6a a = true) : Str a := by
 cases a with
 | tup cs => exact .tup fun y hy => b7x (List.all_eq_true.1 h y hy)
 | _ => exact b7x h
end
section
variable {P : Program} {n : Nat} {fr : Fr} {h : Hp} {Q : Exit → Fr → Hp → Prop}
variable {tt : TT} {id : Nat}
theorem x6x (htt : a0y P tt) (hd : (ops.toList.all fun o => match o.dst with | some d => decide (d < n) | none => true) = true) (hr : w9w P tt ops ops.toList fr h [] fun fr' h' _ => Ex P n c fr' h' Q) : Ex P n (.seq (.region id ops false) c) fr h Q :=
 b4s (fun fr h => Ex P n c fr h Q) (y2y htt hd hr) (fun _ _ h => h)
theorem q5q (htt : a0y P tt) (hm : P.follows .mixedOrders = true) (hd : (ops.toList.all fun o => match o.dst with | some d => decide (d < n) | none => true) = true) (hr : w9w P tt ops ops.toList fr h [] fun fr' h' lg => chk ops lg.reverse = true ∧ Ex P n c fr' h' Q) : Ex P n (.seq (.region id ops true) c) fr h Q :=
 b4s (fun fr h => Ex P n c fr h Q) (a1p htt hm hd hr) (fun _ _ h => h)
end
section
variable {P : Program}

inductive NilLs : List (List AV) → List (List AV) → Prop
 | refl (l : List (List AV)) : NilLs l l
 | cons {x x' : List AV} {r r' : List (List AV)} (h : NilL x x') (t : NilLs r r') : NilLs (x :: r) (x' :: r')
theorem NilL.refl : ∀ l : List AV, NilL l l
 | [] => .nil
 | _ :: l => .same (NilL.refl l)
theorem NilL.app (h : NilL a a') (k : NilL b b') : NilL (a ++ b) (a' ++ b') := by
 induction h with
 | nil => exact k
 | same _ ih => exact .same ih
 | own _ ih => exact .own ih
theorem NilLs.flat (h : NilLs a b) : NilL a.flatten b.flatten := by
 induction h with
 | refl l => exact NilL.refl _
 | cons h _ ih => simpa using h.app ih
theorem NilLs.len (h : NilLs a b) : a.length = b.length := by
 induction h with
 | refl l => rfl
 | cons _ _ ih => simp [ih]
variable {n : Nat} {fr : Fr} {h : Hp} {Q : Exit → Fr → Hp → Prop}

inductive LeLs : List (List AV) → List (List AV) → Prop
 | refl (l : List (List AV)) : LeLs l l
 | cons {x x' : List AV} {r r' : List (List AV)} (h : LeCs x x') (t : LeLs r r') : LeLs (x :: r) (x' :: r')
theorem LeLs.flat (h : LeLs a b) : LeCs a.flatten b.flatten := by
 induction h with
 | refl l => exact LeCs.refl _
 | cons h _ ih => simpa using h.app ih
theorem LeLs.len (h : LeLs a b) : a.length = b.length := by
 induction h with
 | refl l => rfl
 | cons _ _ ih => simp [ih]
variable {tt : TT} {ops : Array Oper} {r : List Oper} {lg : Log} {K : Fr → Hp → Log → Prop} {d : Nat} {ty : TypeId} {pos : String} {af : Array Edge}
theorem Sub.two : Sub [(i, a), (j, b)] [(i, a'), (j, b')] := fun p hp => by
 simp only [List.mem_cons, List.not_mem_nil, or_false] at hp
 rcases hp with rfl | rfl
 ·exact ⟨a', List.mem_cons_self ..⟩
 ·exact ⟨b', List.mem_cons_of_mem _ (List.mem_cons_self ..)⟩
end
section
theorem y8y : (∀ ρ c i g e, a1d ρ c (i, (g, e)) = (ρ i, (c i, inE ρ c e))) ∧
 (∀ ρ c, inB ρ c (.any) = .any) ∧
 (∀ ρ c, inD ρ c (.any) = .any) ∧
 (∀ ρ c, inC ρ c (.any) = .any) ∧
 (∀ ρ c, inA ρ c (.any) = .any) ∧
 (∀ ρ c, inT ρ c (.any) = .any) ∧
 (∀ ρ c v, inB ρ c (.pv v) = .pv v) ∧
 (∀ ρ c v, inD ρ c (.pv v) = .pv v) ∧
 (∀ ρ c v, inC ρ c (.pv v) = .pv v) ∧
 (∀ ρ c v, inA ρ c (.pv v) = .pv v) ∧
 (∀ ρ c v, inT ρ c (.pv v) = .pv v) ∧
 (∀ ρ c m ty sz xs, inB ρ c (.row m ty sz xs) = .row m ty sz xs) ∧
 (∀ ρ c m ty sz xs, inD ρ c (.row m ty sz xs) = .row m ty sz xs) ∧
 (∀ ρ c m ty sz xs, inC ρ c (.row m ty sz xs) = .row m ty sz xs) ∧
 (∀ ρ c m ty sz xs, inA ρ c (.row m ty sz xs) = .row m ty sz xs) ∧
 (∀ ρ c m ty sz xs, inT ρ c (.row m ty sz xs) = .row m ty sz xs) ∧
 (∀ ρ c i g, inB ρ c (.ref i g) = .ref (ρ i) (c i)) ∧
 (∀ ρ c i g, inD ρ c (.ref i g) = .ref (ρ i) (c i)) ∧
 (∀ ρ c i g, inC ρ c (.ref i g) = .ref (ρ i) (c i)) ∧
 (∀ ρ c i g, inA ρ c (.ref i g) = .ref (ρ i) (c i)) ∧
 (∀ ρ c i g, inT ρ c (.ref i g) = .ref (ρ i) (c i)) ∧
 (∀ ρ c i g a b, inB ρ c (.bsl i g a b) = .bsl (ρ i) (c i) a b) ∧
 (∀ ρ c i g a b, inD ρ c (.bsl i g a b) = .bsl (ρ i) (c i) a b) ∧
 (∀ ρ c i g a b, inC ρ c (.bsl i g a b) = .bsl (ρ i) (c i) a b) ∧
 (∀ ρ c i g a b, inA ρ c (.bsl i g a b) = .bsl (ρ i) (c i) a b) ∧
 (∀ ρ c i g a b, inT ρ c (.bsl i g a b) = .bsl (ρ i) (c i) a b) ∧
 (∀ ρ c i g a b, inB ρ c (.cut i g a b) = .cut (ρ i) (c i) a b) ∧
 (∀ ρ c i g a b, inD ρ c (.cut i g a b) = .cut (ρ i) (c i) a b) ∧
 (∀ ρ c i g a b, inC ρ c (.cut i g a b) = .cut (ρ i) (c i) a b) ∧
 (∀ ρ c i g a b, inA ρ c (.cut i g a b) = .cut (ρ i) (c i) a b) ∧
 (∀ ρ c i g a b, inT ρ c (.cut i g a b) = .cut (ρ i) (c i) a b) ∧
 (∀ ρ c i g a, inB ρ c (.ptr i g a) = .ptr (ρ i) (c i) a) ∧
 (∀ ρ c i g a, inD ρ c (.ptr i g a) = .ptr (ρ i) (c i) a) ∧
 (∀ ρ c i g a, inC ρ c (.ptr i g a) = .ptr (ρ i) (c i) a) ∧
 (∀ ρ c i g a, inA ρ c (.ptr i g a) = .ptr (ρ i) (c i) a) ∧
 (∀ ρ c i g a, inT ρ c (.ptr i g a) = .ptr (ρ i) (c i) a) ∧
 (∀ ρ c i g a b, inB ρ c (.elt i g a b) = .elt (ρ i) (c i) a b) ∧
 (∀ ρ c i g a b, inD ρ c (.elt i g a b) = .elt (ρ i) (c i) a b) ∧
 (∀ ρ c i g a b, inC ρ c (.elt i g a b) = .elt (ρ i) (c i) a b) ∧
 (∀ ρ c i g a b, inA ρ c (.elt i g a b) = .elt (ρ i) (c i) a b) ∧
 (∀ ρ c i g a b, inT ρ c (.elt i g a b) = .elt (ρ i) (c i) a b) ∧
 (∀ ρ c cs, inB ρ c (.iel cs) = .iel cs) ∧
 (∀ ρ c cs, inD ρ c (.iel cs) = .iel cs) ∧
 (∀ ρ c cs, inC ρ c (.iel cs) = .iel cs) ∧
 (∀ ρ c cs, inA ρ c (.iel cs) = .iel cs) ∧
 (∀ ρ c cs, inT ρ c (.iel cs) = .iel cs) ∧
 (∀ ρ c cs, inB ρ c (.agg cs) = .agg cs) ∧
 (∀ ρ c cs, inD ρ c (.agg cs) = .agg (cs.map (inB ρ c))) ∧
 (∀ ρ c cs, inC ρ c (.agg cs) = .agg cs) ∧
 (∀ ρ c cs, inA ρ c (.agg cs) = .agg (cs.map (inC ρ c))) ∧
 (∀ ρ c cs, inT ρ c (.agg cs) = .agg (cs.map (inC ρ c))) ∧
 (∀ ρ c cs, inB ρ c (.tup cs) = .tup cs) ∧
 (∀ ρ c cs, inD ρ c (.tup cs) = .tup cs) ∧
 (∀ ρ c cs, inC ρ c (.tup cs) = .tup cs) ∧
 (∀ ρ c cs, inA ρ c (.tup cs) = .tup cs) ∧
 (∀ ρ c cs, inT ρ c (.tup cs) = .tup (cs.map (inA ρ c))) ∧
 (∀ ρ c f a b, inB ρ c (.fn f a b) = .fn f a b) ∧
 (∀ ρ c f a b, inD ρ c (.fn f a b) = .fn f a b) ∧
 (∀ ρ c f a b, inC ρ c (.fn f a b) = .fn f (a.map (inB ρ c)) (b.map (inB ρ c))) ∧
 (∀ ρ c f a b, inA ρ c (.fn f a b) = .fn f (a.map (inB ρ c)) (b.map (inB ρ c))) ∧
 (∀ ρ c f a b, inT ρ c (.fn f a b) = .fn f (a.map (inB ρ c)) (b.map (inB ρ c))) ∧
 (∀ ρ c t a, inB ρ c (.ifc t a) = .ifc t a) ∧
 (∀ ρ c t a, inD ρ c (.ifc t a) = .ifc t a) ∧
 (∀ ρ c t a, inC ρ c (.ifc t a) = .ifc t (inD ρ c a)) ∧
 (∀ ρ c t a, inA ρ c (.ifc t a) = .ifc t (inD ρ c a)) ∧
 (∀ ρ c t a, inT ρ c (.ifc t a) = .ifc t (inD ρ c a)) ∧
 (∀ ρ c i g, inB ρ c (.mp i g) = .mp (ρ i) (c i)) ∧
 (∀ ρ c i g, inD ρ c (.mp i g) = .mp (ρ i) (c i)) ∧
 (∀ ρ c i g, inC ρ c (.mp i g) = .mp (ρ i) (c i)) ∧
 (∀ ρ c i g, inA ρ c (.mp i g) = .mp (ρ i) (c i)) ∧
 (∀ ρ c i g, inT ρ c (.mp i g) = .mp (ρ i) (c i)) ∧
 (∀ ρ c, inE ρ c (.dead) = .dead) ∧
 (∀ ρ c ty cs, inE ρ c (.box ty cs) = .box ty (cs.map (inC ρ c))) ∧
 (∀ ρ c ty sz xs, inE ρ c (.row ty sz xs) = .row ty sz xs) ∧
 (∀ ρ c es, inE ρ c (.map es) = .map es) ∧
 (∀ ρ c ty lty xs, inE ρ c (.chn ty lty xs) = .chn ty lty xs) ∧
 (∀ ρ c l, inE ρ c (.blk l) = .blk l) := by
 refine ⟨?_, ?_, ?_, ?_, ?_, ?_, ?_, ?_, ?_, ?_, ?_, ?_, ?_, ?_, ?_, ?_, ?_, ?_, ?_, ?_, ?_, ?_, ?_, ?_, ?_, ?_, ?_, ?_, ?_, ?_, ?_, ?_, ?_, ?_, ?_, ?_, ?_, ?_, ?_, ?_, ?_, ?_, ?_, ?_, ?_, ?_, ?_, ?_, ?_, ?_, ?_, ?_, ?_, ?_, ?_, ?_, ?_, ?_, ?_, ?_, ?_, ?_, ?_, ?_, ?_, ?_, ?_, ?_, ?_, ?_, ?_, ?_, ?_, ?_, ?_, ?_, ?_⟩ <;> intros <;> rfl
theorem w5w : (∀ (α β : Type) (f : α → β), List.map f [] = []) ∧ (∀ (α β : Type) (f : α → β) (a : α) (l : List α), List.map f (a :: l) = f a :: List.map f l) ∧ (∀ x y : Nat, Nat.add x y = x + y) ∧
 (∀ (α : Type) (x d : α) (l : List α), (x :: l).getD 0 d = x) ∧ (∀ (α : Type) (x d : α) (l : List α) (n : Nat), (x :: l).getD (n + 1) d = l.getD n d) ∧ (∀ (α : Type) (d : α) (n : Nat), ([] : List α).getD n d = d) ∧
 (∀ b : Bool, (b || false) = b) ∧ (∀ b : Bool, (false || b) = b) ∧ (∀ b : Bool, (true || b) = true) ∧ (∀ b : Bool, (b || true) = true) ∧ (∀ n : Nat, n + 0 = n) ∧ (∀ n : Nat, 0 + n = n) :=
 ⟨fun _ _ _ => rfl, fun _ _ _ _ _ => rfl, fun _ _ => rfl, fun _ _ _ _ => rfl, fun _ _ _ _ _ => rfl, fun _ _ _ => rfl, Bool.or_false, Bool.false_or, Bool.true_or, Bool.or_true, Nat.add_zero, Nat.zero_add⟩
theorem a3i : (∀ (α : Type) (x y : α) (l : List α), (x :: l).set 0 y = y :: l) ∧ (∀ (α : Type) (x y : α) (l : List α) (n : Nat), (x :: l).set (n + 1) y = x :: l.set n y) := ⟨fun _ _ _ _ => rfl, fun _ _ _ _ _ => rfl⟩
theorem u9u (id : Nat) (he : z8z h id = some ge) (t : HE h r) : HE h ((id, ge) :: r) := .same he t
theorem x7x (t : Nat) (h : F.get t = some av) (k : Cov f F) : Cov ((t, av) :: f) F := .cons h k
theorem v2v (h : Nat.ble a b = true) : a ≤ b := Nat.le_of_ble_eq_true h
theorem r5r {α : Type} {l : List α} {i : Nat} (h : i < l.length) : ∃ a, l[i]? = some a := ⟨_, List.getElem?_eq_getElem h⟩
end
section
variable {P : Program}
theorem y6y {tt : TT} (hx : evO fr x = some (.pv u)) (hy : evO fr y = some (.pv v)) (hv : b8s op u v = some w) (k : w9w P tt ops r ((d, .pv w) :: fr) h (([], []) :: lg) K) :
  w9w P tt ops (⟨some d, .binOp op t x y t', ty, pos, af, none⟩ :: r) fr h lg K := a0r hx hy hv k
end
section
def b8u : List Int → List Int → Bool
 | a :: az, b :: bs => if a < b then true else if b < a then false else b8u az bs
 | _, _ => false
theorem b2u (a b : Int) (az bs : List Int) : b8u (a :: az) (b :: bs) = if a < b then true else if b < a then false else b8u az bs := rfl
structure STO {α : Type} (lt : α → α → Bool) : Prop where
 irr : ∀ a, lt a a = false
 trans : ∀ a b c, lt a b = true → lt b c = true → lt a c = true
 tot : ∀ a b, a ≠ b → lt a b = true ∨ lt b a = true
theorem STO.asymm (O : STO lt) (h : lt a b = true) : lt b a = false := by
 cases hb : lt b a
 ·rfl
 ·have := O.trans _ _ _ h hb; rw [O.irr] at this; cases this
section
variable {α : Type} {lt : α → α → Bool}

def SS (lt : α → α → Bool) (l : List α) : Prop := l.Pairwise (fun a b => lt a b = true)

def WS (lt : α → α → Bool) (l : List α) : Prop := l.Pairwise (fun a b => lt b a = false)
theorem SS.ws (O : STO lt) (h : SS lt l) : WS lt l := List.Pairwise.imp (fun h => O.asymm h) h

def c5n [DecidableEq α] (lt : α → α → Bool) (x : α) : List α → List α
 | [] => [x]
 | y :: r => if x = y then y :: r else if lt x y then x :: y :: r else y :: c5n lt x r
def c6b [DecidableEq α] (lt : α → α → Bool) (l : List α) : List α := l.foldl (fun acc x => c5n lt x acc) []
end
end
section
section
variable {α : Type} {lt : α → α → Bool}

def sw (l : List α) (i j : Nat) : List α := match l[i]?, l[j]? with
 | some a, some b => (l.set i b).set j a
 | _, _ => l
theorem c3h (l : List α) (i j : Nat) : (sw l i j).length = l.length := by
 unfold sw; split <;> simp

def c0m (lt : α → α → Bool) (l : List α) (k : Nat) : List α :=
 if h : 0 < k then match l[k]?, l[(k - 1) / 2]? with
  | some a, some b => if lt a b then c0m lt (sw l k ((k - 1) / 2)) ((k - 1) / 2) else l
  | _, _ => l
 else l
termination_by k
decreasing_by omega
def c4q (lt : α → α → Bool) (l : List α) (x : α) : List α := c0m lt (l ++ [x]) l.length

def b6d (lt : α → α → Bool) (l : List α) (k : Nat) : Nat := match l[2 * k + 2]?, l[2 * k + 1]? with
 | some c, some d => if lt c d then 2 * k + 2 else 2 * k + 1
 | _, _ => 2 * k + 1
theorem b9o (l : List α) (k : Nat) : b6d lt l k = 2 * k + 1 ∨ (b6d lt l k = 2 * k + 2 ∧ 2 * k + 2 < l.length) := by
 unfold b6d
 split
 ·rename_i c d h1 h2
  split
  ·exact .inr ⟨rfl, (List.getElem?_eq_some_iff.1 h1).1⟩
  ·exact .inl rfl
 ·exact .inl rfl

def b4z (lt : α → α → Bool) (l : List α) (k : Nat) : List α :=
 if h : 2 * k + 1 < l.length then match l[b6d lt l k]?, l[k]? with
  | some a, some b => if lt a b then b4z lt (sw l (b6d lt l k) k) (b6d lt l k) else l
  | _, _ => l
 else l
termination_by l.length - k
decreasing_by
 rw [c3h]
 rcases b9o (lt := lt) l k with h1 | h1 <;> omega

def b9p (lt : α → α → Bool) : List α → List α
 | [] => []
 | m :: r => b4z lt (((m :: r).set 0 ((m :: r).getLast (by simp))).take r.length) 0
def c3i (lt : α → α → Bool) (l : List α) : List α := l.foldl (c4q lt) []
end
end
section
structure Ev where
 time : Int
 to : Int
 from' : Int
 count : Int
 n : Int
 kind : Int
 arg : Int
 deriving DecidableEq, Inhabited
structure Ou where
 time : Int
 proc : Int
 count : Int
 n : Int
 value : Int
 deriving DecidableEq, Inhabited
structure St where
 x : Int
 y : Int
 count : Int
 deriving DecidableEq, Inhabited
structure Pa where
 ev : Ev
 after : St
 sends : List Ev
 outs : List Ou
 deriving DecidableEq, Inhabited
structure La where
 proc : Int
 base : St
 done : List Pa
 deriving DecidableEq, Inhabited
structure Vi where
 inc : Int
 version : Int
 events : List Ev
 deriving DecidableEq, Inhabited
structure Nd where
 id : Int
 up : Bool
 inc : Int
 g : Int
 lanes : List La
 kept : List Ev
 outs : List Ou
 led : Int
 version : Int
 views : List Vi
 known : List Int
 round : Int
 low : Int
 deriving DecidableEq, Inhabited
def evN (e : Ev) : List Int := [e.time, e.to, e.from', e.count, e.n, e.kind, e.arg]
def ouL (o : Ou) : List Int := [o.time, o.proc, o.count, o.n, o.value]
def b8v : List Int → List Int → Int
 | a :: az, b :: bs => if a < b then -1 else if b < a then 1 else b8v az bs
 | [], [] => 0
 | [], _ :: _ => -1
 | _ :: _, [] => 1
theorem b2v (a b : Int) (az bs : List Int) : b8v (a :: az) (b :: bs) = if a < b then -1 else if b < a then 1 else b8v az bs := rfl
theorem b1e : ∀ az bs : List Int, az.length = bs.length → decide (b8v az bs < 0) = b8u az bs
 | [], [], _ => rfl
 | [], _ :: _, h => by simp at h
 | _ :: _, [], h => by simp at h
 | a :: az, b :: bs, h => by
  rw [b2v, b2u]
  by_cases h1 : a < b
  ·rw [if_pos h1, if_pos h1]; rfl
  ·rw [if_neg h1, if_neg h1]
   by_cases h2 : b < a
   ·rw [if_pos h2, if_pos h2]; rfl
   ·rw [if_neg h2, if_neg h2]; exact b1e az bs (by simpa using h)
theorem b2w {az bs : List Int} {i : Nat} {a b : Int} (ha : az[i]? = some a) (hb : bs[i]? = some b) : b8v (az.drop i) (bs.drop i) = if a < b then -1 else if b < a then 1 else b8v (az.drop (i + 1)) (bs.drop (i + 1)) := by
 obtain ⟨h1, e1⟩ := List.getElem?_eq_some_iff.1 ha
 obtain ⟨h2, e2⟩ := List.getElem?_eq_some_iff.1 hb
 rw [List.drop_eq_getElem_cons h1, List.drop_eq_getElem_cons h2, e1, e2, b2v]
def a6u (a b : Ev) : Bool := b8u (evN a) (evN b)
def b0h (a b : Ou) : Bool := b8u (ouL a) (ouL b)

def c3j (l : List Ev) : List Ev := c6b a6u l
def bp (l : La) : St × Int := (l.base, l.proc)
def c3k (a b : Nd) : Prop := a.id = b.id ∧ a.inc = b.inc ∧ a.g = b.g ∧ a.led = b.led ∧ a.kept = b.kept ∧ a.outs = b.outs ∧ a.lanes.map bp = b.lanes.map bp
instance (a b : Nd) : Decidable (c3k a b) := by unfold c3k; infer_instance
theorem c3l {a b r : Int} (h : ¬ (if a < b then -1 else if b < a then 1 else 0 : Int) = 0) : (if a < b then -1 else if b < a then 1 else r) = (if a < b then -1 else if b < a then 1 else 0 : Int) := by
 split
 ·rfl
 ·split
  ·rfl
  ·rename_i h1 h2; rw [if_neg h1, if_neg h2] at h; exact absurd rfl h
theorem c3m {a b r : Int} (h : (if a < b then -1 else if b < a then 1 else 0 : Int) = 0) : (if a < b then -1 else if b < a then 1 else r) = r := by
 split at h
 ·omega
 ·split at h
  ·omega
  ·rename_i h1 h2; rw [if_neg h1, if_neg h2]
def vi0 : Vi := ⟨0, 0, []⟩
end
section
section
variable {α : Type} (sz : α → Nat) (mk : Nat → α → α)
def szs : List α → Nat
 | [] => 0
 | p :: r => sz p + szs r
def mks : Nat → List α → List α
 | _, [] => []
 | k, p :: r => mk k p :: mks (k + sz p) r
theorem a6v (k : Nat) (l : List α) : (mks sz mk k l).length = l.length := by
 induction l generalizing k with
 | nil => rfl
 | cons p r ih => simp [mks, ih]
variable {i : Nat}
theorem a3d {l : List α} {p : α} (h : l[i]? = some p) : szs sz (l.take (i + 1)) = szs sz (l.take i) + sz p := by
 induction l generalizing i with
 | nil => simp at h
 | cons a r ih =>
  cases i with
  | zero => simp at h; subst h; simp [szs]
  | succ i => simp at h; simp only [List.take_succ_cons, szs, ih h]; omega
theorem b4i (l : List α) (i : Nat) : szs sz (l.take i) ≤ szs sz l := by
 induction l generalizing i with
 | nil => simp
 | cons a r ih =>
  cases i with
  | zero => simp [szs]
  | succ i => simp only [List.take_succ_cons, szs]; have := ih i; omega
theorem b0i {l : List α} {p : α} (h : l[i]? = some p) : szs sz (l.take i) + sz p ≤ szs sz l := by
 rw [← a3d sz h]; exact b4i sz l (i + 1)
theorem a6w (h : ∀ p, 1 ≤ sz p) (l : List α) : l.length ≤ szs sz l := by
 induction l with
 | nil => exact Nat.zero_le _
 | cons a r ih => have := h a; simp only [szs, List.length_cons]; omega
theorem a6x (h : l[i]? = some p) : (mks sz mk k l)[i]? = some (mk (k + szs sz (l.take i)) p) := by
 induction l generalizing i k with
 | nil => simp at h
 | cons a r ih =>
  cases i with
  | zero => simp at h; subst h; simp [mks, szs]
  | succ i => simp at h; simp only [mks, List.getElem?_cons_succ, ih h, List.take_succ_cons, szs]; rw [Nat.add_assoc]
end
variable {α : Type} {i : Nat}
theorem s3s {l : List α} {e : α} (h : l[i]? = some e) : l.take (i + 1) = l.take i ++ [e] := by
 rw [List.take_add_one, h]; rfl
theorem a0w {l : List α} {p : α} (h : l[i]? = some p) : l.drop i = p :: l.drop (i + 1) := by
 obtain ⟨hi, rfl⟩ := List.getElem?_eq_some_iff.1 h
 exact List.drop_eq_getElem_cons hi
def mEv (k : Nat) : Ev := ⟨k, (k + 1 : Nat), (k + 1 + 1 : Nat), (k + 1 + 1 + 1 : Nat), (k + 1 + 1 + 1 + 1 : Nat), (k + 1 + 1 + 1 + 1 + 1 : Nat), (k + 1 + 1 + 1 + 1 + 1 + 1 : Nat)⟩
def mOu (k : Nat) : Ou := ⟨k, (k + 1 : Nat), (k + 1 + 1 : Nat), (k + 1 + 1 + 1 : Nat), (k + 1 + 1 + 1 + 1 : Nat)⟩
def mSt (k : Nat) : St := ⟨k, (k + 1 : Nat), (k + 1 + 1 : Nat)⟩
def zI : Int → Nat := fun _ => 1
def kI : Nat → Int → Int := fun k _ => (k : Int)
def zEv : Ev → Nat := fun _ => 7
def kEv : Nat → Ev → Ev := fun k _ => mEv k
def zOu : Ou → Nat := fun _ => 5
def kOu : Nat → Ou → Ou := fun k _ => mOu k
def zPa (p : Pa) : Nat := 10 + szs zEv p.sends + szs zOu p.outs
def kPa (k : Nat) (p : Pa) : Pa := ⟨mEv k, mSt (k + 7), mks zEv kEv (k + 10) p.sends, mks zOu kOu (k + 10 + szs zEv p.sends) p.outs⟩
def kLa (k : Nat) (l : La) : La := ⟨(k : Int), mSt (k + 1), mks zPa kPa (k + 4) l.done⟩
def kVi (k : Nat) (v : Vi) : Vi := ⟨(k : Int), (k + 1 : Nat), mks zEv kEv (k + 2) v.events⟩
end
section
def a9o (e : Ev) : Prop := (0 ≤ e.time ∧ e.time ≤ 40) ∧ (0 ≤ e.to ∧ e.to ≤ 3) ∧ (-1 ≤ e.from' ∧ e.from' ≤ 3) ∧ (0 ≤ e.count ∧ e.count ≤ 12) ∧ (0 ≤ e.n ∧ e.n ≤ 3) ∧ (0 ≤ e.kind ∧ e.kind ≤ 3) ∧ (0 ≤ e.arg ∧ e.arg ≤ 999)
instance (e : Ev) : Decidable (a9o e) := by unfold a9o; infer_instance
def c5o (s : St) : Prop := (0 ≤ s.x ∧ s.x ≤ 999) ∧ (0 ≤ s.y ∧ s.y ≤ 999) ∧ (0 ≤ s.count ∧ s.count ≤ 12)
instance (s : St) : Decidable (c5o s) := by unfold c5o; infer_instance
def b4j (o : Ou) : Prop := (0 ≤ o.time ∧ o.time ≤ 40) ∧ (0 ≤ o.proc ∧ o.proc ≤ 3) ∧ (0 ≤ o.count ∧ o.count ≤ 11) ∧ (0 ≤ o.n ∧ o.n ≤ 1) ∧ (0 ≤ o.value ∧ o.value ≤ 999)
instance (o : Ou) : Decidable (b4j o) := by unfold b4j; infer_instance
section
variable {α : Type} (ok : α → Bool) (lt : α → α → Bool)

def a6y : Option α → List α → Bool
 | _, [] => true
 | o, a :: r => ok a && (match o with
  | none => true
  | some b => lt b a) && a6y (some a) r
theorem a2c (h : ok a = false) : a6y ok lt o (a :: r) = false := by simp [a6y, h]
theorem b1f (h : lt b a = false) : a6y ok lt (some b) (a :: r) = false := by simp [a6y, h]
theorem a5w (h : ok a = true) (h2 : lt b a = true) : a6y ok lt (some b) (a :: r) = a6y ok lt (some a) r := by simp [a6y, h, h2]
theorem a4q (h : ok a = true) : a6y ok lt none (a :: r) = a6y ok lt (some a) r := by simp [a6y, h]
end
def a7o {α : Type} (l : List α) (i : Nat) : Option α := match i with
 | 0 => none
 | i + 1 => l[i]?
def a7w {α : Type} (ok : α → Bool) (lt : α → α → Bool) (l : List α) (most : Int) : Bool := decide ((l.length : Int) ≤ most) && a6y ok lt none l
theorem a5x (h : ¬ (l.length : Int) ≤ most) : a7w ok lt l most = false := by simp [a7w, h]
theorem b1g (h : (l.length : Int) ≤ most) : a7w ok lt l most = a6y ok lt none l := by simp [a7w, h]
def okE (e : Ev) : Bool := decide (a9o e)
def okO (o : Ou) : Bool := decide (b4j o)
theorem b5a (a b : Int) (x y : List Int) : b8u (a :: x) (b :: y) = true ↔ a < b ∨ (a = b ∧ b8u x y = true) := by
 rw [b2u]
 by_cases h1 : a < b
 ·simp [h1]
 ·by_cases h2 : b < a
  ·simp [h1, h2]; omega
  ·have : a = b := by omega
   subst this; simp
def b7y (a b : Ev) : Prop := a.time < b.time ∨ (a.time = b.time ∧ (a.to < b.to ∨ (a.to = b.to ∧ (a.from' < b.from' ∨ (a.from' = b.from' ∧ (a.count < b.count ∨ (a.count = b.count ∧ (a.n < b.n ∨ (a.n = b.n ∧ (a.kind < b.kind ∨ (a.kind = b.kind ∧ a.arg < b.arg)))))))))))
instance (a b : Ev) : Decidable (b7y a b) := by unfold b7y; infer_instance
theorem a3e (a b : Ev) : a6u a b = decide (b7y a b) := by
 rw [Bool.eq_iff_iff, decide_eq_true_iff]
 simp only [a6u, evN, b5a, b7y]
 simp [b8u]
def b9q (a b : Ou) : Prop := a.time < b.time ∨ (a.time = b.time ∧ (a.proc < b.proc ∨ (a.proc = b.proc ∧ (a.count < b.count ∨ (a.count = b.count ∧ (a.n < b.n ∨ (a.n = b.n ∧ a.value < b.value)))))))
instance (a b : Ou) : Decidable (b9q a b) := by unfold b9q; infer_instance
theorem a5y (a b : Ou) : b0h a b = decide (b9q a b) := by
 rw [Bool.eq_iff_iff, decide_eq_true_iff]
 simp only [b0h, ouL, b5a, b9q]
 simp [b8u]
end
section
noncomputable def kb (p : Prop) : Bool := @decide p (Classical.propDecidable p)
def c0n (n : Nd) : Prop := (0 ≤ n.id ∧ n.id ≤ 2) ∧ (1 ≤ n.inc ∧ n.inc ≤ 9999) ∧ (0 ≤ n.g ∧ n.g ≤ 41) ∧ (0 ≤ n.led ∧ n.led ≤ 9999) ∧ (0 ≤ n.version ∧ n.version ≤ 9999) ∧ (0 ≤ n.round ∧ n.round ≤ 9999) ∧ (0 ≤ n.low ∧ n.low ≤ 41)
instance (n : Nd) : Decidable (c0n n) := by unfold c0n; infer_instance

def c2e {α : Type} (l : List α) (p : Nat → α → Prop) (i : Nat) : Prop := ∀ (j : Nat) a, j < i → l[j]? = some a → p j a
theorem a8u : c2e l p 0 := fun j a h => absurd h (Nat.not_lt_zero j)
theorem a8v (h : c2e l p i) (ha : l[i]? = some a) (hp : p i a) : c2e l p (i + 1) := fun j b hj hb => by
 by_cases e : j = i
 ·subst e; rw [ha] at hb; cases hb; exact hp
 ·exact h j b (by omega) hb
theorem b1h (h : c2e l p i) (hi : l.length ≤ i) : ∀ (j : Nat) a, l[j]? = some a → p j a := fun j a ha => h j a (by have := (List.getElem?_eq_some_iff.1 ha).1; omega) ha
end
section
def c4r (l : La) : List Ev := l.done.flatMap Pa.sends
def c4s (n : Nd) : List Ev := n.kept ++ n.lanes.flatMap c4r
def c4t (n : Nd) (j : Nat) : List Ev := if (j : Int) = n.id then [] else (n.views.getD j vi0).events
def c3n (n : Nd) (i : Nat) : List Ev := (List.range i).flatMap (c4t n)
def c4u (proc g : Int) (e : Ev) : Bool := decide (e.to = proc ∧ g ≤ e.time)
def c4v (n : Nd) (proc : Int) : List Ev := c3j ((c4s n ++ c3n n 3).filter (c4u proc n.g))
end
section
def same : List Pa → List Ev → Nat
 | p :: r, e :: s => if p.ev = e then same r s + 1 else 0
 | _, _ => 0
section
variable {α : Type} [DecidableEq α] {lt : α → α → Bool}
end
section
variable {α : Type} {o : List α} {n : Nat} {w x z : α}
end
end
section
section
variable {α : Type} {ok : α → Bool} {lt : α → α → Bool}
theorem b5c : ∀ {l : List α} {o : Option α}, a6y ok lt o l = true → ∀ p ∈ l, ok p = true
 | [], _, _, p, hp => by cases hp
 | a :: r, o, h, p, hp => by
  simp only [a6y, Bool.and_eq_true] at h
  rcases List.mem_cons.1 hp with rfl | hp
  ·exact h.1.1
  ·exact b5c h.2 p hp
theorem a0o (h : a7w ok lt l most = true) : (l.length : Int) ≤ most ∧ ∀ p ∈ l, ok p = true := by
 simp only [a7w, Bool.and_eq_true, decide_eq_true_eq] at h
 exact ⟨h.1, b5c h.2⟩
end
end
section
structure Wo where
 kind : Int
 from' : Int
 to : Int
 inc : Int
 version : Int
 round : Int
 g : Int
 incs : List Int
 versions : List Int
 events : List Ev
 outs : List Ou
 deriving DecidableEq, Inhabited
def wo0 : Wo := ⟨0, 0, 0, 0, 0, 0, 0, [], [], [], []⟩
def kWo (k : Nat) (w : Wo) : Wo := ⟨(k : Int), (k + 1 : Nat), (k + 1 + 1 : Nat), (k + 1 + 1 + 1 : Nat), (k + 1 + 1 + 1 + 1 : Nat), (k + 1 + 1 + 1 + 1 + 1 : Nat), (k + 1 + 1 + 1 + 1 + 1 + 1 : Nat), mks zI kI (k + 7) w.incs, mks zI kI (k + 7 + szs zI w.incs) w.versions, mks zEv kEv (k + 7 + szs zI w.incs + szs zI w.versions) w.events, mks zOu kOu (k + 7 + szs zI w.incs + szs zI w.versions + szs zEv w.events) w.outs⟩

def zWl (w : Wo) : Nat := szs zI w.incs + szs zI w.versions + szs zEv w.events + szs zOu w.outs
def kWl (k : Nat) (w : Wo) : Wo := { w with incs := mks zI kI k w.incs, versions := mks zI kI (k + szs zI w.incs) w.versions, events := mks zEv kEv (k + szs zI w.incs + szs zI w.versions) w.events, outs := mks zOu kOu (k + szs zI w.incs + szs zI w.versions + szs zEv w.events) w.outs }
end
section

def nl (n : Nd) (ls : List La) : Nd := { n with lanes := ls }
def keep (n : Nd) (ls : List La) (l : La) : Nat := same l.done (c4v (nl n ls) l.proc)
end
section

def c3o (v : Vi) (inc ver : Int) : Prop := v.inc < inc ∨ (inc = v.inc ∧ v.version < ver)
instance (v : Vi) (inc ver : Int) : Decidable (c3o v inc ver) := by unfold c3o; infer_instance
end
section
def a3p (p : Int) : List AV := [.pv (.int .i64 p)]
def a1l (p : Nat) : List AV := [.pv (.int .u8 (p : Int))]
def s6s (e : Ev) : List AV := (evN e).map pI
def a0n (o : Ou) : List AV := (ouL o).map pI
def s7s (c : Bool) (l : List Int) : AV := .row (.rd c) 3 1 (l.map a3p)
def v7v (c : Bool) (l : List Nat) : AV := .row (.rd c) 5 1 (l.map a1l)
def b2x (c : Bool) (l : List Ev) : AV := .row (.rd c) 81 7 (l.map s6s)
def b2y (c : Bool) (l : List Ou) : AV := .row (.rd c) 84 5 (l.map a0n)
theorem nf {k : Bool} : false = true → k = true := fun h => by cases h
theorem LendL.cls {h : Hp} : ∀ {cs : List AV}, (cs.all AV.cl) = true → LendL h cs cs []
 | [], _ => .nil
 | a :: cs, hc => by rw [List.all_cons, Bool.and_eq_true] at hc; exact .cl hc.1 (LendL.cls hc.2)
variable {h : Hp} {T : TL}
theorem c2f {cs ls bs : List AV} (h1 : (cs.all AV.one) = true) (hc : (cs.all AV.cl) = true) (t : LendL h ls bs T) : LendL h (.agg cs :: ls) (.agg cs :: bs) T := .agg h1 (.cls hc) t
variable {α : Type}
theorem c3p [DecidableEq α] {l l' : List α} (h : ¬ l.length = l'.length) : [AV.pv (.bool false)] = [AV.pv (.bool (decide (l = l')))] := by
 rw [decide_eq_false (fun e => h (by rw [e]))]
variable {i : Nat}
theorem c3q [DecidableEq α] {l l' : List α} {x y : α} (hx : l[i]? = some x) (hy : l'[i]? = some y) (h : ¬ x = y) : [AV.pv (.bool false)] = [AV.pv (.bool (decide (l = l')))] := by
 rw [decide_eq_false (fun e => h (by subst e; rw [hx] at hy; exact Option.some.inj hy))]
theorem eqT [DecidableEq α] {l l' : List α} (h : l.take i = l'.take i) (h1 : l.length ≤ i) (h2 : l'.length ≤ i) : [AV.pv (.bool true)] = [AV.pv (.bool (decide (l = l')))] := by
 rw [List.take_of_length_le h1, List.take_of_length_le h2] at h
 rw [decide_eq_true h]
theorem a3t {l l' : List α} {x y : α} (h : l.take i = l'.take i) (hx : l[i]? = some x) (hy : l'[i]? = some y) (e : x = y) : l.take (i + 1) = l'.take (i + 1) := by
 subst e
 rw [List.take_add_one, List.take_add_one, h, hx, hy]
variable {p : Prop}
theorem kF [Decidable p] (h : ¬ p) : [AV.pv (.bool false)] = [AV.pv (.bool (decide p))] := by rw [decide_eq_false h]
theorem kT [Decidable p] (h : p) : [AV.pv (.bool true)] = [AV.pv (.bool (decide p))] := by rw [decide_eq_true h]

theorem c4w (e : Ev) : StrC (s6s e) := StrC.ints (evN e)
theorem c4x (e : Ou) : StrC (a0n e) := StrC.ints (ouL e)
theorem c5p (e : Int) : StrC (a3p e) := .cons (.pv _) rfl .nil
theorem a5k {a : AV} {b : List AV} (h : Strict a) (k : ∀ y ∈ b, Strict y) : ∀ y ∈ a :: b, Strict y := fun y hy => by
 rcases List.mem_cons.1 hy with rfl | hy
 ·exact h
 ·exact k y hy
theorem c4d : ∀ y ∈ ([] : List AV), Strict y := fun y hy => by cases hy
theorem c3r (l : List Int) : ∀ y ∈ l.map pI, Strict y := fun y hy => by
 obtain ⟨n, _, rfl⟩ := List.mem_map.1 hy
 exact .pv _
theorem b7z (l : List Ev) : Strict (b2x true l) := a4p fun e => c3r (evN e)
theorem b8a (l : List Ou) : Strict (b2y true l) := a4p fun e => c3r (ouL e)
theorem b0j (l : List Int) : Strict (s7s true l) := a4p fun e => a5k (.pv _) c4d
def a5z (c : Bool) (w : Wo) : List AV := [pI w.kind, pI w.from', pI w.to, pI w.inc, pI w.version, pI w.round, pI w.g, s7s c w.incs, s7s c w.versions, b2x c w.events, b2y c w.outs]
theorem sWo (w : Wo) : ∀ y ∈ a5z true w, Strict y :=
 a5k (.pv _) (a5k (.pv _) (a5k (.pv _) (a5k (.pv _) (a5k (.pv _) (a5k (.pv _) (a5k (.pv _) (a5k (b0j _) (a5k (b0j _) (a5k (b7z _) (a5k (b8a _) c4d))))))))))
theorem b9r (w : Wo) : Strict (.agg (a5z true w)) := .agg (sWo w)
theorem y9y : ∀ n : Nat, n + 0 = n := fun _ => rfl
variable {w : Wo} {i0 i1 i2 i3 g0 g1 g2 g3 : Nat} {ls bs : List AV}
theorem a8w (h0 : z8z h i0 = some (g0, .row 3 1 (w.incs.map a3p))) (h1 : z8z h i1 = some (g1, .row 3 1 (w.versions.map a3p))) (h2 : z8z h i2 = some (g2, .row 81 7 (w.events.map s6s))) (h3 : z8z h i3 = some (g3, .row 84 5 (w.outs.map a0n))) (t : LendL h ls bs T) :
  LendL h (.agg [pI w.kind, pI w.from', pI w.to, pI w.inc, pI w.version, pI w.round, pI w.g, .ref i0 g0, .ref i1 g1, .ref i2 g2, .ref i3 g3] :: ls) (.agg (a5z false w) :: bs)
   ([(i0, (g0, .row 3 1 (w.incs.map a3p))), (i1, (g1, .row 3 1 (w.versions.map a3p))), (i2, (g2, .row 81 7 (w.events.map s6s))), (i3, (g3, .row 84 5 (w.outs.map a0n)))] ++ T) :=
 .agg rfl (.cl rfl (.cl rfl (.cl rfl (.cl rfl (.cl rfl (.cl rfl (.cl rfl (.ref h0 (Le.ow_map _ nf (fun _ => rfl)) (.ref h1 (Le.ow_map _ nf (fun _ => rfl)) (.ref h2 (Le.ow_map _ nf (fun _ => rfl)) (.ref h3 (Le.ow_map _ nf (fun _ => rfl)) .nil))))))))))) t
theorem c3s {r : Hp} (t : StrH r) : StrH ((i0, (g0, .row 3 1 (w.incs.map a3p))) :: (i1, (g1, .row 3 1 (w.versions.map a3p))) :: (i2, (g2, .row 81 7 (w.events.map s6s))) :: (i3, (g3, .row 84 5 (w.outs.map a0n))) :: r) :=
 .row (StrC.map c5p _) (.row (StrC.map c5p _) (.row (StrC.map c4w _) (.row (StrC.map c4x _) t)))
theorem b1i {l : List Int} {i g : Nat} (h0 : z8z h i = some (g, .row 3 1 (l.map a3p))) (t : LendL h ls bs T) : LendL h (.ref i g :: ls) (s7s false l :: bs) ((i, (g, .row 3 1 (l.map a3p))) :: T) := .ref h0 (Le.ow_map _ nf (fun _ => rfl)) t
end
section
variable {P : Program} {n : Nat} {fr : Fr} {h : Hp} {Q : Exit → Fr → Hp → Prop}
section
variable {ops : Array Oper} {f0 : FF} {h0 : HF}
end
structure At0 (ops : Array Oper) (fr : FF) (h : Hp) (i : Nat) (r : OR) : Prop where
 ins : ∀ t av, (t, av) ∈ r.ins → fr t = some av
 slots : ∀ t av, (t, av) ∈ r.ins → ∃ o, ops[i]? = some o ∧ ((∃ x ∈ o.op.operands, x = .tmp t) ∨ ∃ j w, o.guard = some (j, w) ∧ q3q ops j = some t)
 ent : InH h r.T
 sub : Sub r.W r.T
inductive TrP (P : Program) (ops : Array Oper) (c : Nat) : List Nat → FF → Hp → List OR → FF → Hp → Prop
 | nil {f : FF} {h : Hp} : TrP P ops c [] f h [] f h
 | cons {i : Nat} {π : List Nat} {f f' : FF} {h h' : Hp} {r : OR} {rs : List OR} (ha : At0 ops f h i r) (ho : i ≠ c → OpT P ops i r) (ht : TrP P ops c π (b3p f (q3q ops i) r.out) (c0i h r.W) rs f' h') : TrP P ops c (i :: π) f h (r :: rs) f' h'
section
variable {ops : Array Oper} {c : Nat}
theorem TrP.append (a : TrP P ops c π f h L f' h') (b : TrP P ops c π' f' h' L' f'' h'') : TrP P ops c (π ++ π') f h (L ++ L') f'' h'' := by
 induction a with
 | nil => exact b
 | cons ha ho _ ih => exact .cons ha ho (ih b)
theorem TrP.len (a : TrP P ops c π f h L f' h') : L.length = π.length := by
 induction a with
 | nil => rfl
 | cons _ _ _ ih => simp [ih]
end
end
section
variable {P : Program} {ev : Operand → Option AV}
theorem a8x {c : Code} {Q Q' : Exit → Act → World → Prop} (hq : ∀ e a w, Q e a w → Q' e a w) : ∀ (N : Nat) {a : Act} {w : World}, Code.rounds P c Q N a w → Code.rounds P c Q' N a w
 | 0, _, _, h => h.elim
 | N + 1, a, w, h => by
  rw [rounds_succ] at h ⊢
  refine wp_mono h fun e a w k => ?_
  cases e with
  | normal => exact a8x hq N k
  | exit id => exact hq _ _ _ k
  | goto l => exact hq _ _ _ k
  | ret => exact hq _ _ _ k
  | panic ch => exact hq _ _ _ k
  | outgrown => exact hq _ _ _ k

def ExR (P : Program) (n N : Nat) (c : Code) (fr : Fr) (h : Hp) (Q : Exit → Fr → Hp → Prop) : Prop :=
 ∀ (X : Cx) (B : Base) (a : Act) (w : World), SRh X B (hf h) w → FrOK X w n fr.get a → a.defers = [] →
  Code.rounds P c (fun e a' w' => ∃ fr' h' X', Q e fr' h' ∧ X.le X' ∧ SRh X' B (hf h') w' ∧ FrOK X' w' n (Fr.get fr') a' ∧ a'.defers = [] ∧ ∀ b, X.ok2 b → w'.heap[b]? = w.heap[b]?) N a w
variable {n : Nat} {fr : Fr} {h : Hp} {Q : Exit → Fr → Hp → Prop} {c : Code}
theorem a2p (N : Nat) (k : ExR P n N c fr h Q) : Ex P n (.loop c) fr h Q := fun X B a w hS hF hd => wp_loop_rounds N (k X B a w hS hF hd)
theorem w2w {N n : Nat} (h1 : ∀ K : Fr → Hp → Prop, (∀ fr h, ExR P n N c fr h Q → K fr h) → Ex P n c fr h (b4d K Q)) : ExR P n (N + 1) c fr h Q := fun X B a w hS hF hd => by
 rw [rounds_succ]
 refine wp_mono (h1 _ (fun _ _ h => h) X B a w hS hF hd) fun e a2 w2 hh => ?_
 obtain ⟨fr2, h2', X2, k1, k2, k3, k4, k5, k6⟩ := hh
 cases e with
 | normal =>
  refine a8x (fun e a3 w3 hh => ?_) N (k1 X2 B a2 w2 k3 k4 k5)
  obtain ⟨fr3, h3', X3, g1, g2, g3, g4, g5, g6⟩ := hh
  exact ⟨fr3, h3', X3, g1, k2.trans g2, g3, g4, g5, fun b hb => (g6 b (k2.ok2 b hb)).trans (k6 b hb)⟩
 | exit id => exact ⟨fr2, h2', X2, k1, k2, k3, k4, k5, k6⟩
 | goto l => exact ⟨fr2, h2', X2, k1, k2, k3, k4, k5, k6⟩
 | ret => exact ⟨fr2, h2', X2, k1, k2, k3, k4, k5, k6⟩
 | panic ch => exact ⟨fr2, h2', X2, k1, k2, k3, k4, k5, k6⟩
 | outgrown => exact ⟨fr2, h2', X2, k1, k2, k3, k4, k5, k6⟩
def b1j (l : List Nat) : ByteArray := strOfNums (l.map fun (b : Nat) => (b : Int))
theorem c0o : ∀ (l l' : List Nat), (∀ b ∈ l, b < 256) → (∀ b ∈ l', b < 256) → (l.map ((fun n : Int => UInt8.ofNat n.toNat) ∘ fun (b : Nat) => (b : Int))) = (l'.map ((fun n : Int => UInt8.ofNat n.toNat) ∘ fun (b : Nat) => (b : Int))) → l = l'
 | [], [], _, _, _ => rfl
 | [], _ :: _, _, _, h => by cases h
 | _ :: _, [], _, _, h => by cases h
 | a :: l, b :: l', ha, hb, h => by
  simp only [List.map_cons, List.cons.injEq] at h
  have h1 := congrArg UInt8.toNat h.1
  have h2 := ha a (by simp)
  have h3 := hb b (by simp)
  simp at h1
  rw [c0o l l' (fun x hx => ha x (by simp [hx])) (fun x hx => hb x (by simp [hx])) h.2]
  congr 1
  omega
theorem b8c {l l' : List Nat} (h : ∀ b ∈ l, b < 256) (h' : ∀ b ∈ l', b < 256) : ((b1j l).toList == (b1j l').toList) = decide (l = l') := by
 rw [ByteArray.toList_eq, ByteArray.toList_eq, b1j, b1j, strOfNums_data, strOfNums_data, Bool.eq_iff_iff, beq_iff_eq, decide_eq_true_iff, List.map_map, List.map_map]
 constructor
 ·exact c0o l l' h h'
 ·rintro rfl; rfl
variable {o : Oper} {x : Operand} {S E D : TS} {m : Bool} {l : List Nat}
theorem c2g {tt : TT} (htt : a0y P tt) {s d e : Nat} {ty : Nat} (ho : o.op = .convert s d x) (hx : ev x = some (.row (.rd m) ty 1 (l.map fun (b : Nat) => [AV.pv (.int .u8 (b : Int))])))
  (hs : tt s = some S) (hk : S.kind = .sl e) (he : tt e = some E) (hke : E.kind = .int .u8) (hd : tt d = some D) (hkd : D.kind = .str) : OpS P o ev [] [] (.pv (.string (b1j l))) :=
 .quiet fun X B hF a w hS hop hT => by
  obtain ⟨A, c, u, e1, h2, h3, h4, h5, h6, h7, h8⟩ := (hop x (by simp [ho, Op.operands]) _ hx).row_inv
  obtain ⟨d1, q1, q2⟩ := (htt _ _ hs).desc
  obtain ⟨d2, q3, q4⟩ := (htt _ _ he).desc
  obtain ⟨d3, q5, q6⟩ := (htt _ _ hd).desc
  rw [hk] at q2; rw [hke] at q4; rw [hkd] at q6
  simp only [KOk] at q2 q4 q6
  subst q2 q4 q6
  refine ⟨.string (b1j l), ?_, .pv _⟩
  rw [List.length_map] at e1 h6
  have hcell : ∀ (ad : Addr) (j : Nat) (v : Value), A = some ad → ((l.map fun (b : Nat) => (b : Int)).map (Value.int .u8))[j]? = some v → w.cell? (ad.add j) = some v := by
   intro ad j v hA hj
   rw [List.getElem?_map, List.getElem?_map] at hj
   cases hl : l[j]? with
   | none => rw [hl] at hj; simp at hj
   | some b =>
    rw [hl] at hj
    simp only [Option.map_some, Option.some.injEq] at hj
    have k1 : (l.map fun (b : Nat) => [AV.pv (.int .u8 (b : Int))])[j]? = some [AV.pv (.int .u8 (b : Int))] := by rw [List.getElem?_map, hl]; rfl
    have k2 := h7 ad j 0 _ _ hA k1 rfl
    have k3 := h8 j 0 _ _ k1 rfl
    rw [Nat.mul_one, Nat.add_zero] at k2
    rw [k2, ← hj, (VR.cl (X := X) k3).pv_inv]
  simp only [execOp, ho, e1]
  cases A with
  | none =>
   have : l = [] := by
    cases l with
    | nil => rfl
    | cons b r => obtain ⟨ad, h, _⟩ := h6 (by simp); cases h
   subst this
   have := run_convert_bytes_nil (P := P) w s e q1 q3 0 c d q5
   simp only [List.length_nil] at *
   simp [this]
   rfl
  | some ad =>
   have hl : (loadCells ad l.length).run P w = .ok ((l.map fun (b : Nat) => (b : Int)).map (Value.int .u8)).toArray w := by
    have := run_loadCells_list (P := P) w ad ((l.map fun (b : Nat) => (b : Int)).map (Value.int .u8)) (fun j v hj => hcell ad j v rfl hj)
    simpa using this
   have hr : (convert s d (.slice (some ad) l.length c)).run P w = .ok (.string (b1j l)) w := by
    rw [run_convert_bytes_string w s d e _ l.length c q1 q3 q5, run_bytesToString w ad l.length c _ hl, foldl_push_bytes]
    simp [b1j, strOfNums, ByteArray.empty, ByteArray.emptyWithCapacity]
    rfl
   simp [hr]
section
variable {tt : TT} {ops : Array Oper} {r : List Oper} {fr : Fr} {h : Hp} {lg : Log} {K : Fr → Hp → Log → Prop} {d : Nat} {ty : TypeId} {pos : String} {af : Array Edge}
variable {s t e : Nat}
theorem c0p (htt : a0y P tt) {ty' : Nat} (hx : evO fr x = some (.row (.rd m) ty' 1 (l.map fun (b : Nat) => [AV.pv (.int .u8 (b : Int))])))
  (hs : tt s = some S) (hk : S.kind = .sl e) (he : tt e = some E) (hke : E.kind = .int .u8) (hd : tt t = some D) (hkd : D.kind = .str) (k : w9w P tt ops r ((d, .pv (.string (b1j l))) :: fr) h (([], []) :: lg) K) :
  w9w P tt ops (⟨some d, .convert s t x, ty, pos, af, none⟩ :: r) fr h lg K := a7j (c2g htt rfl hx hs hk he hke hd hkd) .nil .nil k
variable {t' : Nat} {y : Operand} {k k' : IntKind} {a b : Int}
theorem c2h (ho : o.op = .binOp .shl t x y t') (hx : ev x = some (.pv (.int k a))) (hy : ev y = some (.pv (.int k' b))) (hb : 0 ≤ b) : OpS P o ev [] [] (.pv (.int k (k.wrap (a * 2 ^ (min b.toNat k.bits))))) :=
 a1u fun a w hop => by
  have h1 := hop x (by simp [ho, Op.operands]) _ hx
  have h2 := hop y (by simp [ho, Op.operands]) _ hy
  have hb' : ¬ b < 0 := by omega
  simp [execOp, ho, h1, h2, eqGuard, binOp, Op.shift, hb']
theorem b2z (w : Value) (hx : evO fr x = some (.pv (.int k a))) (hy : evO fr y = some (.pv (.int k' b))) (hb : 0 ≤ b) (e : Value.int k (k.wrap (a * 2 ^ (min b.toNat k.bits))) = w) (kk : w9w P tt ops r ((d, .pv w) :: fr) h (([], []) :: lg) K) :
  w9w P tt ops (⟨some d, .binOp .shl t x y t', ty, pos, af, none⟩ :: r) fr h lg K := by
 subst e; exact a7j (c2h rfl hx hy hb) .nil .nil kk
def b9s : TK → Bool
 | .int _ => true
 | .str => true
 | .st _ => true
 | .arr _ _ => true
 | .sl _ => true
 | _ => false
variable {v : Value}
theorem c2i (htt : a0y P tt) (ho : o.op = .makeInterface t x) (hx : ev x = some (.pv v)) (hs : tt t = some S) (hn : b9s S.kind = true) : OpS P o ev [] [] (.pv (.iface t v)) :=
 .quiet fun X B hF a w hS hop hT => by
  have e := (hop x (by simp [ho, Op.operands]) _ hx).pv_inv
  obtain ⟨d1, q1, q2⟩ := (htt _ _ hs).desc
  refine ⟨.iface t v, ?_, .pv _⟩
  simp only [execOp, ho, e]
  cases hk : S.kind <;> rw [hk] at q2 hn <;> first
   | (cases hn; done)
   | (simp only [KOk] at q2; subst q2; simp [Instr.makeInterface, run_underlying q1])
   | (simp only [KOk] at q2; obtain ⟨_, rfl⟩ := q2; simp [Instr.makeInterface, run_underlying q1])
   | (simp only [KOk] at q2; obtain ⟨_, rfl, _⟩ := q2; simp [Instr.makeInterface, run_underlying q1])
theorem b9t (htt : a0y P tt) {vs : List Value} (ho : o.op = .makeInterface t x) (hx : ev x = some (.agg (vs.map .pv))) (hs : tt t = some S) (hn : b9s S.kind = true) : OpS P o ev [] [] (.pv (.iface t (.agg vs.toArray))) :=
 .quiet fun X B hF a w hS hop hT => by
  obtain ⟨us, e, hu⟩ := (hop x (by simp [ho, Op.operands]) _ hx).agg_inv
  have e3 : us = vs := by
   refine List.ext_getElem? fun i => ?_
   have hl := hu.len
   rw [List.length_map] at hl
   cases hi : vs[i]? with
   | none => rw [List.getElem?_eq_none_iff] at hi ⊢; omega
   | some v =>
    have h1 : (vs.map AV.pv)[i]? = some (.pv v) := by rw [List.getElem?_map, hi]; rfl
    have h2 : i < us.length := by have := (List.getElem?_eq_some_iff.1 hi).1; omega
    have h3 := hu.rel i _ _ h1 (List.getElem?_eq_getElem h2)
    rw [List.getElem?_eq_getElem h2, h3.pv_inv]
  subst e3
  obtain ⟨d1, q1, q2⟩ := (htt _ _ hs).desc
  refine ⟨.iface t (.agg us.toArray), ?_, .pv _⟩
  simp only [execOp, ho, e]
  cases hk : S.kind <;> rw [hk] at q2 hn <;> first
   | (cases hn; done)
   | (simp only [KOk] at q2; subst q2; simp [Instr.makeInterface, run_underlying q1])
   | (simp only [KOk] at q2; obtain ⟨_, rfl⟩ := q2; simp [Instr.makeInterface, run_underlying q1])
   | (simp only [KOk] at q2; obtain ⟨_, rfl, _⟩ := q2; simp [Instr.makeInterface, run_underlying q1])
theorem b8d (htt : a0y P tt) (hx : evO fr x = some (.pv v)) (hs : tt t = some S) (hn : b9s S.kind = true) (k : w9w P tt ops r ((d, .pv (.iface t v)) :: fr) h (([], []) :: lg) K) :
  w9w P tt ops (⟨some d, .makeInterface t x, ty, pos, af, none⟩ :: r) fr h lg K := a7j (c2i htt rfl hx hs hn) .nil .nil k
theorem c2j (htt : a0y P tt) (vs : List Value) (hx : evO fr x = some (.agg (vs.map .pv))) (hs : tt t = some S) (hn : b9s S.kind = true) (k : w9w P tt ops r ((d, .pv (.iface t (.agg vs.toArray))) :: fr) h (([], []) :: lg) K) :
  w9w P tt ops (⟨some d, .makeInterface t x, ty, pos, af, none⟩ :: r) fr h lg K := a7j (b9t htt rfl hx hs hn) .nil .nil k
variable {ms : Array (String × TypeId)}
theorem a3f {t : TypeId} (hu' : P.underlying t = some (.interface ms)) (x : Operand) : EqA P t x (.const .nilIface) (.pv .nilIface) (.pv .nilIface) true := by
 have hu : P.underlying t = some (.interface (P.methodsAt t)) := by rw [hu']; simp only [Program.methodsAt, hu']
 intro X w u v h12 h1 h2 op hop
 have e1 := h1.pv_inv
 have e2 := h2.pv_inv
 subst e1 e2
 have he := run_equal_nil_nil (P := P) w t hu
 rcases hop with rfl | rfl
 ·simp [eqGuard, binOp, he, a8l]
 ·simp [eqGuard, binOp, he, a8l]
theorem b5d {t : TypeId} (hu' : P.underlying t = some (.interface ms)) (x y : Operand) (s : TypeId) (z : Value) : EqA P t x y (.pv (.iface s z)) (.pv .nilIface) false := by
 have hu : P.underlying t = some (.interface (P.methodsAt t)) := by rw [hu']; simp only [Program.methodsAt, hu']
 intro X w u v h12 h1 h2 op hop
 have e1 := h1.pv_inv
 have e2 := h2.pv_inv
 subst e1 e2
 have he := run_equal_held_nil (P := P) w t s z hu
 rcases hop with rfl | rfl
 ·simp [eqGuard, binOp, he, a8l]
 ·simp [eqGuard, binOp, he, a8l]
end
theorem s4s (id : Nat) {g : Nat} {e : Ent} (hh : z8z h id = some (g, e)) (k : Ex P n c fr ((id, (g, .dead)) :: h) Q) : Ex P n c fr h Q := by
 refine b7e (Cov.refl fr) ⟨fun i ge hg => ?_, fun i hn => ?_⟩ k
 ·rw [v5v] at hg
  split at hg
  ·rename_i q; subst q; cases hg; exact ⟨_, hh, .inr rfl⟩
  ·exact ⟨ge.2, hg, .inl rfl⟩
 ·rw [v5v] at hn
  split at hn
  ·cases hn
  ·exact hn
theorem SRh.grew {X : Cx} {B : Base} {h : HF} {w w' : World} (H : SRh X B h w) (hw : Grew w w' []) : SRh X B h w' :=
 let ⟨F, k⟩ := H
 ⟨F, { k with
  ent := fun id g e he => (k.ent id g e he).mono (Cx.le.refl X) k.ok12 (fun b hb => hw.block b (k.ok2 b hb).1 (by simp)) (fun b hb => hw.block b (k.blk id _ b he hb) (by simp))
  blk := fun id g b he hb => Nat.lt_of_lt_of_le (k.blk id g b he hb) hw.size
  ok2 := fun b hb => ⟨Nat.lt_of_lt_of_le (k.ok2 b hb).1 hw.size, (k.ok2 b hb).2⟩
  os := hw.os.trans k.os
  tape := hw.tape.trans k.tape
  output := hw.output.trans k.output
  size := Nat.le_trans k.size hw.size
  keep := fun b hb hs => (hw.block b (Nat.lt_of_lt_of_le hb k.size) (by simp)).trans (k.keep b hb hs) }⟩
theorem Grew.rfl' (w : World) : Grew w w [] := ⟨rfl, rfl, rfl, Nat.le_refl _, fun _ _ _ => rfl⟩
theorem Grew.alloc (w : World) (o : Obj) : Grew w (w.alloc o) [] := ⟨rfl, rfl, rfl, by show w.heap.size ≤ (w.heap.push o).size; rw [Array.size_push]; omega, fun b hb _ => by show (w.heap.push o)[b]? = _; rw [Array.getElem?_push, if_neg (Nat.ne_of_lt hb)]⟩

theorem a6b {f : FuncId} {fn : Func} (hfn : P.funcs[f]? = some fn) (hname : (fn.name == "runtime.NumGoroutine") = false) (hb : fn.body = some c) (vs : List Value) (v : Value) (hc : ∀ w, Calls P f vs.toArray w fun e w' => e = .returned v ∧ Grew w w' []) : a1f P f (vs.map .pv) (.pv v) := by
 refine ⟨⟨fn, c, hfn, hname, hb⟩, fun X B hF w us hS hl hr hT => ?_⟩
 have e3 : us = vs := by
  refine List.ext_getElem? fun i => ?_
  rw [List.length_map] at hl
  cases hi : vs[i]? with
  | none => rw [List.getElem?_eq_none_iff] at hi ⊢; omega
  | some v =>
   have h1 : (vs.map AV.pv)[i]? = some (.pv v) := by rw [List.getElem?_map, hi]; rfl
   have h2 : i < us.length := by have := (List.getElem?_eq_some_iff.1 hi).1; omega
   have h3 := hr i _ _ h1 (List.getElem?_eq_getElem h2)
   rw [List.getElem?_eq_getElem h2, h3.pv_inv]
 subst e3
 refine (hc w).mono ?_
 rintro e w' ⟨rfl, hg⟩
 exact ⟨v, rfl, X, Cx.le.refl X, hS.grew hg, fun b hb => hg.block b (let ⟨_, k⟩ := hS; (k.ok2 b hb).1) (by simp), .pv _⟩
end
section
structure Op_ where
 do' : Int
 a : Int
 b : Int
 c : Int
 d : Int
 deriving DecidableEq, Inhabited
structure Ru where
 kind : Int
 ops : List Op_
 deriving DecidableEq, Inhabited
structure Ap where
 rules : List Ru
 deriving DecidableEq, Inhabited
structure Hb where
 round : Int
 ones : List Wo
 twos : List Wo
 outs : List Wo
 deriving DecidableEq, Inhabited
structure Tw where
 time : Int
 apps : List Ap
 nodes : List Nd
 radio : List Wo
 hub : Hb
 sink : List Ou
 deriving DecidableEq, Inhabited
def hb0 : Hb := ⟨0, [], [], []⟩
def b3a (v : Int) : Prop := 0 ≤ v ∧ v ≤ 1
def c4e (v : Int) : Prop := 0 ≤ v ∧ v ≤ 999
instance (v : Int) : Decidable (b3a v) := by unfold b3a; infer_instance
instance (v : Int) : Decidable (c4e v) := by unfold c4e; infer_instance

def c5q (o : Op_) : Prop :=
 ((o.do' = 1 ∨ o.do' = 3) ∧ b3a o.a ∧ c4e o.b ∧ o.c = 0 ∧ o.d = 0) ∨ (o.do' = 2 ∧ b3a o.a ∧ b3a o.b ∧ o.c = 0 ∧ o.d = 0) ∨
 ((o.do' = 4 ∨ o.do' = 7) ∧ b3a o.a ∧ o.b = 0 ∧ o.c = 0 ∧ o.d = 0) ∨ (o.do' = 5 ∧ b3a o.a ∧ c4e o.b ∧ (1 ≤ o.c ∧ o.c ≤ 8) ∧ o.d = 0) ∨
 (o.do' = 6 ∧ (0 ≤ o.a ∧ o.a ≤ 3) ∧ (0 ≤ o.b ∧ o.b ≤ 3) ∧ (1 ≤ o.c ∧ o.c ≤ 40) ∧ b3a o.d)
instance (o : Op_) : Decidable (c5q o) := by unfold c5q; infer_instance
end
section

def a3l (l : List Int) : Prop := (l.length = 0 ∨ l.length = 3) ∧ ∀ v ∈ l, 0 ≤ v ∧ v ≤ 9999
instance (l : List Int) : Decidable (a3l l) := by unfold a3l; infer_instance
def q2q (w : Wo) : Prop := (1 ≤ w.kind ∧ w.kind ≤ 7) ∧ (0 ≤ w.from' ∧ w.from' ≤ 2) ∧ (0 ≤ w.to ∧ w.to ≤ 2) ∧ (0 ≤ w.inc ∧ w.inc ≤ 9999) ∧ (0 ≤ w.version ∧ w.version ≤ 9999) ∧ (0 ≤ w.round ∧ w.round ≤ 9999) ∧ (0 ≤ w.g ∧ w.g ≤ 41)
instance (w : Wo) : Decidable (q2q w) := by unfold q2q; infer_instance
def a0c (w : Wo) : Prop := q2q w ∧ a3l w.incs ∧ a3l w.versions ∧ a7w okE a6u w.events 100 = true ∧ a7w okO b0h w.outs 96 = true
instance (w : Wo) : Decidable (a0c w) := by unfold a0c; infer_instance

def c0q (n : Nd) (w : Wo) : Prop := n.up = true ∧ a0c w ∧ w.to = n.id ∧ ¬ w.from' = n.id
instance (n : Nd) (w : Wo) : Decidable (c0q n w) := by unfold c0q; infer_instance
def b8e (n : Nd) : Prop := n.id = 0 ∧ n.up = true ∧ n.led < 9999 ∧ n.round < n.led + 1
instance (n : Nd) : Decidable (b8e n) := by unfold b8e; infer_instance
def b3c (n : Nd) (w : Wo) : Prop := n.id = 0 ∧ n.up = true ∧ a0c w ∧ w.to = 0 ∧ ¬ w.from' = 0
instance (n : Nd) (w : Wo) : Decidable (b3c n w) := by unfold b3c; infer_instance
def c5r (h : Hb) (w : Wo) : Prop := w.round = h.round ∧ ¬ w.incs.length = 0 ∧ ¬ w.versions.length = 0 ∧ h.ones.length < 3
instance (h : Hb) (w : Wo) : Decidable (c5r h w) := by unfold c5r; infer_instance
def c5s (h : Hb) (w : Wo) : Prop := w.round = h.round ∧ 3 ≤ h.ones.length ∧ h.twos.length < 3
instance (h : Hb) (w : Wo) : Decidable (c5s h w) := by unfold c5s; infer_instance
end
section

def b0k (n : Nat) : List Nat := if n < 128 then [n] else (128 + n % 128) :: b0k (n / 128)
termination_by n
decreasing_by omega
variable {n : Nat}
theorem a3u (h : n < 128) : b0k n = [n] := by rw [b0k, if_pos h]
theorem a5l (h : ¬ n < 128) : b0k n = (128 + n % 128) :: b0k (n / 128) := by rw [b0k, if_neg h]
theorem b3d : ∀ (n : Nat), ∀ b ∈ b0k n, b < 256 := fun n => by
 induction n using Nat.strongRecOn with
 | _ n ih =>
  intro b hb
  by_cases h : n < 128
  ·rw [a3u h] at hb; simp at hb; omega
  ·rw [a5l h] at hb
   rcases List.mem_cons.1 hb with e | hb
   ·omega
   ·exact ih (n / 128) (by omega) b hb
theorem b5e : ∀ (k n : Nat), n < 128 ^ (k + 1) → (b0k n).length ≤ k + 1
 | 0, n, h => by rw [a3u (by simpa using h)]; simp
 | k + 1, n, h => by
  by_cases h1 : n < 128
  ·rw [a3u h1]; simp
  ·rw [a5l h1, List.length_cons]
   have := b5e k (n / 128) (by rw [Nat.div_lt_iff_lt_mul (by omega)]; rw [Nat.pow_succ] at h; exact h)
   omega
def p3p (v : Int) : List Nat := b0k (v + 1).toNat
def u8u (l : List Int) : List Nat := l.flatMap p3p
def r9r (w : Wo) : List Int := [w.kind, w.from', w.to, w.inc, w.version, w.round, w.g]
def r3r (l : List Ev) : List Nat := l.flatMap fun e => u8u (evN e)
def r6r (l : List Ou) : List Nat := l.flatMap fun o => u8u (ouL o)
def a6c (w : Wo) : List Nat := u8u (r9r w) ++ p3p w.incs.length ++ u8u w.incs ++ p3p w.versions.length ++ u8u w.versions ++ p3p w.events.length ++ r3r w.events ++ p3p w.outs.length ++ r6r w.outs
open Classical in
def a7p (w : Wo) : List Nat := if a0c w then a6c w else []
variable {w : Wo}
theorem b1k (h : a0c w) : a7p w = a6c w := if_pos h
theorem b1l (h : ¬ a0c w) : a7p w = [] := if_neg h
structure Up where
 at' : Nat
 err : Option (Nat × Nat)
def unF (bs : List Nat) : Nat → Nat → Nat → Nat → Int × Up
 | 0, _, _, p => (0, ⟨p, some (p, if p < bs.length then 2 else 1)⟩)
 | k + 1, v, m, p => match bs[p]? with
  | none => (0, ⟨p, some (p, 1)⟩)
  | some b => if b < 128 then (((v + b % 128 * m : Nat) : Int) - 1, ⟨p + 1, none⟩) else unF bs k (v + b % 128 * m) (m * 128) (p + 1)
open Classical in
def a0q (bs : List Nat) (u : Up) : Int × Up := if u.err = none then unF bs 5 0 1 u.at' else (0, u)
open Classical in
def a9t (u : Up) (f : Nat) : Up := if u.err = none then ⟨u.at', some (u.at', f)⟩ else u
def q9q (bs : List Nat) (most : Int) (u : Up) : Int × Up := if 0 ≤ (a0q bs u).1 ∧ (a0q bs u).1 ≤ most then a0q bs u else (0, a9t (a0q bs u).2 2)
def a3q (bs : List Nat) : Nat → Up → List Int × Up
 | 0, u => ([], u)
 | n + 1, u => ((a0q bs u).1 :: (a3q bs n (a0q bs u).2).1, (a3q bs n (a0q bs u).2).2)
def a8y (bs : List Nat) (most : Int) (u : Up) : List Int × Up := a3q bs (q9q bs most u).1.toNat (q9q bs most u).2
def b6e (l : List Int) : Ev := ⟨l.getD 0 0, l.getD 1 0, l.getD 2 0, l.getD 3 0, l.getD 4 0, l.getD 5 0, l.getD 6 0⟩
def b3m (l : List Int) : Ou := ⟨l.getD 0 0, l.getD 1 0, l.getD 2 0, l.getD 3 0, l.getD 4 0⟩
def b1y (bs : List Nat) : Nat → Up → List Ev × Up
 | 0, u => ([], u)
 | n + 1, u => (b6e (a3q bs 7 u).1 :: (b1y bs n (a3q bs 7 u).2).1, (b1y bs n (a3q bs 7 u).2).2)
def b3e (bs : List Nat) : Nat → Up → List Ou × Up
 | 0, u => ([], u)
 | n + 1, u => (b3m (a3q bs 5 u).1 :: (b3e bs n (a3q bs 5 u).2).1, (b3e bs n (a3q bs 5 u).2).2)
def c0r (bs : List Nat) (u : Up) : List Ev × Up := b1y bs (q9q bs 100 u).1.toNat (q9q bs 100 u).2
def c0s (bs : List Nat) (u : Up) : List Ou × Up := b3e bs (q9q bs 96 u).1.toNat (q9q bs 96 u).2
def b5f (h a b : List Int) (e : List Ev) (o : List Ou) : Wo := ⟨h.getD 0 0, h.getD 1 0, h.getD 2 0, h.getD 3 0, h.getD 4 0, h.getD 5 0, h.getD 6 0, a, b, e, o⟩
def uH (bs : List Nat) := a3q bs 7 ⟨0, none⟩
def uA (bs : List Nat) := a8y bs 3 (uH bs).2
def uB (bs : List Nat) := a8y bs 3 (uA bs).2
def uE (bs : List Nat) := c0r bs (uB bs).2
def uO (bs : List Nat) := c0s bs (uE bs).2
def uWo (bs : List Nat) : Wo := b5f (uH bs).1 (uA bs).1 (uB bs).1 (uE bs).1 (uO bs).1
def a6z (bs : List Nat) : Prop := (uO bs).2.err = none ∧ (uO bs).2.at' = bs.length ∧ a0c (uWo bs) ∧ a7p (uWo bs) = bs
open Classical in
noncomputable def p9p (bs : List Nat) : Wo × Bool := if a6z bs then (uWo bs, true) else (wo0, false)
structure Rd7 where
 at' : Nat
 bad : Bool
def snF (bs : List Nat) : Nat → Nat → Nat → Nat → Int × Rd7
 | 0, _, _, p => (0, ⟨p, true⟩)
 | k + 1, v, m, p => match bs[p]? with
  | none => (0, ⟨p, true⟩)
  | some b => if b < 128 then (((v + b % 128 * m : Nat) : Int) - 1, ⟨p + 1, false⟩) else snF bs k (v + b % 128 * m) (m * 128) (p + 1)
def a0v (bs : List Nat) (r : Rd7) : Int × Rd7 := ((snF bs 3 0 1 r.at').1, ⟨(snF bs 3 0 1 r.at').2.at', r.bad || (snF bs 3 0 1 r.at').2.bad⟩)
def a0j (bs : List Nat) : Nat → Rd7 → List Int × Rd7
 | 0, r => ([], r)
 | n + 1, r => if r.bad = true then ([], r) else ((a0v bs r).1 :: (a0j bs n (a0v bs r).2).1, (a0j bs n (a0v bs r).2).2)
def a7x (bs : List Nat) : Nat → Rd7 → List Ev × Rd7
 | 0, r => ([], r)
 | n + 1, r => if r.bad = true then ([], r) else if (a0j bs 7 r).2.bad = true then ([], (a0j bs 7 r).2) else (b6e (a0j bs 7 r).1 :: (a7x bs n (a0j bs 7 r).2).1, (a7x bs n (a0j bs 7 r).2).2)
def a4x (bs : List Nat) : Nat → Rd7 → List Ou × Rd7
 | 0, r => ([], r)
 | n + 1, r => if r.bad = true then ([], r) else if (a0j bs 5 r).2.bad = true then ([], (a0j bs 5 r).2) else (b3m (a0j bs 5 r).1 :: (a4x bs n (a0j bs 5 r).2).1, (a4x bs n (a0j bs 5 r).2).2)
def b6f (bs : List Nat) (r : Rd7) : List Int × Rd7 := a0j bs (a0v bs r).1.toNat (a0v bs r).2
def c5t (bs : List Nat) (r : Rd7) : List Ev × Rd7 := a7x bs (a0v bs r).1.toNat (a0v bs r).2
def c5u (bs : List Nat) (r : Rd7) : List Ou × Rd7 := a4x bs (a0v bs r).1.toNat (a0v bs r).2
def sH (bs : List Nat) := a0j bs 7 ⟨0, false⟩
def sA (bs : List Nat) := b6f bs (sH bs).2
def sB (bs : List Nat) := b6f bs (sA bs).2
def sE (bs : List Nat) := c5t bs (sB bs).2
def sO (bs : List Nat) := c5u bs (sE bs).2
def sW (bs : List Nat) : Wo × Rd7 := if (sH bs).2.bad = true then (wo0, (sH bs).2) else (b5f (sH bs).1 (sA bs).1 (sB bs).1 (sE bs).1 (sO bs).1, (sO bs).2)
def a9u (bs : List Nat) : Prop := (sW bs).2.bad = false ∧ bs ≠ [] ∧ a7p (sW bs).1 = bs
open Classical in
noncomputable def q8q (bs : List Nat) : Wo × Bool := if a9u bs then ((sW bs).1, true) else (wo0, false)
variable {bs : List Nat} {k v m p : Nat}
theorem b1m (h : bs.length ≤ p) : snF bs (k + 1) v m p = (0, ⟨p, true⟩) := by
 unfold snF; rw [List.getElem?_eq_none h]
variable {b : Nat}
theorem b8f (h : bs[p]? = some b) (hb : b < 128) : snF bs (k + 1) v m p = (((v + b % 128 * m : Nat) : Int) - 1, ⟨p + 1, false⟩) := by
 unfold snF; rw [h]; exact if_pos hb
theorem b8g (h : bs[p]? = some b) (hb : ¬ b < 128) : snF bs (k + 1) v m p = snF bs k (v + b % 128 * m) (m * 128) (p + 1) := by
 conv => lhs; unfold snF
 rw [h]; exact if_neg hb
theorem a4r (h : bs.length ≤ p) : unF bs k v m p = (0, ⟨p, some (p, 1)⟩) := by
 cases k with
 | zero => unfold unF; rw [if_neg (by omega)]
 | succ k => unfold unF; rw [List.getElem?_eq_none h]
theorem b9u (h : p < bs.length) : unF bs 0 v m p = (0, ⟨p, some (p, 2)⟩) := by
 unfold unF; rw [if_pos h]
theorem b3f (h : bs[p]? = some b) (hb : b < 128) : unF bs (k + 1) v m p = (((v + b % 128 * m : Nat) : Int) - 1, ⟨p + 1, none⟩) := by
 unfold unF; rw [h]; exact if_pos hb
theorem b3g (h : bs[p]? = some b) (hb : ¬ b < 128) : unF bs (k + 1) v m p = unF bs k (v + b % 128 * m) (m * 128) (p + 1) := by
 conv => lhs; unfold unF
 rw [h]; exact if_neg hb
theorem c0t {bs : List Nat} : ∀ {k v m p : Nat}, p ≤ bs.length → (snF bs k v m p).2.at' ≤ bs.length
 | 0, _, _, _, h => h
 | k + 1, v, m, p, h => by
  unfold snF
  split
  ·exact h
  ·rename_i b hb
   have := (List.getElem?_eq_some_iff.1 hb).1
   split
   ·exact this
   ·exact c0t this
theorem c0u {bs : List Nat} : ∀ {k v m p : Nat}, p ≤ bs.length → (unF bs k v m p).2.at' ≤ bs.length
 | 0, _, _, _, h => h
 | k + 1, v, m, p, h => by
  unfold unF
  split
  ·exact h
  ·rename_i b hb
   have := (List.getElem?_eq_some_iff.1 hb).1
   split
   ·exact this
   ·exact c0u this
theorem c0v {bs : List Nat} : ∀ {k v m p : Nat}, v < m → -1 ≤ (snF bs k v m p).1 ∧ (snF bs k v m p).1 ≤ (m * 128 ^ k : Nat)
 | 0, v, m, p, h => ⟨by show (-1 : Int) ≤ 0; omega, by show (0 : Int) ≤ _; omega⟩
 | k + 1, v, m, p, h => by
  have h1 : ∀ b : Nat, v + b % 128 * m < m * 128 := fun b => by
   have : b % 128 * m ≤ 127 * m := Nat.mul_le_mul_right m (by omega)
   omega
  have h2 : m * 128 * 128 ^ k = m * 128 ^ (k + 1) := by rw [Nat.pow_succ, Nat.mul_assoc, Nat.mul_comm 128]
  have h3 : m * 128 ≤ m * 128 * 128 ^ k := Nat.le_mul_of_pos_right _ (Nat.pow_pos (by omega))
  unfold snF
  split
  ·exact ⟨by show (-1 : Int) ≤ 0; omega, by show (0 : Int) ≤ _; omega⟩
  ·rename_i b hb
   split
   ·have := h1 b; exact ⟨by show (-1 : Int) ≤ ((v + b % 128 * m : Nat) : Int) - 1; omega, by show ((v + b % 128 * m : Nat) : Int) - 1 ≤ _; omega⟩
   ·have := c0v (bs := bs) (k := k) (p := p + 1) (h1 b); rw [h2] at this; exact this
variable {r : Rd7}
theorem a3g (h : r.at' ≤ bs.length) : (a0v bs r).2.at' ≤ bs.length := c0t h
theorem a3v (bs : List Nat) (r : Rd7) : -1 ≤ (a0v bs r).1 ∧ (a0v bs r).1 ≤ 2097152 := c0v (by omega)
variable {u : Up}
theorem r4r (h : u.at' ≤ bs.length) : (a0q bs u).2.at' ≤ bs.length := by
 unfold a0q
 split
 ·exact c0u h
 ·exact h
theorem b9v (u : Up) (f : Nat) : (a9t u f).at' = u.at' := by
 unfold a9t
 split <;> rfl
theorem a2q {m : Int} (h : u.at' ≤ bs.length) : (q9q bs m u).2.at' ≤ bs.length := by
 unfold q9q
 split
 ·exact r4r h
 ·show (a9t _ _).at' ≤ _
  rw [b9v]; exact r4r h
theorem a8z (bs : List Nat) (u : Up) {m : Int} (hm : 0 ≤ m) : 0 ≤ (q9q bs m u).1 ∧ (q9q bs m u).1 ≤ m := by
 unfold q9q
 split
 ·assumption
 ·exact ⟨by show (0 : Int) ≤ 0; omega, hm⟩
theorem b1n {bs : List Nat} : ∀ {n : Nat} {u : Up}, u.at' ≤ bs.length → (a3q bs n u).2.at' ≤ bs.length
 | 0, _, h => h
 | n + 1, u, h => b1n (n := n) (r4r h)
theorem b8h {bs : List Nat} : ∀ {n : Nat} {u : Up}, u.at' ≤ bs.length → (b1y bs n u).2.at' ≤ bs.length
 | 0, _, h => h
 | n + 1, u, h => b8h (n := n) (b1n (n := 7) h)
def k12 (u : Up) : Prop := ∀ p f, u.err = some (p, f) → f = 1 ∨ f = 2
theorem b5g : k12 ⟨p, none⟩ := fun _ _ h => by cases h
theorem c3t {bs : List Nat} : ∀ {k v m p : Nat}, k12 (unF bs k v m p).2
 | 0, v, m, p => by
  intro a f h
  unfold unF at h
  simp only [Option.some.injEq, Prod.mk.injEq] at h
  obtain ⟨_, h⟩ := h
  split at h <;> omega
 | k + 1, v, m, p => by
  unfold unF
  split
  ·intro a f h
   simp only [Option.some.injEq, Prod.mk.injEq] at h
   omega
  ·split
   ·exact b5g
   ·exact c3t
theorem b8i (h : k12 u) : k12 (a0q bs u).2 := by
 unfold a0q
 split
 ·exact c3t
 ·exact h
theorem c2k (h : k12 u) : k12 (a9t u 2) := by
 unfold a9t
 split
 ·intro a f h
  simp only [Option.some.injEq, Prod.mk.injEq] at h
  omega
 ·exact h
theorem a7y {m : Int} (h : k12 u) : k12 (q9q bs m u).2 := by
 unfold q9q
 split
 ·exact b8i h
 ·exact c2k (b8i h)
theorem b0l {bs : List Nat} : ∀ {n : Nat} {u : Up}, k12 u → k12 (a3q bs n u).2
 | 0, _, h => h
 | n + 1, u, h => b0l (n := n) (b8i h)
theorem c0w {bs : List Nat} : ∀ {n : Nat} {u : Up}, k12 u → k12 (b1y bs n u).2
 | 0, _, h => h
 | n + 1, u, h => c0w (n := n) (b0l (n := 7) h)
theorem c0x {bs : List Nat} : ∀ {n : Nat} {u : Up}, k12 u → k12 (b3e bs n u).2
 | 0, _, h => h
 | n + 1, u, h => c0x (n := n) (b0l (n := 5) h)
theorem c6d (bs : List Nat) : k12 (uO bs).2 := c0x (a7y (c0w (a7y (b0l (a7y (b0l (a7y (b0l b5g))))))))
variable {l : List Int}
theorem c5v (h : l.length = 7) : ∃ a b c d e f g, l = [a, b, c, d, e, f, g] := by
 match l, h with
 | [a, b, c, d, e, f, g], _ => exact ⟨a, b, c, d, e, f, g, rfl⟩
theorem c5w (h : l.length = 5) : ∃ a b c d e, l = [a, b, c, d, e] := by
 match l, h with
 | [a, b, c, d, e], _ => exact ⟨a, b, c, d, e, rfl⟩
theorem b8j (h : ¬ r.bad = true) : a0j bs (k + 1) r = ((a0v bs r).1 :: (a0j bs k (a0v bs r).2).1, (a0j bs k (a0v bs r).2).2) := by
 conv => lhs; unfold a0j
 exact if_neg h
theorem b5h (h : k = 0 ∨ r.bad = true) : a0j bs k r = ([], r) := by
 cases k with
 | zero => rfl
 | succ k =>
  conv => lhs; unfold a0j
  exact if_pos (by rcases h with h | h; cases h; exact h)
theorem b8k (h : ¬ r.bad = true) (h2 : ¬ (a0j bs 7 r).2.bad = true) : a7x bs (k + 1) r = (b6e (a0j bs 7 r).1 :: (a7x bs k (a0j bs 7 r).2).1, (a7x bs k (a0j bs 7 r).2).2) := by
 conv => lhs; unfold a7x
 rw [if_neg h, if_neg h2]
theorem b9w (h : ¬ r.bad = true) (h2 : (a0j bs 7 r).2.bad = true) : a7x bs (k + 1) r = ([], (a0j bs 7 r).2) := by
 conv => lhs; unfold a7x
 rw [if_neg h, if_pos h2]
theorem b1o (h : k = 0 ∨ r.bad = true) : a7x bs k r = ([], r) := by
 cases k with
 | zero => rfl
 | succ k =>
  conv => lhs; unfold a7x
  exact if_pos (by rcases h with h | h; cases h; exact h)
theorem b3h (h : ¬ r.bad = true) (h2 : ¬ (a0j bs 5 r).2.bad = true) : a4x bs (k + 1) r = (b3m (a0j bs 5 r).1 :: (a4x bs k (a0j bs 5 r).2).1, (a4x bs k (a0j bs 5 r).2).2) := by
 conv => lhs; unfold a4x
 rw [if_neg h, if_neg h2]
theorem b5i (h : ¬ r.bad = true) (h2 : (a0j bs 5 r).2.bad = true) : a4x bs (k + 1) r = ([], (a0j bs 5 r).2) := by
 conv => lhs; unfold a4x
 rw [if_neg h, if_pos h2]
theorem a4s (h : k = 0 ∨ r.bad = true) : a4x bs k r = ([], r) := by
 cases k with
 | zero => rfl
 | succ k =>
  conv => lhs; unfold a4x
  exact if_pos (by rcases h with h | h; cases h; exact h)
theorem a5m {bs : List Nat} : ∀ {n : Nat} {r : Rd7}, r.at' ≤ bs.length → (a0j bs n r).2.at' ≤ bs.length
 | 0, _, h => h
 | n + 1, r, h => by
  unfold a0j
  split
  ·exact h
  ·exact a5m (n := n) (a3g h)
theorem a6d {bs : List Nat} : ∀ {n : Nat} {r : Rd7}, (a0j bs n r).2.bad = false → (a0j bs n r).1.length = n
 | 0, _, _ => rfl
 | n + 1, r, h => by
  unfold a0j at h ⊢
  by_cases hb : r.bad = true
  ·rw [if_pos hb] at h; rw [hb] at h; cases h
  ·rw [if_neg hb] at h ⊢
   show (_ :: _).length = _
   rw [List.length_cons, a6d h]
variable {pre post : List Nat}
theorem b1p : (pre ++ b :: post)[pre.length]? = some b := by simp
theorem b8l (bs : List Nat) : ∀ (k n v m : Nat) (pre post : List Nat), n < 128 ^ (k + 1) → bs = pre ++ (b0k n ++ post) → unF bs (k + 1) v m pre.length = (((v + n * m : Nat) : Int) - 1, ⟨pre.length + (b0k n).length, none⟩)
 | k, n, v, m, pre, post, h, e => by
  by_cases h1 : n < 128
  ·rw [a3u h1] at e ⊢
   have hg : bs[pre.length]? = some n := by rw [e]; exact b1p
   unfold unF
   rw [hg]
   simp only [if_pos h1, Nat.mod_eq_of_lt h1, List.length_cons, List.length_nil]
  ·cases k with
   | zero => exact absurd (by simpa using h) h1
   | succ k =>
    rw [a5l h1] at e ⊢
    have hg : bs[pre.length]? = some (128 + n % 128) := by rw [e]; exact b1p
    unfold unF
    rw [hg]
    simp only [if_neg (show ¬ 128 + n % 128 < 128 by omega)]
    have := b8l bs k (n / 128) (v + (128 + n % 128) % 128 * m) (m * 128) (pre ++ [128 + n % 128]) post (by rw [Nat.div_lt_iff_lt_mul (by omega)]; rw [Nat.pow_succ] at h; exact h) (by rw [e]; simp)
    rw [List.length_append, List.length_cons, List.length_nil] at this
    rw [this, List.length_cons]
    have e2 : v + (128 + n % 128) % 128 * m + n / 128 * (m * 128) = v + n * m := by
     have h3 : n = 128 * (n / 128) + n % 128 := (Nat.div_add_mod n 128).symm
     have h4 : n * m = (128 * (n / 128)) * m + (n % 128) * m := by rw [← Nat.add_mul]; rw [← h3]
     have h5 : n / 128 * (m * 128) = (128 * (n / 128)) * m := by rw [Nat.mul_comm m 128, ← Nat.mul_assoc, Nat.mul_comm (n / 128) 128]
     rw [show (128 + n % 128) % 128 = n % 128 by omega, h5, h4]; omega
    rw [e2, show pre.length + (0 + 1) + (b0k (n / 128)).length = pre.length + ((b0k (n / 128)).length + 1) by omega]
theorem b8m (bs : List Nat) : ∀ (k n v m : Nat) (pre post : List Nat), n < 128 ^ (k + 1) → bs = pre ++ (b0k n ++ post) → snF bs (k + 1) v m pre.length = (((v + n * m : Nat) : Int) - 1, ⟨pre.length + (b0k n).length, false⟩)
 | k, n, v, m, pre, post, h, e => by
  by_cases h1 : n < 128
  ·rw [a3u h1] at e ⊢
   have hg : bs[pre.length]? = some n := by rw [e]; exact b1p
   unfold snF
   rw [hg]
   simp only [if_pos h1, Nat.mod_eq_of_lt h1, List.length_cons, List.length_nil]
  ·cases k with
   | zero => exact absurd (by simpa using h) h1
   | succ k =>
    rw [a5l h1] at e ⊢
    have hg : bs[pre.length]? = some (128 + n % 128) := by rw [e]; exact b1p
    unfold snF
    rw [hg]
    simp only [if_neg (show ¬ 128 + n % 128 < 128 by omega)]
    have := b8m bs k (n / 128) (v + (128 + n % 128) % 128 * m) (m * 128) (pre ++ [128 + n % 128]) post (by rw [Nat.div_lt_iff_lt_mul (by omega)]; rw [Nat.pow_succ] at h; exact h) (by rw [e]; simp)
    rw [List.length_append, List.length_cons, List.length_nil] at this
    rw [this, List.length_cons]
    have e2 : v + (128 + n % 128) % 128 * m + n / 128 * (m * 128) = v + n * m := by
     have h3 : n = 128 * (n / 128) + n % 128 := (Nat.div_add_mod n 128).symm
     have h4 : n * m = (128 * (n / 128)) * m + (n % 128) * m := by rw [← Nat.add_mul]; rw [← h3]
     have h5 : n / 128 * (m * 128) = (128 * (n / 128)) * m := by rw [Nat.mul_comm m 128, ← Nat.mul_assoc, Nat.mul_comm (n / 128) 128]
     rw [show (128 + n % 128) % 128 = n % 128 by omega, h5, h4]; omega
    rw [e2, show pre.length + (0 + 1) + (b0k (n / 128)).length = pre.length + ((b0k (n / 128)).length + 1) by omega]

def ok7 (v : Int) : Prop := -1 ≤ v ∧ v ≤ 9999
theorem b5j {v : Int} (hv : ok7 v) (e : bs = pre ++ (p3p v ++ post)) : a0q bs ⟨pre.length, none⟩ = (v, ⟨(pre ++ p3p v).length, none⟩) := by
 have h2 := hv.2
 have h3 : (128 : Nat) ^ (4 + 1) = 34359738368 := by decide
 unfold a0q
 rw [if_pos rfl, b8l bs 4 (v + 1).toNat 0 1 pre post (by rw [h3]; omega) e]
 rw [List.length_append]
 refine Prod.ext ?_ rfl
 show ((0 + (v + 1).toNat * 1 : Nat) : Int) - 1 = v
 have := hv.1
 omega
theorem a6e {v : Int} (hv : ok7 v) (e : bs = pre ++ (p3p v ++ post)) : a0v bs ⟨pre.length, false⟩ = (v, ⟨(pre ++ p3p v).length, false⟩) := by
 have h2 := hv.2
 have h3 : (128 : Nat) ^ (2 + 1) = 2097152 := by decide
 unfold a0v
 rw [b8m bs 2 (v + 1).toNat 0 1 pre post (by rw [h3]; omega) e]
 rw [List.length_append]
 refine Prod.ext ?_ rfl
 show ((0 + (v + 1).toNat * 1 : Nat) : Int) - 1 = v
 have := hv.1
 omega
theorem a4t {bs : List Nat} : ∀ {l : List Int} {pre post : List Nat}, (∀ v ∈ l, ok7 v) → bs = pre ++ (u8u l ++ post) → a3q bs l.length ⟨pre.length, none⟩ = (l, ⟨(pre ++ u8u l).length, none⟩)
 | [], pre, post, _, e => by simp [a3q, u8u]
 | v :: l, pre, post, h, e => by
  have e1 : bs = pre ++ (p3p v ++ (u8u l ++ post)) := by rw [e]; simp [u8u]
  have h1 := b5j (h v (by simp)) e1
  have h2 := a4t (bs := bs) (l := l) (pre := pre ++ p3p v) (post := post) (fun x hx => h x (by simp [hx])) (by rw [e1]; simp)
  simp only [List.length_cons, a3q, h1, h2]
  simp [u8u]
theorem a4u {bs : List Nat} : ∀ {l : List Int} {pre post : List Nat}, (∀ v ∈ l, ok7 v) → bs = pre ++ (u8u l ++ post) → a0j bs l.length ⟨pre.length, false⟩ = (l, ⟨(pre ++ u8u l).length, false⟩)
 | [], pre, post, _, e => by simp [a0j, u8u]
 | v :: l, pre, post, h, e => by
  have e1 : bs = pre ++ (p3p v ++ (u8u l ++ post)) := by rw [e]; simp [u8u]
  have h1 := a6e (h v (by simp)) e1
  have h2 := a4u (bs := bs) (l := l) (pre := pre ++ p3p v) (post := post) (fun x hx => h x (by simp [hx])) (by rw [e1]; simp)
  simp only [List.length_cons, a0j, h1, h2]
  simp [u8u]
theorem b5k (e : Ev) : b6e (evN e) = e := rfl
theorem b5l (o : Ou) : b3m (ouL o) = o := rfl
theorem b5m {bs : List Nat} : ∀ {l : List Ev} {pre post : List Nat}, (∀ e ∈ l, ∀ v ∈ evN e, ok7 v) → bs = pre ++ (r3r l ++ post) → b1y bs l.length ⟨pre.length, none⟩ = (l, ⟨(pre ++ r3r l).length, none⟩)
 | [], pre, post, _, e => by simp [b1y, r3r]
 | x :: l, pre, post, h, e => by
  have e1 : bs = pre ++ (u8u (evN x) ++ (r3r l ++ post)) := by rw [e]; simp [r3r]
  have h1 : a3q bs 7 ⟨pre.length, none⟩ = _ := a4t (l := evN x) (h x (by simp)) e1
  have h2 := b5m (bs := bs) (l := l) (pre := pre ++ u8u (evN x)) (post := post) (fun y hy => h y (by simp [hy])) (by rw [e1]; simp)
  simp only [List.length_cons, b1y, h1, h2, b5k]
  simp [r3r]
theorem b5n {bs : List Nat} : ∀ {l : List Ou} {pre post : List Nat}, (∀ e ∈ l, ∀ v ∈ ouL e, ok7 v) → bs = pre ++ (r6r l ++ post) → b3e bs l.length ⟨pre.length, none⟩ = (l, ⟨(pre ++ r6r l).length, none⟩)
 | [], pre, post, _, e => by simp [b3e, r6r]
 | x :: l, pre, post, h, e => by
  have e1 : bs = pre ++ (u8u (ouL x) ++ (r6r l ++ post)) := by rw [e]; simp [r6r]
  have h1 : a3q bs 5 ⟨pre.length, none⟩ = _ := a4t (l := ouL x) (h x (by simp)) e1
  have h2 := b5n (bs := bs) (l := l) (pre := pre ++ u8u (ouL x)) (post := post) (fun y hy => h y (by simp [hy])) (by rw [e1]; simp)
  simp only [List.length_cons, b3e, h1, h2, b5l]
  simp [r6r]
theorem b5o {bs : List Nat} : ∀ {l : List Ev} {pre post : List Nat}, (∀ e ∈ l, ∀ v ∈ evN e, ok7 v) → bs = pre ++ (r3r l ++ post) → a7x bs l.length ⟨pre.length, false⟩ = (l, ⟨(pre ++ r3r l).length, false⟩)
 | [], pre, post, _, e => by simp [a7x, r3r]
 | x :: l, pre, post, h, e => by
  have e1 : bs = pre ++ (u8u (evN x) ++ (r3r l ++ post)) := by rw [e]; simp [r3r]
  have h1 : a0j bs 7 ⟨pre.length, false⟩ = _ := a4u (l := evN x) (h x (by simp)) e1
  have h2 := b5o (bs := bs) (l := l) (pre := pre ++ u8u (evN x)) (post := post) (fun y hy => h y (by simp [hy])) (by rw [e1]; simp)
  simp only [List.length_cons, a7x, h1, h2, b5k]
  simp [r3r]
theorem b5p {bs : List Nat} : ∀ {l : List Ou} {pre post : List Nat}, (∀ e ∈ l, ∀ v ∈ ouL e, ok7 v) → bs = pre ++ (r6r l ++ post) → a4x bs l.length ⟨pre.length, false⟩ = (l, ⟨(pre ++ r6r l).length, false⟩)
 | [], pre, post, _, e => by simp [a4x, r6r]
 | x :: l, pre, post, h, e => by
  have e1 : bs = pre ++ (u8u (ouL x) ++ (r6r l ++ post)) := by rw [e]; simp [r6r]
  have h1 : a0j bs 5 ⟨pre.length, false⟩ = _ := a4u (l := ouL x) (h x (by simp)) e1
  have h2 := b5p (bs := bs) (l := l) (pre := pre ++ u8u (ouL x)) (post := post) (fun y hy => h y (by simp [hy])) (by rw [e1]; simp)
  simp only [List.length_cons, a4x, h1, h2, b5l]
  simp [r6r]
theorem a4v {most : Int} (hm : (n : Int) ≤ most) (hn : n ≤ 9999) (e : bs = pre ++ (p3p n ++ post)) : q9q bs most ⟨pre.length, none⟩ = ((n : Int), ⟨(pre ++ p3p n).length, none⟩) := by
 unfold q9q
 rw [b5j ⟨by omega, by omega⟩ e]
 exact if_pos ⟨by show (0 : Int) ≤ n; omega, hm⟩
theorem a1m (h : a0c w) : ∀ e ∈ w.events, ∀ v ∈ evN e, ok7 v := by
 intro e he v hv
 have := (a0o h.2.2.2.1).2 e he
 have k : a9o e := of_decide_eq_true this
 obtain ⟨h1, h2, h3, h4, h5, h6, h7⟩ := k
 simp only [evN, List.mem_cons, List.not_mem_nil, or_false] at hv
 unfold ok7
 rcases hv with rfl | rfl | rfl | rfl | rfl | rfl | rfl <;> omega
theorem a1n (h : a0c w) : ∀ e ∈ w.outs, ∀ v ∈ ouL e, ok7 v := by
 intro e he v hv
 have := (a0o h.2.2.2.2).2 e he
 have k : b4j e := of_decide_eq_true this
 obtain ⟨h1, h2, h3, h4, h5⟩ := k
 simp only [ouL, List.mem_cons, List.not_mem_nil, or_false] at hv
 unfold ok7
 rcases hv with rfl | rfl | rfl | rfl | rfl <;> omega
theorem a1v (h : a0c w) : ∀ v ∈ r9r w, ok7 v := by
 intro v hv
 have := h.1
 unfold q2q at this
 simp only [r9r, List.mem_cons, List.not_mem_nil, or_false] at hv
 unfold ok7
 rcases hv with rfl | rfl | rfl | rfl | rfl | rfl | rfl <;> omega
theorem a1o (h : a3l l) : ∀ v ∈ l, ok7 v := fun v hv => by have := h.2 v hv; unfold ok7; omega
theorem a3j (h : a3l l) : l.length ≤ 3 := by have := h.1; omega
theorem b3i (w : Wo) : b5f (r9r w) w.incs w.versions w.events w.outs = w := rfl
theorem a0e {v : Int} (h : ok7 v) : (p3p v).length ≤ 2 := by
 have h2 := h.2
 have h3 : (128 : Nat) ^ 2 = 16384 := by decide
 exact b5e 1 _ (by rw [h3]; omega)
theorem s0s : ∀ {l : List Int}, (∀ v ∈ l, ok7 v) → (u8u l).length ≤ 2 * l.length
 | [], _ => Nat.le_refl _
 | v :: l, h => by
  have h1 := a0e (h v (by simp))
  have h2 := s0s (l := l) fun x hx => h x (by simp [hx])
  simp only [u8u, List.flatMap_cons, List.length_append, List.length_cons] at h2 ⊢
  omega
theorem a3w : ∀ {l : List Ev}, (∀ e ∈ l, ∀ v ∈ evN e, ok7 v) → (r3r l).length ≤ 14 * l.length
 | [], _ => Nat.le_refl _
 | x :: l, h => by
  have h1 := s0s (h x (by simp))
  have h2 := a3w (l := l) fun y hy => h y (by simp [hy])
  have h3 : (evN x).length = 7 := rfl
  simp only [r3r, List.flatMap_cons, List.length_append, List.length_cons] at h2 ⊢
  omega
theorem a3x : ∀ {l : List Ou}, (∀ e ∈ l, ∀ v ∈ ouL e, ok7 v) → (r6r l).length ≤ 10 * l.length
 | [], _ => Nat.le_refl _
 | x :: l, h => by
  have h1 := s0s (h x (by simp))
  have h2 := a3x (l := l) fun y hy => h y (by simp [hy])
  have h3 : (ouL x).length = 5 := rfl
  simp only [r6r, List.flatMap_cons, List.length_append, List.length_cons] at h2 ⊢
  omega
theorem a2r (l : List Int) (v : Int) : u8u (l ++ [v]) = u8u l ++ p3p v := by simp [u8u]
theorem b0m (l : List Ev) (e : Ev) : r3r (l ++ [e]) = r3r l ++ u8u (evN e) := by simp [r3r]
theorem b0n (l : List Ou) (e : Ou) : r6r (l ++ [e]) = r6r l ++ u8u (ouL e) := by simp [r6r]
theorem a2s (l : List Int) : ∀ b ∈ u8u l, b < 256 := by
 intro b hb
 obtain ⟨v, _, h⟩ := List.mem_flatMap.1 hb
 exact b3d _ b h
theorem b6g (w : Wo) : ∀ b ∈ a7p w, b < 256 := by
 intro b hb
 unfold a7p at hb
 split at hb
 ·have hE : ∀ l : List Ev, ∀ b ∈ r3r l, b < 256 := fun l b hb => by
   obtain ⟨e, _, h⟩ := List.mem_flatMap.1 hb
   exact a2s _ b h
  have hO : ∀ l : List Ou, ∀ b ∈ r6r l, b < 256 := fun l b hb => by
   obtain ⟨e, _, h⟩ := List.mem_flatMap.1 hb
   exact a2s _ b h
  have hN : ∀ v : Int, ∀ b ∈ p3p v, b < 256 := fun v b hb => b3d _ b hb
  simp only [a6c, List.mem_append] at hb
  rcases hb with ((((((((h | h) | h) | h) | h) | h) | h) | h) | h)
  ·exact a2s _ b h
  ·exact hN _ b h
  ·exact a2s _ b h
  ·exact hN _ b h
  ·exact a2s _ b h
  ·exact hN _ b h
  ·exact hE _ b h
  ·exact hN _ b h
  ·exact hO _ b h
 ·cases hb

theorem c0y (e : a6c w = bs) : bs = [] ++ (u8u (r9r w) ++ (p3p w.incs.length ++ u8u w.incs ++ p3p w.versions.length ++ u8u w.versions ++ (p3p w.events.length ++ r3r w.events) ++ (p3p w.outs.length ++ r6r w.outs))) := by
 rw [← e]; simp [a6c]
def eW1 (w : Wo) := u8u (r9r w)
def eW2 (w : Wo) := eW1 w ++ p3p w.incs.length
def eW3 (w : Wo) := eW2 w ++ u8u w.incs
def eW4 (w : Wo) := eW3 w ++ p3p w.versions.length
def eW5 (w : Wo) := eW4 w ++ u8u w.versions
def eW6 (w : Wo) := eW5 w ++ p3p w.events.length
def eW7 (w : Wo) := eW6 w ++ r3r w.events
def eW8 (w : Wo) := eW7 w ++ p3p w.outs.length
theorem c4y (h : a0c w) (e : a6c w = bs) : uWo bs = w ∧ (uO bs).2 = ⟨bs.length, none⟩ := by
 have k1 : uH bs = (r9r w, ⟨(eW1 w).length, none⟩) := by
  have := a4t (bs := bs) (l := r9r w) (pre := []) (a1v h) (c0y e)
  exact this
 have c1 := a4v (bs := bs) (n := w.incs.length) (pre := eW1 w) (most := 3) (post := u8u w.incs ++ p3p w.versions.length ++ u8u w.versions ++ (p3p w.events.length ++ r3r w.events) ++ (p3p w.outs.length ++ r6r w.outs)) (by have := a3j h.2.1; omega) (by have := a3j h.2.1; omega) (by rw [← e]; simp [a6c, eW1])
 have k2 : uA bs = (w.incs, ⟨(eW3 w).length, none⟩) := by
  unfold uA a8y
  rw [k1]
  show a3q bs (q9q bs 3 ⟨(eW1 w).length, none⟩).1.toNat (q9q bs 3 ⟨(eW1 w).length, none⟩).2 = _
  rw [c1]
  exact a4t (pre := eW2 w) (post := p3p w.versions.length ++ u8u w.versions ++ (p3p w.events.length ++ r3r w.events) ++ (p3p w.outs.length ++ r6r w.outs)) (a1o h.2.1) (by rw [← e]; simp [a6c, eW1, eW2])
 have c2 := a4v (bs := bs) (n := w.versions.length) (pre := eW3 w) (most := 3) (post := u8u w.versions ++ (p3p w.events.length ++ r3r w.events) ++ (p3p w.outs.length ++ r6r w.outs)) (by have := a3j h.2.2.1; omega) (by have := a3j h.2.2.1; omega) (by rw [← e]; simp [a6c, eW1, eW2, eW3])
 have k3 : uB bs = (w.versions, ⟨(eW5 w).length, none⟩) := by
  unfold uB a8y
  rw [k2]
  show a3q bs (q9q bs 3 ⟨(eW3 w).length, none⟩).1.toNat (q9q bs 3 ⟨(eW3 w).length, none⟩).2 = _
  rw [c2]
  exact a4t (pre := eW4 w) (post := (p3p w.events.length ++ r3r w.events) ++ (p3p w.outs.length ++ r6r w.outs)) (a1o h.2.2.1) (by rw [← e]; simp [a6c, eW1, eW2, eW3, eW4])
 have l1 := (a0o h.2.2.2.1).1
 have l2 := (a0o h.2.2.2.2).1
 have c3 := a4v (bs := bs) (n := w.events.length) (pre := eW5 w) (most := 100) (post := r3r w.events ++ (p3p w.outs.length ++ r6r w.outs)) (by omega) (by omega) (by rw [← e]; simp [a6c, eW1, eW2, eW3, eW4, eW5])
 have k4 : uE bs = (w.events, ⟨(eW7 w).length, none⟩) := by
  unfold uE c0r
  rw [k3]
  show b1y bs (q9q bs 100 ⟨(eW5 w).length, none⟩).1.toNat (q9q bs 100 ⟨(eW5 w).length, none⟩).2 = _
  rw [c3]
  exact b5m (pre := eW6 w) (post := p3p w.outs.length ++ r6r w.outs) (a1m h) (by rw [← e]; simp [a6c, eW1, eW2, eW3, eW4, eW5, eW6])
 have c4 := a4v (bs := bs) (n := w.outs.length) (pre := eW7 w) (most := 96) (post := r6r w.outs) (by omega) (by omega) (by rw [← e]; simp [a6c, eW1, eW2, eW3, eW4, eW5, eW6, eW7])
 have k5 : uO bs = (w.outs, ⟨(eW8 w ++ r6r w.outs).length, none⟩) := by
  unfold uO c0s
  rw [k4]
  show b3e bs (q9q bs 96 ⟨(eW7 w).length, none⟩).1.toNat (q9q bs 96 ⟨(eW7 w).length, none⟩).2 = _
  rw [c4]
  exact b5n (pre := eW8 w) (post := []) (a1n h) (by rw [← e]; simp [a6c, eW1, eW2, eW3, eW4, eW5, eW6, eW7, eW8])
 refine ⟨?_, ?_⟩
 ·unfold uWo
  rw [k1, k2, k3, k4, k5]
  exact b3i w
 ·rw [k5, ← e]
  simp [a6c, eW1, eW2, eW3, eW4, eW5, eW6, eW7, eW8]
theorem c4z (h : a0c w) (e : a6c w = bs) : sW bs = (w, ⟨bs.length, false⟩) := by
 have k1 : sH bs = (r9r w, ⟨(eW1 w).length, false⟩) := by
  have := a4u (bs := bs) (l := r9r w) (pre := []) (a1v h) (c0y e)
  exact this
 have ok (n : Nat) (hn : n ≤ 100) : ok7 (n : Int) := ⟨by omega, by omega⟩
 have c1 := a6e (bs := bs) (v := (w.incs.length : Int)) (pre := eW1 w) (post := u8u w.incs ++ p3p w.versions.length ++ u8u w.versions ++ (p3p w.events.length ++ r3r w.events) ++ (p3p w.outs.length ++ r6r w.outs)) (ok _ (by have := a3j h.2.1; omega)) (by rw [← e]; simp [a6c, eW1])
 have k2 : sA bs = (w.incs, ⟨(eW3 w).length, false⟩) := by
  unfold sA b6f
  rw [k1]
  show a0j bs (a0v bs ⟨(eW1 w).length, false⟩).1.toNat (a0v bs ⟨(eW1 w).length, false⟩).2 = _
  rw [c1]
  exact a4u (pre := eW2 w) (post := p3p w.versions.length ++ u8u w.versions ++ (p3p w.events.length ++ r3r w.events) ++ (p3p w.outs.length ++ r6r w.outs)) (a1o h.2.1) (by rw [← e]; simp [a6c, eW1, eW2])
 have c2 := a6e (bs := bs) (v := (w.versions.length : Int)) (pre := eW3 w) (post := u8u w.versions ++ (p3p w.events.length ++ r3r w.events) ++ (p3p w.outs.length ++ r6r w.outs)) (ok _ (by have := a3j h.2.2.1; omega)) (by rw [← e]; simp [a6c, eW1, eW2, eW3])
 have k3 : sB bs = (w.versions, ⟨(eW5 w).length, false⟩) := by
  unfold sB b6f
  rw [k2]
  show a0j bs (a0v bs ⟨(eW3 w).length, false⟩).1.toNat (a0v bs ⟨(eW3 w).length, false⟩).2 = _
  rw [c2]
  exact a4u (pre := eW4 w) (post := (p3p w.events.length ++ r3r w.events) ++ (p3p w.outs.length ++ r6r w.outs)) (a1o h.2.2.1) (by rw [← e]; simp [a6c, eW1, eW2, eW3, eW4])
 have l1 := (a0o h.2.2.2.1).1
 have l2 := (a0o h.2.2.2.2).1
 have c3 := a6e (bs := bs) (v := (w.events.length : Int)) (pre := eW5 w) (post := r3r w.events ++ (p3p w.outs.length ++ r6r w.outs)) (ok _ (by omega)) (by rw [← e]; simp [a6c, eW1, eW2, eW3, eW4, eW5])
 have k4 : sE bs = (w.events, ⟨(eW7 w).length, false⟩) := by
  unfold sE c5t
  rw [k3]
  show a7x bs (a0v bs ⟨(eW5 w).length, false⟩).1.toNat (a0v bs ⟨(eW5 w).length, false⟩).2 = _
  rw [c3]
  exact b5o (pre := eW6 w) (post := p3p w.outs.length ++ r6r w.outs) (a1m h) (by rw [← e]; simp [a6c, eW1, eW2, eW3, eW4, eW5, eW6])
 have c4 := a6e (bs := bs) (v := (w.outs.length : Int)) (pre := eW7 w) (post := r6r w.outs) (ok _ (by omega)) (by rw [← e]; simp [a6c, eW1, eW2, eW3, eW4, eW5, eW6, eW7])
 have k5 : sO bs = (w.outs, ⟨(eW8 w ++ r6r w.outs).length, false⟩) := by
  unfold sO c5u
  rw [k4]
  show a4x bs (a0v bs ⟨(eW7 w).length, false⟩).1.toNat (a0v bs ⟨(eW7 w).length, false⟩).2 = _
  rw [c4]
  exact b5p (pre := eW8 w) (post := []) (a1n h) (by rw [← e]; simp [a6c, eW1, eW2, eW3, eW4, eW5, eW6, eW7, eW8])
 unfold sW
 rw [k1, k2, k3, k4, k5, if_neg (by simp), b3i]
 refine Prod.ext rfl ?_
 rw [← e]
 simp [a6c, eW1, eW2, eW3, eW4, eW5, eW6, eW7, eW8]
theorem c2l (n : Nat) : b0k n ≠ [] := by
 by_cases h : n < 128
 ·rw [a3u h]; simp
 ·rw [a5l h]; simp
theorem c2m (w : Wo) : a6c w ≠ [] := by
 intro h
 have := congrArg List.length h
 simp only [a6c, List.length_append, List.length_nil] at this
 have h2 := List.length_pos_iff.2 (c2l ((w.incs.length : Int) + 1).toNat)
 unfold p3p at this
 omega
theorem c2n (bs : List Nat) : (a6z bs → a9u bs ∧ (sW bs).1 = uWo bs) ∧ (a9u bs → a6z bs) := by
 constructor
 ·intro ⟨h1, h2, h3, h4⟩
  have e : a6c (uWo bs) = bs := by rw [b1k h3] at h4; exact h4
  have k := c4z h3 e
  have k1 : (sW bs).1 = uWo bs := by rw [k]
  exact ⟨⟨by rw [k], by rw [← e]; exact c2m _, by rw [k1]; exact h4⟩, k1⟩
 ·intro ⟨h1, h2, h3⟩
  have hw : a0c (sW bs).1 := Classical.byContradiction fun hn => h2 (by rw [b1l hn] at h3; exact h3.symm)
  have e : a6c (sW bs).1 = bs := by rw [b1k hw] at h3; exact h3
  obtain ⟨k1, k2⟩ := c4y hw e
  exact ⟨by rw [k2], by rw [k2], by rw [k1]; exact hw, by rw [k1]; exact h3⟩
theorem b3j (bs : List Nat) : p9p bs = q8q bs := by
 obtain ⟨h1, h2⟩ := c2n bs
 unfold p9p q8q
 by_cases h : a6z bs
 ·rw [if_pos h, if_pos (h1 h).1, (h1 h).2]
 ·rw [if_neg h, if_neg (fun k => h (h2 k))]
end
section
def a6m : Option (Nat × Nat) → Value
 | none => .nilIface
 | some (p, f) => .iface 107 (.agg #[.int .i64 (p : Int), .iface 58 (.int .i64 (f : Int))])
variable {n : Int}
theorem b6h (h0 : 0 ≤ n) (h1 : n < 256) : IntKind.u8.wrap n = n := by
 unfold IntKind.wrap
 simp only [IntKind.signed, IntKind.bits, Bool.false_and, Bool.false_eq_true, if_false]
 omega
theorem b1q (h0 : 0 ≤ n) (h1 : n < 9223372036854775808) : IntKind.u64.wrap n = n := by
 unfold IntKind.wrap
 simp only [IntKind.signed, IntKind.bits, Bool.false_and, Bool.false_eq_true, if_false]
 omega
variable {q : Nat}
theorem c3u (h : q < 9223372036854775808) : Value.int .u64 (IntKind.u64.wrap (BitVec.ofInt IntKind.u64.bits (q : Int) &&& BitVec.ofInt IntKind.u64.bits 127).toNat) = .int .u64 ((q % 128 : Nat) : Int) := by
 have e1 : IntKind.u64.bits = 64 := rfl
 have e : (BitVec.ofInt IntKind.u64.bits (q : Int) &&& BitVec.ofInt IntKind.u64.bits 127).toNat = q % 128 := by
  rw [BitVec.toNat_and, BitVec.toNat_ofInt, BitVec.toNat_ofInt, e1]
  have k1 : ((q : Int) % ((2 ^ 64 : Nat) : Int)).toNat = q := by omega
  have k2 : ((127 : Int) % ((2 ^ 64 : Nat) : Int)).toNat = 127 := by omega
  rw [k1, k2]
  exact Nat.and_two_pow_sub_one_eq_mod q 7
 rw [e, b1q (by omega) (by omega)]
theorem c5a (h : q < 128) : Value.int .u8 (IntKind.u8.wrap (BitVec.ofInt IntKind.u8.bits (q : Int) ||| BitVec.ofInt IntKind.u8.bits 128).toNat) = .int .u8 ((128 + q : Nat) : Int) := by
 have e : ∀ x : Fin 128, (BitVec.ofInt IntKind.u8.bits ((x.val : Nat) : Int) ||| BitVec.ofInt IntKind.u8.bits 128).toNat = 128 + x.val := by decide
 have := e ⟨q, h⟩
 dsimp only at this
 rw [this, b6h (by omega) (by omega)]
theorem c6e (q : Nat) : Value.int .u64 ((q : Int).fdiv (2 ^ (min (7 : Int).toNat IntKind.u64.bits))) = .int .u64 ((q / 128 : Nat) : Int) := by
 have e : (q : Int).fdiv (2 ^ (min (7 : Int).toNat IntKind.u64.bits)) = ((q / 128 : Nat) : Int) := by
  show (q : Int).fdiv 128 = _
  rw [Int.fdiv_eq_ediv_of_nonneg _ (by omega)]
  omega
 rw [e]
theorem a9b (h : q < 256) : Value.int .u8 (IntKind.u8.wrap (BitVec.ofInt IntKind.u8.bits (q : Int) &&& BitVec.ofInt IntKind.u8.bits 127).toNat) = .int .u8 ((q % 128 : Nat) : Int) := by
 have e1 : IntKind.u8.bits = 8 := rfl
 have e : (BitVec.ofInt IntKind.u8.bits (q : Int) &&& BitVec.ofInt IntKind.u8.bits 127).toNat = q % 128 := by
  rw [BitVec.toNat_and, BitVec.toNat_ofInt, BitVec.toNat_ofInt, e1]
  have k1 : ((q : Int) % ((2 ^ 8 : Nat) : Int)).toNat = q := by omega
  have k2 : ((127 : Int) % ((2 ^ 8 : Nat) : Int)).toNat = 127 := by omega
  rw [k1, k2]
  exact Nat.and_two_pow_sub_one_eq_mod q 7
 rw [e, b6h (by omega) (by omega)]
theorem orM {v x M : Nat} (i : Nat) (hM : M = 2 ^ i) (hv : v < M) (hb : v + x * M < 9223372036854775808) : Value.int .u64 (IntKind.u64.wrap (BitVec.ofInt IntKind.u64.bits (v : Int) ||| BitVec.ofInt IntKind.u64.bits ((x * M : Nat) : Int)).toNat) = .int .u64 ((v + x * M : Nat) : Int) := by
 have e1 : IntKind.u64.bits = 64 := rfl
 have e : (BitVec.ofInt IntKind.u64.bits (v : Int) ||| BitVec.ofInt IntKind.u64.bits ((x * M : Nat) : Int)).toNat = v + x * M := by
  generalize hy : x * M = y at hb ⊢
  rw [BitVec.toNat_or, BitVec.toNat_ofInt, BitVec.toNat_ofInt, e1]
  have k1 : ((v : Int) % ((2 ^ 64 : Nat) : Int)).toNat = v := by omega
  have k2 : ((y : Int) % ((2 ^ 64 : Nat) : Int)).toNat = y := by omega
  rw [k1, k2, ← hy, hM, Nat.mul_comm x, Nat.or_comm, ← Nat.two_pow_add_eq_or_of_lt (by rw [← hM]; exact hv), Nat.add_comm]
 rw [e, b1q (by omega) (by omega)]
variable {x M : Nat}
theorem c3v (s : Nat) (hM : M = 2 ^ (min s 64)) (hb : x * M < 9223372036854775808) : Value.int .u64 (IntKind.u64.wrap ((x : Int) * 2 ^ (min ((s : Nat) : Int).toNat IntKind.u64.bits))) = .int .u64 ((x * M : Nat) : Int) := by
 have e : (x : Int) * 2 ^ (min ((s : Nat) : Int).toNat IntKind.u64.bits) = ((x * M : Nat) : Int) := by
  rw [Int.toNat_natCast, hM]
  show (x : Int) * 2 ^ (min s 64) = _
  push_cast
  rfl
 rw [e, b1q (by omega) (by omega)]
theorem a9c {h : Hp} {l : List Nat} {i g : Nat} {ls bs : List AV} {T : TL} (h0 : z8z h i = some (g, .row 5 1 (l.map a1l))) (t : LendL h ls bs T) : LendL h (.ref i g :: ls) (v7v false l :: bs) ((i, (g, .row 5 1 (l.map a1l))) :: T) := .ref h0 (Le.ow_map _ nf (fun _ => rfl)) t
theorem c3w (n : Nat) : IntKind.u8.wrap (n : Int) = ((n % 256 : Nat) : Int) := by
 unfold IntKind.wrap
 simp only [IntKind.signed, IntKind.bits, Bool.false_and, Bool.false_eq_true, if_false]
 omega
def mkB (k : Nat) (n : Nat) : List Nat := (List.range n).map fun j => (k + j) % 256
theorem b8n (k n : Nat) : (mkB k n).length = n := by unfold mkB; rw [List.length_map, List.length_range]
theorem b9x (k n : Nat) : mkB k (n + 1) = mkB k n ++ [(k + n) % 256] := by unfold mkB; rw [List.range_succ, List.map_append]; rfl
theorem b8o (l : List Nat) : Strict (v7v true l) := a4p fun b => a5k (.pv _) c4d
theorem b6i (b : Nat) : StrC (a1l b) := .cons (.pv _) rfl .nil
end
section
theorem a0x  : a1f Try.prog 58 [] (.pv (.int .i64 9999)) := by
 refine z5z x9x (fn := Try.f58) (by kernel_rfl) (by kernel_rfl) rfl (outs := [.pv (.int .i64 9999)]) (by rfl) (v2v rfl) 0 ?_
 refine x6x x9x (by rfl) ?_
 refine x2x rfl ?_
 refine x6x x9x (by rfl) ?_
 refine x2x rfl ?_
 refine y4y ⟨.inr rfl, ?_⟩
 exact z0z rfl rfl rfl
end
section
theorem b1r  : a1f Try.prog 77 [] (.pv (.int .i64 100)) := by
 refine z5z x9x (fn := Try.f77) (by kernel_rfl) (by kernel_rfl) rfl (outs := [.pv (.int .i64 100)]) (by rfl) (v2v rfl) 0 ?_
 refine x6x x9x (by rfl) ?_
 refine x2x rfl ?_
 refine x6x x9x (by rfl) ?_
 refine x2x rfl ?_
 refine y4y ⟨.inr rfl, ?_⟩
 exact z0z rfl rfl rfl
end
section
theorem v4v (v lo hi : Int) : a1f Try.prog 31 [.pv (.int .i64 v), .pv (.int .i64 lo), .pv (.int .i64 hi)] (.pv (.bool (decide (lo ≤ v ∧ v ≤ hi)))) := by
 refine z5z x9x (fn := Try.f31) (by kernel_rfl) (by kernel_rfl) rfl (outs := [.pv (.bool (decide (lo ≤ v ∧ v ≤ hi)))]) (by rfl) (v2v rfl) 0 ?_
 refine x6x x9x (by rfl) ?_
 refine x2x rfl ?_
 refine x6x x9x (by rfl) ?_
 refine x0x rfl ?_
 refine x0x rfl ?_
 refine y6y rfl rfl rfl ?_
 refine x0x rfl ?_
 refine a0l rfl rfl (fun hg1 => ?_) (fun hg1 => ?_)
 rotate_left
 ·try simp at hg1
  refine x5x rfl rfl ?_
  refine x5x rfl rfl ?_
  refine x8x rfl rfl ?_
  refine x2x rfl ?_
  refine y4y ⟨.inr rfl, ?_⟩
  refine z0z rfl ?_ rfl
  simp; omega
 try simp at hg1
 refine x0x rfl ?_
 refine z1z rfl rfl ?_
 refine x0x rfl ?_
 refine z1z rfl rfl ?_
 refine y6y rfl rfl rfl ?_
 refine z3z rfl rfl ?_
 refine x2x rfl ?_
 refine y4y ⟨.inr rfl, ?_⟩
 refine z0z rfl ?_ rfl
 simp; omega
theorem w6w (v lo hi : Int) : a1f Try.prog 74 [.pv (.int .i64 v), .pv (.int .i64 lo), .pv (.int .i64 hi)] (.pv (.bool (decide (lo ≤ v ∧ v ≤ hi)))) := by
 refine z5z x9x (fn := Try.f74) (by kernel_rfl) (by kernel_rfl) rfl (outs := [.pv (.bool (decide (lo ≤ v ∧ v ≤ hi)))]) (by rfl) (v2v rfl) 0 ?_
 refine x6x x9x (by rfl) ?_
 refine x2x rfl ?_
 refine x6x x9x (by rfl) ?_
 refine x0x rfl ?_
 refine x0x rfl ?_
 refine y6y rfl rfl rfl ?_
 refine x0x rfl ?_
 refine a0l rfl rfl (fun hg1 => ?_) (fun hg1 => ?_)
 rotate_left
 ·try simp at hg1
  refine x5x rfl rfl ?_
  refine x5x rfl rfl ?_
  refine x8x rfl rfl ?_
  refine x2x rfl ?_
  refine y4y ⟨.inr rfl, ?_⟩
  refine z0z rfl ?_ rfl
  simp; omega
 try simp at hg1
 refine x0x rfl ?_
 refine z1z rfl rfl ?_
 refine x0x rfl ?_
 refine z1z rfl rfl ?_
 refine y6y rfl rfl rfl ?_
 refine z3z rfl rfl ?_
 refine x2x rfl ?_
 refine y4y ⟨.inr rfl, ?_⟩
 refine z0z rfl ?_ rfl
 simp; omega
theorem a6f (p : Int) : a1f Try.prog 68 [.pv (.int .i64 p)] (.pv (.bool (decide (0 ≤ p ∧ p ≤ 3)))) := by
 refine z5z x9x (fn := Try.f68) (by kernel_rfl) (by kernel_rfl) rfl (outs := [.pv (.bool (decide (0 ≤ p ∧ p ≤ 3)))]) (by rfl) (v2v rfl) 0 ?_
 refine x6x x9x (by rfl) ?_
 refine x2x rfl ?_
 refine x6x x9x (by rfl) ?_
 refine x0x rfl ?_
 refine z2z rfl rfl rfl (v4v ..) ?_
 refine x2x rfl ?_
 refine y4y ⟨.inr rfl, ?_⟩
 exact z0z rfl rfl rfl
theorem a6g (p : Int) : a1f Try.prog 86 [.pv (.int .i64 p)] (.pv (.bool (decide (0 ≤ p ∧ p ≤ 3)))) := by
 refine z5z x9x (fn := Try.f86) (by kernel_rfl) (by kernel_rfl) rfl (outs := [.pv (.bool (decide (0 ≤ p ∧ p ≤ 3)))]) (by rfl) (v2v rfl) 0 ?_
 refine x6x x9x (by rfl) ?_
 refine x2x rfl ?_
 refine x6x x9x (by rfl) ?_
 refine x0x rfl ?_
 refine z2z rfl rfl rfl (w6w ..) ?_
 refine x2x rfl ?_
 refine y4y ⟨.inr rfl, ?_⟩
 exact z0z rfl rfl rfl
theorem a6h (p : Int) : a1f Try.prog 32 [.pv (.int .i64 p)] (.pv (.bool (decide (0 ≤ p ∧ p ≤ 2)))) := by
 refine z5z x9x (fn := Try.f32) (by kernel_rfl) (by kernel_rfl) rfl (outs := [.pv (.bool (decide (0 ≤ p ∧ p ≤ 2)))]) (by rfl) (v2v rfl) 0 ?_
 refine x6x x9x (by rfl) ?_
 refine x2x rfl ?_
 refine x6x x9x (by rfl) ?_
 refine x0x rfl ?_
 refine z2z rfl rfl rfl (v4v ..) ?_
 refine x2x rfl ?_
 refine y4y ⟨.inr rfl, ?_⟩
 exact z0z rfl rfl rfl
end
section
theorem a3y (x : Int) : a1f Try.prog 89 [.pv (.int .i64 x)] (.pv (.bool (false))) := by
 refine z5z x9x (fn := Try.f89) (by kernel_rfl) (by kernel_rfl) rfl (outs := [.pv (.bool (false))]) (by rfl) (v2v rfl) 0 ?_
 refine x6x x9x (by rfl) ?_
 refine x2x rfl ?_
 refine x6x x9x (by rfl) ?_
 refine x0x rfl ?_
 refine x0x rfl ?_
 refine y6y rfl rfl rfl ?_
 refine x2x rfl ?_
 refine y4y ⟨.inr rfl, ?_⟩
 refine z0z rfl ?_ rfl
 simp
theorem a7b (x y : Int) : a1f Try.prog 88 [.pv (.int .i64 x), .pv (.int .i64 y)] (.pv (.int .i64 (if x < y then -1 else if y < x then 1 else 0))) := by
 refine z5z x9x (fn := Try.f88) (by kernel_rfl) (by kernel_rfl) rfl (outs := [.pv (.int .i64 (if x < y then -1 else if y < x then 1 else 0))]) (by rfl) (v2v rfl) 0 ?_
 refine x6x x9x (by rfl) ?_
 refine x2x rfl ?_
 refine x6x x9x (by rfl) ?_
 refine x0x rfl ?_
 refine z2z rfl rfl rfl (a3y ..) ?_
 refine x2x rfl ?_
 refine x6x x9x (by rfl) ?_
 refine x0x rfl ?_
 refine z2z rfl rfl rfl (a3y ..) ?_
 refine x2x rfl ?_
 refine x4x fun K1 hK1 => ?_
 refine x6x x9x (by rfl) ?_
 refine x0x rfl ?_
 refine y0y rfl (fun hc2 => ?_) (fun hc2 => ?_)
 ·simp at hc2
 try simp at hc2
 refine y1y ?_
 refine hK1 _ _ ?_
 clear hK1 K1
 refine x4x fun K3 hK3 => ?_
 refine x6x x9x (by rfl) ?_
 refine x0x rfl ?_
 refine y0y rfl (fun hc4 => ?_) (fun hc4 => ?_)
 ·simp at hc4
 try simp at hc4
 refine y1y ?_
 refine hK3 _ _ ?_
 clear hK3 K3
 refine x4x fun K5 hK5 => ?_
 refine x6x x9x (by rfl) ?_
 refine x0x rfl ?_
 refine x0x rfl ?_
 refine y6y rfl rfl rfl ?_
 refine y0y rfl (fun hc6 => ?_) (fun hc6 => ?_)
 ·try simp at hc6
  refine x6x x9x (by rfl) ?_
  refine x2x rfl ?_
  refine y4y ⟨.inr rfl, ?_⟩
  clear hK5 K5
  refine z0z rfl ?_ rfl
  simp only [List.cons.injEq, and_true, AV.pv.injEq, Value.int.injEq, true_and]
  split <;> (try split) <;> omega
 try simp at hc6
 refine y1y ?_
 refine hK5 _ _ ?_
 clear hK5 K5
 refine x4x fun K7 hK7 => ?_
 refine x6x x9x (by rfl) ?_
 refine x0x rfl ?_
 refine x0x rfl ?_
 refine y6y rfl rfl rfl ?_
 refine y0y rfl (fun hc8 => ?_) (fun hc8 => ?_)
 ·try simp at hc8
  refine x6x x9x (by rfl) ?_
  refine x2x rfl ?_
  refine y4y ⟨.inr rfl, ?_⟩
  clear hK7 K7
  refine z0z rfl ?_ rfl
  simp only [List.cons.injEq, and_true, AV.pv.injEq, Value.int.injEq, true_and]
  split <;> (try split) <;> omega
 try simp at hc8
 refine y1y ?_
 refine hK7 _ _ ?_
 clear hK7 K7
 refine x6x x9x (by rfl) ?_
 refine x2x rfl ?_
 refine y4y ⟨.inr rfl, ?_⟩
 refine z0z rfl ?_ rfl
 simp only [List.cons.injEq, and_true, AV.pv.injEq, Value.int.injEq, true_and]
 split <;> (try split) <;> omega
theorem a0t (u v : List Int) (hab : u.length = v.length) (hn : u.length ≤ 1000000) (ty : Nat) : Meth Try.prog 84 2 [0, 1] [.bsl 0 0 0 u.length, .bsl 1 0 0 u.length] [(0, (0, .box ty (u.map pI))), (1, (0, .box ty (v.map pI)))] (.pv (.int .i64 (b8v u v))) [] := by
 refine v8v x9x (fn := Try.f84) (by kernel_rfl) (by kernel_rfl) rfl (O0 := [.pv (.int .i64 (b8v u v))]) 2 0 (v2v rfl) (by rfl) (by exact .box (b2s _ _) (.box (b2s _ _) .nil)) (by exact .nil) (by rfl) fun γ => ?_
 have hI : List.map (a1d idf γ) [(0, (0, .box ty (u.map pI))), (1, (0, .box ty (v.map pI)))] = [(0, ((γ 0), .box ty (u.map pI))), (1, ((γ 1), .box ty (v.map pI)))] := by simp only [List.map_cons, List.map_nil, a1d, inE, b9l]; rfl
 rw [hI]
 show Ex Try.prog _ _ [(0, .bsl 0 (γ 0) 0 u.length), (1, .bsl 1 (γ 1) 0 u.length)] [(0, ((γ 0), .box ty (u.map pI))), (1, ((γ 1), .box ty (v.map pI)))] _
 refine x6x x9x (by rfl) ?_
 refine x2x rfl ?_
 refine x4x fun K1 hK1 => ?_
 refine x6x x9x (by rfl) ?_
 refine x0x rfl ?_
 refine b2n rfl u5u rfl rfl (by intro s hs; cases hs) rfl ?_
 refine x0x rfl ?_
 refine y5y ?_
 refine v1v (ι := Nat) (fun i γ1 => [(11, .pv (.int .i64 (i : Int)))]) (fun i γ1 => []) (fun i => i ≤ u.length ∧ b8v u v = b8v (u.drop i) (v.drop i)) (fun i => u.length - i) (x7x 0 rfl (x7x 1 rfl (x7x 9 rfl (x7x 10 rfl Cov.nil)))) (u9u 0 rfl (u9u 1 rfl HE.nil)) 0 ⟨by omega, rfl⟩ [] (x7x 11 rfl Cov.nil) HE.nil rfl fun i γ1 hi => ?_
 try dsimp only [List.cons_append, List.nil_append]
 obtain ⟨h1, h2⟩ := hi
 refine x6x x9x (by rfl) ?_
 refine y6y rfl rfl rfl ?_
 refine x4x fun K2 hK2 => ?_
 refine y0y rfl (fun hc3 => ?_) (fun hc3 => ?_)
 rotate_left
 ·try simp at hc3
  refine v3v ?_
  refine hK1 _ _ ?_
  clear hK2 K2 hK1 K1
  refine x4x fun K8 hK8 => ?_
  refine x6x x9x (by rfl) ?_
  refine x0x rfl ?_
  refine b2n rfl u5u rfl rfl (by intro s hs; cases hs) rfl ?_
  refine x0x rfl ?_
  refine b2n rfl u5u rfl rfl (by intro s hs; cases hs) rfl ?_
  refine y6y rfl rfl rfl ?_
  refine y0y rfl (fun hc9 => ?_) (fun hc9 => ?_)
  ·simp at hc9
  try simp at hc9
  refine y1y ?_
  refine hK8 _ _ ?_
  clear hK8 K8
  refine x6x x9x (by rfl) ?_
  refine x2x rfl ?_
  refine y4y ?_
  exact ⟨.inr rfl, [γ 0, γ 1], rfl, congrArg (fun z => some [AV.pv (.int .i64 z)]) (by rw [h2, List.drop_of_length_le (by omega), List.drop_of_length_le (by omega)]; rfl), HE.cast hI (HE.same rfl (HE.same rfl HE.nil))⟩
 try simp at hc3
 obtain ⟨a, ha1⟩ : ∃ a, u[i]? = some a := r5r (by omega)
 obtain ⟨b, hb1⟩ : ∃ b, v[i]? = some b := r5r (by omega)
 refine y1y ?_
 refine hK2 _ _ ?_
 clear hK2 K2
 refine x4x fun K4 hK4 => ?_
 refine y5y ?_
 refine x6x x9x (by rfl) ?_
 refine x0x rfl ?_
 refine b7t x9x rfl rfl u5u rfl y3y rfl (by omega) ?_
 refine x3x rfl y3y rfl (b4x rfl ha1) ?_
 refine x2x rfl ?_
 refine x2x rfl ?_
 refine x4x fun K5 hK5 => ?_
 refine x6x x9x (by rfl) ?_
 refine x0x rfl ?_
 refine x0x rfl ?_
 refine b2n rfl u5u rfl rfl (by intro s hs; cases hs) rfl ?_
 refine y6y rfl rfl rfl ?_
 refine y0y rfl (fun hc6 => ?_) (fun hc6 => ?_)
 ·try simp at hc6
  omega
 try simp at hc6
 refine y1y ?_
 refine hK5 _ _ ?_
 clear hK5 K5
 refine x6x x9x (by rfl) ?_
 refine x0x rfl ?_
 refine x0x rfl ?_
 refine b7t x9x rfl rfl u5u rfl y3y rfl (by omega) ?_
 refine x3x rfl y3y rfl (b4x rfl hb1) ?_
 refine x2x rfl ?_
 refine x6x x9x (by rfl) ?_
 refine x0x rfl ?_
 refine x0x rfl ?_
 refine z2z rfl rfl rfl (a7b ..) ?_
 refine x2x rfl ?_
 refine x6x x9x (by rfl) ?_
 refine x0x rfl ?_
 refine y6y rfl rfl rfl ?_
 refine y0y rfl (fun hc7 => ?_) (fun hc7 => ?_)
 ·try simp at hc7
  have hz := hc7
  refine x6x x9x (by rfl) ?_
  refine x0x rfl ?_
  refine x2x rfl ?_
  refine y4y ?_
  exact ⟨.inr rfl, [γ 0, γ 1], rfl, congrArg (fun z => some [AV.pv (.int .i64 z)]) (by rw [h2, b2w ha1 hb1]; exact (c3l hz).symm), HE.cast hI (HE.same rfl (HE.same rfl HE.nil))⟩
 try simp at hc7
 have hz := hc7
 refine y1y ?_
 refine hK4 _ _ ?_
 clear hK4 K4
 refine y2y x9x (by rfl) ?_
 refine a0r rfl rfl rfl ?_
 refine x0x rfl ?_
 exact ⟨i + 1, ⟨⟨by omega, by rw [h2, b2w ha1 hb1, c3m hz]⟩, by omega⟩, [], (Cov.cons' (t := 11) rfl (by rw [v9v (by omega) (by omega)]; rfl) Cov.nil), (x7x 0 rfl (x7x 1 rfl (x7x 9 rfl (x7x 10 rfl Cov.nil)))), HE.nil, (u9u 0 rfl (u9u 1 rfl HE.nil)), rfl⟩
theorem a3z (e : Ev) : a1f Try.prog 71 [.agg (s6s e)] (.agg (s6s e)) := by
 refine z5z x9x (fn := Try.f71) (by kernel_rfl) (by kernel_rfl) rfl (outs := [.agg (s6s e)]) (by rfl) (v2v rfl) 2 ?_
 refine x6x x9x (by rfl) ?_
 refine p6p (id := 0) rfl rfl rfl ?_
 refine q0q (id := 1) a0u b9i rfl ?_
 refine x6x x9x (by rfl) ?_
 refine x1x rfl u3u rfl rfl y3y rfl rfl ?_
 refine x3x rfl y3y rfl rfl ?_
 refine x1x rfl u3u rfl rfl y3y rfl rfl ?_
 refine x3x rfl y3y rfl rfl ?_
 refine x1x rfl u3u rfl rfl y3y rfl rfl ?_
 refine x3x rfl y3y rfl rfl ?_
 refine x1x rfl u3u rfl rfl y3y rfl rfl ?_
 refine x3x rfl y3y rfl rfl ?_
 refine x1x rfl u3u rfl rfl y3y rfl rfl ?_
 refine x3x rfl y3y rfl rfl ?_
 refine x1x rfl u3u rfl rfl y3y rfl rfl ?_
 refine x3x rfl y3y rfl rfl ?_
 refine x1x rfl u3u rfl rfl y3y rfl rfl ?_
 refine x3x rfl y3y rfl rfl ?_
 refine a5j x9x a0u rfl y3y b9i rfl (by simp only [pI, y3y, a6s, List.range, List.range.loop, List.map_cons, List.map_nil, a0z, p1p, AV.okc, AV.one, Value.oneCell', T3, T4, List.getElem?_cons_zero, List.getElem?_cons_succ, List.take_succ_cons, List.take_zero, List.drop_succ_cons, List.drop_zero, List.cons_append, List.nil_append, List.length_cons, List.length_nil, if_true, and_self, Nat.reduceAdd, Nat.reduceMul, Nat.reduceLeDiff]; rfl) ?_
 refine v6v rfl rfl a0u rfl rfl rfl rfl ?_
 refine y4y ⟨.inr rfl, ?_⟩
 exact b7p rfl rfl rfl rfl
theorem a4b (e : Ev) : a1f Try.prog 63 [.agg (s6s e)] (.agg (s6s e)) := by
 refine z5z x9x (fn := Try.f63) (by kernel_rfl) (by kernel_rfl) rfl (outs := [.agg (s6s e)]) (by rfl) (v2v rfl) 2 ?_
 refine x6x x9x (by rfl) ?_
 refine p6p (id := 0) rfl rfl rfl ?_
 refine q0q (id := 1) u3u b7h rfl ?_
 refine x6x x9x (by rfl) ?_
 refine s2s x9x (j := 0) rfl rfl a0u rfl y3y (by decide) rfl ?_
 refine x3x rfl y3y rfl rfl ?_
 refine s2s x9x (j := 1) rfl rfl a0u rfl y3y (by decide) rfl ?_
 refine x3x rfl y3y rfl rfl ?_
 refine s2s x9x (j := 2) rfl rfl a0u rfl y3y (by decide) rfl ?_
 refine x3x rfl y3y rfl rfl ?_
 refine s2s x9x (j := 3) rfl rfl a0u rfl y3y (by decide) rfl ?_
 refine x3x rfl y3y rfl rfl ?_
 refine s2s x9x (j := 4) rfl rfl a0u rfl y3y (by decide) rfl ?_
 refine x3x rfl y3y rfl rfl ?_
 refine s2s x9x (j := 5) rfl rfl a0u rfl y3y (by decide) rfl ?_
 refine x3x rfl y3y rfl rfl ?_
 refine s2s x9x (j := 6) rfl rfl a0u rfl y3y (by decide) rfl ?_
 refine x3x rfl y3y rfl rfl ?_
 refine r7r u3u rfl b7h rfl (by simp only [pI, a0z, p1p, AV.okc, AV.one, T3, T4, List.getElem?_cons_zero, List.getElem?_cons_succ, List.take_succ_cons, List.take_zero, List.drop_succ_cons, List.drop_zero, List.cons_append, List.nil_append, List.length_cons, List.length_nil, if_true, and_self, Nat.reduceAdd, Nat.reduceLeDiff]; rfl) ?_
 refine v6v rfl rfl u3u rfl rfl rfl rfl ?_
 refine y4y ⟨.inr rfl, ?_⟩
 exact b7p rfl rfl rfl rfl
theorem a9v (a b : Ev) : a1f Try.prog 83 [.agg (s6s a), .agg (s6s b)] (.pv (.bool (a6u a b))) := by
 refine z5z x9x (fn := Try.f83) (by kernel_rfl) (by kernel_rfl) rfl (outs := [.pv (.bool (a6u a b))]) (by rfl) (v2v rfl) 2 ?_
 refine x6x x9x (by rfl) ?_
 refine p6p (id := 0) rfl rfl rfl ?_
 refine p6p (id := 1) rfl rfl rfl ?_
 refine x2x rfl ?_
 refine q5q x9x s9s (by rfl) ?_
 refine b4w x9x rfl a0u rfl y3y rfl ?_
 refine b4w x9x rfl a0u rfl y3y rfl ?_
 refine z6z [0, 1] [_, _] (a0t (evN a) (evN b) rfl (v2v rfl) 92) rfl rfl rfl (by decide) rfl rfl (by repeat (first | exact InH.nil | refine InH.cons rfl ?_)) (by (simp only [pI, y8y, y9y, w5w, gl, nx, w0w, Nat.beq]; rfl)) (by (simp only [pI, y8y, y9y, w5w, gl, nx, w0w, Nat.beq]; rfl)) ?_
 refine y6y rfl rfl rfl ?_
 refine x2x rfl ?_
 refine ⟨by kernel_rfl, ?_⟩
 refine y4y ⟨.inr rfl, ?_⟩
 refine z0z rfl ?_ rfl
 simp only [a6u, ← b1e (evN a) (evN b) rfl]
theorem a7q (a b : Ev) : a1f Try.prog 67 [.agg (s6s a), .agg (s6s b)] (.pv (.bool (a6u a b))) := by
 refine z5z x9x (fn := Try.f67) (by kernel_rfl) (by kernel_rfl) rfl (outs := [.pv (.bool (a6u a b))]) (by rfl) (v2v rfl) 2 ?_
 refine x6x x9x (by rfl) ?_
 refine p6p (id := 0) rfl rfl rfl ?_
 refine p6p (id := 1) rfl rfl rfl ?_
 refine x2x rfl ?_
 refine q5q x9x s9s (by rfl) ?_
 refine u2u rfl u3u rfl rfl rfl ?_
 refine z2z rfl rfl rfl (a3z ..) ?_
 refine u2u rfl u3u rfl rfl rfl ?_
 refine z2z rfl rfl rfl (a3z ..) ?_
 refine z2z rfl rfl rfl (a9v ..) ?_
 refine x2x rfl ?_
 refine ⟨by kernel_rfl, ?_⟩
 refine y4y ⟨.inr rfl, ?_⟩
 exact z0z rfl rfl rfl
end
end Go.Proofs.Ytdelokimkggeaaa.Am
