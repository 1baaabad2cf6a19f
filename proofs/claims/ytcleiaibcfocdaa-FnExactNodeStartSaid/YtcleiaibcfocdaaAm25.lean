/- The abstract machine, part 25: loops and cuts whose entries have generations of their own; steps that no code takes. -/
import Derived.Test.YtcleiaibcfocdaaAm24
set_option linter.unusedVariables false
set_option linter.unusedSimpArgs false
namespace Go.Proofs.Ytcleiaibcfocdaa.Am
open Go Go.RowKit
variable {P : Program}
variable {n : Nat} {fr : Fr} {h : Hp} {Q : Exit → Fr → Hp → Prop}

theorem HE.app {h a b : Hp} (ka : HE h a) (kb : HE h b) : HE h (a ++ b) := by
  induction ka with
  | nil => exact kb
  | same he _ ih => exact .same he ih
  | kill he _ ih => exact .kill he ih
theorem Fr.get_app (a b : Fr) (t : Nat) : Fr.get (a ++ b) t = match a.get t with
    | some v => some v
    | none => b.get t := by
  induction a with
  | nil => rfl
  | cons p a ih =>
    obtain ⟨k, v⟩ := p
    rw [List.cons_append, Fr.get_cons, Fr.get_cons]
    split
    · rfl
    · exact ih
theorem Cov.app {f a b : Fr} (ka : Cov a f) (kb : Cov b f) : Cov (a ++ b) f := fun t av hg => by
  rw [Fr.get_app] at hg
  cases ha : a.get t with
  | some v => rw [ha] at hg; cases hg; exact ka t _ ha
  | none => rw [ha] at hg; exact kb t av hg

/-- What holds behind a part of the code: slots uF, entries uH (by an index and generations), and what stays (bs, bh). -/
abbrev MidA {ι : Type} (uF : ι → Gn → Fr) (uH : ι → Gn → Hp) (ok : ι → Prop) (bs : Fr) (bh : Hp) (fr' : Fr) (h' : Hp) : Prop :=
  ∃ i, ok i ∧ ∃ g' : List Nat, Cov (uF i (gl g')) fr' ∧ Cov bs fr' ∧ HE h' (uH i (gl g')) ∧ HE h' bh ∧ domB h' (uH i (gl g') ++ bh) = true

theorem ex_loopK {ι : Type} {c : Code} {bs : Fr} {bh : Hp} (uF : ι → Gn → Fr) (uH : ι → Gn → Hp) (ok : ι → Prop) (μ : ι → Nat) (kf : Cov bs fr) (kh : HE h bh) (i0 : ι) (h0 : ok i0) (g0 : List Nat) (cf : Cov (uF i0 (gl g0)) fr) (ch : HE h (uH i0 (gl g0))) (hd : domB h (uH i0 (gl g0) ++ bh) = true)
    (step : ∀ i γ, ok i → Ex P n c (uF i γ ++ bs) (uH i γ ++ bh) (thenA (MidA uF uH (fun i' => ok i' ∧ μ i' < μ i) bs bh) Q)) : Ex P n (.loop c) fr h Q :=
  ex_loop (ι := ι × Gn) (fun p => uF p.1 p.2 ++ bs) (fun p => uH p.1 p.2 ++ bh) (fun p => ok p.1) (fun p => μ p.1) (i0, gl g0) h0 (cf.app kf) (HE.hw (ch.app kh) hd) fun p hp => (step p.1 p.2 hp).mono fun e fr' h' hq => by
    cases e with
    | normal =>
      obtain ⟨i', ⟨h1, h2⟩, g', h3, h4, h5, h6, h7⟩ := hq
      exact ⟨(i', gl g'), h1, h2, h3.app h4, HE.hw (h5.app h6) h7⟩
    | _ => exact hq

theorem ex_cutK {ι : Type} {c d : Code} {bs : Fr} {bh : Hp} (uF : ι → Gn → Fr) (uH : ι → Gn → Hp) (ok : ι → Prop) (kf : Cov bs fr) (kh : HE h bh)
    (h1 : Ex P n c fr h (thenA (MidA uF uH ok bs bh) Q)) (h2 : ∀ i γ, ok i → Ex P n d (uF i γ ++ bs) (uH i γ ++ bh) Q) : Ex P n (.seq c d) fr h Q :=
  ex_seq _ h1 fun fr' h' ⟨i, k1, g', k2, k3, k4, k5, k6⟩ => ex_weak (k2.app k3) (HE.hw (k4.app k5) k6) (h2 i (gl g') k1)

/-- A slot's rows of one's own are given up for good. -/
theorem ex_frz {c : Code} {h' : Hp} (t : Nat) {a b : AV} (ht : fr.get t = some a) (hf' : FinL h [a] [b] h') (hx : Ex P n c ((t, b) :: fr) h' Q) : Ex P n c fr h Q := fun X B A w hS hF hd => by
  obtain ⟨v, g1, g2⟩ := hF.slot t a ht
  obtain ⟨Y, k1, k2, k3⟩ := hf'.sound hS (vs := [v]) rfl (fun i a' v' ha hv => by
    cases i with
    | zero => simp only [List.getElem?_cons_zero, Option.some.injEq] at ha hv; subst ha hv; exact g2
    | succ i => simp at ha)
  have hF' : FrOK Y w n (Fr.get ((t, b) :: fr)) A := by
    refine ⟨hF.size, fun k av hk => ?_⟩
    rw [Fr.get_cons] at hk
    split at hk
    · rename_i e; subst e; cases hk
      exact ⟨v, g1, .cl (k3 0 b v rfl rfl)⟩
    · obtain ⟨u, q1, q2⟩ := hF.slot k av hk
      exact ⟨u, q1, q2.mono k1 hS.ok12 (fun _ _ => rfl)⟩
  refine wp_mono (hx Y B A w k2 hF' hd) fun e a' w' ⟨fr', h'', X', q1, q2, q3, q4, q5, q6⟩ => ⟨fr', h'', X', q1, k1.trans q2, q3, q4, q5, fun b hb => q6 b (k1.ok2 b hb)⟩

/-! ### a row of one's own out of an entry's cell, and back -/
theorem TRs.mid {X : Cx} {w : World} {cs1 cs2 : List AV} {c : AV} {us : List Value} {S : List Nat} (h : TRs X w (cs1 ++ c :: cs2) us S) : ∃ us1 v us2 S1 S0 S2, us = us1 ++ v :: us2 ∧ S = S1 ++ (S0 ++ S2) ∧ us1.length = cs1.length ∧ TRs X w cs1 us1 S1 ∧ TRs X w [c] [v] S0 ∧ TRs X w cs2 us2 S2 := by
  obtain ⟨us1, us', S1, S', rfl, rfl, k1, k2⟩ := h.split
  obtain ⟨us0, us2, S0, S2, rfl, rfl, k3, k4⟩ := TRs.split (cs := [c]) k2
  have := k3.len
  match us0, this with
  | [v], _ => exact ⟨us1, v, us2, S1, S0, S2, rfl, rfl, k1.len, k1, k3, k4⟩
theorem TRs.ow1 {X : Cx} {w : World} {ty sz : Nat} {ys : List (List AV)} {v : Value} {S : List Nat} (h : TRs X w [.row .ow ty sz ys] [v] S) : ∃ ws S', S = (ownB v).toList ++ S' ∧ Own w ty sz v ys.length ws ∧ Lens sz ys ∧ TRs X.bare w ys.flatten ws S' := by
  generalize hl : [AV.row .ow ty sz ys] = l at h
  cases h with
  | vr h1 h2 => cases hl; simp [AV.isOw] at h2
  | own ho hlen hi t =>
    cases hl
    cases t
    exact ⟨_, _, by simp, ho, hlen, hi⟩
theorem flat_parts {sz : Nat} {xs : List (List AV)} {i off : Nat} {x : List AV} {c : AV} (hl : Lens sz xs) (hx : xs[i]? = some x) (hc : x[off]? = some c) :
    xs.flatten = xs.flatten.take (i * sz + off) ++ c :: xs.flatten.drop (i * sz + off + 1) ∧ ∀ c', (xs.set i (x.set off c')).flatten = xs.flatten.take (i * sz + off) ++ c' :: xs.flatten.drop (i * sz + off + 1) := by
  have hxl := hl i x hx
  have hi := (List.getElem?_eq_some_iff.1 hx).1
  have ho := (List.getElem?_eq_some_iff.1 hc).1
  have hf := flat_get xs i off x c hl hx hc
  obtain ⟨hp, he⟩ := List.getElem?_eq_some_iff.1 hf
  refine ⟨?_, fun c' => ?_⟩
  · rw [← he, List.getElem_cons_drop, List.take_append_drop]
  · rw [flatten_set xs i _ hl hi]
    have h2 := flatten_set xs i x hl hi
    have h3 : xs.set i x = xs := by
      apply List.ext_getElem?
      intro k
      rw [List.getElem?_set]
      split
      · rename_i e; subst e; first | rw [hx] | rw [if_pos hi, hx]
      · rfl
    rw [h3] at h2
    have l1 : (xs.flatten.take (i * sz)).length = i * sz := by
      have := (List.getElem?_eq_some_iff.1 hf).1
      rw [List.length_take]; omega
    have e1 : xs.flatten.take (i * sz + off) = xs.flatten.take (i * sz) ++ x.take off := by
      conv => lhs; rw [h2]
      rw [List.append_assoc, List.take_append, l1, List.take_of_length_le (by omega), List.take_append_of_le_length (by omega)]
      congr 2; omega
    have e2 : xs.flatten.drop (i * sz + off + 1) = x.drop (off + 1) ++ xs.flatten.drop (i * sz + sz) := by
      conv => lhs; rw [h2]
      rw [List.append_assoc, List.drop_append, l1, List.drop_of_length_le (by omega), List.nil_append, List.drop_append_of_le_length (by omega)]
      congr 2; omega
    rw [e1, e2, List.set_eq_take_append_cons_drop, if_pos ho]
    simp

/-- One entry's cell: a row of its own becomes an entry. -/
theorem SRf.splitCell {X : Cx} {B : Base} {h : HF} {F : Nat → List Nat} {w : World} (H : SRf X B h F w) {id g id' g' : Nat} {e : Ent} (he : h id = some (g, e)) (hd : h id' = some (g', .dead)) (hne : id ≠ id') {cs1 cs2 : List AV} {ty2 sz2 : Nat} {ys : List (List AV)} {e' : Ent}
    (hin : ∀ f, EntOK X w id g f e → ∃ (us : List Value) (S S0 : List Nat), TRs X w (cs1 ++ .row .ow ty2 sz2 ys :: cs2) us S ∧ (S0 ++ S).Nodup ∧ (∀ c ∈ S0 ++ S, c ∈ f) ∧ ∀ (Y : Cx) S', X.le Y → TRs Y w (cs1 ++ .ref id' (g' + 1) :: cs2) us S' → (S0 ++ S').Nodup → EntOK Y w id g (S0 ++ S') e') :
    ∃ Y, X.le Y ∧ Y.ok2 = X.ok2 ∧ SRh Y B (upd (upd h id' (g' + 1, .row ty2 sz2 ys)) id (g, e')) w := by
  obtain ⟨us, S, S0, k1, k2, k3, k4⟩ := hin _ (H.ent id g e he)
  obtain ⟨us1, v, us2, S1, Sm, S2, rfl, rfl, l1, t1, tm, t2⟩ := k1.mid
  obtain ⟨ws, S', rfl, o1, o2, o3⟩ := tm.ow1
  have hfree := H.free hd
  let Y := X.setR id' (g' + 1) (v, sz2)
  have hX : X.le Y := Cx.le_setR hfree.2
  obtain ⟨A, nn, c, hv⟩ : ∃ A nn c, v = .slice A nn c := by
    rcases o1.2 with ⟨A, e1, _⟩ | ⟨b, cap, cur, e1, _⟩ <;> exact ⟨_, _, _, e1⟩
  have hnd := List.nodup_append.1 k2
  have hnd2 := List.nodup_append.1 hnd.2.1
  have hnd3 := List.nodup_append.1 hnd2.2.1
  have hS13 : (S0 ++ (S1 ++ S2)).Nodup := by
    refine List.nodup_append.2 ⟨hnd.1, List.nodup_append.2 ⟨hnd2.1, hnd3.2.1, fun a ha b hb => hnd2.2.2 a ha b (List.mem_append_right _ hb)⟩, fun a ha b hb => hnd.2.2 a ha b ?_⟩
    rcases List.mem_append.1 hb with hb | hb
    · exact List.mem_append_left _ hb
    · exact List.mem_append_right _ (List.mem_append_right _ hb)
  have tr : TRs Y w (cs1 ++ .ref id' (g' + 1) :: cs2) (us1 ++ v :: us2) (S1 ++ S2) := by
    have q1 := t1.mono hX H.ok12 (fun _ _ => rfl) (fun _ _ => rfl)
    have q2 := t2.mono hX H.ok12 (fun _ _ => rfl) (fun _ _ => rfl)
    subst hv
    exact q1.append (.vr rfl rfl VR.setR q2)
  have hE := k4 Y (S1 ++ S2) hX tr hS13
  have hown : ∀ c ∈ (ownB v).toList ++ S', c ∈ F id := fun c hc => k3 c (List.mem_append_right _ (List.mem_append_right _ (List.mem_append_left _ hc)))
  have hrest : ∀ c ∈ S0 ++ (S1 ++ S2), c ∈ F id := fun c hc => by
    rcases List.mem_append.1 hc with hc | hc
    · exact k3 c (List.mem_append_left _ hc)
    · rcases List.mem_append.1 hc with hc | hc
      · exact k3 c (List.mem_append_right _ (List.mem_append_left _ hc))
      · exact k3 c (List.mem_append_right _ (List.mem_append_right _ (List.mem_append_right _ hc)))
  have hdisj : ∀ c ∈ S0 ++ (S1 ++ S2), c ∉ (ownB v).toList ++ S' := fun c hc hc' => by
    rcases List.mem_append.1 hc with hc | hc
    · exact hnd.2.2 c hc c (List.mem_append_right _ (List.mem_append_left _ hc')) rfl
    · rcases List.mem_append.1 hc with hc | hc
      · exact hnd2.2.2 c hc c (List.mem_append_left _ hc') rfl
      · exact hnd3.2.2 c hc' c hc rfl
  let F' := updF (updF F id' ((ownB v).toList ++ S')) id (S0 ++ (S1 ++ S2))
  have f1 : F' id = S0 ++ (S1 ++ S2) := by simp [F', updF]
  have f2 : F' id' = (ownB v).toList ++ S' := by simp [F', updF, Ne.symm hne]
  have f3 : ∀ k, k ≠ id → k ≠ id' → F' k = F k := fun k h1 h2 => by simp [F', updF, h1, h2]
  have u1 : (upd (upd h id' (g' + 1, .row ty2 sz2 ys)) id (g, e')) id = some (g, e') := upd_same _ _ _
  have u2 : (upd (upd h id' (g' + 1, .row ty2 sz2 ys)) id (g, e')) id' = some (g' + 1, .row ty2 sz2 ys) := by rw [upd_other _ (Ne.symm hne), upd_same]
  have u3 : ∀ k, k ≠ id → k ≠ id' → (upd (upd h id' (g' + 1, .row ty2 sz2 ys)) id (g, e')) k = h k := fun k h1 h2 => by rw [upd_other _ h1, upd_other _ h2]
  have mem : ∀ k ge b, (upd (upd h id' (g' + 1, .row ty2 sz2 ys)) id (g, e')) k = some ge → b ∈ F' k → (k = id ∧ b ∈ S0 ++ (S1 ++ S2)) ∨ (k = id' ∧ b ∈ (ownB v).toList ++ S') ∨ (k ≠ id ∧ k ≠ id' ∧ h k = some ge ∧ b ∈ F k) := fun k ge b hk hb => by
    by_cases h1 : k = id
    · subst h1; rw [f1] at hb; exact .inl ⟨rfl, hb⟩
    · by_cases h2 : k = id'
      · subst h2; rw [f2] at hb; exact .inr (.inl ⟨rfl, hb⟩)
      · rw [u3 k h1 h2] at hk; rw [f3 k h1 h2] at hb; exact .inr (.inr ⟨h1, h2, hk, hb⟩)
  have inF : ∀ k ge b, (upd (upd h id' (g' + 1, .row ty2 sz2 ys)) id (g, e')) k = some ge → b ∈ F' k → ∃ j ge', h j = some ge' ∧ b ∈ F j := fun k ge b hk hb => by
    rcases mem k ge b hk hb with ⟨_, h1⟩ | ⟨_, h1⟩ | ⟨_, _, h1, h2⟩
    · exact ⟨id, _, he, hrest b h1⟩
    · exact ⟨id, _, he, hown b h1⟩
    · exact ⟨k, ge, h1, h2⟩
  refine ⟨Y, hX, rfl, F', ?_, ?_, ?_, ?_, H.ok12, H.in1, H.in2, ?_, ?_, H.os, H.tape, H.output, H.size, H.keep⟩
  · intro k gk ek hk
    by_cases h1 : k = id
    · subst h1; rw [u1] at hk; cases hk; rw [f1]; exact hE
    · by_cases h2 : k = id'
      · subst h2; rw [u2] at hk; cases hk; rw [f2]
        refine ⟨v, ws, S', by simp [Y, Cx.setR], o1, o2, o3.mono ⟨fun _ h => h, fun _ h => h, fun _ _ _ h => (by cases h), fun _ _ _ h => (by cases h)⟩ H.ok12 (fun _ _ => rfl) (fun _ _ => rfl), hnd3.1, fun c hc => hc⟩
      · rw [u3 k h1 h2] at hk; rw [f3 k h1 h2]
        exact (H.ent k gk ek hk).mono hX H.ok12 (fun _ _ => rfl) (fun _ _ => rfl)
  · intro k ge b hk hb
    obtain ⟨j, ge', h1, h2⟩ := inF k ge b hk hb
    exact H.blk j ge' b h1 h2
  · intro k j ge ge' b hk hj hb hb'
    rcases mem k ge b hk hb with ⟨q1, q2⟩ | ⟨q1, q2⟩ | ⟨q1, q2, q3, q4⟩ <;> rcases mem j ge' b hj hb' with ⟨r1, r2⟩ | ⟨r1, r2⟩ | ⟨r1, r2, r3, r4⟩
    · rw [q1, r1]
    · exact absurd r2 (hdisj b q2)
    · exact absurd (H.sep _ _ _ _ b he r3 (hrest b q2) r4) (Ne.symm r1)
    · exact absurd q2 (hdisj b r2)
    · rw [q1, r1]
    · exact absurd (H.sep _ _ _ _ b he r3 (hown b q2) r4) (Ne.symm r1)
    · exact absurd (H.sep _ _ _ _ b q3 he q4 (hrest b r2)) q1
    · exact absurd (H.sep _ _ _ _ b q3 he q4 (hown b r2)) q1
    · exact H.sep _ _ _ _ b q3 r3 q4 r4
  · refine fun b hb => ⟨(H.ok2 b hb).1, fun k ge hk hbk => ?_⟩
    obtain ⟨j, ge', h1, h2⟩ := inF k ge b hk hbk
    exact (H.ok2 b hb).2 j ge' h1 h2
  · intro k ge b hk hb
    obtain ⟨j, ge', h1, h2⟩ := inF k ge b hk hb
    exact H.own j ge' b h1 h2
  · intro k gk hk
    by_cases h2 : k = id'
    · subst h2
      have hg : g' + 1 < gk := hk _ _ u2
      have := H.hist k gk (fun g2 e2 hh => by rw [hd] at hh; cases hh; omega)
      refine ⟨this.1, ?_⟩
      show (X.setR k (g' + 1) (v, sz2)).rw k gk = none
      simp only [Cx.setR]
      rw [if_neg (by omega)]
      exact this.2
    · have := H.hist k gk (fun g2 e2 hh => by
        by_cases h1 : k = id
        · subst h1; rw [he] at hh; cases hh; exact hk _ e' u1
        · exact hk g2 e2 (by rw [u3 k h1 h2]; exact hh))
      refine ⟨this.1, ?_⟩
      show (X.setR id' (g' + 1) (v, sz2)).rw k gk = none
      simp only [Cx.setR]
      rw [if_neg (fun h => h2 h.1)]
      exact this.2

/-- One entry's cell: an entry becomes a row of its own. -/
theorem SRf.joinCell {X : Cx} {B : Base} {h : HF} {F : Nat → List Nat} {w : World} (H : SRf X B h F w) {id g id' g' : Nat} {e : Ent} {ty2 sz2 : Nat} {ys : List (List AV)} (he : h id = some (g, e)) (hd : h id' = some (g', .row ty2 sz2 ys)) (hfl : FlatR ys) (hne : id ≠ id') {cs1 cs2 : List AV} {e' : Ent}
    (hin : ∀ f, EntOK X w id g f e → ∃ (us : List Value) (S S0 : List Nat), TRs X w (cs1 ++ .ref id' g' :: cs2) us S ∧ (S0 ++ S).Nodup ∧ (∀ c ∈ S0 ++ S, c ∈ f) ∧ ∀ S' f', TRs X w (cs1 ++ .row .ow ty2 sz2 ys :: cs2) us S' → (S0 ++ S').Nodup → (∀ c ∈ S0 ++ S', c ∈ f') → EntOK X w id g f' e') :
    SRh X B (upd (upd h id' (g', .dead)) id (g, e')) w := by
  obtain ⟨us, S, S0, k1, k2, k3, k4⟩ := hin _ (H.ent id g e he)
  obtain ⟨us1, v, us2, S1, Sm, S2, rfl, rfl, l1, t1, tm, t2⟩ := k1.mid
  obtain ⟨v0, ws, S', q1, q2, q3, q4, q5, q6⟩ := H.ent id' g' _ hd
  have hSm : Sm = [] := by
    generalize hl : [AV.ref id' g'] = l at tm
    cases tm with
    | vr _ _ _ t => cases hl; cases t; rfl
    | own => cases hl
  subst hSm
  have hv : v = v0 := by
    have := tm.vrs.rel 0 _ _ rfl rfl
    obtain ⟨A, nn, c, s0, e1, e2⟩ := this.ref_inv
    rw [e1]; rw [q1] at e2; cases e2; rfl
  subst hv
  have q4' : TRs X.bare w ys.flatten ws S' := q4.flat (fun _ h => h) (fun _ h => h) H.ok12 (fun c hc => by
    obtain ⟨x, hx, hcx⟩ := List.mem_flatten.1 hc
    exact hfl x hx c hcx)
  have hdis : ∀ b ∈ F id, b ∉ F id' := fun b hb hb' => hne (H.sep _ _ _ _ b he hd hb hb')
  rw [List.nil_append] at k2 k3
  have hnd := List.nodup_append.1 k2
  have hnd2 := List.nodup_append.1 hnd.2.1
  have tr : TRs X w (cs1 ++ .row .ow ty2 sz2 ys :: cs2) (us1 ++ v :: us2) (S1 ++ ((ownB v).toList ++ S' ++ S2)) := t1.append (.own q2 q3 q4' t2)
  have mm : ∀ c ∈ S0 ++ (S1 ++ S2), c ∈ F id := k3
  have hn : (S0 ++ (S1 ++ ((ownB v).toList ++ S' ++ S2))).Nodup := by
    have hA : ∀ c ∈ (ownB v).toList ++ S', c ∈ F id' := q6
    refine List.nodup_append.2 ⟨hnd.1, List.nodup_append.2 ⟨hnd2.1, List.nodup_append.2 ⟨q5, hnd2.2.1, fun a ha b hb e => ?_⟩, fun a ha b hb e => ?_⟩, fun a ha b hb e => ?_⟩
    · subst e; exact hdis a (mm a (by simp [hb])) (hA a ha)
    · subst e
      rcases List.mem_append.1 hb with hb | hb
      · exact hdis a (mm a (by simp [ha])) (hA a hb)
      · exact hnd2.2.2 a ha a hb rfl
    · subst e
      rcases List.mem_append.1 hb with hb | hb
      · exact hnd.2.2 a ha a (List.mem_append_left _ hb) rfl
      · rcases List.mem_append.1 hb with hb | hb
        · exact hdis a (mm a (by simp [ha])) (hA a hb)
        · exact hnd.2.2 a ha a (List.mem_append_right _ hb) rfl
  have hS1 := H.kill hd
  have hS2 := hS1.merge (id := id) (j := id') (g := g') (ge := (g, e)) (upd_same _ _ _) (by rw [upd_other _ hne]; exact he) hne
  have fid : updF (updF F id' []) id (F id ++ F id') id = F id ++ F id' := by simp [updF]
  have hE := k4 _ (F id ++ F id') tr hn (fun c hc => by
    rcases List.mem_append.1 hc with hc | hc
    · exact List.mem_append_left _ (mm c (List.mem_append_left _ hc))
    · rcases List.mem_append.1 hc with hc | hc
      · exact List.mem_append_left _ (mm c (by simp [hc]))
      · rcases List.mem_append.1 hc with hc | hc
        · exact List.mem_append_right _ (q6 c hc)
        · exact List.mem_append_left _ (mm c (by simp [hc])))
  have hlt : ∀ b ∈ F id ++ F id', b < w.heap.size := fun b hb => by
    rcases List.mem_append.1 hb with hb | hb
    · exact H.blk _ _ b he hb
    · exact H.blk _ _ b hd hb
  have := hS2.turn (id := id) (g := g) (g' := g) (e := e) (e' := e') (f := F id ++ F id') (by rw [upd_other _ hne]; exact he) (Cx.le.refl X) rfl rfl (fun _ _ _ => ⟨rfl, rfl⟩) (Nat.le_refl g) (Grew.refl w _) hE (fun b hb => ⟨.inl (by rw [fid]; exact hb), hlt b hb⟩)
  exact ⟨_, this⟩

theorem hf2 (h : Hp) (i j : Nat) (p q : Nat × Ent) : hf ((i, p) :: (j, q) :: h) = upd (upd (hf h) j q) i p := by rw [hf_cons, hf_cons]

theorem ex_of_sr {c : Code} {h' : Hp} (hk : ∀ (X : Cx) (B : Base) (w : World), SRh X B (hf h) w → ∃ Y, X.le Y ∧ Y.ok2 = X.ok2 ∧ SRh Y B (hf h') w) (hx : Ex P n c fr h' Q) : Ex P n c fr h Q := fun X B a w hS hF hd => by
  obtain ⟨Y, k1, k2, k3⟩ := hk X B w hS
  refine wp_mono (hx Y B a w k3 (hF.mono k1 hS.ok12 (fun _ _ => rfl)) hd) fun e a' w' ⟨fr', h'', X', q1, q2, q3, q4, q5, q6⟩ => ⟨fr', h'', X', q1, k1.trans q2, q3, q4, q5, fun b hb => q6 b (by rw [k2]; exact hb)⟩

theorem ex_splitR {c : Code} (id i off id' : Nat) {g g' ty sz ty2 sz2 : Nat} {xs ys : List (List AV)} {x : List AV} (hh : wfind h id = some (g, .row ty sz xs)) (hx : xs[i]? = some x) (hc : x[off]? = some (.row .ow ty2 sz2 ys)) (hd : wfind h id' = some (g', .dead)) (hne : Nat.beq id id' = false)
    (k : Ex P n c fr ((id, (g, .row ty sz (xs.set i (x.set off (.ref id' (g' + 1)))))) :: (id', (g' + 1, .row ty2 sz2 ys)) :: h) Q) : Ex P n c fr h Q := by
  have hne' : id ≠ id' := fun e => by subst e; rw [Nat.beq_refl] at hne; cases hne
  refine ex_of_sr (fun X B w hS => ?_) k
  obtain ⟨F, hS⟩ := hS
  rw [hf2]
  refine hS.splitCell (e := .row ty sz xs) (cs1 := xs.flatten.take (i * sz + off)) (cs2 := xs.flatten.drop (i * sz + off + 1)) hh hd hne' fun f hE => ?_
  obtain ⟨v, us, S, h1, h2, h3, h4, h5, h6⟩ := hE
  obtain ⟨p1, p2⟩ := flat_parts h3 hx hc
  refine ⟨us, S, (ownB v).toList, by rw [← p1]; exact h4, h5, h6, fun Y S' hX ht hn => ?_⟩
  have hl : (xs.set i (x.set off (.ref id' (g' + 1)))).length = xs.length := by simp
  refine ⟨v, us, S', hX.rw _ _ _ h1, by rw [hl]; exact h2, fun j y hj => ?_, by rw [p2]; exact ht, hn, fun c hc => hc⟩
  rw [List.getElem?_set] at hj
  split at hj
  · split at hj
    · cases hj; rw [List.length_set]; exact h3 i x hx
    · cases hj
  · exact h3 j y hj
theorem ex_joinR {c : Code} (id i off id' : Nat) {g g' ty sz ty2 sz2 : Nat} {xs ys : List (List AV)} {x : List AV} (hh : wfind h id = some (g, .row ty sz xs)) (hx : xs[i]? = some x) (hc : x[off]? = some (.ref id' g')) (hd : wfind h id' = some (g', .row ty2 sz2 ys)) (hfl : FlatR ys) (hne : Nat.beq id id' = false)
    (k : Ex P n c fr ((id, (g, .row ty sz (xs.set i (x.set off (.row .ow ty2 sz2 ys))))) :: (id', (g', .dead)) :: h) Q) : Ex P n c fr h Q := by
  have hne' : id ≠ id' := fun e => by subst e; rw [Nat.beq_refl] at hne; cases hne
  refine ex_of_sr (fun X B w hS => ⟨X, Cx.le.refl X, rfl, ?_⟩) k
  obtain ⟨F, hS⟩ := hS
  rw [hf2]
  refine hS.joinCell (e := .row ty sz xs) (cs1 := xs.flatten.take (i * sz + off)) (cs2 := xs.flatten.drop (i * sz + off + 1)) hh hd hfl hne' fun f hE => ?_
  obtain ⟨v, us, S, h1, h2, h3, h4, h5, h6⟩ := hE
  obtain ⟨p1, p2⟩ := flat_parts h3 hx hc
  refine ⟨us, S, (ownB v).toList, by rw [← p1]; exact h4, h5, h6, fun S' f' ht hn hm => ?_⟩
  have hl : (xs.set i (x.set off (.row .ow ty2 sz2 ys))).length = xs.length := by simp
  refine ⟨v, us, S', h1, by rw [hl]; exact h2, fun j y hj => ?_, by rw [p2]; exact ht, hn, hm⟩
  rw [List.getElem?_set] at hj
  split at hj
  · split at hj
    · cases hj; rw [List.length_set]; exact h3 i x hx
    · cases hj
  · exact h3 j y hj
theorem cells_parts {cs : List AV} {off : Nat} {c : AV} (hc : cs[off]? = some c) : cs = cs.take off ++ c :: cs.drop (off + 1) ∧ ∀ c', cs.set off c' = cs.take off ++ c' :: cs.drop (off + 1) := by
  obtain ⟨hp, he⟩ := List.getElem?_eq_some_iff.1 hc
  refine ⟨by rw [← he, List.getElem_cons_drop, List.take_append_drop], fun c' => by rw [List.set_eq_take_append_cons_drop, if_pos hp]⟩
theorem ex_splitB {c : Code} (id off id' : Nat) {g g' ty ty2 sz2 : Nat} {ys : List (List AV)} {cs cs' : List AV} (hh : wfind h id = some (g, .box ty cs)) (hc : cs[off]? = some (.row .ow ty2 sz2 ys)) (hd : wfind h id' = some (g', .dead)) (hne : Nat.beq id id' = false) (hcs : cs.set off (.ref id' (g' + 1)) = cs')
    (k : Ex P n c fr ((id, (g, .box ty cs')) :: (id', (g' + 1, .row ty2 sz2 ys)) :: h) Q) : Ex P n c fr h Q := by
  subst hcs
  have hne' : id ≠ id' := fun e => by subst e; rw [Nat.beq_refl] at hne; cases hne
  refine ex_of_sr (fun X B w hS => ?_) k
  obtain ⟨F, hS⟩ := hS
  rw [hf2]
  refine hS.splitCell (e := .box ty cs) (cs1 := cs.take off) (cs2 := cs.drop (off + 1)) hh hd hne' fun f hE => ?_
  obtain ⟨b, us, S, h1, h2, h3, h4, h5⟩ := hE
  obtain ⟨p1, p2⟩ := cells_parts hc
  refine ⟨us, S, [b], by rw [← p1]; exact h3, h4, h5, fun Y S' hX ht hn => ?_⟩
  exact ⟨b, us, S', hX.bx _ _ _ h1, h2, by rw [p2]; exact ht, hn, fun c hc => hc⟩
theorem ex_joinB {c : Code} (id off id' : Nat) {g g' ty ty2 sz2 : Nat} {ys : List (List AV)} {cs cs' : List AV} (hh : wfind h id = some (g, .box ty cs)) (hc : cs[off]? = some (.ref id' g')) (hd : wfind h id' = some (g', .row ty2 sz2 ys)) (hfl : FlatR ys) (hne : Nat.beq id id' = false) (hcs : cs.set off (.row .ow ty2 sz2 ys) = cs')
    (k : Ex P n c fr ((id, (g, .box ty cs')) :: (id', (g', .dead)) :: h) Q) : Ex P n c fr h Q := by
  subst hcs
  have hne' : id ≠ id' := fun e => by subst e; rw [Nat.beq_refl] at hne; cases hne
  refine ex_of_sr (fun X B w hS => ⟨X, Cx.le.refl X, rfl, ?_⟩) k
  obtain ⟨F, hS⟩ := hS
  rw [hf2]
  refine hS.joinCell (e := .box ty cs) (cs1 := cs.take off) (cs2 := cs.drop (off + 1)) hh hd hfl hne' fun f hE => ?_
  obtain ⟨b, us, S, h1, h2, h3, h4, h5⟩ := hE
  obtain ⟨p1, p2⟩ := cells_parts hc
  exact ⟨us, S, [b], by rw [← p1]; exact h3, h4, h5, fun S' f' ht hn hm => ⟨b, us, S', h1, h2, by rw [p2]; exact ht, hn, hm⟩⟩
end Go.Proofs.Ytcleiaibcfocdaa.Am
