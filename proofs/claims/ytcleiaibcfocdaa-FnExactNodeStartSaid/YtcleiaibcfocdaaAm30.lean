/- The abstract machine, part 30: nil slices in cells taken for rows of one's own. -/
import Derived.Test.YtcleiaibcfocdaaAm29
set_option linter.unusedVariables false
set_option linter.unusedSimpArgs false
namespace Go.Proofs.Ytcleiaibcfocdaa.Am
open Go Go.RowKit
variable {P : Program} {n : Nat} {fr : Fr} {h : Hp} {Q : Exit → Fr → Hp → Prop}

theorem TRs.toOw {X : Cx} {w : World} {cs1 cs2 : List AV} {us : List Value} {S : List Nat} (h : TRs X w (cs1 ++ .pv (.slice none 0 0) :: cs2) us S) (ty sz : Nat) : TRs X w (cs1 ++ .row .ow ty sz [] :: cs2) us S := by
  obtain ⟨us1, v, us2, S1, S0, S2, rfl, rfl, l1, t1, tm, t2⟩ := h.mid
  have h0 : v = .slice none 0 0 ∧ S0 = [] := by
    generalize hl : [AV.pv (.slice none 0 0)] = l at tm
    cases tm with
    | vr _ _ k t => cases hl; cases t; exact ⟨k.pv_inv, rfl⟩
    | own => cases hl
  obtain ⟨rfl, rfl⟩ := h0
  exact t1.append (.own (X := X) (w := w) (xs := []) (ws := []) (S' := []) (v := .slice none 0 0) ⟨by simp, .inl ⟨none, rfl, rfl⟩⟩ (fun j x hx => by simp at hx) .nil t2)

theorem SRf.re {X : Cx} {B : Base} {h : HF} {F : Nat → List Nat} {w : World} (H : SRf X B h F w) {id g : Nat} {e e' : Ent} (he : h id = some (g, e)) (hin : EntOK X w id g (F id) e → EntOK X w id g (F id) e') : SRh X B (upd h id (g, e')) w :=
  ⟨_, H.turn (f := F id) he (Cx.le.refl X) rfl rfl (fun _ _ _ => ⟨rfl, rfl⟩) (Nat.le_refl g) (Grew.refl w _) (hin (H.ent id g e he)) (fun b hb => ⟨.inl hb, H.blk _ _ b he hb⟩)⟩

theorem ex_ownB {c : Code} (id off e sz : Nat) {g ty : Nat} {cs cs' : List AV} (hh : wfind h id = some (g, .box ty cs)) (hc : cs[off]? = some (.pv (.slice none 0 0))) (hcs : cs.set off (.row .ow e sz []) = cs')
    (k : Ex P n c fr ((id, (g, .box ty cs')) :: h) Q) : Ex P n c fr h Q := by
  subst hcs
  refine ex_of_sr (fun X B w hS => ⟨X, Cx.le.refl X, rfl, ?_⟩) k
  obtain ⟨F, hS⟩ := hS
  rw [hf_cons]
  refine hS.re hh fun hE => ?_
  obtain ⟨b, us, S, h1, h2, h3, h4, h5⟩ := hE
  obtain ⟨p1, p2⟩ := cells_parts hc
  rw [p1] at h3
  exact ⟨b, us, S, h1, h2, by rw [p2]; exact h3.toOw e sz, h4, h5⟩
theorem ex_ownR {c : Code} (id i off e2 sz2 : Nat) {g ty sz : Nat} {xs : List (List AV)} {x : List AV} (hh : wfind h id = some (g, .row ty sz xs)) (hx : xs[i]? = some x) (hc : x[off]? = some (.pv (.slice none 0 0)))
    (k : Ex P n c fr ((id, (g, .row ty sz (xs.set i (x.set off (.row .ow e2 sz2 []))))) :: h) Q) : Ex P n c fr h Q := by
  refine ex_of_sr (fun X B w hS => ⟨X, Cx.le.refl X, rfl, ?_⟩) k
  obtain ⟨F, hS⟩ := hS
  rw [hf_cons]
  refine hS.re hh fun hE => ?_
  obtain ⟨v, us, S, h1, h2, h3, h4, h5, h6⟩ := hE
  obtain ⟨p1, p2⟩ := flat_parts h3 hx hc
  have hl : (xs.set i (x.set off (.row .ow e2 sz2 []))).length = xs.length := by simp
  rw [p1] at h4
  refine ⟨v, us, S, h1, by rw [hl]; exact h2, fun j y hj => ?_, by rw [p2]; exact h4.toOw e2 sz2, h5, h6⟩
  rw [List.getElem?_set] at hj
  split at hj
  · split at hj
    · cases hj; rw [List.length_set]; exact h3 i x hx
    · cases hj
  · exact h3 j y hj
theorem ex_hp_eq {c : Code} {h' : Hp} (he : hf h = hf h') (k : Ex P n c fr h' Q) : Ex P n c fr h Q := fun X B a w hS hF hd => k X B a w (he ▸ hS) hF hd
/-- A nil slice in a box's cell taken for a row of one's own in the heap of ids. -/
theorem ex_nilB {c : Code} (id off id' e sz : Nat) {g g' ty : Nat} {cs cs' : List AV} (hh : wfind h id = some (g, .box ty cs)) (hc : cs[off]? = some (.pv (.slice none 0 0))) (hd : wfind h id' = some (g', .dead)) (hne : Nat.beq id id' = false) (hcs : cs.set off (.ref id' (g' + 1)) = cs')
    (k : Ex P n c fr ((id, (g, .box ty cs')) :: (id', (g' + 1, .row e sz [])) :: h) Q) : Ex P n c fr h Q := by
  subst hcs
  have hne' : id ≠ id' := fun e => by subst e; rw [Nat.beq_refl] at hne; cases hne
  have hlt := (List.getElem?_eq_some_iff.1 hc).1
  refine ex_ownB id off e sz hh hc rfl ?_
  refine ex_splitB (ty2 := e) (sz2 := sz) (ys := []) (cs := cs.set off (.row .ow e sz [])) id off id' (by rw [wfind_cons, if_pos rfl]) (by rw [List.getElem?_set, if_pos rfl, if_pos hlt]) (by rw [wfind_cons, if_neg hne']; exact hd) hne (List.set_set ..) ?_
  refine ex_hp_eq (funext fun q => ?_) k
  show wfind _ q = wfind _ q
  simp only [wfind_cons]
  by_cases h1 : id = q
  · simp [h1]
  · by_cases h2 : id' = q <;> simp [h1, h2]
theorem inC_ints {ρ c : Gn} (u : List Int) : (u.map pI).map (inC ρ c) = u.map pI := by
  rw [List.map_map]; exact List.map_congr_left fun _ _ => rfl
theorem bndC_ints (m : Nat) (u : List Int) : ((u.map pI).all (bndC m)) = true := by
  rw [List.all_map]; exact List.all_eq_true.2 fun _ _ => rfl
theorem HE.cast {h a b : Hp} (e : a = b) (k : HE h b) : HE h a := e ▸ k
theorem ldv_ints {S : TS} {u : List Int} {i : Nat} {a : Int} (hS : S.agg = false) (h : u[i]? = some a) : ldv S ((u.map pI).drop (0 + i)) = some (pI a) := by
  unfold ldv; rw [hS, Nat.zero_add, List.head?_drop, List.getElem?_map, h]; rfl
theorem abs_ints {h : Hp} : ∀ u : List Int, Abs (u.map pI) h (u.map pI) [] []
  | [] => .nil
  | _ :: u => .val rfl rfl (abs_ints u)
theorem ex_frzM {α : Type} {f : α → List AV} {l : List α} {c : Code} (t : Nat) {id g ty sz : Nat} (ht : fr.get t = some (.ref id g)) (hh : wfind h id = some (g, .row ty sz (l.map f))) (hf : ∀ a, ((f a).all AV.cl) = true)
    (k : Ex P n c ((t, .row (.rd true) ty sz (l.map f)) :: fr) ((id, (g, .dead)) :: h) Q) : Ex P n c fr h Q := ex_frz t ht (.ref hh (Le.ow_map l (fun _ => rfl) hf) .nil) k
end Go.Proofs.Ytcleiaibcfocdaa.Am
