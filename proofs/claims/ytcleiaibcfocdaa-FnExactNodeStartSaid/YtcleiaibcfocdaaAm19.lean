/- The abstract machine, part 19: small rules. -/
import Derived.Test.YtcleiaibcfocdaaAm18
set_option linter.unusedVariables false
set_option linter.unusedSimpArgs false
namespace Go.Proofs.Ytcleiaibcfocdaa.Am
open Go Go.RowKit

variable {P : Program}

theorem FinL.pvs {h : Hp} : ∀ {l : List AV}, (l.all AV.cl) = true → FinL h l l h
  | [], _ => .nil
  | a :: l, hc => by
    rw [List.all_cons, Bool.and_eq_true] at hc
    exact .cl hc.1 (FinL.pvs hc.2)

theorem ret_pv {tt : TT} {fr : Fr} {h : Hp} {rs : List ResultVar} {vs outs : List AV} (h1 : resA tt fr h rs = some vs) (he : vs = outs) (hc : (outs.all AV.cl) = true) : ∃ l h', resA tt fr h rs = some l ∧ FinL h l outs h' :=
  ⟨vs, h, h1, by subst he; exact FinL.pvs hc⟩

/-- A nil slice taken for a row of one's own. -/
theorem ex_nilref {n : Nat} {c : Code} {fr : Fr} {h : Hp} {Q : Exit → Fr → Hp → Prop} (t id e sz : Nat) {g : Nat} (ht : fr.get t = some (.pv (.slice none 0 0))) (hd : wfind h id = some (g, .dead)) (hx : Ex P n c ((t, .ref id (g + 1)) :: fr) ((id, (g + 1, .row e sz [])) :: h) Q) : Ex P n c fr h Q := by
  rintro X B a w ⟨F, hS⟩ hF hdf
  have hown : Own w e sz (.slice none 0 0) 0 [] := ⟨by simp, .inl ⟨none, rfl, rfl⟩⟩
  obtain ⟨hX, hS', hok⟩ := hS.newRow (id := id) hd (ty := e) (sz := sz) (xs := []) (us := []) (v := .slice none 0 0) (w' := w) (L := []) (S := []) (Grew.refl w _) (by simp) (by simp) List.nodup_nil hown (fun b hb => by simp [ownB] at hb) (fun j x hx => by simp at hx) .nil
  rw [← hf_cons] at hS'
  have hF' : FrOK (X.setR id (g + 1) (.slice none 0 0, sz)) w n (Fr.get ((t, .ref id (g + 1)) :: fr)) a := by
    refine ⟨hF.size, fun k av hk => ?_⟩
    rw [Fr.get_cons] at hk
    split at hk
    · rename_i e
      subst e
      cases hk
      obtain ⟨v, h1, h2⟩ := hF.slot t _ ht
      have := h2.pv_inv
      subst this
      exact ⟨_, h1, .setR⟩
    · exact (hF.mono hX hS.ok12 hok).slot k av hk
  refine wp_mono (hx _ B a w hS' hF' hdf) fun e a' w' hh => ?_
  obtain ⟨fr', h', X', k1, k2, k3, k4, k5, k6⟩ := hh
  exact ⟨fr', h', X', k1, hX.trans k2, k3, k4, k5, fun b hb => k6 b (hX.ok2 b hb)⟩

theorem wrap_small {n : Int} (h0 : -9223372036854775808 ≤ n) (h1 : n < 9223372036854775808) : IntKind.i64.wrap n = n := by
  rw [IntKind.wrap_i64]; omega

theorem Cov.cons' {t : Nat} {av av' : AV} {f F : Fr} (h : F.get t = some av') (e : av' = av) (k : Cov f F) : Cov ((t, av) :: f) F := .cons (h.trans (by rw [e])) k
end Go.Proofs.Ytcleiaibcfocdaa.Am
