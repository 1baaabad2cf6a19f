/- What a map of events counts. -/
import Derived.Test.YtcleiaibcfocdaaAmF2
set_option linter.unusedVariables false
set_option linter.unusedSimpArgs false
namespace Go.Proofs.Ytcleiaibcfocdaa.Am
open Go Go.RowKit

def evMap (l : List Ev) : List (Value × AV) := (evOnce l).map fun k => (encL (evN k), pI (l.count k : Nat))
def evPos (l : List Ev) (e : Ev) : Nat := (kIdx (evOnce l) e).getD (evOnce l).length
def evMid (l : List Ev) (e : Ev) : List (Value × AV) := if e ∈ l then evMap l else evMap l ++ [(encL (evN e), pI (l.count e : Nat))]
theorem evMap_keys (l : List Ev) : (evMap l).map (·.1) = (evOnce l).map fun k => encL (evN k) := by
  rw [evMap, List.map_map]; rfl
theorem evMap_at {l : List Ev} {e : Ev} {j : Nat} (h : kIdx (evOnce l) e = some j) : (evMap l)[j]? = some (encL (evN e), pI (l.count e : Nat)) := by
  rw [evMap, List.getElem?_map, kIdx_lt h]; rfl
theorem evMap_no {l : List Ev} {e : Ev} (h : kIdx (evOnce l) e = none) : e ∉ l ∧ l.count e = 0 := by
  have := kIdx_none.1 h
  rw [evOnce_mem] at this
  exact ⟨this, List.count_eq_zero.2 this⟩
theorem evMap_look {tt : TT} {et : TypeId} {S : TS} (hs : tt et = some S) (hz : zeroA S = pI 0) (l : List Ev) (e : Ev) : (∃ j kv, kIdx (evOnce l) e = some j ∧ (evMap l)[j]? = some (kv, pI (l.count e : Nat))) ∨ (kIdx (evOnce l) e = none ∧ ∃ S, tt et = some S ∧ pI (l.count e : Nat) = zeroA S) := by
  cases h : kIdx (evOnce l) e with
  | some j => exact .inl ⟨j, _, rfl, evMap_at h⟩
  | none => exact .inr ⟨rfl, S, hs, by rw [hz, (evMap_no h).2]; rfl⟩
theorem evMid_entry {tt : TT} {et : TypeId} {S : TS} (hs : tt et = some S) (hz : zeroA S = pI 0) (l : List Ev) (e : Ev) :
    (kIdx (evOnce l) e = some (evPos l e) ∧ (evMap l)[evPos l e]? = some (encL (evN e), pI (l.count e : Nat)) ∧ evMid l e = evMap l) ∨
      (kIdx (evOnce l) e = none ∧ evPos l e = (evMap l).length ∧ evMid l e = evMap l ++ [(encL (evN e), pI (l.count e : Nat))] ∧ ∃ S, tt et = some S ∧ pI (l.count e : Nat) = zeroA S) := by
  cases h : kIdx (evOnce l) e with
  | some j =>
    have hm : e ∈ l := by
      rw [← evOnce_mem]; exact List.mem_of_getElem? (kIdx_lt h)
    have hp : evPos l e = j := by rw [evPos, h]; rfl
    exact .inl ⟨by rw [hp], by rw [hp]; exact evMap_at h, if_pos hm⟩
  | none =>
    have hn := evMap_no h
    exact .inr ⟨rfl, by rw [evPos, h, evMap, List.length_map]; rfl, if_neg hn.1, S, hs, by rw [hz, hn.2]; rfl⟩
theorem evMid_get (l : List Ev) (e : Ev) : (evMid l e)[evPos l e]? = some (encL (evN e), pI (l.count e : Nat)) := by
  rcases evMid_entry (tt := fun _ => some ⟨.oth, 1, 8, [.int .i64 0]⟩) (et := 0) rfl rfl l e with ⟨h1, h2, h3⟩ | ⟨h1, h2, h3, _⟩
  · rw [h3]; exact h2
  · rw [h3, h2, List.getElem?_append_right (Nat.le_refl _), Nat.sub_self]; rfl
def evKs (l : List Ev) (e : Ev) : List Ev := if e ∈ l then evOnce l else evOnce l ++ [e]
theorem evMid_keys (l : List Ev) (e : Ev) : (evMid l e).map (·.1) = (evKs l e).map fun k => encL (evN k) := by
  unfold evMid evKs
  split
  · exact evMap_keys l
  · rw [List.map_append, List.map_append, evMap_keys]; rfl
theorem kIdx_snoc {κ : Type} [DecidableEq κ] {k : κ} : ∀ {ks : List κ}, kIdx ks k = none → kIdx (ks ++ [k]) k = some ks.length
  | [], _ => by simp [kIdx]
  | a :: r, h => by
    simp only [kIdx] at h
    split at h
    · cases h
    · rename_i hne
      simp only [List.cons_append, kIdx, if_neg hne, List.length_cons]
      rw [kIdx_snoc (by simpa using h)]; rfl
theorem evMid_look {tt : TT} {et : TypeId} (l : List Ev) (e : Ev) : (∃ j kv, kIdx (evKs l e) e = some j ∧ (evMid l e)[j]? = some (kv, pI (l.count e : Nat))) ∨ (kIdx (evKs l e) e = none ∧ ∃ S, tt et = some S ∧ pI (l.count e : Nat) = zeroA S) := by
  refine .inl ⟨evPos l e, _, ?_, evMid_get l e⟩
  unfold evKs
  cases h : kIdx (evOnce l) e with
  | some j =>
    have hm : e ∈ l := by rw [← evOnce_mem]; exact List.mem_of_getElem? (kIdx_lt h)
    rw [if_pos hm, evPos, h]; rfl
  | none => rw [if_neg (evMap_no h).1, kIdx_snoc h, evPos, h]; rfl
theorem evMid_set (l : List Ev) (e : Ev) : (evMid l e).set (evPos l e) (encL (evN e), pI ((l.count e + 1 : Nat) : Int)) = evMap (l ++ [e]) := by
  have hc : ∀ k, k ≠ e → (l ++ [e]).count k = l.count k := fun k hk => by
    rw [List.count_append, List.count_singleton]
    simp [Ne.symm hk]
  have hce : (l ++ [e]).count e = l.count e + 1 := by
    rw [List.count_append, List.count_singleton]; simp
  by_cases hm : e ∈ l
  · have ho : evOnce (l ++ [e]) = evOnce l := by rw [evOnce_snoc, if_pos ((evOnce_mem e l).2 hm)]
    obtain ⟨j, hj⟩ := kIdx_some ((evOnce_mem e l).2 hm)
    have hp : evPos l e = j := by rw [evPos, hj]; rfl
    have hg := kIdx_lt hj
    rw [evMid, if_pos hm, hp, evMap, evMap, ho]
    apply List.ext_getElem?
    intro i
    rw [List.getElem?_set, List.getElem?_map, List.length_map]
    by_cases hi : j = i
    · subst hi
      rw [if_pos rfl, if_pos (List.getElem?_eq_some_iff.1 hg).1, List.getElem?_map, hg]
      simp only [Option.map_some, hce]
    · rw [if_neg hi, List.getElem?_map]
      cases hk : (evOnce l)[i]? with
      | none => rfl
      | some k =>
        have hne : k ≠ e := fun h => by
          subst h
          exact hi ((List.getElem?_inj (List.getElem?_eq_some_iff.1 hg).1 (evOnce_nodup l)).1 (hg.trans hk.symm))
        simp only [Option.map_some, hc k hne]
  · have h0 : kIdx (evOnce l) e = none := kIdx_none.2 (by rw [evOnce_mem]; exact hm)
    have ho : evOnce (l ++ [e]) = evOnce l ++ [e] := by rw [evOnce_snoc, if_neg (by rw [evOnce_mem]; exact hm)]
    have hp : evPos l e = (evMap l).length := by rw [evPos, h0, evMap, List.length_map]; rfl
    rw [evMid, if_neg hm, hp, List.set_append_right _ _ (Nat.le_refl _), Nat.sub_self, List.set_cons_zero, evMap, evMap, ho, List.map_append]
    congr 1
    · refine List.map_congr_left fun k hk => ?_
      rw [hc k (fun h => hm ((evOnce_mem e l).1 (h ▸ hk)))]
    · simp only [List.map_cons, List.map_nil, hce]
theorem evOnce_push {l : List Ev} {e : Ev} : (l ++ [e]).count e = 1 → hfill evLt (evOnce (l ++ [e])) = hpush evLt (hfill evLt (evOnce l)) e := fun h => by
  have : e ∉ l := by
    rw [List.count_append, List.count_singleton] at h
    exact List.count_eq_zero.1 (by simpa using h)
  rw [evOnce_snoc, if_neg (by rw [evOnce_mem]; exact this), hfill_snoc]
theorem evOnce_same {l : List Ev} {e : Ev} : ¬ (l ++ [e]).count e = 1 → evOnce (l ++ [e]) = evOnce l := fun h => by
  have : e ∈ l := by
    rw [List.count_append, List.count_singleton] at h
    refine Classical.byContradiction fun hn => h ?_
    rw [List.count_eq_zero.2 hn]; simp
  rw [evOnce_snoc, if_pos (by rw [evOnce_mem]; exact this)]
end Go.Proofs.Ytcleiaibcfocdaa.Am
