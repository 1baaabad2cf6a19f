/- The abstract machine, part 17: the table of types by closed facts. -/
import Derived.Test.YtcleiaibcfocdaaAm16
set_option linter.unusedVariables false
set_option linter.unusedSimpArgs false
namespace Go.Proofs.Ytcleiaibcfocdaa.Am
open Go Go.RowKit

variable {P : Program}

def kokB : TK → TypeDesc → Bool
  | .oth, d => !d.isRow
  | .int k, .int k' => k == k'
  | .str, .string => true
  | .st flds, .struct fs => flds.length == fs.size && flds.zipIdx.all fun p => match fs[p.2]? with
    | some f => f.offset == p.1.1 && f.type == p.1.2
    | none => false
  | .arr n e, .array n' e' => n == n' && e == e'
  | .sl e, .slice e' => e == e'
  | .mp k e, .map k' e' => k == k' && e == e'
  | _, _ => false

theorem kokB_ok {k : TK} {d : TypeDesc} (h : kokB k d = true) : KOk k d := by
  cases k with
  | oth => simpa [kokB, KOk] using h
  | int k => cases d <;> simp_all [kokB, KOk]
  | str => cases d <;> simp_all [kokB, KOk]
  | st flds =>
    cases d <;> simp only [kokB, Bool.false_eq_true] at h
    rename_i fs
    simp only [Bool.and_eq_true, beq_iff_eq, List.all_eq_true] at h
    refine ⟨fs, rfl, h.1, fun j off ft hj => ?_⟩
    have := h.2 ((off, ft), j) (by rw [List.mem_zipIdx_iff_getElem?]; simpa using hj)
    simp only at this
    split at this
    · rename_i f hf
      simp only [Bool.and_eq_true, beq_iff_eq] at this
      exact ⟨f, hf, this.1, this.2⟩
    · cases this
  | arr n e => cases d <;> simp_all [kokB, KOk]
  | sl e => cases d <;> simp_all [kokB, KOk]
  | mp k e => cases d <;> simp_all [kokB, KOk]

def tsB (P : Program) (t : Nat) (s : TS) : Bool :=
  s.zero.length == s.size && s.zero.all (·.oneCell') && (s.agg || s.size == 1) && (match P.underlying t with
    | some d => kokB s.kind d
    | none => false) && (match s.kind with
    | .st flds => flds.all fun p => (P.info? p.2).isSome
    | _ => true)

theorem TSOk.of {t : Nat} {s : TS} (h1 : (P.info? t).map (fun i => (i.zero, i.size, i.bytes)) = some (some (if s.agg then .agg s.zero.toArray else s.zero.getD 0 undef), s.size, s.bytes)) (h2 : tsB P t s = true) (h3 : True) : TSOk P t s := by
  unfold tsB at h2
  simp only [Bool.and_eq_true] at h2
  obtain ⟨⟨⟨⟨g1, g2⟩, g3⟩, g4⟩, g5⟩ := h2
  refine ⟨?_, by simpa using g1, by simpa using g2, fun ha => by simpa [ha] using g3, ?_, fun flds hk p hp => ?_⟩
  · cases hi : P.info? t with
    | none => rw [hi] at h1; cases h1
    | some i =>
      rw [hi] at h1
      simp only [Option.map_some, Option.some.injEq, Prod.mk.injEq] at h1
      exact ⟨i, rfl, h1.2.1, h1.2.2, h1.1⟩
  · split at g4
    · exact ⟨_, ‹_›, kokB_ok g4⟩
    · cases g4
  · rw [hk] at g5
    simp only [List.all_eq_true] at g5
    exact Option.isSome_iff_exists.1 (g5 p hp)
end Go.Proofs.Ytcleiaibcfocdaa.Am
