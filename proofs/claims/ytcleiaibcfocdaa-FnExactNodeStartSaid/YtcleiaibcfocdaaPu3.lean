/- Plain law, part 3: the program's data; its orders; numbers that are drawn. -/
import Derived.Test.YtcleiaibcfocdaaPu2
set_option linter.unusedVariables false
set_option linter.unusedSimpArgs false
namespace Go.Proofs.Ytcleiaibcfocdaa.Am

structure Ev where
  time : Int
  to : Int
  from' : Int
  count : Int
  n : Int
  kind : Int
  arg : Int
  deriving DecidableEq, Inhabited
structure Ou where
  time : Int
  proc : Int
  count : Int
  n : Int
  value : Int
  deriving DecidableEq, Inhabited
structure St where
  x : Int
  y : Int
  count : Int
  deriving DecidableEq, Inhabited
structure Pa where
  ev : Ev
  after : St
  sends : List Ev
  outs : List Ou
  deriving DecidableEq, Inhabited
structure La where
  proc : Int
  base : St
  done : List Pa
  deriving DecidableEq, Inhabited
structure Vi where
  inc : Int
  version : Int
  events : List Ev
  deriving DecidableEq, Inhabited
structure Nd where
  id : Int
  up : Bool
  inc : Int
  g : Int
  lanes : List La
  kept : List Ev
  outs : List Ou
  led : Int
  version : Int
  views : List Vi
  known : List Int
  round : Int
  low : Int
  deriving DecidableEq, Inhabited
def evN (e : Ev) : List Int := [e.time, e.to, e.from', e.count, e.n, e.kind, e.arg]
def ouL (o : Ou) : List Int := [o.time, o.proc, o.count, o.n, o.value]
def stL (s : St) : List Int := [s.x, s.y, s.count]
theorem evN_inj {a b : Ev} (h : evN a = evN b) : a = b := by
  cases a; cases b; simp [evN] at h; simp [h]
theorem ouL_inj {a b : Ou} (h : ouL a = ouL b) : a = b := by
  cases a; cases b; simp [ouL] at h; simp [h]

/-! ### orders -/
def cmpL : List Int → List Int → Int
  | a :: as, b :: bs => if a < b then -1 else if b < a then 1 else cmpL as bs
  | [], [] => 0
  | [], _ :: _ => -1
  | _ :: _, [] => 1
theorem cmpL_cons (a b : Int) (as bs : List Int) : cmpL (a :: as) (b :: bs) = if a < b then -1 else if b < a then 1 else cmpL as bs := rfl
theorem cmpL_lex : ∀ as bs : List Int, as.length = bs.length → decide (cmpL as bs < 0) = lexB as bs
  | [], [], _ => rfl
  | [], _ :: _, h => by simp at h
  | _ :: _, [], h => by simp at h
  | a :: as, b :: bs, h => by
    rw [cmpL_cons, lexB_cons]
    by_cases h1 : a < b
    · rw [if_pos h1, if_pos h1]; rfl
    · rw [if_neg h1, if_neg h1]
      by_cases h2 : b < a
      · rw [if_pos h2, if_pos h2]; rfl
      · rw [if_neg h2, if_neg h2]; exact cmpL_lex as bs (by simpa using h)
theorem cmpL_drop {as bs : List Int} {i : Nat} {a b : Int} (ha : as[i]? = some a) (hb : bs[i]? = some b) : cmpL (as.drop i) (bs.drop i) = if a < b then -1 else if b < a then 1 else cmpL (as.drop (i + 1)) (bs.drop (i + 1)) := by
  obtain ⟨h1, e1⟩ := List.getElem?_eq_some_iff.1 ha
  obtain ⟨h2, e2⟩ := List.getElem?_eq_some_iff.1 hb
  rw [List.drop_eq_getElem_cons h1, List.drop_eq_getElem_cons h2, e1, e2, cmpL_cons]
def evLt (a b : Ev) : Bool := lexB (evN a) (evN b)
def ouLt (a b : Ou) : Bool := lexB (ouL a) (ouL b)
theorem evSTO : STO evLt := ⟨fun a => lexB_irr _, fun a b c => lexB_trans _ _ _, fun a b h => lexB_tot _ _ rfl (fun e => h (evN_inj e))⟩
theorem ouSTO : STO ouLt := ⟨fun a => lexB_irr _, fun a b c => lexB_trans _ _ _, fun a b h => lexB_tot _ _ rfl (fun e => h (ouL_inj e))⟩
/-- Events in their order, each once. -/
def evSort (l : List Ev) : List Ev := srtU evLt l
def ouSort (l : List Ou) : List Ou := srtW ouLt l
/-- Events, each once, as they come first. -/
def evOnce : List Ev → List Ev := List.foldl (fun acc e => if e ∈ acc then acc else acc ++ [e]) []
theorem foldl_once (x : Ev) : ∀ (l acc : List Ev), x ∈ l.foldl (fun acc e => if e ∈ acc then acc else acc ++ [e]) acc ↔ x ∈ acc ∨ x ∈ l
  | [], acc => by simp
  | e :: l, acc => by
    rw [List.foldl_cons, foldl_once x l]
    split
    · rename_i h
      simp only [List.mem_cons]
      constructor
      · rintro (h' | h')
        · exact .inl h'
        · exact .inr (.inr h')
      · rintro (h' | h' | h')
        · exact .inl h'
        · subst h'; exact .inl h
        · exact .inr h'
    · simp only [List.mem_append, List.mem_cons, List.not_mem_nil, or_false, or_assoc]
theorem foldl_once_nodup : ∀ (l acc : List Ev), acc.Nodup → (l.foldl (fun acc e => if e ∈ acc then acc else acc ++ [e]) acc).Nodup
  | [], acc, h => h
  | e :: l, acc, h => by
    rw [List.foldl_cons]
    refine foldl_once_nodup l _ ?_
    split
    · exact h
    · rename_i hne
      exact List.nodup_append.2 ⟨h, by simp, fun a ha b hb => by
        rw [List.mem_singleton] at hb; subst hb; rintro rfl; exact hne ha⟩
theorem evOnce_mem (x : Ev) (l : List Ev) : x ∈ evOnce l ↔ x ∈ l := by rw [evOnce, foldl_once]; simp
theorem evOnce_nodup (l : List Ev) : (evOnce l).Nodup := foldl_once_nodup l [] .nil
theorem evOnce_snoc (l : List Ev) (e : Ev) : evOnce (l ++ [e]) = if e ∈ evOnce l then evOnce l else evOnce l ++ [e] := by
  simp only [evOnce, List.foldl_append, List.foldl_cons, List.foldl_nil]
  rfl
theorem evOnce_len (l : List Ev) : (evOnce l).length ≤ l.length := by
  have : ∀ (l acc : List Ev), (l.foldl (fun acc e => if e ∈ acc then acc else acc ++ [e]) acc).length ≤ acc.length + l.length := by
    intro l
    induction l with
    | nil => simp
    | cons e l ih =>
      intro acc
      rw [List.foldl_cons]
      refine Nat.le_trans (ih _) ?_
      split <;> simp <;> omega
  have := this l []
  simpa [evOnce] using this
/-- What a heap makes of events, each once. -/
theorem evSort_heap (l : List Ev) : hdrain evLt (evOnce l).length (hfill evLt (evOnce l)) = evSort l := by
  rw [hsort_eq evSTO, srtW_srtU evSTO (evOnce_nodup l) (fun x => evOnce_mem x l)]; rfl

def nodeOf (p : Int) : Int := if 0 ≤ p ∧ p ≤ 3 then p.tmod 3 else -1
def appFirst (p : Int) : Ev := if 0 ≤ p ∧ p ≤ 3 then ⟨0, p, -1, 0, p, 0, p⟩ else ⟨0, 0, 0, 0, 0, 0, 0⟩
def procs (id : Int) : Nat → List Int
  | 0 => []
  | k + 1 => if nodeOf (k : Int) = id then procs id k ++ [(k : Int)] else procs id k
theorem procs_succ (id : Int) (k : Nat) : procs id (k + 1) = if nodeOf (k : Int) = id then procs id k ++ [(k : Int)] else procs id k := rfl
theorem procs_len (id : Int) : ∀ k, (procs id k).length ≤ k
  | 0 => Nat.le_refl _
  | k + 1 => by
    have := procs_len id k
    rw [procs_succ]; split <;> simp <;> omega
def pkx (bs : List Nat) (p : Nat) : Nat := bs.getD (p % bs.length) 0 * 131 + bs.getD ((p * 7 + 3) % bs.length) 0 * 1117 + p * 29 + p / bs.length * 53
def pk (bs : List Nat) (p n : Nat) : Nat :=
  if n = 0 ∨ bs.length = 0 then 0
  else if p < bs.length then bs.getD p 0 % n
  else (pkx bs p ^^^ pkx bs p / 64) % n
theorem pk_lt (bs : List Nat) (p n : Nat) (h : 0 < n) : pk bs p n < n := by
  unfold pk
  split
  · exact h
  · split <;> exact Nat.mod_lt _ h
def lane0 (p : Int) : La := ⟨p, ⟨0, 0, 0⟩, []⟩
def bp (l : La) : St × Int := (l.base, l.proc)
def keptP (a b : Nd) : Prop := a.id = b.id ∧ a.inc = b.inc ∧ a.g = b.g ∧ a.led = b.led ∧ a.kept = b.kept ∧ a.outs = b.outs ∧ a.lanes.map bp = b.lanes.map bp
instance (a b : Nd) : Decidable (keptP a b) := by unfold keptP; infer_instance
theorem cmp_ne {a b r : Int} (h : ¬ (if a < b then -1 else if b < a then 1 else 0 : Int) = 0) : (if a < b then -1 else if b < a then 1 else r) = (if a < b then -1 else if b < a then 1 else 0 : Int) := by
  split
  · rfl
  · split
    · rfl
    · rename_i h1 h2; rw [if_neg h1, if_neg h2] at h; exact absurd rfl h
theorem cmp_eq {a b r : Int} (h : (if a < b then -1 else if b < a then 1 else 0 : Int) = 0) : (if a < b then -1 else if b < a then 1 else r) = r := by
  split at h
  · omega
  · split at h
    · omega
    · rename_i h1 h2; rw [if_neg h1, if_neg h2]
def nd0 : Nd := ⟨0, false, 0, 0, [], [], [], 0, 0, [], [], 0, 0⟩
def vi0 : Vi := ⟨0, 0, []⟩
def nodeStart (id : Int) : Nd := if 0 ≤ id ∧ id ≤ 2 then ⟨id, true, 1, 0, (procs id 4).map lane0, evSort ((procs id 4).map appFirst), [], 0, 1, [vi0, vi0, vi0], [0, 0, 0], 0, 41⟩ else nd0
def laneBlank (l : La) : La := ⟨l.proc, l.base, []⟩
def nodeBlank (n : Nd) : Nd := ⟨n.id, n.up, n.inc, n.g, n.lanes.map laneBlank, n.kept, n.outs, n.led, 0, [vi0, vi0, vi0], [0, 0, 0], 0, 41⟩
theorem kept_sorted {id : Int} (h : 0 ≤ id ∧ id ≤ 2) : evSort ((procs id 4).map appFirst) = (procs id 4).map appFirst := by
  have : id = 0 ∨ id = 1 ∨ id = 2 := by omega
  rcases this with rfl | rfl | rfl <;> decide
theorem procs_mem {id q : Int} : ∀ {k : Nat}, q ∈ procs id k → nodeOf q = id ∧ 0 ≤ q ∧ q < k
  | 0, h => by cases h
  | k + 1, h => by
    rw [procs_succ] at h
    split at h
    · rcases List.mem_append.1 h with h | h
      · have := procs_mem h; omega
      · rw [List.mem_singleton] at h; subst h; exact ⟨by assumption, by omega, by omega⟩
    · have := procs_mem h; omega
/-- How many of the first nodes have the process. -/
def fnd (p : Int) (i : Nat) : Int := if 0 ≤ nodeOf p ∧ nodeOf p < i then 1 else 0
theorem fnd_step {p : Int} (h1 : -2 ≤ p) (h2 : p ≤ 5) {i : Nat} (hi : i < 3) : fnd p (i + 1) = fnd p i + ((procs (i : Int) 4).count p : Nat) := by
  have hp : p = -2 ∨ p = -1 ∨ p = 0 ∨ p = 1 ∨ p = 2 ∨ p = 3 ∨ p = 4 ∨ p = 5 := by omega
  have hi' : i = 0 ∨ i = 1 ∨ i = 2 := by omega
  rcases hp with rfl | rfl | rfl | rfl | rfl | rfl | rfl | rfl <;> rcases hi' with rfl | rfl | rfl <;> decide
theorem fnd_le (p : Int) (i : Nat) : 0 ≤ fnd p i ∧ fnd p i ≤ 1 := by unfold fnd; split <;> omega
theorem nodeOf_lt (p : Int) : nodeOf p < 3 ∧ (0 ≤ nodeOf p ↔ 0 ≤ p ∧ p < 4) := by
  unfold nodeOf
  split
  · rename_i h
    have : p = 0 ∨ p = 1 ∨ p = 2 ∨ p = 3 := by omega
    rcases this with rfl | rfl | rfl | rfl <;> decide
  · omega
theorem fnd_end (p : Int) : fnd p 3 = 1 ↔ 0 ≤ nodeOf p := by
  have := (nodeOf_lt p).1
  unfold fnd; split <;> omega
end Go.Proofs.Ytcleiaibcfocdaa.Am
