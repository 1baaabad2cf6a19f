/- Marks: numbers put into data, one behind the other. -/
import Derived.Test.YtcleiaibcfocdaaPu3
set_option linter.unusedVariables false
set_option linter.unusedSimpArgs false
namespace Go.Proofs.Ytcleiaibcfocdaa.Am

section
variable {α : Type} (sz : α → Nat) (mk : Nat → α → α)
def szs : List α → Nat
  | [] => 0
  | p :: r => sz p + szs r
def mks : Nat → List α → List α
  | _, [] => []
  | k, p :: r => mk k p :: mks (k + sz p) r
theorem mks_len (k : Nat) (l : List α) : (mks sz mk k l).length = l.length := by
  induction l generalizing k with
  | nil => rfl
  | cons p r ih => simp [mks, ih]
theorem szs_take {l : List α} {i : Nat} {p : α} (h : l[i]? = some p) : szs sz (l.take (i + 1)) = szs sz (l.take i) + sz p := by
  induction l generalizing i with
  | nil => simp at h
  | cons a r ih =>
    cases i with
    | zero => simp at h; subst h; simp [szs]
    | succ i => simp at h; simp only [List.take_succ_cons, szs, ih h]; omega
theorem szs_take_le (l : List α) (i : Nat) : szs sz (l.take i) ≤ szs sz l := by
  induction l generalizing i with
  | nil => simp
  | cons a r ih =>
    cases i with
    | zero => simp [szs]
    | succ i => simp only [List.take_succ_cons, szs]; have := ih i; omega
theorem szs_at {l : List α} {i : Nat} {p : α} (h : l[i]? = some p) : szs sz (l.take i) + sz p ≤ szs sz l := by
  rw [← szs_take sz h]; exact szs_take_le sz l (i + 1)
theorem szs_len (h : ∀ p, 1 ≤ sz p) (l : List α) : l.length ≤ szs sz l := by
  induction l with
  | nil => exact Nat.zero_le _
  | cons a r ih => have := h a; simp only [szs, List.length_cons]; omega
theorem mks_get {l : List α} {k i : Nat} {p : α} (h : l[i]? = some p) : (mks sz mk k l)[i]? = some (mk (k + szs sz (l.take i)) p) := by
  induction l generalizing i k with
  | nil => simp at h
  | cons a r ih =>
    cases i with
    | zero => simp at h; subst h; simp [mks, szs]
    | succ i => simp at h; simp only [mks, List.getElem?_cons_succ, ih h, List.take_succ_cons, szs]; rw [Nat.add_assoc]
end
theorem take_snoc {α : Type} {l : List α} {i : Nat} {e : α} (h : l[i]? = some e) : l.take (i + 1) = l.take i ++ [e] := by
  rw [List.take_add_one, h]; rfl
theorem drop_cons {α : Type} {l : List α} {i : Nat} {p : α} (h : l[i]? = some p) : l.drop i = p :: l.drop (i + 1) := by
  obtain ⟨hi, rfl⟩ := List.getElem?_eq_some_iff.1 h
  exact List.drop_eq_getElem_cons hi

def mEv (k : Nat) : Ev := ⟨k, (k + 1 : Nat), (k + 1 + 1 : Nat), (k + 1 + 1 + 1 : Nat), (k + 1 + 1 + 1 + 1 : Nat), (k + 1 + 1 + 1 + 1 + 1 : Nat), (k + 1 + 1 + 1 + 1 + 1 + 1 : Nat)⟩
def mOu (k : Nat) : Ou := ⟨k, (k + 1 : Nat), (k + 1 + 1 : Nat), (k + 1 + 1 + 1 : Nat), (k + 1 + 1 + 1 + 1 : Nat)⟩
def mSt (k : Nat) : St := ⟨k, (k + 1 : Nat), (k + 1 + 1 : Nat)⟩
def zI : Int → Nat := fun _ => 1
def kI : Nat → Int → Int := fun k _ => (k : Int)
def zEv : Ev → Nat := fun _ => 7
def kEv : Nat → Ev → Ev := fun k _ => mEv k
def zOu : Ou → Nat := fun _ => 5
def kOu : Nat → Ou → Ou := fun k _ => mOu k
def zPa (p : Pa) : Nat := 10 + szs zEv p.sends + szs zOu p.outs
def kPa (k : Nat) (p : Pa) : Pa := ⟨mEv k, mSt (k + 7), mks zEv kEv (k + 10) p.sends, mks zOu kOu (k + 10 + szs zEv p.sends) p.outs⟩
def zLa (l : La) : Nat := 4 + szs zPa l.done
def kLa (k : Nat) (l : La) : La := ⟨(k : Int), mSt (k + 1), mks zPa kPa (k + 4) l.done⟩
def zVi (v : Vi) : Nat := 2 + szs zEv v.events
def kVi (k : Nat) (v : Vi) : Vi := ⟨(k : Int), (k + 1 : Nat), mks zEv kEv (k + 2) v.events⟩
def zNd (n : Nd) : Nat := szs zLa n.lanes + szs zEv n.kept + szs zOu n.outs + szs zVi n.views + szs zI n.known
def kNd (k : Nat) (n : Nd) : Nd := { n with
  lanes := mks zLa kLa k n.lanes
  kept := mks zEv kEv (k + szs zLa n.lanes) n.kept
  outs := mks zOu kOu (k + szs zLa n.lanes + szs zEv n.kept) n.outs
  views := mks zVi kVi (k + szs zLa n.lanes + szs zEv n.kept + szs zOu n.outs) n.views
  known := mks zI kI (k + szs zLa n.lanes + szs zEv n.kept + szs zOu n.outs + szs zVi n.views) n.known }
theorem zNd_start (id : Int) : zNd (nodeStart id) ≤ 1000 := by
  unfold nodeStart
  split
  · rename_i h
    have : id = 0 ∨ id = 1 ∨ id = 2 := by omega
    rcases this with rfl | rfl | rfl <;> decide
  · decide
end Go.Proofs.Ytcleiaibcfocdaa.Am
