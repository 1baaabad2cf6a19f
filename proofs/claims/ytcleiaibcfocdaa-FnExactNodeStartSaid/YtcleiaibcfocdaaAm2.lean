/- The abstract machine, part 2: the heap of ids, frames, and what an operation leaves of them. -/
import Derived.Test.YtcleiaibcfocdaaAm1
set_option linter.unusedVariables false
set_option linter.unusedSimpArgs false
namespace Go.Proofs.Ytcleiaibcfocdaa.Am
open Go Go.RowKit

inductive Ent where
  | dead
  | box (ty : TypeId) (cs : List AV)
  | row (ty sz : Nat) (xs : List (List AV))
  | map (es : List (Value × AV))
  | chn (ty lty : TypeId) (xs : List (List AV))
  deriving Inhabited

abbrev Hp := List (Nat × (Nat × Ent))
abbrev HF := Nat → Option (Nat × Ent)
abbrev Fr := List (Nat × AV)
abbrev FF := Nat → Option AV

def wfind : Hp → Nat → Option (Nat × Ent)
  | [], _ => none
  | (i, ge) :: r, k => match Nat.beq i k with
    | true => some ge
    | false => wfind r k
theorem wfind_nil (k : Nat) : wfind [] k = none := rfl
theorem wfind_cons (i : Nat) (ge : Nat × Ent) (r : Hp) (k : Nat) : wfind ((i, ge) :: r) k = if i = k then some ge else wfind r k := by
  simp only [wfind]
  by_cases e : i = k
  · rw [if_pos e, (Nat.beq_eq ▸ e : Nat.beq _ _ = true)]
  · rw [if_neg e]
    cases hb : Nat.beq i k with
    | false => rfl
    | true => exact absurd (Nat.eq_of_beq_eq_true hb) e
def hf (l : Hp) : HF := wfind l
def upd (h : HF) (id : Nat) (ge : Nat × Ent) : HF := fun k => if k = id then some ge else h k
theorem upd_same (h : HF) (id : Nat) (ge : Nat × Ent) : upd h id ge id = some ge := by simp [upd]
theorem upd_other {h : HF} {id k : Nat} (ge : Nat × Ent) (hne : k ≠ id) : upd h id ge k = h k := by simp [upd, hne]
theorem hf_cons (l : Hp) (id : Nat) (ge : Nat × Ent) : hf ((id, ge) :: l) = upd (hf l) id ge := by
  funext k
  simp only [hf, upd, wfind_cons]
  by_cases e : k = id
  · simp [e]
  · simp [e, Ne.symm e]

def Fr.get : Fr → Nat → Option AV
  | [], _ => none
  | (j, v) :: r, k => match Nat.beq j k with
    | true => some v
    | false => Fr.get r k
theorem Fr.get_cons (j : Nat) (v : AV) (r : Fr) (k : Nat) : Fr.get ((j, v) :: r) k = if j = k then some v else Fr.get r k := by
  simp only [Fr.get]
  by_cases e : j = k
  · rw [if_pos e, (Nat.beq_eq ▸ e : Nat.beq _ _ = true)]
  · rw [if_neg e]
    cases hb : Nat.beq j k with
    | false => rfl
    | true => exact absurd (Nat.eq_of_beq_eq_true hb) e

/-- Cells and what they are. -/
structure VRs (X : Cx) (w : World) (cs : List AV) (us : List Value) : Prop where
  len : us.length = cs.length
  one : ∀ (i : Nat) (y : AV), cs[i]? = some y → y.one = true
  rel : ∀ (i : Nat) (y : AV) (u : Value), cs[i]? = some y → us[i]? = some u → VR X w y u

/-- Closed cells. -/
structure CRs (ok1 ok2 : Nat → Prop) (w : World) (cs : List AV) (us : List Value) : Prop where
  len : us.length = cs.length
  one : ∀ (i : Nat) (y : AV), cs[i]? = some y → y.one = true
  rel : ∀ (i : Nat) (y : AV) (u : Value), cs[i]? = some y → us[i]? = some u → CR ok1 ok2 w y u

theorem VRs.nil {X : Cx} {w : World} : VRs X w [] [] := ⟨rfl, fun i y h => by simp at h, fun i y u h => by simp at h⟩
theorem VRs.cons {X : Cx} {w : World} {c : AV} {u : Value} {cs : List AV} {us : List Value} (h1 : c.one = true) (h2 : VR X w c u) (h3 : VRs X w cs us) : VRs X w (c :: cs) (u :: us) := by
  refine ⟨by simp [h3.len], fun i y hy => ?_, fun i y x hy hx => ?_⟩
  · cases i with
    | zero => have : c = y := by simpa using hy
              rw [← this]; exact h1
    | succ i => exact h3.one i y (by simpa using hy)
  · cases i with
    | zero => have e1 : c = y := by simpa using hy
              have e2 : u = x := by simpa using hx
              rw [← e1, ← e2]; exact h2
    | succ i => exact h3.rel i y x (by simpa using hy) (by simpa using hx)
theorem VRs.tail {X : Cx} {w : World} {c : AV} {u : Value} {cs : List AV} {us : List Value} (h : VRs X w (c :: cs) (u :: us)) : VRs X w cs us :=
  ⟨by simpa using h.len, fun i y hy => h.one (i + 1) y (by simpa using hy), fun i y x hy hx => h.rel (i + 1) y x (by simpa using hy) (by simpa using hx)⟩
theorem CRs.nil {o1 o2 : Nat → Prop} {w : World} : CRs o1 o2 w [] [] := ⟨rfl, fun i y h => by simp at h, fun i y u h => by simp at h⟩
theorem CRs.cons {o1 o2 : Nat → Prop} {w : World} {c : AV} {u : Value} {cs : List AV} {us : List Value} (h1 : c.one = true) (h2 : CR o1 o2 w c u) (h3 : CRs o1 o2 w cs us) : CRs o1 o2 w (c :: cs) (u :: us) := by
  refine ⟨by simp [h3.len], fun i y hy => ?_, fun i y x hy hx => ?_⟩
  · cases i with
    | zero => have : c = y := by simpa using hy
              rw [← this]; exact h1
    | succ i => exact h3.one i y (by simpa using hy)
  · cases i with
    | zero => have e1 : c = y := by simpa using hy
              have e2 : u = x := by simpa using hx
              rw [← e1, ← e2]; exact h2
    | succ i => exact h3.rel i y x (by simpa using hy) (by simpa using hx)

def Lens (sz : Nat) (xs : List (List AV)) : Prop := ∀ (j : Nat) (x : List AV), xs[j]? = some x → x.length = sz

/-- A slice of one's own: nil, or without room, or at the head of a block of its own. -/
def Own (w : World) (e size : Nat) (v : Value) (n : Nat) (xs : List Value) : Prop :=
  xs.length = n * size ∧ ((∃ A, v = .slice A 0 0 ∧ n = 0) ∨
    ∃ g cap cur, v = .slice (some ⟨g, 0, none⟩) n cap ∧ 0 < cap ∧ w.heap[g]? = some (.cells cur e (0, 0)) ∧ n ≤ cap ∧ cap ≤ maxLen ∧ cur.size = cap * size ∧ cur.toList.take (n * size) = xs)
def ownB : Value → Option Nat
  | .slice (some a) _ (_ + 1) => some a.block
  | _ => none
theorem ownB_pos {a : Addr} {n c : Nat} (h : 0 < c) : ownB (.slice (some a) n c) = some a.block := by
  cases c with
  | zero => omega
  | succ c => rfl
theorem ownB_some {a : Addr} {n c b : Nat} (h : ownB (.slice (some a) n c) = some b) : b = a.block := by
  cases c with
  | zero => cases h
  | succ c => cases h; rfl
theorem ownB_zero (A : Option Addr) (n : Nat) : ownB (.slice A n 0) = none := by cases A <;> rfl
theorem Own.of {w : World} {e size : Nat} {v : Value} {n : Nat} {xs : List Value} (h : w.ownsRow 0 e size v n xs) : Own w e size v n xs := by
  refine ⟨h.1, ?_⟩
  rcases h.2 with ⟨h1, h2⟩ | ⟨g, cap, cur, h1, h2, h3, h4, h5, h6, h7⟩
  · exact .inl ⟨_, h1, h2⟩
  · by_cases hc : cap = 0
    · subst hc
      have : n = 0 := by omega
      subst this
      exact .inl ⟨_, h1, rfl⟩
    · exact .inr ⟨g, cap, cur, h1, by omega, h3, h4, h5, h6, h7⟩
theorem Own.split {w : World} {e size : Nat} {v : Value} {n : Nat} {xs : List Value} (h : Own w e size v n xs) : (∃ A, v = .slice A 0 0 ∧ n = 0 ∧ xs = []) ∨ (w.ownsRow 0 e size v n xs ∧ ownB v = v.ownBlock) := by
  rcases h.2 with ⟨A, h1, h2⟩ | ⟨g, cap, cur, h1, h0, h3, h4, h5, h6, h7⟩
  · refine .inl ⟨A, h1, h2, ?_⟩
    have := h.1
    rw [h2, Nat.zero_mul] at this
    exact List.eq_nil_of_length_eq_zero this
  · refine .inr ⟨⟨h.1, .inr ⟨g, cap, cur, h1, Nat.zero_le _, h3, h4, h5, h6, h7⟩⟩, ?_⟩
    rw [h1, ownB_pos h0]; rfl

theorem Own.cells {w : World} {e size : Nat} {v : Value} {n : Nat} {xs : List Value} (h : Own w e size v n xs) {j : Nat} {u : Value} (hu : xs[j]? = some u) : ∃ b c, v = .slice (some ⟨b, 0, none⟩) n c ∧ 0 < c ∧ w.cell? ((⟨b, 0, none⟩ : Addr).add j) = some u := by
  rcases h.split with ⟨A, _, _, h1⟩ | ⟨h1, _⟩
  · subst h1; simp at hu
  · rcases h.2 with ⟨A, _, h2⟩ | ⟨g, cap, cur, h2, h0, _⟩
    · have := h.1
      rw [h2, Nat.zero_mul] at this
      rw [List.eq_nil_of_length_eq_zero this] at hu; simp at hu
    · subst h2
      exact ⟨g, cap, rfl, h0, h1.cells (g := g) rfl j u hu⟩
theorem Own.n0 {w : World} {e size : Nat} {n m c : Nat} {A : Option Addr} {xs : List Value} (h : Own w e size (.slice A m c) n xs) : m = n ∧ n ≤ c ∧ c ≤ maxLen := by
  rcases h.2 with ⟨A, h1, h2⟩ | ⟨g, cap, cur, h1, h0, _, h4, h5, _⟩
  · cases h1; exact ⟨h2.symm, by omega, by unfold maxLen; omega⟩
  · cases h1; exact ⟨rfl, h4, h5⟩

theorem Own.lt {w : World} {e size : Nat} {v : Value} {n : Nat} {xs : List Value} (h : Own w e size v n xs) {b : Nat} (hb : ownB v = some b) : b < w.heap.size := by
  rcases h.2 with ⟨A, h1, h2⟩ | ⟨g, cap, cur, h1, h0, h3, _⟩
  · subst h1; rw [ownB_zero] at hb; cases hb
  · subst h1; rw [ownB_pos h0] at hb; cases hb
    exact (Array.getElem?_eq_some_iff.1 h3).1

/-- A context without ids. -/
def Cx.bare (X : Cx) : Cx := ⟨X.ok1, X.ok2, fun _ _ => none, fun _ _ => none⟩
theorem Cx.bare_le (X : Cx) : X.bare.le X := ⟨fun _ h => h, fun _ h => h, fun _ _ _ h => (by cases h), fun _ _ _ h => (by cases h)⟩
theorem Cx.le.bare {X Y : Cx} (h : X.le Y) : X.bare.le Y.bare := ⟨h.ok1, h.ok2, fun _ _ _ h => (by cases h), fun _ _ _ h => (by cases h)⟩
/-- An entry's cells. S: the blocks of the rows that they own. What these hold names no id. -/
inductive TRs : Cx → World → List AV → List Value → List Nat → Prop
  | nil {X : Cx} {w : World} : TRs X w [] [] []
  | vr {X : Cx} {w : World} {y : AV} {u : Value} {cs : List AV} {us : List Value} {S : List Nat} (h1 : y.one = true) (h2 : y.isOw = false) (h : VR X w y u) (t : TRs X w cs us S) : TRs X w (y :: cs) (u :: us) S
  | own {X : Cx} {w : World} {ty sz : Nat} {xs : List (List AV)} {v : Value} {ws : List Value} {S' : List Nat} {cs : List AV} {us : List Value} {S : List Nat} (ho : Own w ty sz v xs.length ws) (hl : Lens sz xs) (hi : TRs X.bare w xs.flatten ws S') (t : TRs X w cs us S) :
      TRs X w (.row .ow ty sz xs :: cs) (v :: us) ((ownB v).toList ++ S' ++ S)

theorem ownsRow_mono {w w' : World} {ty sz n : Nat} {v : Value} {us : List Value} (h : Own w ty sz v n us) (hb : ∀ b, (ownB v) = some b → w'.heap[b]? = w.heap[b]?) : Own w' ty sz v n us := by
  refine ⟨h.1, ?_⟩
  rcases h.2 with h5 | ⟨k, cap, cur, rfl, h0, h7, h8⟩
  · exact .inl h5
  · refine .inr ⟨k, cap, cur, rfl, h0, ?_, h8⟩
    rw [hb k (ownB_pos h0)]
    exact h7
theorem ownsRow_one {w : World} {ty sz n : Nat} {v : Value} {us : List Value} (h : Own w ty sz v n us) : v.oneCell' = true := by
  rcases h.2 with ⟨A, rfl, _⟩ | ⟨k, cap, cur, rfl, _⟩ <;> rfl

theorem TRs.mono {X Y : Cx} {w w' : World} {cs : List AV} {us : List Value} {S : List Nat} (h : TRs X w cs us S) (hX : X.le Y) (h12 : ∀ b, X.ok1 b → X.ok2 b) (hw : ∀ b, X.ok2 b → w'.heap[b]? = w.heap[b]?) (hS : ∀ b ∈ S, w'.heap[b]? = w.heap[b]?) : TRs Y w' cs us S := by
  induction h generalizing Y with
  | nil => exact .nil
  | vr h1 h2 h _ ih => exact .vr h1 h2 (h.mono hX h12 hw) (ih hX h12 hw hS)
  | own ho hl _ _ ih1 ih2 =>
    exact .own (ownsRow_mono ho (fun b hb => hS b (by simp [hb]))) hl (ih1 hX.bare h12 hw (fun b hb => hS b (by simp [hb]))) (ih2 hX h12 hw (fun b hb => hS b (by simp [hb])))

/-- What is known of the cells apart from whose they are. -/
theorem TRs.vrs {X : Cx} {w : World} {cs : List AV} {us : List Value} {S : List Nat} (h : TRs X w cs us S) : VRs X w cs us := by
  induction h with
  | nil => exact .nil
  | vr h1 h2 h _ ih => exact .cons h1 h ih
  | own ho hl _ _ _ ih => exact .cons rfl (.owd _ (ownsRow_one ho)) ih
/-- Cells that name no id. -/
def AV.flat : AV → Bool
  | .pv _ => true
  | .row _ _ _ _ => true
  | .ifc _ (.pv _) => true
  | _ => false
theorem VR.flat {X Y : Cx} {w : World} {a : AV} {v : Value} (h : VR X w a v) (hf : a.flat = true) (h1 : ∀ b, X.ok1 b → Y.ok1 b) (h2 : ∀ b, X.ok2 b → Y.ok2 b) (h12 : ∀ b, X.ok1 b → X.ok2 b) : VR Y w a v := by
  cases h with
  | owd v h => exact .owd v h
  | cl h => exact .cl (h.mono h1 h2 h12 (fun _ _ => rfl))
  | ifc t a v h =>
    cases a with
    | pv u => exact .ifc _ _ _ (by cases h with | cl h => exact .cl (h.mono h1 h2 h12 (fun _ _ => rfl)))
    | _ => simp [AV.flat] at hf
  | _ => simp [AV.flat] at hf
theorem TRs.flat {X Y : Cx} {w : World} {cs : List AV} {us : List Value} {S : List Nat} (h : TRs X w cs us S) (h1 : ∀ b, X.ok1 b → Y.ok1 b) (h2 : ∀ b, X.ok2 b → Y.ok2 b) (h12 : ∀ b, X.ok1 b → X.ok2 b) : (∀ c ∈ cs, c.flat = true) → TRs Y w cs us S := by
  intro hf
  induction h generalizing Y with
  | nil => exact .nil
  | vr h3 h4 h _ ih => exact .vr h3 h4 (h.flat (hf _ (by simp)) h1 h2 h12) (ih h1 h2 h12 (fun c hc => hf c (by simp [hc])))
  | own ho hl hi _ _ ih => exact .own ho hl (hi.mono ⟨h1, h2, fun _ _ _ h => (by cases h), fun _ _ _ h => (by cases h)⟩ h12 (fun _ _ => rfl) (fun _ _ => rfl)) (ih h1 h2 h12 (fun c hc => hf c (by simp [hc])))
theorem TRs.len {X : Cx} {w : World} {cs : List AV} {us : List Value} {S : List Nat} (h : TRs X w cs us S) : us.length = cs.length := h.vrs.len

theorem VRs.trs {X : Cx} {w : World} : ∀ {cs : List AV} {us : List Value}, VRs X w cs us → (cs.all fun c => !c.isOw) = true → TRs X w cs us []
  | [], us, h, _ => by
    have := h.len
    cases us with
    | nil => exact .nil
    | cons => simp at this
  | c :: cs, us, h, ho => by
    cases us with
    | nil => have := h.len; simp at this
    | cons u us =>
      simp only [List.all_cons, Bool.and_eq_true, Bool.not_eq_true'] at ho
      exact .vr (h.one 0 c rfl) ho.1 (h.rel 0 c u rfl rfl) (VRs.trs h.tail ho.2)

theorem TRs.append {X : Cx} {w : World} {cs ds : List AV} {us vs : List Value} {S S' : List Nat} (h : TRs X w cs us S) (k : TRs X w ds vs S') : TRs X w (cs ++ ds) (us ++ vs) (S ++ S') := by
  induction h with
  | nil => exact k
  | vr h1 h2 h _ ih => exact .vr h1 h2 h (ih k)
  | own ho hl hi _ _ ih => have := TRs.own ho hl hi (ih k); simpa [List.append_assoc] using this
theorem TRs.split {X : Cx} {w : World} : ∀ {cs ds : List AV} {us : List Value} {S : List Nat}, TRs X w (cs ++ ds) us S → ∃ us1 us2 S1 S2, us = us1 ++ us2 ∧ S = S1 ++ S2 ∧ TRs X w cs us1 S1 ∧ TRs X w ds us2 S2
  | [], ds, us, S, h => ⟨[], us, [], S, rfl, rfl, .nil, h⟩
  | c :: cs, ds, us, S, h => by
    rw [List.cons_append] at h
    generalize hc : c :: (cs ++ ds) = l at h
    cases h with
    | nil => cases hc
    | vr h1 h2 h t =>
      injection hc with e1 e2
      subst e1 e2
      obtain ⟨us1, us2, S1, S2, rfl, rfl, k1, k2⟩ := TRs.split t
      exact ⟨_ :: us1, us2, S1, S2, rfl, rfl, .vr h1 h2 h k1, k2⟩
    | own ho hl hi t =>
      injection hc with e1 e2
      subst e1 e2
      obtain ⟨us1, us2, S1, S2, rfl, rfl, k1, k2⟩ := TRs.split t
      exact ⟨_ :: us1, us2, _, S2, rfl, by rw [← List.append_assoc], .own ho hl hi k1, k2⟩

def ptrOf (b : Option Nat) : Value := .pointer (b.map fun b => ⟨b, 0, none⟩)
/-- An entry. F: its blocks. -/
def EntOK (X : Cx) (w : World) (id g : Nat) (F : List Nat) : Ent → Prop
  | .dead => True
  | .box ty cs => ∃ b us S, X.bx id g = some b ∧ w.heap[b]? = some (.cells us.toArray ty (0, 0)) ∧ TRs X w cs us S ∧ (b :: S).Nodup ∧ ∀ c ∈ b :: S, c ∈ F
  | .row ty sz xs => ∃ v us S, X.rw id g = some (v, sz) ∧ Own w ty sz v xs.length us ∧ Lens sz xs ∧ TRs X w xs.flatten us S ∧ ((ownB v).toList ++ S).Nodup ∧ ∀ c ∈ (ownB v).toList ++ S, c ∈ F
  | .map es => ∃ b en, X.bx id g = some b ∧ b ∈ F ∧ w.heap[b]? = some (.map en es.length) ∧ en.size = es.length ∧
      (∀ (i : Nat) (k : Value) (a : AV) (e : MapEntry), es[i]? = some (k, a) → en[i]? = some e → e.key = k ∧ VR X w a e.val ∧ e.born = i)
  | .chn ty lty xs => ∃ (b : Nat) (bs : List Nat) (uss : List (List Value)), X.bx id g = some b ∧ w.heap[b]? = some (.cells #[ptrOf bs.head?, ptrOf bs.getLast?] ty (0, 0)) ∧ bs.length = xs.length ∧ uss.length = xs.length ∧
      (∀ (i : Nat) (c : Nat) (us : List Value), bs[i]? = some c → uss[i]? = some us → w.heap[c]? = some (.cells (us ++ [ptrOf bs[i + 1]?]).toArray lty (0, 0))) ∧
      (∀ (i : Nat) (x : List AV) (us : List Value), xs[i]? = some x → uss[i]? = some us → CRs X.ok1 X.ok2 w x us) ∧ (b :: bs).Nodup ∧ ∀ c ∈ b :: bs, c ∈ F

theorem VRs.mono {X Y : Cx} {w w' : World} {cs : List AV} {us : List Value} (h : VRs X w cs us) (hX : X.le Y) (h12 : ∀ b, X.ok1 b → X.ok2 b) (hw : ∀ b, X.ok2 b → w'.heap[b]? = w.heap[b]?) : VRs Y w' cs us :=
  ⟨h.len, h.one, fun i y u hy hu => (h.rel i y u hy hu).mono hX h12 hw⟩

theorem CRs.mono {o1 o2 p1 p2 : Nat → Prop} {w w' : World} {cs : List AV} {us : List Value} (h : CRs o1 o2 w cs us) (h1 : ∀ b, o1 b → p1 b) (h2 : ∀ b, o2 b → p2 b) (h12 : ∀ b, o1 b → o2 b) (hw : ∀ b, o2 b → w'.heap[b]? = w.heap[b]?) : CRs p1 p2 w' cs us :=
  ⟨h.len, h.one, fun i y u hy hu => (h.rel i y u hy hu).mono h1 h2 h12 hw⟩

theorem EntOK.mono {X Y : Cx} {w w' : World} {id g : Nat} {F : List Nat} {e : Ent} (h : EntOK X w id g F e) (hX : X.le Y) (h12 : ∀ b, X.ok1 b → X.ok2 b) (hw : ∀ b, X.ok2 b → w'.heap[b]? = w.heap[b]?)
    (hb : ∀ b ∈ F, w'.heap[b]? = w.heap[b]?) : EntOK Y w' id g F e := by
  cases e with
  | dead => exact h
  | box ty cs =>
    obtain ⟨b, us, S, h1, h2, h3, h4, h5⟩ := h
    exact ⟨b, us, S, hX.bx _ _ _ h1, (hb b (h5 b (by simp))).trans h2, h3.mono hX h12 hw (fun c hc => hb c (h5 c (by simp [hc]))), h4, h5⟩
  | row ty sz xs =>
    obtain ⟨v, us, S, h1, h2, h3, h4, h5, h6⟩ := h
    exact ⟨v, us, S, hX.rw _ _ _ h1, ownsRow_mono h2 (fun b hbb => hb b (h6 b (by simp [hbb]))), h3, h4.mono hX h12 hw (fun c hc => hb c (h6 c (by simp [hc]))), h5, h6⟩
  | map es =>
    obtain ⟨b, en, h1, h6, h2, h3, h4⟩ := h
    exact ⟨b, en, hX.bx _ _ _ h1, h6, (hb b h6).trans h2, h3, fun i k a e hi he => ⟨(h4 i k a e hi he).1, (h4 i k a e hi he).2.1.mono hX h12 hw, (h4 i k a e hi he).2.2⟩⟩
  | chn ty lty xs =>
    obtain ⟨b, bs, uss, h1, h2, h3, h4, h5, h6, h7, h8⟩ := h
    refine ⟨b, bs, uss, hX.bx _ _ _ h1, (hb b (h8 b (by simp))).trans h2, h3, h4, fun i c us hi hu => (hb c (h8 c ?_)).trans (h5 i c us hi hu), fun i x us hx hu => (h6 i x us hx hu).mono hX.ok1 hX.ok2 h12 hw, h7, h8⟩
    exact List.mem_cons_of_mem _ (List.mem_of_getElem? hi)

structure Base where
  w0 : World
  S0 : Nat → Prop
  O1 : Nat → Prop
  O2 : Nat → Prop

structure SRf (X : Cx) (B : Base) (h : HF) (F : Nat → List Nat) (w : World) : Prop where
  ent : ∀ id g e, h id = some (g, e) → EntOK X w id g (F id) e
  blk : ∀ id ge b, h id = some ge → b ∈ F id → b < w.heap.size
  sep : ∀ id id' ge ge' b, h id = some ge → h id' = some ge' → b ∈ F id → b ∈ F id' → id = id'
  ok2 : ∀ b, X.ok2 b → b < w.heap.size ∧ ∀ id ge, h id = some ge → b ∉ F id
  ok12 : ∀ b, X.ok1 b → X.ok2 b
  in1 : ∀ b, X.ok1 b → B.O1 b ∨ B.S0 b ∨ B.w0.heap.size ≤ b
  in2 : ∀ b, X.ok2 b → B.O2 b ∨ B.S0 b ∨ B.w0.heap.size ≤ b
  own : ∀ id ge b, h id = some ge → b ∈ F id → B.S0 b ∨ B.w0.heap.size ≤ b
  hist : ∀ id g, (∀ g' e, h id = some (g', e) → g' < g) → X.bx id g = none ∧ X.rw id g = none
  os : w.os = B.w0.os
  tape : w.tape = B.w0.tape
  output : w.output = B.w0.output
  size : B.w0.heap.size ≤ w.heap.size
  keep : ∀ b, b < B.w0.heap.size → ¬ B.S0 b → w.heap[b]? = B.w0.heap[b]?

def SRh (X : Cx) (B : Base) (h : HF) (w : World) : Prop := ∃ F, SRf X B h F w

theorem SRh.ok12 {X : Cx} {B : Base} {h : HF} {w : World} (H : SRh X B h w) : ∀ b, X.ok1 b → X.ok2 b := let ⟨_, k⟩ := H; k.ok12
theorem SRh.hist {X : Cx} {B : Base} {h : HF} {w : World} (H : SRh X B h w) : ∀ id g, (∀ g' e, h id = some (g', e) → g' < g) → X.bx id g = none ∧ X.rw id g = none := let ⟨_, k⟩ := H; k.hist
theorem SRh.box {X : Cx} {B : Base} {h : HF} {w : World} (H : SRh X B h w) {id g ty : Nat} {cs : List AV} (he : h id = some (g, .box ty cs)) : ∃ b us, X.bx id g = some b ∧ w.heap[b]? = some (.cells us.toArray ty (0, 0)) ∧ VRs X w cs us :=
  let ⟨_, k⟩ := H
  let ⟨b, us, _, h1, h2, h3, _⟩ := k.ent _ _ _ he
  ⟨b, us, h1, h2, h3.vrs⟩
theorem SRh.row {X : Cx} {B : Base} {h : HF} {w : World} (H : SRh X B h w) {id g ty sz : Nat} {xs : List (List AV)} (he : h id = some (g, .row ty sz xs)) : ∃ v us, X.rw id g = some (v, sz) ∧ Own w ty sz v xs.length us ∧ Lens sz xs ∧ VRs X w xs.flatten us :=
  let ⟨_, k⟩ := H
  let ⟨v, us, _, h1, h2, h3, h4, _⟩ := k.ent _ _ _ he
  ⟨v, us, h1, h2, h3, h4.vrs⟩

theorem SRf.drew {X : Cx} {B : Base} {h : HF} {F : Nat → List Nat} {w w' : World} (H : SRf X B h F w) (hh : w'.heap = w.heap) (h1 : w'.os = w.os) (h2 : w'.tape = w.tape) (h3 : w'.output = w.output) : SRf X B h F w' :=
  { H with
    ent := fun id g e he => (H.ent id g e he).mono (Cx.le.refl X) H.ok12 (fun b _ => by rw [hh]) (fun b _ => by rw [hh])
    blk := fun id g b he hb => by rw [hh]; exact H.blk id g b he hb
    ok2 := fun b hb => by rw [hh]; exact H.ok2 b hb
    os := h1.trans H.os
    tape := h2.trans H.tape
    output := h3.trans H.output
    size := by rw [hh]; exact H.size
    keep := fun b hb hs => by rw [hh]; exact H.keep b hb hs }
theorem SRh.drew {X : Cx} {B : Base} {h : HF} {w w' : World} (H : SRh X B h w) (hh : w'.heap = w.heap) (h1 : w'.os = w.os) (h2 : w'.tape = w.tape) (h3 : w'.output = w.output) : SRh X B h w' :=
  let ⟨F, k⟩ := H; ⟨F, k.drew hh h1 h2 h3⟩

/-- What a step does to the world: nothing but to these blocks, and new blocks. -/
structure Grew (w w' : World) (S : List Nat) : Prop where
  os : w'.os = w.os
  tape : w'.tape = w.tape
  output : w'.output = w.output
  size : w.heap.size ≤ w'.heap.size
  block : ∀ b, b < w.heap.size → b ∉ S → w'.heap[b]? = w.heap[b]?
theorem Grew.of {w w' : World} {r : Option Nat} (h : w.grownBy w' r) (S : List Nat) (hr : ∀ b, r = some b → b ∈ S) : Grew w w' S :=
  ⟨h.os, h.tape, h.output, h.size, fun b hb hn => h.block b hb (fun e => hn (hr b e.symm))⟩

def updF (F : Nat → List Nat) (id : Nat) (f : List Nat) : Nat → List Nat := fun k => if k = id then f else F k

/-- One entry turned: the world has changed at its own blocks alone, and by new blocks. -/
theorem SRf.turn {X Y : Cx} {B : Base} {h : HF} {F : Nat → List Nat} {w w' : World} {id g g' : Nat} {e e' : Ent} {f : List Nat} (H : SRf X B h F w) (hold : h id = some (g, e))
    (hX : X.le Y) (h1 : Y.ok1 = X.ok1) (h2 : Y.ok2 = X.ok2) (hY : ∀ i k, (i ≠ id ∨ k ≠ g') → Y.bx i k = X.bx i k ∧ Y.rw i k = X.rw i k) (hg : g ≤ g')
    (hw : Grew w w' (F id)) (hent : EntOK Y w' id g' f e')
    (hblk : ∀ b ∈ f, (b ∈ F id ∨ w.heap.size ≤ b) ∧ b < w'.heap.size) : SRf Y B (upd h id (g', e')) (updF F id f) w' := by
  have hne : ∀ i ge b, i ≠ id → h i = some ge → b ∈ F i → w'.heap[b]? = w.heap[b]? := fun i ge b hi hc hb =>
    hw.block b (H.blk i ge b hc hb) (fun he => hi (H.sep i id ge _ b hc hold hb he))
  have hok : ∀ b, X.ok2 b → w'.heap[b]? = w.heap[b]? := fun b hb => hw.block b (H.ok2 b hb).1 (fun he => (H.ok2 b hb).2 id _ hold he)
  have fne : ∀ i, i ≠ id → updF F id f i = F i := fun i hi => by simp [updF, hi]
  have feq : updF F id f id = f := by simp [updF]
  refine ⟨?_, ?_, ?_, ?_, ?_, ?_, ?_, ?_, ?_, hw.os.trans H.os, hw.tape.trans H.tape, hw.output.trans H.output, Nat.le_trans H.size hw.size, ?_⟩
  · intro i k c hc
    by_cases hi : i = id
    · subst hi
      rw [upd_same] at hc
      cases hc
      rw [feq]
      exact hent
    · rw [upd_other _ hi] at hc
      rw [fne i hi]
      exact (H.ent i k c hc).mono hX H.ok12 hok (fun b hb => hne i _ b hi hc hb)
  · intro i ge b hc hb
    by_cases hi : i = id
    · subst hi
      rw [feq] at hb
      exact (hblk b hb).2
    · rw [upd_other _ hi] at hc
      rw [fne i hi] at hb
      exact Nat.lt_of_lt_of_le (H.blk i ge b hc hb) hw.size
  · intro i i' ge ge' b hc hc' hb hb'
    by_cases hi : i = id
    · by_cases hi' : i' = id
      · rw [hi, hi']
      · subst hi
        rw [feq] at hb
        rw [upd_other _ hi'] at hc'
        rw [fne i' hi'] at hb'
        rcases (hblk b hb).1 with h3 | h3
        · exact H.sep i i' _ ge' b hold hc' h3 hb'
        · have := H.blk i' ge' b hc' hb'
          omega
    · rw [upd_other _ hi] at hc
      rw [fne i hi] at hb
      by_cases hi' : i' = id
      · subst hi'
        rw [feq] at hb'
        rcases (hblk b hb').1 with h3 | h3
        · exact H.sep i i' ge _ b hc hold hb h3
        · have := H.blk i ge b hc hb
          omega
      · rw [upd_other _ hi'] at hc'
        rw [fne i' hi'] at hb'
        exact H.sep i i' ge ge' b hc hc' hb hb'
  · intro b hb
    rw [h2] at hb
    refine ⟨Nat.lt_of_lt_of_le (H.ok2 b hb).1 hw.size, fun i ge hc hbb => ?_⟩
    by_cases hi : i = id
    · subst hi
      rw [feq] at hbb
      rcases (hblk b hbb).1 with h3 | h3
      · exact (H.ok2 b hb).2 i _ hold h3
      · have := (H.ok2 b hb).1
        omega
    · rw [upd_other _ hi] at hc
      rw [fne i hi] at hbb
      exact (H.ok2 b hb).2 i ge hc hbb
  · intro b hb
    rw [h1] at hb
    rw [h2]
    exact H.ok12 b hb
  · intro b hb
    rw [h1] at hb
    exact H.in1 b hb
  · intro b hb
    rw [h2] at hb
    exact H.in2 b hb
  · intro i ge b hc hb
    by_cases hi : i = id
    · subst hi
      rw [feq] at hb
      rcases (hblk b hb).1 with h3 | h3
      · exact H.own i _ b hold h3
      · exact .inr (Nat.le_trans H.size h3)
    · rw [upd_other _ hi] at hc
      rw [fne i hi] at hb
      exact H.own i ge b hc hb
  · intro i k hk
    by_cases hi : i = id
    · subst hi
      have h3 := hk g' e' (upd_same _ _ _)
      obtain ⟨e1, e2⟩ := hY i k (.inr (by omega))
      rw [e1, e2]
      exact H.hist i k (fun g'' c hc => by rw [hold] at hc; cases hc; omega)
    · obtain ⟨e1, e2⟩ := hY i k (.inl hi)
      rw [e1, e2]
      exact H.hist i k (fun g'' c hc => hk g'' c (by rw [upd_other _ hi]; exact hc))
  · intro b hb hs
    rw [← H.keep b hb hs]
    refine hw.block b (Nat.lt_of_lt_of_le hb H.size) (fun he => ?_)
    rcases H.own id _ b hold he with h3 | h3
    · exact hs h3
    · omega

/-- A frame's slots. -/
structure FrOK (X : Cx) (w : World) (n : Nat) (f : FF) (a : Act) : Prop where
  size : a.tmps.size = n
  slot : ∀ k av, f k = some av → ∃ v, a.tmps[k]? = some v ∧ VR X w av v

theorem FrOK.mono {X Y : Cx} {w w' : World} {n : Nat} {f : FF} {a : Act} (h : FrOK X w n f a) (hX : X.le Y) (h12 : ∀ b, X.ok1 b → X.ok2 b) (hw : ∀ b, X.ok2 b → w'.heap[b]? = w.heap[b]?) : FrOK Y w' n f a :=
  ⟨h.size, fun k av hk => let ⟨v, h1, h2⟩ := h.slot k av hk; ⟨v, h1, h2.mono hX h12 hw⟩⟩

def fput (f : FF) : Option Nat → AV → FF
  | none, _ => f
  | some k, v => fun j => if j = k then some v else f j

theorem FrOK.put {X : Cx} {w : World} {n : Nat} {f : FF} {a : Act} (h : FrOK X w n f a) (dst : Option Nat) {av : AV} {v : Value} (hv : VR X w av v) (hd : ∀ k, dst = some k → k < n) : FrOK X w n (fput f dst av) (a.put dst v) := by
  cases dst with
  | none => exact h
  | some k =>
    refine ⟨by simp [Act.put, h.size], fun j u hj => ?_⟩
    simp only [fput] at hj
    by_cases e : j = k
    · subst e
      rw [if_pos rfl] at hj
      cases hj
      refine ⟨v, ?_, hv⟩
      have := hd j rfl
      have h2 := h.size
      simp only [Act.put, Array.getElem?_setIfInBounds, if_true]
      rw [if_pos (by omega)]
    · rw [if_neg e] at hj
      obtain ⟨x, h1, h2⟩ := h.slot j u hj
      refine ⟨x, ?_, h2⟩
      simp only [Act.put, Array.getElem?_setIfInBounds]
      rw [if_neg (Ne.symm e)]
      exact h1
end Go.Proofs.Ytcleiaibcfocdaa.Am
