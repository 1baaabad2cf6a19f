/- Part 1 of the texts that the proof of LawFnNodeTend leans on, merged by program. -/
import Derived.WalkKit
import Derived.Deep.MidRow
import Derived.Maps.AppendAt
import Derived.Laws.OwnMore
import Derived.Laws.MakeOwn
import Derived.Great.BuildSlice
import Derived.ArgAppend
import Derived.LoopN
import Derived.Test.YtlgknoapdbpojaaGreatProg
import Derived.Laws.StructEq
import Derived.MapKept
import Derived.WideKeyRuns
import Derived.ChangeKeysEq
import Derived.WideMake
import Derived.Laws.Cover3
import Derived.Laws.CopyRow
import Derived.Laws.IdiomCopy
import Derived.Laws.Pointers
import Derived.ChangeArms
import Derived.Below
import Derived.WideShapes
set_option linter.unusedVariables false
set_option linter.unusedSimpArgs false
set_option maxHeartbeats 4000000
set_option autoImplicit true
set_option relaxedAutoImplicit true
namespace Go.Proofs.YtlgknoapdbpojaaGreat.Am
open Go Go.RowKit
section

inductive Md where
 | rd (c : Bool)
 | ow
 deriving DecidableEq, Inhabited

inductive AV where
 | any
 | pv (v : Value)
 | row (m : Md) (ty sz : Nat) (xs : List (List AV))
 | ref (id g : Nat)
 | bsl (id g off len : Nat)
 | cut (id g lo hi : Nat)
 | ptr (id g off : Nat)
 | elt (id g i off : Nat)
 | iel (cs : List AV)
 | agg (cs : List AV)
 | tup (cs : List AV)
 | fn (f : Fn) (fi cap : List AV)
 | ifc (t : TypeId) (a : AV)
 | mp (id g : Nat)
 deriving Inhabited
def AV.one : AV → Bool
 | .any => false
 | .pv v => v.oneCell'
 | .agg _ => false
 | .tup _ => false
 | _ => true
def AV.isOw : AV → Bool
 | .row .ow _ _ _ => true
 | _ => false
def okm (ok1 ok2 : Nat → Prop) : Bool → Nat → Prop
 | true, b => ok1 b
 | false, b => ok2 b

inductive CR (ok1 ok2 : Nat → Prop) (w : World) : AV → Value → Prop
 | pv (v : Value) : CR ok1 ok2 w (.pv v) v
 | row {m : Bool} {ty sz : Nat} {xs : List (List AV)} (A : Option Addr) (c : Nat) (u : Nat → Nat → Value) (hc : xs.length ≤ c) (hm : c ≤ maxLen)
   (hlen : ∀ (j : Nat) (x : List AV), xs[j]? = some x → x.length = sz)
   (hone : ∀ (j i : Nat) (x : List AV) (y : AV), xs[j]? = some x → x[i]? = some y → y.one = true)
   (had : 0 < xs.length → ∃ ad, A = some ad ∧ okm ok1 ok2 m ad.block)
   (hcell : ∀ (ad : Addr) (j i : Nat) (x : List AV) (y : AV), A = some ad → xs[j]? = some x → x[i]? = some y → w.cell? (ad.add (j * sz + i)) = some (u j i))
   (hrec : ∀ (j i : Nat) (x : List AV) (y : AV), xs[j]? = some x → x[i]? = some y → CR ok1 ok2 w y (u j i)) : CR ok1 ok2 w (.row (.rd m) ty sz xs) (.slice A xs.length c)
 | ifc (t : TypeId) (a : AV) (v : Value) (h : CR ok1 ok2 w a v) : CR ok1 ok2 w (.ifc t a) (.iface t v)
 | agg {cs : List AV} (us : List Value) (hl : us.length = cs.length) (hone : ∀ (i : Nat) (y : AV), cs[i]? = some y → y.one = true)
   (h : ∀ (i : Nat) (y : AV) (u : Value), cs[i]? = some y → us[i]? = some u → CR ok1 ok2 w y u) : CR ok1 ok2 w (.agg cs) (.agg us.toArray)
theorem a9g (ad : Addr) (n : Nat) : (ad.add n).block = ad.block := by unfold Addr.add; split <;> rfl
theorem d1j (h : CR ok1 ok2 w a v) : a.one = true → v.oneCell' = true := by
 intro h1
 cases h with
 | pv => exact h1
 | row => rfl
 | ifc => rfl
 | agg => simp [AV.one] at h1
theorem okm.mono (h1 : ∀ b, o1 b → p1 b) (h2 : ∀ b, o2 b → p2 b) (h : okm o1 o2 m b) : okm p1 p2 m b := by
 cases m with
 | true => exact h1 b h
 | false => exact h2 b h
theorem okm.ok2 (h12 : ∀ b, o1 b → o2 b) (h : okm o1 o2 m b) : o2 b := by
 cases m with
 | true => exact h12 b h
 | false => exact h
theorem CR.mono (h : CR o1 o2 w a v) (h1 : ∀ b, o1 b → p1 b) (h2 : ∀ b, o2 b → p2 b) (h12 : ∀ b, o1 b → o2 b) (hw : ∀ b, o2 b → w'.heap[b]? = w.heap[b]?) : CR p1 p2 w' a v := by
 induction h with
 | pv v => exact .pv v
 | row A c u hc hm hlen hone had hcell hrec ih =>
  refine .row A c u hc hm hlen hone (fun hp => ?_) (fun ad j i x y hA hx hy => ?_) ih
  ·obtain ⟨ad, e, ho⟩ := had hp
   exact ⟨ad, e, ho.mono h1 h2⟩
  ·have h0 := hcell ad j i x y hA hx hy
   have hp := Nat.lt_of_le_of_lt (Nat.zero_le j) (List.getElem?_eq_some_iff.1 hx).1
   obtain ⟨ad', e, ho⟩ := had hp
   have : ad = ad' := by rw [hA] at e; exact Option.some.inj e
   subst this
   refine (World.cell?_of_block ?_).trans h0
   rw [a9g]
   exact hw _ (ho.ok2 h12)
 | ifc t a v _ ih => exact .ifc t a v ih
 | agg us hl hone _ ih => exact .agg us hl hone ih

structure Cx where
 ok1 : Nat → Prop
 ok2 : Nat → Prop
 bx : Nat → Nat → Option Nat
 rw : Nat → Nat → Option (Value × Nat)
structure Cx.le (X Y : Cx) : Prop where
 ok1 : ∀ b, X.ok1 b → Y.ok1 b
 ok2 : ∀ b, X.ok2 b → Y.ok2 b
 bx : ∀ i g b, X.bx i g = some b → Y.bx i g = some b
 rw : ∀ i g v, X.rw i g = some v → Y.rw i g = some v
theorem Cx.le.refl (X : Cx) : X.le X := ⟨fun _ h => h, fun _ h => h, fun _ _ _ h => h, fun _ _ _ h => h⟩
theorem Cx.le.trans {X Y Z : Cx} (h : X.le Y) (k : Y.le Z) : X.le Z :=
 ⟨fun b hb => k.ok1 b (h.ok1 b hb), fun b hb => k.ok2 b (h.ok2 b hb), fun i g b hb => k.bx i g b (h.bx i g b hb), fun i g v hv => k.rw i g v (h.rw i g v hv)⟩
inductive VR (X : Cx) (w : World) : AV → Value → Prop
 | any (v : Value) : VR X w .any v
 | owd {ty sz : Nat} {xs : List (List AV)} (v : Value) (h : v.oneCell' = true) : VR X w (.row .ow ty sz xs) v
 | cl {a : AV} {v : Value} (h : CR X.ok1 X.ok2 w a v) : VR X w a v
 | iel {cs : List AV} (ad : Addr) (u : Nat → Value) (hok : X.ok2 ad.block)
   (hone : ∀ (i : Nat) (y : AV), cs[i]? = some y → y.one = true)
   (hcell : ∀ (i : Nat) (y : AV), cs[i]? = some y → w.cell? (ad.add i) = some (u i))
   (hrec : ∀ (i : Nat) (y : AV), cs[i]? = some y → CR X.ok1 X.ok2 w y (u i)) : VR X w (.iel cs) (.pointer (some ad))
 | ref {id g : Nat} {A : Option Addr} {n c : Nat} {sz : Nat} (h : X.rw id g = some (.slice A n c, sz)) : VR X w (.ref id g) (.slice A n c)
 | cut {id g lo hi : Nat} {A A' : Option Addr} {n c c' : Nat} {sz : Nat} (h : X.rw id g = some (.slice A n c, sz)) (hlo : lo ≤ hi) (hhi : hi ≤ n) (hc : hi - lo ≤ c') (hm : c' ≤ maxLen)
   (hA : lo < hi → ∃ ad, A = some ad ∧ A' = some (ad.add (lo * sz))) : VR X w (.cut id g lo hi) (.slice A' (hi - lo) c')
 | elt {id g i off : Nat} {ad : Addr} {n c sz : Nat} (h : X.rw id g = some (.slice (some ad) n c, sz)) : VR X w (.elt id g i off) (.pointer (some (ad.add (i * sz + off))))
 | bsl {id g off len : Nat} {b c : Nat} (h : X.bx id g = some b) (hc : len ≤ c) (hm : c ≤ maxLen) : VR X w (.bsl id g off len) (.slice (some ⟨b, off, none⟩) len c)
 | ptr {id g off : Nat} {b : Nat} (h : X.bx id g = some b) : VR X w (.ptr id g off) (.pointer (some ⟨b, off, none⟩))
 | mp {id g : Nat} {b : Nat} (h : X.bx id g = some b) : VR X w (.mp id g) (.map (some b))
 | agg {cs : List AV} (us : List Value) (hl : us.length = cs.length) (hone : ∀ (i : Nat) (y : AV), cs[i]? = some y → y.one = true)
   (h : ∀ (i : Nat) (y : AV) (u : Value), cs[i]? = some y → us[i]? = some u → VR X w y u) : VR X w (.agg cs) (.agg us.toArray)
 | tup {cs : List AV} (us : List Value) (hl : us.length = cs.length)
   (h : ∀ (i : Nat) (y : AV) (u : Value), cs[i]? = some y → us[i]? = some u → VR X w y u) : VR X w (.tup cs) (.tuple us.toArray)
 | fn {f : Fn} {fi cap : List AV} (us vs : List Value) (hl : us.length = fi.length) (hl' : vs.length = cap.length)
   (h : ∀ (i : Nat) (y : AV) (u : Value), fi[i]? = some y → us[i]? = some u → VR X w y u)
   (h' : ∀ (i : Nat) (y : AV) (u : Value), cap[i]? = some y → vs[i]? = some u → VR X w y u) : VR X w (.fn f fi cap) (.func f us.toArray vs.toArray)
 | ifc (t : TypeId) (a : AV) (v : Value) (h : VR X w a v) : VR X w (.ifc t a) (.iface t v)
theorem VR.pv (v : Value) : VR X w (.pv v) v := .cl (.pv v)
theorem VR.mono (h : VR X w a v) (hX : X.le Y) (h12 : ∀ b, X.ok1 b → X.ok2 b) (hw : ∀ b, X.ok2 b → w'.heap[b]? = w.heap[b]?) : VR Y w' a v := by
 induction h with
 | any v => exact .any v
 | owd v h => exact .owd v h
 | cl h => exact .cl (h.mono hX.ok1 hX.ok2 h12 hw)
 | iel ad u hok hone hcell hrec =>
  refine .iel ad u (hX.ok2 _ hok) hone (fun i y hy => ?_) (fun i y hy => (hrec i y hy).mono hX.ok1 hX.ok2 h12 hw)
  refine (World.cell?_of_block ?_).trans (hcell i y hy)
  rw [a9g]
  exact hw _ hok
 | ref h => exact .ref (hX.rw _ _ _ h)
 | cut h hlo hhi hc hm hA => exact .cut (hX.rw _ _ _ h) hlo hhi hc hm hA
 | elt h => exact .elt (hX.rw _ _ _ h)
 | bsl h hc hm => exact .bsl (hX.bx _ _ _ h) hc hm
 | ptr h => exact .ptr (hX.bx _ _ _ h)
 | mp h => exact .mp (hX.bx _ _ _ h)
 | agg us hl hone _ ih => exact .agg us hl hone ih
 | tup us hl _ ih => exact .tup us hl ih
 | fn us vs hl hl' _ _ ih ih' => exact .fn us vs hl hl' ih ih'
 | ifc t a v _ ih => exact .ifc t a v ih
theorem VR.oneCell (h : VR X w a v) (h1 : a.one = true) : v.oneCell' = true := by
 cases h with
 | any => simp [AV.one] at h1
 | owd v h => exact h
 | cl h => exact d1j h h1
 | agg => simp [AV.one] at h1
 | tup => simp [AV.one] at h1
 | _ => rfl
end
section
inductive Ent where
 | dead
 | box (ty : TypeId) (cs : List AV)
 | row (ty sz : Nat) (xs : List (List AV))
 | map (es : List (Value × AV))
 | chn (ty lty : TypeId) (xs : List (List AV))
 | blk (l : List (Nat × TypeId × List AV))
 deriving Inhabited
abbrev Hp := List (Nat × (Nat × Ent))
abbrev HF := Nat → Option (Nat × Ent)
abbrev Fr := List (Nat × AV)
abbrev FF := Nat → Option AV
def y4y : Hp → Nat → Option (Nat × Ent)
 | [], _ => none
 | (i, ge) :: r, k => match Nat.beq i k with
  | true => some ge
  | false => y4y r k
theorem c0q (k : Nat) : y4y [] k = none := rfl
theorem u8u (i : Nat) (ge : Nat × Ent) (r : Hp) (k : Nat) : y4y ((i, ge) :: r) k = if i = k then some ge else y4y r k := by
 simp only [y4y]
 by_cases e : i = k
 ·rw [if_pos e, (Nat.beq_eq ▸ e : Nat.beq _ _ = true)]
 ·rw [if_neg e]
  cases hb : Nat.beq i k with
  | false => rfl
  | true => exact absurd (Nat.eq_of_beq_eq_true hb) e
def hf (l : Hp) : HF := y4y l
def upd (h : HF) (id : Nat) (ge : Nat × Ent) : HF := fun k => if k = id then some ge else h k
theorem a4x (h : HF) (id : Nat) (ge : Nat × Ent) : upd h id ge id = some ge := by simp [upd]
variable {id : Nat}
theorem w1w (ge : Nat × Ent) (hne : k ≠ id) : upd h id ge k = h k := by simp [upd, hne]
theorem a3g (l : Hp) (id : Nat) (ge : Nat × Ent) : hf ((id, ge) :: l) = upd (hf l) id ge := by
 funext k
 simp only [hf, upd, u8u]
 by_cases e : k = id
 ·simp [e]
 ·simp [e, Ne.symm e]
def Fr.get : Fr → Nat → Option AV
 | [], _ => none
 | (j, v) :: r, k => match Nat.beq j k with
  | true => some v
  | false => Fr.get r k
theorem Fr.get_cons (j : Nat) (v : AV) (r : Fr) (k : Nat) : Fr.get ((j, v) :: r) k = if j = k then some v else Fr.get r k := by
 simp only [Fr.get]
 by_cases e : j = k
 ·rw [if_pos e, (Nat.beq_eq ▸ e : Nat.beq _ _ = true)]
 ·rw [if_neg e]
  cases hb : Nat.beq j k with
  | false => rfl
  | true => exact absurd (Nat.eq_of_beq_eq_true hb) e

structure VRs (X : Cx) (w : World) (cs : List AV) (us : List Value) : Prop where
 len : us.length = cs.length
 one : ∀ (i : Nat) (y : AV), cs[i]? = some y → y.one = true
 rel : ∀ (i : Nat) (y : AV) (u : Value), cs[i]? = some y → us[i]? = some u → VR X w y u

structure CRs (ok1 ok2 : Nat → Prop) (w : World) (cs : List AV) (us : List Value) : Prop where
 len : us.length = cs.length
 one : ∀ (i : Nat) (y : AV), cs[i]? = some y → y.one = true
 rel : ∀ (i : Nat) (y : AV) (u : Value), cs[i]? = some y → us[i]? = some u → CR ok1 ok2 w y u
theorem VRs.nil : VRs X w [] [] := ⟨rfl, fun i y h => by simp at h, fun i y u h => by simp at h⟩
theorem VRs.cons (h1 : c.one = true) (h2 : VR X w c u) (h3 : VRs X w cs us) : VRs X w (c :: cs) (u :: us) := by
  refine ⟨by simp [h3.len], fun i y hy => ?_, fun i y x hy hx => ?_⟩
  · cases i with
    | zero => have : c = y := by simpa using hy
              rw [← this]; exact h1
    | succ i => exact h3.one i y (by simpa using hy)
  · cases i with
    | zero => have e1 : c = y := by simpa using hy
              have e2 : u = x := by simpa using hx
              rw [← e1, ← e2]; exact h2
    | succ i => exact h3.rel i y x (by simpa using hy) (by simpa using hx)
theorem VRs.tail (h : VRs X w (c :: cs) (u :: us)) : VRs X w cs us :=
 ⟨by simpa using h.len, fun i y hy => h.one (i + 1) y (by simpa using hy), fun i y x hy hx => h.rel (i + 1) y x (by simpa using hy) (by simpa using hx)⟩
theorem CRs.nil : CRs o1 o2 w [] [] := ⟨rfl, fun i y h => by simp at h, fun i y u h => by simp at h⟩
theorem CRs.cons (h1 : c.one = true) (h2 : CR o1 o2 w c u) (h3 : CRs o1 o2 w cs us) : CRs o1 o2 w (c :: cs) (u :: us) := by
  refine ⟨by simp [h3.len], fun i y hy => ?_, fun i y x hy hx => ?_⟩
  · cases i with
    | zero => have : c = y := by simpa using hy
              rw [← this]; exact h1
    | succ i => exact h3.one i y (by simpa using hy)
  · cases i with
    | zero => have e1 : c = y := by simpa using hy
              have e2 : u = x := by simpa using hx
              rw [← e1, ← e2]; exact h2
    | succ i => exact h3.rel i y x (by simpa using hy) (by simpa using hx)
def Lens (sz : Nat) (xs : List (List AV)) : Prop := ∀ (j : Nat) (x : List AV), xs[j]? = some x → x.length = sz

def Own (w : World) (e size : Nat) (v : Value) (n : Nat) (xs : List Value) : Prop :=
 xs.length = n * size ∧ ((∃ A, v = .slice A 0 0 ∧ n = 0) ∨
  ∃ g cap cur, v = .slice (some ⟨g, 0, none⟩) n cap ∧ 0 < cap ∧ w.heap[g]? = some (.cells cur e (0, 0)) ∧ n ≤ cap ∧ cap ≤ maxLen ∧ cur.size = cap * size ∧ cur.toList.take (n * size) = xs)
def a9h : Value → Option Nat
 | .slice (some a) _ (_ + 1) => some a.block
 | _ => none
theorem b3l (h : 0 < c) : a9h (.slice (some a) n c) = some a.block := by
 cases c with
 | zero => omega
 | succ c => rfl
theorem b6h (h : a9h (.slice (some a) n c) = some b) : b = a.block := by
 cases c with
 | zero => cases h
 | succ c => cases h; rfl
theorem d7w (A : Option Addr) (n : Nat) : a9h (.slice A n 0) = none := by cases A <;> rfl
theorem Own.of (h : w.ownsRow 0 e size v n xs) : Own w e size v n xs := by
 refine ⟨h.1, ?_⟩
 rcases h.2 with ⟨h1, h2⟩ | ⟨g, cap, cur, h1, h2, h3, h4, h5, h6, h7⟩
 ·exact .inl ⟨_, h1, h2⟩
 ·by_cases hc : cap = 0
  ·subst hc
   have : n = 0 := by omega
   subst this
   exact .inl ⟨_, h1, rfl⟩
  ·exact .inr ⟨g, cap, cur, h1, by omega, h3, h4, h5, h6, h7⟩
theorem Own.split (h : Own w e size v n xs) : (∃ A, v = .slice A 0 0 ∧ n = 0 ∧ xs = []) ∨ (w.ownsRow 0 e size v n xs ∧ a9h v = v.ownBlock) := by
 rcases h.2 with ⟨A, h1, h2⟩ | ⟨g, cap, cur, h1, h0, h3, h4, h5, h6, h7⟩
 ·refine .inl ⟨A, h1, h2, ?_⟩
  have := h.1
  rw [h2, Nat.zero_mul] at this
  exact List.eq_nil_of_length_eq_zero this
 ·refine .inr ⟨⟨h.1, .inr ⟨g, cap, cur, h1, Nat.zero_le _, h3, h4, h5, h6, h7⟩⟩, ?_⟩
  rw [h1, b3l h0]; rfl
theorem Own.cells (h : Own w e size v n xs) (hu : xs[j]? = some u) : ∃ b c, v = .slice (some ⟨b, 0, none⟩) n c ∧ 0 < c ∧ w.cell? ((⟨b, 0, none⟩ : Addr).add j) = some u := by
 rcases h.split with ⟨A, _, _, h1⟩ | ⟨h1, _⟩
 ·subst h1; simp at hu
 ·rcases h.2 with ⟨A, _, h2⟩ | ⟨g, cap, cur, h2, h0, _⟩
  ·have := h.1
   rw [h2, Nat.zero_mul] at this
   rw [List.eq_nil_of_length_eq_zero this] at hu; simp at hu
  ·subst h2
   exact ⟨g, cap, rfl, h0, h1.cells (g := g) rfl j u hu⟩
theorem Own.n0 (h : Own w e size (.slice A m c) n xs) : m = n ∧ n ≤ c ∧ c ≤ maxLen := by
 rcases h.2 with ⟨A, h1, h2⟩ | ⟨g, cap, cur, h1, h0, _, h4, h5, _⟩
 ·cases h1; exact ⟨h2.symm, by omega, by unfold maxLen; omega⟩
 ·cases h1; exact ⟨rfl, h4, h5⟩
theorem Own.lt (h : Own w e size v n xs) (hb : a9h v = some b) : b < w.heap.size := by
 rcases h.2 with ⟨A, h1, h2⟩ | ⟨g, cap, cur, h1, h0, h3, _⟩
 ·subst h1; rw [d7w] at hb; cases hb
 ·subst h1; rw [b3l h0] at hb; cases hb
  exact (Array.getElem?_eq_some_iff.1 h3).1

def Cx.bare (X : Cx) : Cx := ⟨X.ok1, X.ok2, fun _ _ => none, fun _ _ => none⟩
theorem Cx.le.bare {X Y : Cx} (h : X.le Y) : X.bare.le Y.bare := ⟨h.ok1, h.ok2, fun _ _ _ h => (by cases h), fun _ _ _ h => (by cases h)⟩

inductive TRs : Cx → World → List AV → List Value → List Nat → Prop
 | nil {X : Cx} {w : World} : TRs X w [] [] []
 | vr {X : Cx} {w : World} {y : AV} {u : Value} {cs : List AV} {us : List Value} {S : List Nat} (h1 : y.one = true) (h2 : y.isOw = false) (h : VR X w y u) (t : TRs X w cs us S) : TRs X w (y :: cs) (u :: us) S
 | own {X : Cx} {w : World} {ty sz : Nat} {xs : List (List AV)} {v : Value} {ws : List Value} {S' : List Nat} {cs : List AV} {us : List Value} {S : List Nat} (ho : Own w ty sz v xs.length ws) (hl : Lens sz xs) (hi : TRs X.bare w xs.flatten ws S') (t : TRs X w cs us S) :
   TRs X w (.row .ow ty sz xs :: cs) (v :: us) ((a9h v).toList ++ S' ++ S)
theorem b9p (h : Own w ty sz v n us) (hb : ∀ b, (a9h v) = some b → w'.heap[b]? = w.heap[b]?) : Own w' ty sz v n us := by
 refine ⟨h.1, ?_⟩
 rcases h.2 with h5 | ⟨k, cap, cur, rfl, h0, h7, h8⟩
 ·exact .inl h5
 ·refine .inr ⟨k, cap, cur, rfl, h0, ?_, h8⟩
  rw [hb k (b3l h0)]
  exact h7
theorem d1k (h : Own w ty sz v n us) : v.oneCell' = true := by
 rcases h.2 with ⟨A, rfl, _⟩ | ⟨k, cap, cur, rfl, _⟩ <;> rfl
theorem TRs.mono (h : TRs X w cs us S) (hX : X.le Y) (h12 : ∀ b, X.ok1 b → X.ok2 b) (hw : ∀ b, X.ok2 b → w'.heap[b]? = w.heap[b]?) (hS : ∀ b ∈ S, w'.heap[b]? = w.heap[b]?) : TRs Y w' cs us S := by
 induction h generalizing Y with
 | nil => exact .nil
 | vr h1 h2 h _ ih => exact .vr h1 h2 (h.mono hX h12 hw) (ih hX h12 hw hS)
 | own ho hl _ _ ih1 ih2 =>
  exact .own (b9p ho (fun b hb => hS b (by simp [hb]))) hl (ih1 hX.bare h12 hw (fun b hb => hS b (by simp [hb]))) (ih2 hX h12 hw (fun b hb => hS b (by simp [hb])))

theorem TRs.vrs (h : TRs X w cs us S) : VRs X w cs us := by
 induction h with
 | nil => exact .nil
 | vr h1 h2 h _ ih => exact .cons h1 h ih
 | own ho hl _ _ _ ih => exact .cons rfl (.owd _ (d1k ho)) ih

def AV.flat : AV → Bool
 | .pv _ => true
 | .row _ _ _ _ => true
 | .ifc _ (.pv _) => true
 | _ => false
theorem VR.flat (h : VR X w a v) (hf : a.flat = true) (h1 : ∀ b, X.ok1 b → Y.ok1 b) (h2 : ∀ b, X.ok2 b → Y.ok2 b) (h12 : ∀ b, X.ok1 b → X.ok2 b) : VR Y w a v := by
 cases h with
 | owd v h => exact .owd v h
 | cl h => exact .cl (h.mono h1 h2 h12 (fun _ _ => rfl))
 | ifc t a v h =>
  cases a with
  | pv u => exact .ifc _ _ _ (by cases h with | cl h => exact .cl (h.mono h1 h2 h12 (fun _ _ => rfl)))
  | _ => simp [AV.flat] at hf
 | _ => simp [AV.flat] at hf
theorem TRs.flat (h : TRs X w cs us S) (h1 : ∀ b, X.ok1 b → Y.ok1 b) (h2 : ∀ b, X.ok2 b → Y.ok2 b) (h12 : ∀ b, X.ok1 b → X.ok2 b) : (∀ c ∈ cs, c.flat = true) → TRs Y w cs us S := by
 intro hf
 induction h generalizing Y with
 | nil => exact .nil
 | vr h3 h4 h _ ih => exact .vr h3 h4 (h.flat (hf _ (by simp)) h1 h2 h12) (ih h1 h2 h12 (fun c hc => hf c (by simp [hc])))
 | own ho hl hi _ _ ih => exact .own ho hl (hi.mono ⟨h1, h2, fun _ _ _ h => (by cases h), fun _ _ _ h => (by cases h)⟩ h12 (fun _ _ => rfl) (fun _ _ => rfl)) (ih h1 h2 h12 (fun c hc => hf c (by simp [hc])))
theorem TRs.len (h : TRs X w cs us S) : us.length = cs.length := h.vrs.len
theorem VRs.trs : ∀ {cs : List AV} {us : List Value}, VRs X w cs us → (cs.all fun c => !c.isOw) = true → TRs X w cs us []
 | [], us, h, _ => by
  have := h.len
  cases us with
  | nil => exact .nil
  | cons => simp at this
 | c :: cs, us, h, ho => by
  cases us with
  | nil => have := h.len; simp at this
  | cons u us =>
   simp only [List.all_cons, Bool.and_eq_true, Bool.not_eq_true'] at ho
   exact .vr (h.one 0 c rfl) ho.1 (h.rel 0 c u rfl rfl) (VRs.trs h.tail ho.2)
theorem TRs.append (h : TRs X w cs us S) (k : TRs X w ds vs S') : TRs X w (cs ++ ds) (us ++ vs) (S ++ S') := by
 induction h with
 | nil => exact k
 | vr h1 h2 h _ ih => exact .vr h1 h2 h (ih k)
 | own ho hl hi _ _ ih => have := TRs.own ho hl hi (ih k); simpa [List.append_assoc] using this
theorem TRs.split : ∀ {cs ds : List AV} {us : List Value} {S : List Nat}, TRs X w (cs ++ ds) us S → ∃ us1 us2 S1 S2, us = us1 ++ us2 ∧ S = S1 ++ S2 ∧ TRs X w cs us1 S1 ∧ TRs X w ds us2 S2
 | [], ds, us, S, h => ⟨[], us, [], S, rfl, rfl, .nil, h⟩
 | c :: cs, ds, us, S, h => by
  rw [List.cons_append] at h
  generalize hc : c :: (cs ++ ds) = l at h
  cases h with
  | nil => cases hc
  | vr h1 h2 h t =>
   injection hc with e1 e2
   subst e1 e2
   obtain ⟨us1, us2, S1, S2, rfl, rfl, k1, k2⟩ := TRs.split t
   exact ⟨_ :: us1, us2, S1, S2, rfl, rfl, .vr h1 h2 h k1, k2⟩
  | own ho hl hi t =>
   injection hc with e1 e2
   subst e1 e2
   obtain ⟨us1, us2, S1, S2, rfl, rfl, k1, k2⟩ := TRs.split t
   exact ⟨_ :: us1, us2, _, S2, rfl, by rw [← List.append_assoc], .own ho hl hi k1, k2⟩
def b4a (b : Option Nat) : Value := .pointer (b.map fun b => ⟨b, 0, none⟩)

def BlkOK (X : Cx) (w : World) (id g : Nat) (F : List Nat) (l : List (Nat × TypeId × List AV)) : Prop :=
 (∀ p, l.head? = some p → X.bx id g = some p.1) ∧ (l.map (·.1)).Nodup ∧ (∀ p ∈ l, p.1 ∈ F) ∧ ∀ p ∈ l, ∃ us : List Value, w.heap[p.1]? = some (.cells us.toArray p.2.1 (0, 0)) ∧ CRs X.ok1 X.ok2 w p.2.2 us
def d1g (lty : TypeId) (nx : Option Nat) : List Nat → List (List AV) → List (Nat × TypeId × List AV)
 | b :: bs, x :: xs => (b, lty, x ++ [.pv (b4a (bs.head?.or nx))]) :: d1g lty nx bs xs
 | _, _ => []

def chB (b : Nat) (ty lty : TypeId) (bs : List Nat) (xs : List (List AV)) : List (Nat × TypeId × List AV) := (b, ty, [.pv (b4a bs.head?), .pv (b4a bs.getLast?)]) :: d1g lty none bs xs
theorem BlkOK.imp (h : BlkOK X w id g F l) (hx : ∀ b, X.bx id g = some b → Y.bx id' g' = some b) (hF : ∀ b ∈ F, b ∈ F') (hb : ∀ b ∈ F, w'.heap[b]? = w.heap[b]?) (hc : ∀ p ∈ l, ∀ us, CRs X.ok1 X.ok2 w p.2.2 us → CRs Y.ok1 Y.ok2 w' p.2.2 us) : BlkOK Y w' id' g' F' l :=
 ⟨fun p hp => hx _ (h.1 p hp), h.2.1, fun p hp => hF _ (h.2.2.1 p hp), fun p hp => by
  obtain ⟨us, h1, h2⟩ := h.2.2.2 p hp
  exact ⟨us, (hb _ (h.2.2.1 p hp)).trans h1, hc p hp us h2⟩⟩

def EntOK (X : Cx) (w : World) (id g : Nat) (F : List Nat) : Ent → Prop
 | .dead => True
 | .box ty cs => ∃ b us S, X.bx id g = some b ∧ w.heap[b]? = some (.cells us.toArray ty (0, 0)) ∧ TRs X w cs us S ∧ (b :: S).Nodup ∧ ∀ c ∈ b :: S, c ∈ F
 | .row ty sz xs => ∃ v us S, X.rw id g = some (v, sz) ∧ Own w ty sz v xs.length us ∧ Lens sz xs ∧ TRs X w xs.flatten us S ∧ ((a9h v).toList ++ S).Nodup ∧ ∀ c ∈ (a9h v).toList ++ S, c ∈ F
 | .map es => ∃ b en, X.bx id g = some b ∧ b ∈ F ∧ w.heap[b]? = some (.map en es.length) ∧ en.size = es.length ∧
   (∀ (i : Nat) (k : Value) (a : AV) (e : MapEntry), es[i]? = some (k, a) → en[i]? = some e → e.key = k ∧ VR X w a e.val ∧ e.born = i)
 | .chn ty lty xs => ∃ b bs, bs.length = xs.length ∧ BlkOK X w id g F (chB b ty lty bs xs)
 | .blk l => BlkOK X w id g F l
theorem VRs.mono (h : VRs X w cs us) (hX : X.le Y) (h12 : ∀ b, X.ok1 b → X.ok2 b) (hw : ∀ b, X.ok2 b → w'.heap[b]? = w.heap[b]?) : VRs Y w' cs us :=
 ⟨h.len, h.one, fun i y u hy hu => (h.rel i y u hy hu).mono hX h12 hw⟩
theorem CRs.mono (h : CRs o1 o2 w cs us) (h1 : ∀ b, o1 b → p1 b) (h2 : ∀ b, o2 b → p2 b) (h12 : ∀ b, o1 b → o2 b) (hw : ∀ b, o2 b → w'.heap[b]? = w.heap[b]?) : CRs p1 p2 w' cs us :=
 ⟨h.len, h.one, fun i y u hy hu => (h.rel i y u hy hu).mono h1 h2 h12 hw⟩
theorem EntOK.mono {id : Nat} (h : EntOK X w id g F e) (hX : X.le Y) (h12 : ∀ b, X.ok1 b → X.ok2 b) (hw : ∀ b, X.ok2 b → w'.heap[b]? = w.heap[b]?)
  (hb : ∀ b ∈ F, w'.heap[b]? = w.heap[b]?) : EntOK Y w' id g F e := by
 cases e with
 | dead => exact h
 | box ty cs =>
  obtain ⟨b, us, S, h1, h2, h3, h4, h5⟩ := h
  exact ⟨b, us, S, hX.bx _ _ _ h1, (hb b (h5 b (by simp))).trans h2, h3.mono hX h12 hw (fun c hc => hb c (h5 c (by simp [hc]))), h4, h5⟩
 | row ty sz xs =>
  obtain ⟨v, us, S, h1, h2, h3, h4, h5, h6⟩ := h
  exact ⟨v, us, S, hX.rw _ _ _ h1, b9p h2 (fun b hbb => hb b (h6 b (by simp [hbb]))), h3, h4.mono hX h12 hw (fun c hc => hb c (h6 c (by simp [hc]))), h5, h6⟩
 | map es =>
  obtain ⟨b, en, h1, h6, h2, h3, h4⟩ := h
  exact ⟨b, en, hX.bx _ _ _ h1, h6, (hb b h6).trans h2, h3, fun i k a e hi he => ⟨(h4 i k a e hi he).1, (h4 i k a e hi he).2.1.mono hX h12 hw, (h4 i k a e hi he).2.2⟩⟩
 | chn ty lty xs =>
  obtain ⟨b, bs, h1, h2⟩ := h
  exact ⟨b, bs, h1, h2.imp (fun _ h => hX.bx _ _ _ h) (fun _ h => h) hb fun p _ us hu => hu.mono hX.ok1 hX.ok2 h12 hw⟩
 | blk l => exact BlkOK.imp h (fun _ h => hX.bx _ _ _ h) (fun _ h => h) hb fun p _ us hu => hu.mono hX.ok1 hX.ok2 h12 hw
structure Base where
 w0 : World
 S0 : Nat → Prop
 O1 : Nat → Prop
 O2 : Nat → Prop
structure SRf (X : Cx) (B : Base) (h : HF) (F : Nat → List Nat) (w : World) : Prop where
 ent : ∀ id g e, h id = some (g, e) → EntOK X w id g (F id) e
 blk : ∀ id ge b, h id = some ge → b ∈ F id → b < w.heap.size
 sep : ∀ id id' ge ge' b, h id = some ge → h id' = some ge' → b ∈ F id → b ∈ F id' → id = id'
 ok2 : ∀ b, X.ok2 b → b < w.heap.size ∧ ∀ id ge, h id = some ge → b ∉ F id
 ok12 : ∀ b, X.ok1 b → X.ok2 b
 in1 : ∀ b, X.ok1 b → B.O1 b ∨ B.S0 b ∨ B.w0.heap.size ≤ b
 in2 : ∀ b, X.ok2 b → B.O2 b ∨ B.S0 b ∨ B.w0.heap.size ≤ b
 own : ∀ id ge b, h id = some ge → b ∈ F id → B.S0 b ∨ B.w0.heap.size ≤ b
 hist : ∀ id g, (∀ g' e, h id = some (g', e) → g' < g) → X.bx id g = none ∧ X.rw id g = none
 os : w.os = B.w0.os
 tape : w.tape = B.w0.tape
 output : w.output = B.w0.output
 size : B.w0.heap.size ≤ w.heap.size
 keep : ∀ b, b < B.w0.heap.size → ¬ B.S0 b → w.heap[b]? = B.w0.heap[b]?
def SRh (X : Cx) (B : Base) (h : HF) (w : World) : Prop := ∃ F, SRf X B h F w
theorem SRh.ok12 (H : SRh X B h w) : ∀ b, X.ok1 b → X.ok2 b := let ⟨_, k⟩ := H; k.ok12
theorem SRh.hist (H : SRh X B h w) : ∀ id g, (∀ g' e, h id = some (g', e) → g' < g) → X.bx id g = none ∧ X.rw id g = none := let ⟨_, k⟩ := H; k.hist
theorem SRh.box (H : SRh X B h w) {id : Nat} (he : h id = some (g, .box ty cs)) : ∃ b us, X.bx id g = some b ∧ w.heap[b]? = some (.cells us.toArray ty (0, 0)) ∧ VRs X w cs us :=
 let ⟨_, k⟩ := H
 let ⟨b, us, _, h1, h2, h3, _⟩ := k.ent _ _ _ he
 ⟨b, us, h1, h2, h3.vrs⟩
theorem SRh.row (H : SRh X B h w) {id : Nat} (he : h id = some (g, .row ty sz xs)) : ∃ v us, X.rw id g = some (v, sz) ∧ Own w ty sz v xs.length us ∧ Lens sz xs ∧ VRs X w xs.flatten us :=
 let ⟨_, k⟩ := H
 let ⟨v, us, _, h1, h2, h3, h4, _⟩ := k.ent _ _ _ he
 ⟨v, us, h1, h2, h3, h4.vrs⟩
theorem SRf.drew (H : SRf X B h F w) (hh : w'.heap = w.heap) (h1 : w'.os = w.os) (h2 : w'.tape = w.tape) (h3 : w'.output = w.output) : SRf X B h F w' :=
 { H with
  ent := fun id g e he => (H.ent id g e he).mono (Cx.le.refl X) H.ok12 (fun b _ => by rw [hh]) (fun b _ => by rw [hh])
  blk := fun id g b he hb => by rw [hh]; exact H.blk id g b he hb
  ok2 := fun b hb => by rw [hh]; exact H.ok2 b hb
  os := h1.trans H.os
  tape := h2.trans H.tape
  output := h3.trans H.output
  size := by rw [hh]; exact H.size
  keep := fun b hb hs => by rw [hh]; exact H.keep b hb hs }
theorem SRh.drew (H : SRh X B h w) (hh : w'.heap = w.heap) (h1 : w'.os = w.os) (h2 : w'.tape = w.tape) (h3 : w'.output = w.output) : SRh X B h w' :=
 let ⟨F, k⟩ := H; ⟨F, k.drew hh h1 h2 h3⟩

structure Grew (w w' : World) (S : List Nat) : Prop where
 os : w'.os = w.os
 tape : w'.tape = w.tape
 output : w'.output = w.output
 size : w.heap.size ≤ w'.heap.size
 block : ∀ b, b < w.heap.size → b ∉ S → w'.heap[b]? = w.heap[b]?
theorem Grew.of (h : w.grownBy w' r) (S : List Nat) (hr : ∀ b, r = some b → b ∈ S) : Grew w w' S :=
 ⟨h.os, h.tape, h.output, h.size, fun b hb hn => h.block b hb (fun e => hn (hr b e.symm))⟩
def b0f (F : Nat → List Nat) (id : Nat) (f : List Nat) : Nat → List Nat := fun k => if k = id then f else F k

theorem SRf.turn (H : SRf X B h F w) (hold : h id = some (g, e))
  (hX : X.le Y) (h1 : Y.ok1 = X.ok1) (h2 : Y.ok2 = X.ok2) (hY : ∀ i k, (i ≠ id ∨ k ≠ g') → Y.bx i k = X.bx i k ∧ Y.rw i k = X.rw i k) (hg : g ≤ g')
  (hw : Grew w w' (F id)) (hent : EntOK Y w' id g' f e')
  (hblk : ∀ b ∈ f, (b ∈ F id ∨ w.heap.size ≤ b) ∧ b < w'.heap.size) : SRf Y B (upd h id (g', e')) (b0f F id f) w' := by
 have hne : ∀ i ge b, i ≠ id → h i = some ge → b ∈ F i → w'.heap[b]? = w.heap[b]? := fun i ge b hi hc hb =>
  hw.block b (H.blk i ge b hc hb) (fun he => hi (H.sep i id ge _ b hc hold hb he))
 have hok : ∀ b, X.ok2 b → w'.heap[b]? = w.heap[b]? := fun b hb => hw.block b (H.ok2 b hb).1 (fun he => (H.ok2 b hb).2 id _ hold he)
 have fne : ∀ i, i ≠ id → b0f F id f i = F i := fun i hi => by simp [b0f, hi]
 have feq : b0f F id f id = f := by simp [b0f]
 refine ⟨?_, ?_, ?_, ?_, ?_, ?_, ?_, ?_, ?_, hw.os.trans H.os, hw.tape.trans H.tape, hw.output.trans H.output, Nat.le_trans H.size hw.size, ?_⟩
 ·intro i k c hc
  by_cases hi : i = id
  ·subst hi
   rw [a4x] at hc
   cases hc
   rw [feq]
   exact hent
  ·rw [w1w _ hi] at hc
   rw [fne i hi]
   exact (H.ent i k c hc).mono hX H.ok12 hok (fun b hb => hne i _ b hi hc hb)
 ·intro i ge b hc hb
  by_cases hi : i = id
  ·subst hi
   rw [feq] at hb
   exact (hblk b hb).2
  ·rw [w1w _ hi] at hc
   rw [fne i hi] at hb
   exact Nat.lt_of_lt_of_le (H.blk i ge b hc hb) hw.size
 ·intro i i' ge ge' b hc hc' hb hb'
  by_cases hi : i = id
  ·by_cases hi' : i' = id
   ·rw [hi, hi']
   ·subst hi
    rw [feq] at hb
    rw [w1w _ hi'] at hc'
    rw [fne i' hi'] at hb'
    rcases (hblk b hb).1 with h3 | h3
    ·exact H.sep i i' _ ge' b hold hc' h3 hb'
    ·have := H.blk i' ge' b hc' hb'
     omega
  ·rw [w1w _ hi] at hc
   rw [fne i hi] at hb
   by_cases hi' : i' = id
   ·subst hi'
    rw [feq] at hb'
    rcases (hblk b hb').1 with h3 | h3
    ·exact H.sep i i' ge _ b hc hold hb h3
    ·have := H.blk i ge b hc hb
     omega
   ·rw [w1w _ hi'] at hc'
    rw [fne i' hi'] at hb'
    exact H.sep i i' ge ge' b hc hc' hb hb'
 ·intro b hb
  rw [h2] at hb
  refine ⟨Nat.lt_of_lt_of_le (H.ok2 b hb).1 hw.size, fun i ge hc hbb => ?_⟩
  by_cases hi : i = id
  ·subst hi
   rw [feq] at hbb
   rcases (hblk b hbb).1 with h3 | h3
   ·exact (H.ok2 b hb).2 i _ hold h3
   ·have := (H.ok2 b hb).1
    omega
  ·rw [w1w _ hi] at hc
   rw [fne i hi] at hbb
   exact (H.ok2 b hb).2 i ge hc hbb
 ·intro b hb
  rw [h1] at hb
  rw [h2]
  exact H.ok12 b hb
 ·intro b hb
  rw [h1] at hb
  exact H.in1 b hb
 ·intro b hb
  rw [h2] at hb
  exact H.in2 b hb
 ·intro i ge b hc hb
  by_cases hi : i = id
  ·subst hi
   rw [feq] at hb
   rcases (hblk b hb).1 with h3 | h3
   ·exact H.own i _ b hold h3
   ·exact .inr (Nat.le_trans H.size h3)
  ·rw [w1w _ hi] at hc
   rw [fne i hi] at hb
   exact H.own i ge b hc hb
 ·intro i k hk
  by_cases hi : i = id
  ·subst hi
   have h3 := hk g' e' (a4x _ _ _)
   obtain ⟨e1, e2⟩ := hY i k (.inr (by omega))
   rw [e1, e2]
   exact H.hist i k (fun g'' c hc => by rw [hold] at hc; cases hc; omega)
  ·obtain ⟨e1, e2⟩ := hY i k (.inl hi)
   rw [e1, e2]
   exact H.hist i k (fun g'' c hc => hk g'' c (by rw [w1w _ hi]; exact hc))
 ·intro b hb hs
  rw [← H.keep b hb hs]
  refine hw.block b (Nat.lt_of_lt_of_le hb H.size) (fun he => ?_)
  rcases H.own id _ b hold he with h3 | h3
  ·exact hs h3
  ·omega

structure FrOK (X : Cx) (w : World) (n : Nat) (f : FF) (a : Act) : Prop where
 size : a.tmps.size = n
 slot : ∀ k av, f k = some av → ∃ v, a.tmps[k]? = some v ∧ VR X w av v
theorem FrOK.mono (h : FrOK X w n f a) (hX : X.le Y) (h12 : ∀ b, X.ok1 b → X.ok2 b) (hw : ∀ b, X.ok2 b → w'.heap[b]? = w.heap[b]?) : FrOK Y w' n f a :=
 ⟨h.size, fun k av hk => let ⟨v, h1, h2⟩ := h.slot k av hk; ⟨v, h1, h2.mono hX h12 hw⟩⟩
def c0r (f : FF) : Option Nat → AV → FF
 | none, _ => f
 | some k, v => fun j => if j = k then some v else f j
theorem FrOK.put (h : FrOK X w n f a) (dst : Option Nat) (hv : VR X w av v) (hd : ∀ k, dst = some k → k < n) : FrOK X w n (c0r f dst av) (a.put dst v) := by
 cases dst with
 | none => exact h
 | some k =>
  refine ⟨by simp [Act.put, h.size], fun j u hj => ?_⟩
  simp only [c0r] at hj
  by_cases e : j = k
  ·subst e
   rw [if_pos rfl] at hj
   cases hj
   refine ⟨v, ?_, hv⟩
   have := hd j rfl
   have h2 := h.size
   simp only [Act.put, Array.getElem?_setIfInBounds, if_true]
   rw [if_pos (by omega)]
  ·rw [if_neg e] at hj
   obtain ⟨x, h1, h2⟩ := h.slot j u hj
   refine ⟨x, ?_, h2⟩
   simp only [Act.put, Array.getElem?_setIfInBounds]
   rw [if_neg (Ne.symm e)]
   exact h1
end
section
def b1s (h : HF) (W : List (Nat × (Nat × Ent))) : HF := fun k => match y4y W k with
 | some ge => some ge
 | none => h k
theorem b0g (h : HF) : b1s h [] = h := rfl
theorem s2s (h : HF) (id : Nat) (ge : Nat × Ent) : b1s h [(id, ge)] = upd h id ge := by
 funext k
 simp only [b1s, u8u, c0q, upd]
 by_cases e : k = id
 ·subst e; simp
 ·simp [e, Ne.symm e]

structure OR where
 ins : List (Nat × AV)
 T : List (Nat × (Nat × Ent))
 W : List (Nat × (Nat × Ent))
 out : AV
def w4w (ops : Array Oper) (i : Nat) : Option Nat := (ops[i]?).bind (·.dst)
def OpT (P : Program) (ops : Array Oper) (i : Nat) (r : OR) : Prop :=
 ∀ (X : Cx) (B : Base) (h : HF) (a : Act) (w : World) (Q : Exit → Act → World → Prop) (K : Act → World → Prop), SRh X B h w →
  (∀ t av, (t, av) ∈ r.ins → VR X w av (a.tmps.getD t undef)) → (∀ id ge, (id, ge) ∈ r.T → h id = some ge) →
  (∀ X' w' v, X.le X' → SRh X' B (b1s h r.W) w' → (∀ b, X.ok2 b → w'.heap[b]? = w.heap[b]?) → VR X' w' r.out v → K (a.put (w4w ops i) v) w') →
  wpOp P ops Q i K a w
def a6k : Nat → (Nat → Bool) → Option Nat
 | 0, _ => none
 | n + 1, p => if p n then some n else a6k n p
theorem b0h (h : ∀ j, j < n → p j = q j) : a6k n p = a6k n q := by
 induction n with
 | zero => rfl
 | succ n ih =>
  simp only [a6k, h n (Nat.lt_succ_self n)]
  rw [ih (fun j hj => h j (Nat.lt_succ_of_lt hj))]
theorem a8k (hj : j < n) (hp : p j = true) (hl : ∀ k, k < n → j < k → p k = false) : a6k n p = some j := by
 induction n with
 | zero => omega
 | succ n ih =>
  simp only [a6k]
  by_cases e : j = n
  ·subst e; simp [hp]
  ·rw [hl n (Nat.lt_succ_self n) (by omega)]
   simp only [Bool.false_eq_true, if_false]
   exact ih (by omega) (fun k hk => hl k (by omega))
theorem a2d (hl : ∀ k, k < n → p k = false) : a6k n p = none := by
 induction n with
 | zero => rfl
 | succ n ih =>
  simp only [a6k, hl n (Nat.lt_succ_self n), Bool.false_eq_true, if_false]
  exact ih (fun k hk => hl k (by omega))
section
variable (ops : Array Oper) (rs : Nat → OR) (f0 : FF) (h0 : HF)
def wrT (i t : Nat) : Bool := w4w ops i == some t
def wrI (i id : Nat) : Bool := (y4y (rs i).W id).isSome

def FV (L : Nat → Bool) : FF := fun t => match a6k ops.size (fun j => L j && wrT ops j t) with
 | some j => some (rs j).out
 | none => f0 t
def HV (L : Nat → Bool) : HF := fun id => match a6k ops.size (fun j => L j && wrI rs j id) with
 | some j => y4y (rs j).W id
 | none => h0 id
inductive Reach : Nat → Nat → Prop
 | edge {i : Nat} {o : Oper} {e : Edge} (hi : ops[i]? = some o) (he : e ∈ o.after) (hb : Region.binds .any e = true) : Reach e.on i
 | trans {i j k : Nat} (h : Reach i j) (h' : Reach j k) : Reach i k

def Ord (i j : Nat) : Prop := (i < j → Reach ops i j) ∧ (j < i → Reach ops j i)

structure RegO : Prop where
 back : ∀ i o e, ops[i]? = some o → e ∈ o.after → Region.binds .any e = true → e.on < i
 wt : ∀ i id, i < ops.size → wrI rs i id = true → ∃ ge, (id, ge) ∈ (rs i).T
 ordT : ∀ i j t, i < ops.size → j < ops.size → i ≠ j → ((∃ av, (t, av) ∈ (rs i).ins) ∨ w4w ops i = some t) → w4w ops j = some t → Ord ops i j
 ordI : ∀ i j id, i < ops.size → j < ops.size → i ≠ j → (∃ ge, (id, ge) ∈ (rs i).T) → wrI rs j id = true → Ord ops i j
structure RegOK : Prop extends RegO ops rs where
 ins : ∀ i t av, i < ops.size → (t, av) ∈ (rs i).ins → FV ops rs f0 (fun j => decide (j < i)) t = some av
 ent : ∀ i id ge, i < ops.size → (id, ge) ∈ (rs i).T → HV ops rs h0 (fun j => decide (j < i)) id = some ge
end
section
variable {P : Program} {ops : Array Oper} {rs : Nat → OR} {f0 : FF} {h0 : HF}
def a7p (ops : Array Oper) (L : Nat → Bool) : Prop := ∀ i o e, L i = true → ops[i]? = some o → e ∈ o.after → Region.binds .any e = true → L e.on = true
theorem b1t (hL : a7p ops L) (h : Reach ops j i) : L i = true → L j = true := by
 induction h with
 | edge hi he hb => exact fun hl => hL _ _ _ hl hi he hb
 | trans _ _ ih ih' => exact fun hl => ih (ih' hl)
theorem d1l (hL : a7p ops L) (h : Reach ops j i) : (∀ o e, ops[i]? = some o → e ∈ o.after → Region.binds .any e = true → L e.on = true) → L j = true := by
 induction h with
 | edge hi he hb => exact fun hr => hr _ _ hi he hb
 | trans h1 _ _ ih' => exact fun hr => b1t hL h1 (ih' hr)

theorem a2q (hL : a7p ops L) (hi : L i = false) (hr : ∀ o e, ops[i]? = some o → e ∈ o.after → Region.binds .any e = true → L e.on = true) (hj : i ≠ j → Ord ops i j) : L j = decide (j < i) := by
 by_cases e : i = j
 ·subst e; simp [hi]
 ·rcases Nat.lt_or_ge j i with h | h
  ·simp only [h, decide_true]
   exact d1l hL ((hj e).2 h) hr
  ·have hlt : i < j := by omega
   rw [decide_eq_false (by omega)]
   cases hl : L j with
   | false => rfl
   | true => rw [b1t hL ((hj e).1 hlt) hl] at hi; cases hi
theorem a4y (h : ∀ j, j < ops.size → wrT ops j t = true → L j = L' j) : FV ops rs f0 L t = FV ops rs f0 L' t := by
 unfold FV
 rw [b0h (q := fun j => L' j && wrT ops j t) (fun j hj => by
  cases hw : wrT ops j t with
  | false => simp
  | true => simp [h j hj hw])]
variable {id : Nat}
theorem a4z (h : ∀ j, j < ops.size → wrI rs j id = true → L j = L' j) : HV ops rs h0 L id = HV ops rs h0 L' id := by
 unfold HV
 rw [b0h (q := fun j => L' j && wrI rs j id) (fun j hj => by
  cases hw : wrI rs j id with
  | false => simp
  | true => simp [h j hj hw])]
def b6i (L : Nat → Bool) (i : Nat) : Nat → Bool := fun j => if j = i then true else L j
theorem d3e (H : RegO ops rs) (hL : a7p ops L) (hi : i < ops.size) (hli : L i = false) (hr : ∀ o e, ops[i]? = some o → e ∈ o.after → Region.binds .any e = true → L e.on = true) :
  FV ops rs f0 (b6i L i) = c0r (FV ops rs f0 L) (w4w ops i) (rs i).out := by
 funext t
 by_cases ht : w4w ops i = some t
 ·rw [ht]
  simp only [c0r, if_true]
  unfold FV
  rw [a8k (j := i) hi (by simp [b6i, wrT, ht]) (fun k hk hik => ?_)]
  cases hw : wrT ops k t with
  | false => simp
  | true =>
   have hd : w4w ops k = some t := by simpa [wrT] using hw
   have := a2q hL hli hr (j := k) (fun hne => H.ordT i k t hi hk hne (.inr ht) hd)
   rw [decide_eq_false (by omega)] at this
   simp [b6i, this, show ¬ k = i by omega]
 ·have hft : c0r (FV ops rs f0 L) (w4w ops i) (rs i).out t = FV ops rs f0 L t := by
   cases hd : w4w ops i with
   | none => rfl
   | some k =>
    simp only [c0r]
    rw [if_neg (fun e => ht (by rw [hd, e]))]
  rw [hft]
  refine a4y (fun j hj hw => ?_)
  have : j ≠ i := by
   rintro rfl
   exact ht (by simpa [wrT] using hw)
  simp [b6i, this]
theorem d3f (H : RegO ops rs) (hL : a7p ops L) (hi : i < ops.size) (hli : L i = false) (hr : ∀ o e, ops[i]? = some o → e ∈ o.after → Region.binds .any e = true → L e.on = true) :
  HV ops rs h0 (b6i L i) = b1s (HV ops rs h0 L) (rs i).W := by
 funext id
 by_cases ht : wrI rs i id = true
 ·have h1 : HV ops rs h0 (b6i L i) id = y4y (rs i).W id := by
   unfold HV
   rw [a8k (j := i) hi (by simp [b6i, ht]) (fun k hk hik => ?_)]
   cases hw : wrI rs k id with
   | false => simp
   | true =>
    have := a2q hL hli hr (j := k) (fun hne => H.ordI i k id hi hk hne (H.wt i id hi ht) hw)
    rw [decide_eq_false (by omega)] at this
    simp [b6i, this, show ¬ k = i by omega]
  rw [h1]
  unfold b1s
  cases hw : y4y (rs i).W id with
  | none => simp [wrI, hw] at ht
  | some ge => rfl
 ·have h1 : y4y (rs i).W id = none := by
   cases hw : y4y (rs i).W id with
   | none => rfl
   | some ge => simp [wrI, hw] at ht
  simp only [b1s, h1]
  refine a4z (fun j hj hw => ?_)
  have : j ≠ i := by
   rintro rfl
   exact ht hw
  simp [b6i, this]

theorem d7x (H : RegOK ops rs f0 h0) (hT : ∀ i, i < ops.size → OpT P ops i (rs i)) (hd : ∀ i k, w4w ops i = some k → k < n) (hL : a7p ops L) (hi : i < ops.size)
  (hli : L i = false) (hr : ∀ o e, ops[i]? = some o → e ∈ o.after → Region.binds .any e = true → L e.on = true) (hS : SRh X B (HV ops rs h0 L) w) (hF : FrOK X w n (FV ops rs f0 L) a)
  (hK : ∀ X' w' a', X.le X' → (∀ b, X.ok2 b → w'.heap[b]? = w.heap[b]?) → SRh X' B (HV ops rs h0 (b6i L i)) w' → FrOK X' w' n (FV ops rs f0 (b6i L i)) a' → a'.defers = a.defers → K a' w') : wpOp P ops Q i K a w := by
 refine hT i hi X B (HV ops rs h0 L) a w Q K hS (fun t av hm => ?_) (fun id ge hm => ?_) (fun X' w' v hX hS' hok hv => ?_)
 ·have h1 := H.ins i t av hi hm
  rw [a4y (L' := L) (fun j hj hw => (a2q hL hli hr (fun hne => H.ordT i j t hi hj hne (.inl ⟨av, hm⟩) (by simpa [wrT] using hw))).symm)] at h1
  obtain ⟨v, h2, h3⟩ := hF.slot t av h1
  simp [Array.getD_eq_getD_getElem?, h2]
  exact h3
 ·have h1 := H.ent i id ge hi hm
  rw [a4z (L' := L) (fun j hj hw => (a2q hL hli hr (fun hne => H.ordI i j id hi hj hne ⟨ge, hm⟩ hw)).symm)] at h1
  exact h1
 ·refine hK X' w' _ hX hok ?_ ?_ (by cases w4w ops i <;> rfl)
  ·rw [d3f H.toRegO hL hi hli hr]; exact hS'
  ·rw [d3e H.toRegO hL hi hli hr]
   exact (hF.mono hX hS.ok12 hok).put _ hv (fun k hk => hd i k hk)
theorem b3m (hL : a7p ops L) (hr : ∀ o e, ops[i]? = some o → e ∈ o.after → Region.binds .any e = true → L e.on = true) : a7p ops (b6i L i) := by
 intro j o e hj ho he hb
 by_cases hji : j = i
 ·subst hji
  have := hr o e ho he hb
  simp only [b6i]
  split <;> simp [*]
 ·simp only [b6i, hji, if_false] at hj
  have := hL j o e hj ho he hb
  simp only [b6i]
  split <;> simp [*]
theorem b6j (h : i ∈ Region.ready .any ops listed) : i < ops.size ∧ listed.getD i true = false ∧ ∀ o e, ops[i]? = some o → e ∈ o.after → Region.binds .any e = true → listed.getD e.on false = true := by
 unfold Region.ready at h
 rw [List.mem_filter, List.mem_range] at h
 obtain ⟨h1, h2⟩ := h
 rw [Bool.and_eq_true] at h2
 refine ⟨h1, by simpa using h2.1, fun o e ho he hb => ?_⟩
 have h3 := h2.2
 rw [ho] at h3
 simp only [Option.map_some, Option.getD_some, Array.all_eq_true'] at h3
 have := h3 e he
 simpa [hb] using this
theorem c8k (H : RegO ops rs) (hs : listed.size = ops.size) (h : Region.ready .any ops listed = []) : ∀ i, i < ops.size → listed.getD i false = true := by
 intro i
 induction i using Nat.strongRecOn with
 | _ i ih =>
  intro hi
  have hn : i ∉ Region.ready .any ops listed := by rw [h]; simp
  unfold Region.ready at hn
  rw [List.mem_filter, List.mem_range] at hn
  have hall : ((ops[i]?).map (·.after.all fun e => !Region.binds .any e || listed.getD e.on false)).getD false = true := by
   obtain ⟨o, ho⟩ : ∃ o, ops[i]? = some o := ⟨ops[i], Array.getElem?_eq_getElem hi⟩
   rw [ho]
   simp only [Option.map_some, Option.getD_some, Array.all_eq_true']
   intro e he
   cases hb : Region.binds .any e with
   | false => rfl
   | true =>
    have := H.back i o e ho he hb
    simp only [Bool.not_true, Bool.false_or]
    exact ih e.on this (by omega)
  rw [hall] at hn
  cases hl : listed.getD i true with
  | false => exact absurd ⟨hi, by simp [hl]⟩ hn
  | true =>
   rw [Array.getD_eq_getD_getElem?] at hl ⊢
   rw [Array.getElem?_eq_getElem (by omega)] at hl ⊢
   exact hl
def bits (listed : Array Bool) : Nat → Bool := fun i => listed.getD i false
theorem d3g (hi : i < listed.size) : bits (listed.setIfInBounds i true) = b6i (bits listed) i := by
 funext j
 simp only [bits, b6i, Array.getD_eq_getD_getElem?, Array.getElem?_setIfInBounds]
 by_cases e : i = j
 ·subst e; simp [hi]
 ·simp [e, Ne.symm e]
variable {n : Nat} {B : Base} {G : Cx → World → Prop} {D : List Deferred} {Q : Exit → Act → World → Prop}
theorem d7y (H : RegOK ops rs f0 h0) (hT : ∀ i, i < ops.size → OpT P ops i (rs i)) (hd : ∀ i k, w4w ops i = some k → k < n) (hG : ∀ X w X' w', G X w → X.le X' → (∀ b, X.ok2 b → w'.heap[b]? = w.heap[b]?) → G X' w')
  (hQ : ∀ X w a, G X w → SRh X B (HV ops rs h0 (fun _ => true)) w → FrOK X w n (FV ops rs f0 (fun _ => true)) a → a.defers = D → Q .normal a w) :
  ∀ (fuel : Nat) (listed : Array Bool) (X : Cx) (a : Act) (w : World), listed.size = ops.size → ((List.range ops.size).filter (fun i => !bits listed i)).length ≤ fuel → a7p ops (bits listed) → G X w →
   SRh X B (HV ops rs h0 (bits listed)) w → FrOK X w n (FV ops rs f0 (bits listed)) a → a.defers = D → wpAny P .any ops Q fuel listed a w := by
 intro fuel
 have fin : ∀ (listed : Array Bool) (X : Cx) (a : Act) (w : World), (∀ i, i < ops.size → bits listed i = true) → G X w → SRh X B (HV ops rs h0 (bits listed)) w → FrOK X w n (FV ops rs f0 (bits listed)) a → a.defers = D → Q .normal a w := by
  intro listed X a w hall hX hS hF hD
  have e1 : HV ops rs h0 (bits listed) = HV ops rs h0 (fun _ => true) := funext fun id => a4z (fun j hj _ => hall j hj)
  have e2 : FV ops rs f0 (bits listed) = FV ops rs f0 (fun _ => true) := funext fun id => a4y (fun j hj _ => hall j hj)
  rw [e1] at hS
  rw [e2] at hF
  exact hQ X w a hX hS hF hD
 induction fuel with
 | zero =>
  intro listed X a w hs hf hL hX hS hF hD
  have hall : ∀ i, i < ops.size → bits listed i = true := by
   intro i hi
   have h0 : (List.range ops.size).filter (fun i => !bits listed i) = [] := List.eq_nil_of_length_eq_zero (by omega)
   cases hb : bits listed i with
   | true => rfl
   | false =>
    have : i ∈ (List.range ops.size).filter (fun i => !bits listed i) := by
     rw [List.mem_filter, List.mem_range]
     exact ⟨hi, by simp [hb]⟩
    rw [h0] at this
    cases this
  refine ⟨?_, fin listed X a w hall hX hS hF hD⟩
  cases hr : Region.ready .any ops listed with
  | nil => rfl
  | cons i l =>
   exfalso
   obtain ⟨h1, h2, _⟩ := b6j (show i ∈ Region.ready .any ops listed by rw [hr]; simp)
   have h3 := hall i h1
   simp only [bits, Array.getD_eq_getD_getElem?] at h2 h3
   rw [Array.getElem?_eq_getElem (by omega)] at h2 h3
   simp only [Option.getD_some] at h2 h3
   rw [h2] at h3
   cases h3
 | succ fuel ih =>
  intro listed X a w hs hf hL hX hS hF hD
  refine ⟨fun hr => fin listed X a w (c8k H.toRegO hs hr) hX hS hF hD, fun i hi => ?_⟩
  obtain ⟨h1, h2, h3⟩ := b6j hi
  have hli : bits listed i = false := by
   simp only [bits, Array.getD_eq_getD_getElem?] at h2 ⊢
   rw [Array.getElem?_eq_getElem (by omega)] at h2 ⊢
   simpa using h2
  refine d7x H hT hd hL h1 hli h3 hS hF (fun X' w' a' hX' hk' hS' hF' hD' => ?_)
  have hb := d3g (listed := listed) (i := i) (by omega)
  refine ih _ X' a' w' (by simp [hs]) ?_ (by rw [hb]; exact b3m hL h3) (hG _ _ _ _ hX hX' hk') (by rw [hb]; exact hS') (by rw [hb]; exact hF') (hD'.trans hD)
  rw [hb]
  have hlt : ((List.range ops.size).filter (fun j => !b6i (bits listed) i j)).length < ((List.range ops.size).filter (fun j => !bits listed j)).length := by
   have hsub : (List.range ops.size).filter (fun j => !b6i (bits listed) i j) = ((List.range ops.size).filter (fun j => !bits listed j)).filter (fun j => !(j == i)) := by
    rw [List.filter_filter]
    refine List.filter_congr (fun j _ => ?_)
    simp only [b6i]
    by_cases e : j = i <;> simp [e]
   rw [hsub]
   refine List.length_filter_lt_length_iff_exists.2 ⟨i, ?_, by simp⟩
   rw [List.mem_filter, List.mem_range]
   exact ⟨h1, by simp [hli]⟩
  omega

theorem d5x (H : RegOK ops rs f0 h0) (hT : ∀ i, i < ops.size → OpT P ops i (rs i)) (hd : ∀ i k, w4w ops i = some k → k < n) (hG : ∀ X w X' w', G X w → X.le X' → (∀ b, X.ok2 b → w'.heap[b]? = w.heap[b]?) → G X' w')
  (hQ : ∀ X w a, G X w → SRh X B (HV ops rs h0 (fun _ => true)) w → FrOK X w n (FV ops rs f0 (fun _ => true)) a → a.defers = D → Q .normal a w) :
  ∀ (m i : Nat) (X : Cx) (a : Act) (w : World), i + m = ops.size → G X w → SRh X B (HV ops rs h0 (fun j => decide (j < i))) w → FrOK X w n (FV ops rs f0 (fun j => decide (j < i))) a → a.defers = D →
   wpOps P ops Q (List.range' i m) a w := by
 intro m
 induction m with
 | zero =>
  intro i X a w him hX hS hF hD
  have e1 : HV ops rs h0 (fun j => decide (j < i)) = HV ops rs h0 (fun _ => true) := funext fun id => a4z (fun j hj _ => by simp; omega)
  have e2 : FV ops rs f0 (fun j => decide (j < i)) = FV ops rs f0 (fun _ => true) := funext fun id => a4y (fun j hj _ => by simp; omega)
  rw [e1] at hS
  rw [e2] at hF
  exact hQ X w a hX hS hF hD
 | succ m ih =>
  intro i X a w him hX hS hF hD
  have hadd : b6i (fun j => decide (j < i)) i = fun j => decide (j < i + 1) := by
   funext j
   simp only [b6i]
   by_cases e : j = i
   ·simp [e]
   ·rw [if_neg e]
    exact decide_eq_decide.2 (by omega)
  rw [List.range'_succ, wpOps_cons]
  refine d7x (L := fun j => decide (j < i)) H hT hd (fun j o e hj ho he hb => ?_) (i := i) (by omega) (by simp) (fun o e ho he hb => ?_) hS hF (fun X' w' a' hX' hk' hS' hF' hD' => ?_)
  ·have := H.back j o e ho he hb
   have : j < i := by simpa using hj
   simp; omega
  ·have := H.back i o e ho he hb
   simpa using this
  ·rw [hadd] at hS' hF'
   exact ih (i + 1) X' a' w' (by omega) (hG _ _ _ _ hX hX' hk') hS' hF' (hD'.trans hD)
theorem c8l (hm : P.follows .mixedOrders = true) (H : RegOK ops rs f0 h0) (hT : ∀ i, i < ops.size → OpT P ops i (rs i)) (hd : ∀ i k, w4w ops i = some k → k < n) {X : Cx} {draw : Bool} {a : Act} {w : World}
  (hS : SRh X B h0 w) (hF : FrOK X w n f0 a)
  (hQ : ∀ X' w' a', X.le X' → (∀ b, X.ok2 b → w'.heap[b]? = w.heap[b]?) → SRh X' B (HV ops rs h0 (fun _ => true)) w' → FrOK X' w' n (FV ops rs f0 (fun _ => true)) a' → a'.defers = a.defers → Q .normal a' w') : (Code.region id ops draw).wp P Q a w := by
 have e1 : HV ops rs h0 (fun _ => false) = h0 := by
  funext k
  unfold HV
  rw [a2d (fun j _ => by simp)]
 have e2 : FV ops rs f0 (fun _ => false) = f0 := by
  funext k
  unfold FV
  rw [a2d (fun j _ => by simp)]
 cases draw with
 | false =>
  refine wp_region ?_
  rw [List.range_eq_range']
  have e3 : (fun j => decide (j < 0)) = (fun _ : Nat => false) := by funext j; simp
  refine d5x H hT hd (G := fun X' w' => X.le X' ∧ ∀ b, X.ok2 b → w'.heap[b]? = w.heap[b]?) (fun X1 w1 X2 w2 h1 h2 h3 => ⟨h1.1.trans h2, fun b hb => (h3 b (h1.1.ok2 b hb)).trans (h1.2 b hb)⟩) (D := a.defers) (fun X' w' a' h1 h2 h3 h4 => hQ X' w' a' h1.1 h1.2 h2 h3 h4) ops.size 0 X a w (by omega) ⟨Cx.le.refl X, fun _ _ => rfl⟩ ?_ ?_ rfl
  ·rw [e3, e1]; exact hS
  ·rw [e3, e2]; exact hF
 | true =>
  refine wp_region_any hm ?_
  have hb : bits (Array.replicate ops.size false) = fun _ => false := by
   funext j
   simp only [bits, Array.getD_eq_getD_getElem?, Array.getElem?_replicate]
   split <;> rfl
  refine d7y H hT hd (G := fun X' w' => X.le X' ∧ ∀ b, X.ok2 b → w'.heap[b]? = w.heap[b]?) (fun X1 w1 X2 w2 h1 h2 h3 => ⟨h1.1.trans h2, fun b hb => (h3 b (h1.1.ok2 b hb)).trans (h1.2 b hb)⟩) (D := a.defers) (fun X' w' a' h1 h2 h3 h4 => hQ X' w' a' h1.1 h1.2 h2 h3 h4) ops.size (Array.replicate ops.size false) X a _ (by simp) ?_ ?_ ⟨Cx.le.refl X, fun _ _ => rfl⟩ ?_ ?_ rfl
  ·have := List.length_filter_le (fun i => !bits (Array.replicate ops.size false) i) (List.range ops.size)
   simpa using this
  ·intro i o e hi
   rw [hb] at hi
   cases hi
  ·rw [hb, e1]; exact hS.drew rfl rfl rfl rfl
  ·rw [hb, e2]; exact hF.mono (Cx.le.refl X) hS.ok12 (fun _ _ => rfl)
end
end
section
inductive TK where
 | oth
 | int (k : IntKind)
 | str
 | st (flds : List (Nat × Nat))
 | arr (n e : Nat)
 | sl (e : Nat)
 | mp (k e : Nat)
structure TS where
 kind : TK
 size : Nat
 bytes : Nat
 zero : List Value
def TS.agg (s : TS) : Bool := match s.kind with
 | .st _ => true
 | .arr _ _ => true
 | _ => false
def KOk : TK → TypeDesc → Prop
 | .oth, d => d.isRow = false
 | .int k, d => d = .int k
 | .str, d => d = .string
 | .st flds, d => ∃ fs : Array Field, d = .struct fs ∧ flds.length = fs.size ∧ ∀ (j off ft : Nat), flds[j]? = some (off, ft) → ∃ f, fs[j]? = some f ∧ f.offset = off ∧ f.type = ft
 | .arr n e, d => d = .array n e
 | .sl e, d => d = .slice e
 | .mp k e, d => d = .map k e
structure TSOk (P : Program) (t : Nat) (s : TS) : Prop where
 info : ∃ i, P.info? t = some i ∧ i.size = s.size ∧ i.bytes = s.bytes ∧ i.zero = some (if s.agg then .agg s.zero.toArray else s.zero.getD 0 undef)
 zl : s.zero.length = s.size
 z1 : ∀ v ∈ s.zero, v.oneCell' = true
 sc : s.agg = false → s.size = 1
 desc : ∃ d, P.underlying t = some d ∧ KOk s.kind d
 fld : ∀ flds, s.kind = .st flds → ∀ p ∈ flds, ∃ i, P.info? p.2 = some i
def TT := Nat → Option TS
def a1z (P : Program) (tt : TT) : Prop := ∀ t s, tt t = some s → TSOk P t s
theorem TSOk.isRow (h : TSOk P t s) : ∃ d, P.underlying t = some d ∧ d.isRow = s.agg := by
 obtain ⟨d, h1, h2⟩ := h.desc
 refine ⟨d, h1, ?_⟩
 unfold TS.agg
 cases hk : s.kind <;> simp only [hk, KOk] at h2
 case oth => exact h2
 case st => obtain ⟨fs, rfl, _⟩ := h2; rfl
 all_goals (subst h2; rfl)
theorem TSOk.isAgg (h : TSOk P t s) (w : World) : (isAgg t).run P w = .ok s.agg w := by
 obtain ⟨d, h1, h2⟩ := h.isRow
 unfold Go.isAgg
 rw [Sem.run_bind, run_underlying h1 w, ← h2]
 cases d <;> simp [TypeDesc.isRow]
theorem TSOk.sizeOf (h : TSOk P t s) (w : World) : (sizeOf t).run P w = .ok s.size w := by
 obtain ⟨i, h1, h2, _⟩ := h.info
 simp [Go.sizeOf, typeInfo, h1, h2]
theorem TSOk.zeroValue (h : TSOk P t s) (w : World) : (zeroValue t).run P w = .ok (if s.agg then .agg s.zero.toArray else s.zero.getD 0 undef) w := by
 obtain ⟨i, h1, _, _, h4⟩ := h.info
 simp [Go.zeroValue, typeInfo, h1, h4]

def OpS (P : Program) (o : Oper) (ev : Operand → Option AV) (T W : List (Nat × (Nat × Ent))) (out : AV) : Prop :=
 ∀ (X : Cx) (B : Base) (h : HF) (a : Act) (w : World) (Q : Exit → Act → World → Prop) (K : Act → World → Prop), SRh X B h w →
  (∀ x ∈ o.op.operands, ∀ av, ev x = some av → VR X w av (a.eval x)) → (∀ id ge, (id, ge) ∈ T → h id = some ge) →
  (∀ X' w' v, X.le X' → SRh X' B (b1s h W) w' → (∀ b, X.ok2 b → w'.heap[b]? = w.heap[b]?) → VR X' w' out v → K (a.put o.dst v) w') → o.wp P a w K Q
theorem OpS.quiet
  (h : ∀ (X : Cx) (B : Base) (hp : HF) (a : Act) (w : World), SRh X B hp w → (∀ x ∈ o.op.operands, ∀ av, ev x = some av → VR X w av (a.eval x)) → (∀ id ge, (id, ge) ∈ T → hp id = some ge) →
   ∃ v, (execOp a.eval o).run P w = .ok (.value v) w ∧ VR X w out v) : OpS P o ev T [] out := by
 intro X B hp a w Q K hS hop hT hK
 obtain ⟨v, h1, h2⟩ := h X B hp a w hS hop hT
 unfold Oper.wp
 rw [h1, Oper.upon_value]
 exact hK X w v (Cx.le.refl X) hS (fun _ _ => rfl) h2
section inversions
variable {X : Cx} {w : World}
theorem VR.pv_inv (h : VR X w (.pv u) v) : v = u := by
 cases h with
 | cl h => cases h; rfl
theorem VR.agg_inv (h : VR X w (.agg cs) v) : ∃ us, v = .agg us.toArray ∧ VRs X w cs us := by
 cases h with
 | cl h =>
  cases h with
  | agg us hl hone h => exact ⟨us, rfl, hl, hone, fun i y u hy hu => .cl (h i y u hy hu)⟩
 | agg us hl hone h => exact ⟨us, rfl, hl, hone, h⟩
theorem VR.tup_inv (h : VR X w (.tup cs) v) : ∃ us : List Value, v = .tuple us.toArray ∧ us.length = cs.length ∧ ∀ (i : Nat) (y : AV) (u : Value), cs[i]? = some y → us[i]? = some u → VR X w y u := by
 cases h with
 | cl h => cases h
 | tup us hl h => exact ⟨us, rfl, hl, h⟩
variable {id : Nat}
theorem VR.ref_inv (h : VR X w (.ref id g) v) : ∃ A n c sz, v = .slice A n c ∧ X.rw id g = some (.slice A n c, sz) := by
 cases h with
 | cl h => cases h
 | ref h => exact ⟨_, _, _, _, rfl, h⟩
theorem VR.ptr_inv (h : VR X w (.ptr id g off) v) : ∃ b, v = .pointer (some ⟨b, off, none⟩) ∧ X.bx id g = some b := by
 cases h with
 | cl h => cases h
 | ptr h => exact ⟨_, rfl, h⟩
theorem VR.elt_inv (h : VR X w (.elt id g i off) v) : ∃ ad n c sz, v = .pointer (some (ad.add (i * sz + off))) ∧ X.rw id g = some (.slice (some ad) n c, sz) := by
 cases h with
 | cl h => cases h
 | elt h => exact ⟨_, _, _, _, rfl, h⟩
theorem VR.bsl_inv (h : VR X w (.bsl id g off len) v) : ∃ b c, v = .slice (some ⟨b, off, none⟩) len c ∧ X.bx id g = some b ∧ len ≤ c ∧ c ≤ maxLen := by
 cases h with
 | cl h => cases h
 | bsl h hc hm => exact ⟨_, _, rfl, h, hc, hm⟩
theorem VR.iel_inv (h : VR X w (.iel cs) v) : ∃ (ad : Addr) (u : Nat → Value), v = .pointer (some ad) ∧ X.ok2 ad.block ∧ (∀ (i : Nat) (y : AV), cs[i]? = some y → y.one = true) ∧
  (∀ (i : Nat) (y : AV), cs[i]? = some y → w.cell? (ad.add i) = some (u i)) ∧ (∀ (i : Nat) (y : AV), cs[i]? = some y → CR X.ok1 X.ok2 w y (u i)) := by
 cases h with
 | cl h => cases h
 | iel ad u h1 h2 h3 h4 => exact ⟨ad, u, rfl, h1, h2, h3, h4⟩
theorem VR.cut_inv (h : VR X w (.cut id g lo hi) v) : ∃ A A' n c c' sz, v = .slice A' (hi - lo) c' ∧ X.rw id g = some (.slice A n c, sz) ∧ lo ≤ hi ∧ hi ≤ n ∧ hi - lo ≤ c' ∧ c' ≤ maxLen ∧ (lo < hi → ∃ ad, A = some ad ∧ A' = some (ad.add (lo * sz))) := by
 cases h with
 | cl h => cases h
 | cut h h1 h2 h3 h4 h5 => exact ⟨_, _, _, _, _, _, rfl, h, h1, h2, h3, h4, h5⟩
theorem VR.fn_inv (h : VR X w (.fn f fi cap) v) : ∃ us vs : List Value, v = .func f us.toArray vs.toArray ∧ us.length = fi.length ∧ vs.length = cap.length ∧
  (∀ (i : Nat) (y : AV) (u : Value), fi[i]? = some y → us[i]? = some u → VR X w y u) ∧ (∀ (i : Nat) (y : AV) (u : Value), cap[i]? = some y → vs[i]? = some u → VR X w y u) := by
 cases h with
 | cl h => cases h
 | fn us vs h1 h2 h3 h4 => exact ⟨us, vs, rfl, h1, h2, h3, h4⟩
theorem VR.row_inv (h : VR X w (.row (.rd m) ty sz xs) v) :
  ∃ (A : Option Addr) (c : Nat) (u : Nat → Nat → Value), v = .slice A xs.length c ∧ xs.length ≤ c ∧ c ≤ maxLen ∧ Lens sz xs ∧
   (∀ (j i : Nat) (x : List AV) (y : AV), xs[j]? = some x → x[i]? = some y → y.one = true) ∧ (0 < xs.length → ∃ ad, A = some ad ∧ okm X.ok1 X.ok2 m ad.block) ∧
   (∀ (ad : Addr) (j i : Nat) (x : List AV) (y : AV), A = some ad → xs[j]? = some x → x[i]? = some y → w.cell? (ad.add (j * sz + i)) = some (u j i)) ∧
   (∀ (j i : Nat) (x : List AV) (y : AV), xs[j]? = some x → x[i]? = some y → CR X.ok1 X.ok2 w y (u j i)) := by
 cases h with
 | cl h =>
  cases h with
  | row A c u h1 h2 h3 h4 h5 h6 h7 => exact ⟨A, c, u, rfl, h1, h2, h3, h4, h5, h6, h7⟩
end inversions
theorem a8t (ad : Addr) (m n : Nat) : (ad.add m).add n = ad.add (m + n) := by
 unfold Addr.add
 by_cases h1 : m = 0 <;> by_cases h2 : n = 0 <;> simp [h1, h2]
 omega
variable {P : Program} {ev : Operand → Option AV}
theorem d3h (ho : o.op = .move x ∨ o.op = .assign x) (hx : ev x = some av) : OpS P o ev [] [] av :=
 .quiet fun X B hp a w hS hop hT => by
  rcases ho with ho | ho
  all_goals
   refine ⟨a.eval x, by simp [execOp, ho], hop x (by simp [ho, Op.operands]) av hx⟩
theorem d3i (ho : o.op = .pick c x y) (hc : ev c = some (.pv (.bool t))) (hx : ev (if t then x else y) = some av) : OpS P o ev [] [] av :=
 .quiet fun X B hp a w hS hop hT => by
  have h1 := (hop c (by simp [ho, Op.operands]) _ hc).pv_inv
  refine ⟨a.eval (if t then x else y), ?_, hop _ (by cases t <;> simp [ho, Op.operands]) av hx⟩
  cases t <;> simp [execOp, ho, h1, asBool]

theorem a9i (h : ∀ (a : Act) (w : World), (∀ x ∈ o.op.operands, ∀ u, ev x = some (.pv u) → a.eval x = u) → (execOp a.eval o).run P w = .ok (.value v) w) : OpS P o ev [] [] (.pv v) :=
 .quiet fun X B hp a w hS hop hT => ⟨v, h a w (fun x hx u hu => (hop x hx _ hu).pv_inv), .pv v⟩
def d7r (op : BinOp) (x y : Value) : Option Value :=
 match x, y with
 | .int k a, .int k' b =>
  if k = k' then match op with
   | .add => some (.int k (k.wrap (a + b)))
   | .sub => some (.int k (k.wrap (a - b)))
   | .mul => some (.int k (k.wrap (a * b)))
   | .quo => if b = 0 then none else some (.int k (k.wrap (a.tdiv b)))
   | .rem => if b = 0 then none else some (.int k (a.tmod b))
   | .eql => some (.bool (a == b))
   | .neq => some (.bool (a != b))
   | .lss => some (.bool (decide (a < b)))
   | .leq => some (.bool (decide (a ≤ b)))
   | .gtr => some (.bool (decide (a > b)))
   | .geq => some (.bool (decide (a ≥ b)))
   | .and => some (.int k (k.wrap (BitVec.ofInt k.bits a &&& BitVec.ofInt k.bits b).toNat))
   | .or => some (.int k (k.wrap (BitVec.ofInt k.bits a ||| BitVec.ofInt k.bits b).toNat))
   | .xor => some (.int k (k.wrap (BitVec.ofInt k.bits a ^^^ BitVec.ofInt k.bits b).toNat))
   | .shl => if b < 0 then none else some (.int k (k.wrap (a * 2 ^ (min b.toNat k.bits))))
   | .shr => if b < 0 then none else some (.int k (a.fdiv (2 ^ (min b.toNat k.bits))))
   | _ => none
  else none
 | .string a, .string b => match op with
  | .eql => some (.bool (a.toList == b.toList))
  | .neq => some (.bool !(a.toList == b.toList))
  | _ => none
 | _, _ => none
theorem e3x (h : d7r op x y = some v) (t : TypeId) (ox oy : Operand) (w : World) :
  (do eqGuard op t ox oy x y; binOp op t x y : Sem Value).run P w = .ok v w := by
 unfold d7r at h
 split at h
 ·rename_i k a k' b
  split at h
  ·rename_i hk
   subst hk
   have hg : (eqGuard op t ox oy (.int k a) (.int k b)).run P w = .ok () w := by
    unfold eqGuard
    cases op <;> simp
   rw [Sem.run_bind, hg]
   simp only [Result.andThen_ok]
   cases op <;> simp only [Option.some.injEq, reduceCtorEq] at h <;> first
    | (subst h; simp [binOp, Op.intArith, Op.intCmp]; done)
    | (subst h; simp [binOp, Op.intBits]; done)
    | (split at h <;> simp only [Option.some.injEq, reduceCtorEq] at h; rename_i hb; subst h; simp [binOp, Op.intDiv, hb]; done)
    | (split at h <;> simp only [Option.some.injEq, reduceCtorEq] at h; rename_i hb; subst h; simp [binOp, Op.shift, hb]; done)
  ·cases h
 ·rename_i a b
  have hg : (eqGuard op t ox oy (.string a) (.string b)).run P w = .ok () w := by
   unfold eqGuard
   cases op <;> simp
  rw [Sem.run_bind, hg]
  simp only [Result.andThen_ok]
  cases op <;> simp only [Option.some.injEq, reduceCtorEq] at h <;> (subst h; simp [binOp, Op.stringOp])
 ·cases h
theorem e8j (ho : o.op = .binOp op t x y t') (hx : ev x = some (.pv u)) (hy : ev y = some (.pv v)) (h : d7r op u v = some r) : OpS P o ev [] [] (.pv r) :=
 a9i fun a w hop => by
  have h1 := hop x (by simp [ho, Op.operands]) u hx
  have h2 := hop y (by simp [ho, Op.operands]) v hy
  have := e3x (P := P) h t x y w
  simp only [execOp, ho, h1, h2]
  rw [Sem.run_bind, this]
  rfl
theorem e8k (ho : o.op = .unOp .not t x) (hx : ev x = some (.pv (.bool b))) : OpS P o ev [] [] (.pv (.bool (!b))) :=
 a9i fun a w hop => by
  have h1 := hop x (by simp [ho, Op.operands]) _ hx
  simp [execOp, ho, h1, Op.unary]
theorem e8l (ho : o.op = .unOp .neg t x) (hx : ev x = some (.pv (.int k n))) : OpS P o ev [] [] (.pv (.int k (k.wrap (0 - n)))) :=
 a9i fun a w hop => by
  have h1 := hop x (by simp [ho, Op.operands]) _ hx
  simp [execOp, ho, h1, Op.unary, Op.intArith]
theorem e3y {tt : TT} (htt : a1z P tt) (ho : o.op = .convert s d x) (hx : ev x = some (.pv (.int k n))) (hs : tt s = some S) (hd : tt d = some D)
  (hks : S.kind = .int k0) (hkd : D.kind = .int k') : OpS P o ev [] [] (.pv (.int k' (k'.wrap n))) :=
 a9i fun a w hop => by
  have h1 := hop x (by simp [ho, Op.operands]) _ hx
  obtain ⟨d1, e1, e2⟩ := (htt _ _ hs).desc
  obtain ⟨d2, e3, e4⟩ := (htt _ _ hd).desc
  rw [hks] at e2
  rw [hkd] at e4
  simp only [KOk] at e2 e4
  subst e2
  subst e4
  simp [execOp, ho, h1, convert, run_underlying e1, run_underlying e3, Conv.intToInt]
end
section
abbrev TL := List (Nat × (Nat × Ent))

def d5y (h : Hp) : AV → Option (List AV × TL)
 | .iel cs => some (cs, [])
 | .ptr id g off => match y4y h id with
  | some (g', .box ty cs) => if g' = g then some (cs.drop off, [(id, (g', .box ty cs))]) else none
  | _ => none
 | .elt id g i off => match y4y h id with
  | some (g', .row ty sz xs) => if g' = g ∧ i < xs.length then some ((xs.getD i []).drop off, [(id, (g', .row ty sz xs))]) else none
  | _ => none
 | _ => none
theorem a8l : ∀ (xs : List (List α)), (∀ (j : Nat) (x : List α), xs[j]? = some x → x.length = sz) → xs.flatten.length = xs.length * sz
 | [], _ => by simp
 | x :: r, h => by
  have h1 := h 0 x rfl
  have h2 := a8l r (fun j y hy => h (j + 1) y (by simpa using hy))
  rw [List.flatten_cons, List.length_append, h1, h2, List.length_cons, Nat.add_mul]
  omega
theorem b6k : ∀ (xs : List (List α)) (j i : Nat) (x : List α) (y : α), (∀ (j : Nat) (x : List α), xs[j]? = some x → x.length = sz) → xs[j]? = some x → x[i]? = some y → xs.flatten[j * sz + i]? = some y
 | [], j, i, x, y, _, hx, _ => by simp at hx
 | z :: r, 0, i, x, y, h, hx, hy => by
  have : z = x := by simpa using hx
  subst this
  have hl := (List.getElem?_eq_some_iff.1 hy).1
  rw [List.flatten_cons, Nat.zero_mul, Nat.zero_add, List.getElem?_append_left hl]
  exact hy
 | z :: r, j + 1, i, x, y, h, hx, hy => by
  have h1 := h 0 z rfl
  rw [List.flatten_cons, Nat.add_mul, Nat.one_mul, List.getElem?_append_right (by omega)]
  have := b6k r j i x y (fun k c hc => h (k + 1) c (by simpa using hc)) (by simpa using hx) hy
  rwa [show j * sz + sz + i - z.length = j * sz + i from by omega]
structure Cells (X : Cx) (w : World) (ad : Addr) (cs : List AV) : Prop where
 get : ∀ (i : Nat) (y : AV), cs[i]? = some y → y.one = true ∧ ∃ u, w.cell? (ad.add i) = some u ∧ VR X w y u
theorem Cells.drop (h : Cells X w ad cs) (k : Nat) : Cells X w (ad.add k) (cs.drop k) :=
 ⟨fun i y hy => by
  rw [List.getElem?_drop] at hy
  obtain ⟨h1, u, h2, h3⟩ := h.get (k + i) y hy
  exact ⟨h1, u, by rw [a8t]; exact h2, h3⟩⟩
theorem Cells.list : ∀ {cs : List AV}, Cells X w ad cs → ∃ us : List Value, VRs X w cs us ∧ ∀ (j : Nat) (v : Value), us[j]? = some v → w.cell? (ad.add j) = some v
  | [], h => ⟨[], ⟨rfl, fun i y hy => by simp at hy, fun i y u hy => by simp at hy⟩, fun j v hj => by simp at hj⟩
  | c :: r, h => by
    obtain ⟨us, ⟨h1, h2, h3⟩, h4⟩ := Cells.list (h.drop 1)
    obtain ⟨g1, u, g2, g3⟩ := h.get 0 c rfl
    refine ⟨u :: us, ⟨by simpa using h1, fun i y hy => ?_, fun i y v hy hv => ?_⟩, fun j v hv => ?_⟩
    · cases i with
      | zero => have : c = y := by simpa using hy
                rw [← this]; exact g1
      | succ i => exact h2 i y (by simpa using hy)
    · cases i with
      | zero => have e1 : c = y := by simpa using hy
                have e2 : u = v := by simpa using hv
                rw [← e1, ← e2]; exact g3
      | succ i => exact h3 i y v (by simpa using hy) (by simpa using hv)
    · cases j with
      | zero => have e2 : u = v := by simpa using hv
                rw [← e2]; exact g2
      | succ j =>
        have := h4 j v (by simpa using hv)
        rw [a8t, Nat.add_comm] at this
        exact this
theorem c4p (hp : d5y h av = some (cs, T)) (hS : SRh X B hF w) (hT : ∀ id ge, (id, ge) ∈ T → hF id = some ge)
  (hv : VR X w av v) : ∃ ad, v = .pointer (some ad) ∧ Cells X w ad cs := by
 unfold d5y at hp
 split at hp
 ·cases hp
  obtain ⟨ad, u, rfl, h1, h2, h3, h4⟩ := hv.iel_inv
  exact ⟨ad, rfl, ⟨fun i y hy => ⟨h2 i y hy, u i, h3 i y hy, .cl (h4 i y hy)⟩⟩⟩
 ·split at hp
  ·rename_i id g off _ g' ty cs0 hh
   split at hp
   ·rename_i e
    subst e
    cases hp
    obtain ⟨b, rfl, hb⟩ := hv.ptr_inv
    obtain ⟨b', us, h1, h2, h3⟩ := hS.box (hT id _ (List.mem_singleton.2 rfl))
    rw [hb] at h1
    cases h1
    refine ⟨_, rfl, ⟨fun i y hy => ?_⟩⟩
    rw [List.getElem?_drop] at hy
    have hl : off + i < us.length := by have := (List.getElem?_eq_some_iff.1 hy).1; rw [h3.len]; exact this
    refine ⟨h3.one _ _ hy, us[off + i], ?_, h3.rel _ _ _ hy (List.getElem?_eq_getElem hl)⟩
    rw [Addr.add_mid, cell_of_row w b (off + i) _ _ _ h2]
    simp [hl]
   ·cases hp
  ·cases hp
 ·split at hp
  ·rename_i id g i off _ g' ty sz xs hh
   split at hp
   ·rename_i e
    obtain ⟨e, hi⟩ := e
    subst e
    cases hp
    obtain ⟨ad, n, c, sz', rfl, hr⟩ := hv.elt_inv
    obtain ⟨v', us, h1, h2, h3, h4⟩ := hS.row (hT id _ (List.mem_singleton.2 rfl))
    rw [hr] at h1
    cases h1
    have hx : xs[i]? = some xs[i] := List.getElem?_eq_getElem hi
    have hgd : xs.getD i [] = xs[i] := by simp [List.getD_eq_getElem?_getD, hx]
    rw [hgd]
    refine ⟨_, rfl, ?_⟩
    rw [← a8t]
    refine Cells.drop ⟨fun k y hy => ?_⟩ off
    have hf := b6k xs i k _ y h3 hx hy
    have hl := (List.getElem?_eq_some_iff.1 hf).1
    have hl' : i * sz + k < us.length := by rw [h4.len]; exact hl
    have hu : us[i * sz + k]? = some us[i * sz + k] := List.getElem?_eq_getElem hl'
    refine ⟨h4.one _ _ hf, us[i * sz + k], ?_, h4.rel _ _ _ hf hu⟩
    rw [a8t]
    obtain ⟨b, cp, e, _, h5⟩ := h2.cells hu
    cases e
    exact h5
   ·cases hp
  ·cases hp
 ·cases hp

def ldv (s : TS) (cs : List AV) : Option AV :=
 if s.agg then if s.size ≤ cs.length then some (.agg (cs.take s.size)) else none else cs.head?
variable {P : Program} {ev : Operand → Option AV}
theorem VRs.take (h : VRs X w cs us) (n : Nat) : VRs X w (cs.take n) (us.take n) := by
 refine ⟨by simp [h.len], fun i y hy => ?_, fun i y u hy hu => ?_⟩
 ·rw [List.getElem?_take] at hy
  split at hy
  ·exact h.one i y hy
  ·cases hy
 ·rw [List.getElem?_take] at hy hu
  split at hy
  ·rename_i hi
   rw [if_pos hi] at hu
   exact h.rel i y u hy hu
  ·cases hy
theorem VRs.drop (h : VRs X w cs us) (n : Nat) : VRs X w (cs.drop n) (us.drop n) :=
 ⟨by simp [h.len], fun i y hy => by rw [List.getElem?_drop] at hy; exact h.one _ y hy, fun i y u hy hu => by rw [List.getElem?_drop] at hy hu; exact h.rel _ y u hy hu⟩
theorem VRs.agg (h : VRs X w cs us) : VR X w (.agg cs) (.agg us.toArray) := .agg us h.len h.one h.rel
variable {tt : TT}
theorem e3z (htt : a1z P tt) (ho : o.op = .load t x) (hx : ev x = some av) (hs : tt t = some s) (hp : d5y h av = some (cs, T)) (hl : ldv s cs = some out) :
  OpS P o ev T [] out :=
 .quiet fun X B hF a w hS hop hT => by
  obtain ⟨ad, e, hc⟩ := c4p hp hS hT (hop x (by simp [ho, Op.operands]) _ hx)
  have S := htt _ _ hs
  obtain ⟨us, hus, hcell⟩ := hc.list
  unfold ldv at hl
  split at hl
  ·rename_i hagg
   split at hl
   ·rename_i hn
    cases hl
    have hlen : (us.take s.size).length = s.size := by rw [List.length_take, hus.len]; omega
    have hld := run_loadCells_list (P := P) w ad (us.take s.size) (fun j v hv => by
     rw [List.getElem?_take] at hv
     split at hv
     ·exact hcell j v hv
     ·cases hv)
    rw [hlen] at hld
    refine ⟨.agg (us.take s.size).toArray, ?_, (hus.take _).agg⟩
    simp [execOp, ho, e, Instr.loadAt, Instr.sureAddr, loadVar, S.isAgg, S.sizeOf, hagg, hld]
   ·cases hl
  ·rename_i hagg
   cases cs with
   | nil => cases hl
   | cons c r =>
    cases hl
    obtain ⟨h1, u, h2, h3⟩ := hc.get 0 _ rfl
    have hag : s.agg = false := by simpa using hagg
    refine ⟨u, ?_, h3⟩
    have h2' : w.cell? ad = some u := h2
    simp [execOp, ho, e, Instr.loadAt, Instr.sureAddr, loadVar, S.isAgg, hag, load, Sem.run, h2']

def shift (n : Nat) : AV → Option AV
 | .iel cs => some (.iel (cs.drop n))
 | .ptr id g off => some (.ptr id g (off + n))
 | .elt id g i off => some (.elt id g i (off + n))
 | _ => none
theorem c8m (h : shift n av = some out) (hv : VR X w av v) : ∃ ad, v = .pointer (some ad) ∧ VR X w out (.pointer (some (ad.add n))) := by
 unfold shift at h
 split at h <;> cases h
 ·obtain ⟨ad, u, rfl, h1, h2, h3, h4⟩ := hv.iel_inv
  refine ⟨ad, rfl, .iel _ (fun i => u (n + i)) (by rw [a9g]; exact h1) (fun i y hy => ?_) (fun i y hy => ?_) (fun i y hy => ?_)⟩
  ·rw [List.getElem?_drop] at hy; exact h2 _ y hy
  ·rw [List.getElem?_drop] at hy; rw [a8t]; exact h3 _ y hy
  ·rw [List.getElem?_drop] at hy; exact h4 _ y hy
 ·obtain ⟨b, rfl, hb⟩ := hv.ptr_inv
  exact ⟨_, rfl, by rw [Addr.add_mid]; exact .ptr hb⟩
 ·obtain ⟨ad, k, c, sz, rfl, hr⟩ := hv.elt_inv
  exact ⟨_, rfl, by rw [a8t, Nat.add_assoc]; exact .elt hr⟩
theorem c5q (htt : a1z P tt) (ho : o.op = .fieldAddr t x f) (hx : ev x = some av) (hs : tt t = some s)
  (hk : s.kind = .st flds) (hf : flds[f]? = some (off, ft)) (hft : tt ft = some sf) (hne : sf.size ≠ 0) (hsh : shift off av = some out) : OpS P o ev [] [] out :=
 .quiet fun X B hF a w hS hop hT => by
  obtain ⟨ad, e, hv⟩ := c8m hsh (hop x (by simp [ho, Op.operands]) _ hx)
  obtain ⟨d, h1, h2⟩ := (htt _ _ hs).desc
  rw [hk] at h2
  obtain ⟨fs, rfl, _, h3⟩ := h2
  obtain ⟨fd, h4, h5, h6⟩ := h3 f off ft hf
  have S := htt _ _ hft
  refine ⟨.pointer (some (ad.add off)), ?_, hv⟩
  simp [execOp, ho, e, Instr.fieldAt, Instr.sureAddr, run_underlying h1, h4, fieldPlace, h6, S.sizeOf, hne, h5]
theorem d7z (htt : a1z P tt) (ho : o.op = .field t x f) (hx : ev x = some (.agg cs)) (hs : tt t = some s)
  (hk : s.kind = .st flds) (hf : flds[f]? = some (off, ft)) (hft : tt ft = some sf) (hl : ldv sf (cs.drop off) = some out) : OpS P o ev [] [] out :=
 .quiet fun X B hF a w hS hop hT => by
  obtain ⟨us, e, hus⟩ := (hop x (by simp [ho, Op.operands]) _ hx).agg_inv
  obtain ⟨d, h1, h2⟩ := (htt _ _ hs).desc
  rw [hk] at h2
  obtain ⟨fs, rfl, _, h3⟩ := h2
  obtain ⟨fd, h4, h5, h6⟩ := h3 f off ft hf
  have S := htt _ _ hft
  unfold ldv at hl
  split at hl
  ·rename_i hagg
   split at hl
   ·rename_i hn
    cases hl
    refine ⟨.agg ((us.drop off).take sf.size).toArray, ?_, ((hus.drop off).take _).agg⟩
    have hx2 : us.toArray.extract off (off + sf.size) = ((us.drop off).take sf.size).toArray := by
     rw [List.extract_toArray, List.extract_eq_take_drop]; congr 2; omega
    simp only [execOp, ho, e, Instr.field, Sem.run_bind, run_underlying h1, Result.andThen_ok, h4, asAgg, Sem.run_pure, part, h6, S.isAgg, S.sizeOf, hagg, if_true, h5, hx2]
   ·cases hl
  ·rename_i hagg
   have hag : sf.agg = false := by simpa using hagg
   rw [List.head?_drop] at hl
   have hlt := (List.getElem?_eq_some_iff.1 hl).1
   have hlt' : off < us.length := by rw [hus.len]; exact hlt
   have hu : us[off]? = some us[off] := List.getElem?_eq_getElem hlt'
   refine ⟨us[off], ?_, hus.rel _ _ _ hl hu⟩
   simp [execOp, ho, e, Instr.field, run_underlying h1, h4, asAgg, part, h6, S.isAgg, hag, h5, hu]
theorem d1m (ho : o.op = .extract x i) (hx : ev x = some (.tup cs)) (hi : cs[i]? = some out) : OpS P o ev [] [] out :=
 .quiet fun X B hF a w hS hop hT => by
  obtain ⟨us, e, h1, h2⟩ := (hop x (by simp [ho, Op.operands]) _ hx).tup_inv
  have hlt := (List.getElem?_eq_some_iff.1 hi).1
  have hlt' : i < us.length := by omega
  have hu : us[i]? = some us[i] := List.getElem?_eq_getElem hlt'
  exact ⟨us[i], by simp [execOp, ho, e, Instr.extract, hu], h2 _ _ _ hi hu⟩
def nck : AV → Bool
 | .iel _ => true
 | .ptr _ _ _ => true
 | .elt _ _ _ _ => true
 | .pv (.func (.func _) _ _) => true
 | .fn (.func _) _ _ => true
 | _ => false
theorem c8n (ho : o.op = .nilCheck x) (hx : ev x = some av) (hn : nck av = true) : OpS P o ev [] [] av :=
 .quiet fun X B hF a w hS hop hT => by
  have hv := hop x (by simp [ho, Op.operands]) _ hx
  refine ⟨a.eval x, ?_, hv⟩
  unfold nck at hn
  split at hn
  ·obtain ⟨ad, u, e, _⟩ := hv.iel_inv
   simp [execOp, ho, e]
  ·obtain ⟨b, e, _⟩ := hv.ptr_inv
   simp [execOp, ho, e]
  ·obtain ⟨ad, _, _, _, e, _⟩ := hv.elt_inv
   simp [execOp, ho, e]
  ·have e := hv.pv_inv
   simp [execOp, ho, e]
  ·obtain ⟨us, vs, e, _⟩ := hv.fn_inv
   simp [execOp, ho, e]
  ·cases hn
end
section
variable {P : Program} {ev : Operand → Option AV}
variable {tt : TT}
theorem c5r (htt : a1z P tt) (hs : tt t = some S) (hk : S.kind = .sl e) (he : tt e = some E) (w : World) (ad : Addr) (n c : Nat) (k : IntKind) (i : Int) (h0 : 0 ≤ i) (h1 : i < n) :
  (Instr.indexAt t (.slice (some ad) n c) (.int k i)).run P w = .ok (.pointer (some (ad.add (i.toNat * E.size)))) w := by
 obtain ⟨d, h2, h3⟩ := (htt _ _ hs).desc
 rw [hk] at h3
 simp only [KOk] at h3
 subst h3
 simp [Instr.indexAt, asIntOf, run_underlying h2, h0, h1, (htt _ _ he).sizeOf]
theorem d1n (htt : a1z P tt) (ho : o.op = .indexAddr t x ix) (hx : ev x = some (.row (.rd m) ty sz xs))
  (hi : ev ix = some (.pv (.int k i))) (hs : tt t = some S) (hk : S.kind = .sl e) (he : tt e = some E) (hz : sz = E.size) (h0 : 0 ≤ i) (h1 : i < xs.length) : OpS P o ev [] [] (.iel (xs.getD i.toNat [])) :=
 .quiet fun X B hF a w hS hop hT => by
  obtain ⟨A, c, u, e1, h2, h3, h4, h5, h6, h7, h8⟩ := (hop x (by simp [ho, Op.operands]) _ hx).row_inv
  have e2 := (hop ix (by simp [ho, Op.operands]) _ hi).pv_inv
  obtain ⟨ad, rfl, hok⟩ := h6 (by omega)
  have hin : xs[i.toNat]? = some (xs.getD i.toNat []) := by
   rw [List.getD_eq_getElem?_getD, List.getElem?_eq_getElem (show i.toNat < xs.length by omega)]; rfl
  refine ⟨.pointer (some (ad.add (i.toNat * E.size))), ?_, .iel _ (fun m => u i.toNat m) (by rw [a9g]; exact hok.ok2 hS.ok12) (fun m y hy => h5 _ m _ y hin hy) (fun m y hy => ?_) (fun m y hy => h8 _ m _ y hin hy)⟩
  ·simp [execOp, ho, e1, e2, c5r htt hs hk he w ad xs.length c k i h0 h1]
  ·rw [a8t, ← hz]
   exact h7 ad _ m _ y rfl hin hy
variable {id : Nat}
theorem d1o (htt : a1z P tt) (ho : o.op = .indexAddr t x ix) (hx : ev x = some (.ref id g))
  (hi : ev ix = some (.pv (.int k i))) (hs : tt t = some S) (hk : S.kind = .sl e) (he : tt e = some E) (hz : sz = E.size) (h0 : 0 ≤ i) (h1 : i < xs.length) : OpS P o ev [(id, (g, .row ty sz xs))] [] (.elt id g i.toNat 0) :=
 .quiet fun X B hF a w hS hop hT => by
  obtain ⟨A, n, c, sz', e1, h2⟩ := (hop x (by simp [ho, Op.operands]) _ hx).ref_inv
  have e2 := (hop ix (by simp [ho, Op.operands]) _ hi).pv_inv
  obtain ⟨v, us, h3, h4, h5, h6⟩ := hS.row (hT id _ (List.mem_singleton.2 rfl))
  rw [h2] at h3
  cases h3
  have hn : n = xs.length ∧ ∃ ad, A = some ad := by
   rcases h4.2 with ⟨h7, h8⟩ | ⟨b, cap, cur, h7, _⟩
   ·omega
   ·cases h7; exact ⟨rfl, _, rfl⟩
  obtain ⟨rfl, ad, rfl⟩ := hn
  refine ⟨.pointer (some (ad.add (i.toNat * E.size))), by simp [execOp, ho, e1, e2, c5r htt hs hk he w ad xs.length c k i h0 h1], ?_⟩
  have := VR.elt (w := w) (i := i.toNat) (off := 0) h2
  rwa [Nat.add_zero, hz] at this
theorem d1p (htt : a1z P tt) (ho : o.op = .indexAddr t x ix) (hx : ev x = some (.cut id g lo hi))
  (hi' : ev ix = some (.pv (.int k i))) (hs : tt t = some S) (hk : S.kind = .sl e) (he : tt e = some E) (hz : sz = E.size) (h0 : 0 ≤ i) (h1 : i < ((hi - lo : Nat) : Int)) : OpS P o ev [(id, (g, .row ty sz xs))] [] (.elt id g (lo + i.toNat) 0) :=
 .quiet fun X B hF a w hS hop hT => by
  obtain ⟨A, A', n, c, c', sz', e1, h2, h3, h4, h5, h6, h7⟩ := (hop x (by simp [ho, Op.operands]) _ hx).cut_inv
  have e2 := (hop ix (by simp [ho, Op.operands]) _ hi').pv_inv
  obtain ⟨v, us, h8, _⟩ := hS.row (hT id _ (List.mem_singleton.2 rfl))
  rw [h2] at h8
  cases h8
  obtain ⟨ad, rfl, rfl⟩ := h7 (by omega)
  refine ⟨.pointer (some ((ad.add (lo * sz)).add (i.toNat * E.size))), by simp [execOp, ho, e1, e2, c5r htt hs hk he w _ (hi - lo) c' k i h0 h1], ?_⟩
  have := VR.elt (w := w) (i := lo + i.toNat) (off := 0) h2
  rw [a8t, ← hz]
  rwa [Nat.add_zero, Nat.add_mul] at this
theorem c0s (htt : a1z P tt) (ho : o.op = .indexAddr t x ix) (hx : ev x = some (.bsl id g off len))
  (hi : ev ix = some (.pv (.int k i))) (hs : tt t = some S) (hk : S.kind = .sl e) (he : tt e = some E) (hz : E.size = 1) (h0 : 0 ≤ i) (h1 : i < len) : OpS P o ev [] [] (.ptr id g (off + i.toNat)) :=
 .quiet fun X B hF a w hS hop hT => by
  obtain ⟨b, c, e1, h2, h3, h4⟩ := (hop x (by simp [ho, Op.operands]) _ hx).bsl_inv
  have e2 := (hop ix (by simp [ho, Op.operands]) _ hi).pv_inv
  refine ⟨.pointer (some ((⟨b, off, none⟩ : Addr).add (i.toNat * E.size))), by simp [execOp, ho, e1, e2, c5r htt hs hk he w _ len c k i h0 h1], ?_⟩
  rw [hz, Nat.mul_one, Addr.add_mid]
  exact .ptr h2
theorem c0t (htt : a1z P tt) (ho : o.op = .indexAddr t x ix) (hx : ev x = some av)
  (hi : ev ix = some (.pv (.int k i))) (hs : tt t = some S) (hk : S.kind = .arr n e) (he : tt e = some E) (h0 : 0 ≤ i) (h1 : i < n) (hsh : shift (i.toNat * E.size) av = some out) : OpS P o ev [] [] out :=
 .quiet fun X B hF a w hS hop hT => by
  obtain ⟨ad, e1, hv⟩ := c8m hsh (hop x (by simp [ho, Op.operands]) _ hx)
  have e2 := (hop ix (by simp [ho, Op.operands]) _ hi).pv_inv
  obtain ⟨d, h2, h3⟩ := (htt _ _ hs).desc
  rw [hk] at h3
  simp only [KOk] at h3
  subst h3
  exact ⟨_, by simp [execOp, ho, e1, e2, Instr.indexAt, asIntOf, run_underlying h2, h0, h1, (htt _ _ he).sizeOf, Instr.sureAddr], hv⟩
def bt (s : ByteArray) (i : Nat) : Int := if h : i < s.size then ((s[i]'h).toNat : Int) else 0
theorem d1q (htt : a1z P tt) (ho : o.op = .index t x ix) (hx : ev x = some (.pv (.string s)))
  (hi : ev ix = some (.pv (.int k i))) (hs : tt t = some S) (hk : S.kind = .str) (h0 : 0 ≤ i) (h1 : i < s.size) : OpS P o ev [] [] (.pv (.int .u8 (bt s i.toNat))) :=
 a9i fun a w hop => by
  have e1 := hop x (by simp [ho, Op.operands]) _ hx
  have e2 := hop ix (by simp [ho, Op.operands]) _ hi
  obtain ⟨d, h2, h3⟩ := (htt _ _ hs).desc
  rw [hk] at h3
  simp only [KOk] at h3
  subst h3
  have hl : i.toNat < s.size := by omega
  have hg : s[i.toNat]? = some s[i.toNat] := by simp [hl]
  simp [execOp, ho, e1, e2, Instr.index, asIntOf, run_underlying h2, h0, hg, bt, hl]

def e6x (h : Hp) : AV → Option (Nat × TL)
 | .row (.rd _) _ _ xs => some (xs.length, [])
 | .cut _ _ lo hi => some (hi - lo, [])
 | .bsl _ _ _ n => some (n, [])
 | .pv (.slice _ n _) => some (n, [])
 | .pv (.string s) => some (s.size, [])
 | .ref id g => match y4y h id with
  | some (g', .row ty sz xs) => if g' = g then some (xs.length, [(id, (g', .row ty sz xs))]) else none
  | _ => none
 | _ => none
theorem d5z (h : Own w e size (.slice A m c) n xs) : m = n := h.n0.1
theorem e8m (htt : a1z P tt) (ho : o.op = .call { callee := .builtin .len, args := #[x], argTypes := #[t] }) (hx : ev x = some av) (hs : tt t = some S)
  (hk : S.kind = .str ∨ ∃ e, S.kind = .sl e) (hl : e6x h av = some (n, T)) (hk2 : (∃ s, av = .pv (.string s)) ↔ S.kind = .str) : OpS P o ev T [] (.pv (.int .i64 n)) :=
 .quiet fun X B hF a w hS hop hT => by
  have hv := hop x (by simp [ho, Op.operands, Call.operands]) _ hx
  obtain ⟨d, h2, h3⟩ := (htt _ _ hs).desc
  have fin : ∀ A m c, a.eval x = .slice A m c → m = n → (¬ ∃ s, av = .pv (.string s)) → (execOp a.eval o).run P w = .ok (.value (.int .i64 n)) w := by
   intro A m c e1 hm hns
   rcases hk with hk | ⟨e, hk⟩
   ·exact absurd (hk2.2 hk) hns
   ·rw [hk] at h3
    simp only [KOk] at h3
    subst h3
    simp [execOp, ho, resolve, invoke, builtin, Builtin.len_, e1, run_underlying h2, hm, goInt]
  refine ⟨_, ?_, .pv _⟩
  unfold e6x at hl
  split at hl
  ·cases hl
   obtain ⟨A, c, u, e1, _⟩ := hv.row_inv
   exact fin _ _ _ e1 rfl (by rintro ⟨s, h⟩; cases h)
  ·cases hl
   obtain ⟨_, A', _, _, c', _, e1, _⟩ := hv.cut_inv
   exact fin _ _ _ e1 rfl (by rintro ⟨s, h⟩; cases h)
  ·cases hl
   obtain ⟨_, _, e1, _⟩ := hv.bsl_inv
   exact fin _ _ _ e1 rfl (by rintro ⟨s, h⟩; cases h)
  ·cases hl
   exact fin _ _ _ hv.pv_inv rfl (by rintro ⟨s, h⟩; cases h)
  ·cases hl
   rename_i s
   have hkk := hk2.1 ⟨s, rfl⟩
   rw [hkk] at h3
   simp only [KOk] at h3
   subst h3
   simp [execOp, ho, resolve, invoke, builtin, Builtin.len_, hv.pv_inv, run_underlying h2, goInt]
  ·split at hl
   ·split at hl
    ·rename_i e
     subst e
     cases hl
     obtain ⟨A, m, c, sz, e1, h4⟩ := hv.ref_inv
     obtain ⟨v, us, h5, h6, _⟩ := hS.row (hT _ _ (List.mem_singleton.2 rfl))
     rw [h4] at h5
     cases h5
     exact fin _ _ _ e1 (d5z h6) (by rintro ⟨s, h⟩; cases h)
    ·cases hl
   ·cases hl
  ·cases hl
variable {o : Oper} {t : Nat} {x : Operand} {S : TS} {l u : Int}
theorem c5s (htt : a1z P tt) {lo hi : Option Operand} {s : ByteArray} (ho : o.op = .slice t x lo hi none) (hx : ev x = some (.pv (.string s))) (hs : tt t = some S) (hk : S.kind = .str)
  (hlo : (lo = none ∧ l = 0) ∨ ∃ y k, lo = some y ∧ ev y = some (.pv (.int k l))) (hhi : (hi = none ∧ u = s.size) ∨ ∃ y k, hi = some y ∧ ev y = some (.pv (.int k u))) (h0 : 0 ≤ l) (h1 : l ≤ u) (h2 : u ≤ s.size) : OpS P o ev [] [] (.pv (.string (s.extract l.toNat u.toNat))) :=
 a9i fun a w hop => by
  have e1 := hop x (by simp [ho, Op.operands]) _ hx
  obtain ⟨d, h3, h4⟩ := (htt _ _ hs).desc
  rw [hk] at h4
  simp only [KOk] at h4
  subst h4
  have hb : (Instr.sliceBounds false s.size s.size (lo.map a.eval) (hi.map a.eval) none).run P w = .ok (l.toNat, u.toNat, s.size) w := by
   rcases hlo with ⟨rfl, rfl⟩ | ⟨y, k, rfl, hy⟩ <;> rcases hhi with ⟨rfl, rfl⟩ | ⟨z, k', rfl, hz⟩
   ·simp [Instr.sliceBounds]
   ·have e2 := hop z (by simp [ho, Op.operands]) _ hz
    simp [Instr.sliceBounds, Instr.sliceBound, e2, asIntOf, h1, h2]
   ·have e2 := hop y (by simp [ho, Op.operands]) _ hy
    simp [Instr.sliceBounds, Instr.sliceBound, e2, asIntOf, h0, h1]
   ·have e2 := hop y (by simp [ho, Op.operands]) _ hy
    have e3 := hop z (by simp [ho, Op.operands]) _ hz
    have h5 : 0 ≤ u := by omega
    have h6 : l ≤ ((u.toNat : Nat) : Int) := by omega
    simp [Instr.sliceBounds, Instr.sliceBound, e2, e3, asIntOf, h0, h1, h2, h5, h6]
    omega
  simp [execOp, ho, Instr.sliceAt, Instr.slice, run_underlying h3, e1, hb]
variable {E : TS} {a : Act}
theorem c0u (htt : a1z P tt) {t e : Nat} (hs : tt t = some S) (hk : S.kind = .sl e) (he : tt e = some E) (w : World) (A : Option Addr) (n c : Nat) (hn : n ≤ c) {lo hi : Option Operand}
  (hlo : (lo = none ∧ l = 0) ∨ ∃ y k, lo = some y ∧ a.eval y = .int k l) (hhi : (hi = none ∧ u = n) ∨ ∃ y k, hi = some y ∧ a.eval y = .int k u) (h0 : 0 ≤ l) (h1 : l ≤ u) (h2 : u ≤ n) :
  (Instr.sliceAt t (.slice A n c) (lo.map a.eval) (hi.map a.eval) none).run P w = .ok (.slice (if c = l.toNat then A else A.map (·.add (l.toNat * E.size))) (u.toNat - l.toNat) (c - l.toNat)) w := by
 obtain ⟨d, h3, h4⟩ := (htt _ _ hs).desc
 rw [hk] at h4
 simp only [KOk] at h4
 subst h4
 have hb : (Instr.sliceBounds true n c (lo.map a.eval) (hi.map a.eval) none).run P w = .ok (l.toNat, u.toNat, c) w := by
  have h7 : u ≤ c := by omega
  rcases hlo with ⟨rfl, rfl⟩ | ⟨y, k, rfl, hy⟩ <;> rcases hhi with ⟨rfl, rfl⟩ | ⟨z, k', rfl, hz⟩
  ·simp [Instr.sliceBounds]
  ·simp [Instr.sliceBounds, Instr.sliceBound, hz, asIntOf, h1, h7]
  ·simp [Instr.sliceBounds, Instr.sliceBound, hy, asIntOf, h0, h1]
  ·have h5 : 0 ≤ u := by omega
   have h6 : l ≤ ((u.toNat : Nat) : Int) := by omega
   simp [Instr.sliceBounds, Instr.sliceBound, hy, hz, asIntOf, h0, h7, h5, h6]
   omega
 simp [Instr.sliceAt, Instr.slice, run_underlying h3, hb, (htt _ _ he).sizeOf]
theorem d3j {X : Cx} {w : World} {lo : Option Operand} {l d : Int} (hmem : ∀ y, lo = some y → y ∈ o.op.operands) (hop : ∀ x ∈ o.op.operands, ∀ av, ev x = some av → VR X w av (a.eval x))
  (hlo : (lo = none ∧ l = d) ∨ ∃ y k, lo = some y ∧ ev y = some (.pv (.int k l))) : (lo = none ∧ l = d) ∨ ∃ y k, lo = some y ∧ a.eval y = .int k l := by
 rcases hlo with h | ⟨y, k, h1, h2⟩
 ·exact .inl h
 ·exact .inr ⟨y, k, h1, (hop y (hmem y h1) _ h2).pv_inv⟩
theorem c5t (htt : a1z P tt) {t e : Nat} {lo hi : Option Operand} {m : Bool} {ty sz : Nat} {xs : List (List AV)} (ho : o.op = .slice t x lo hi none) (hx : ev x = some (.row (.rd m) ty sz xs)) (hs : tt t = some S) (hk : S.kind = .sl e) (he : tt e = some E) (hz : sz = E.size)
  (hlo : (lo = none ∧ l = 0) ∨ ∃ y k, lo = some y ∧ ev y = some (.pv (.int k l))) (hhi : (hi = none ∧ u = xs.length) ∨ ∃ y k, hi = some y ∧ ev y = some (.pv (.int k u))) (h0 : 0 ≤ l) (h1 : l ≤ u) (h2 : u ≤ xs.length) :
  OpS P o ev [] [] (.row (.rd m) ty sz ((xs.take u.toNat).drop l.toNat)) :=
 .quiet fun X B hF a w hS hop hT => by
  have hv := hop x (by simp [ho, Op.operands]) _ hx
  have hlo' := d3j (ev := ev) (fun y hy => by simp [ho, Op.operands, hy]) hop hlo
  have hhi' := d3j (ev := ev) (fun y hy => by simp [ho, Op.operands, hy]) hop hhi
  obtain ⟨A, c, U, e1, g1, g2, g3, g4, g5, g6, g7⟩ := hv.row_inv
  have hrun := c0u htt hs hk he w A xs.length c g1 hlo' hhi' h0 h1 h2
  have hlen : ((xs.take u.toNat).drop l.toNat).length = u.toNat - l.toNat := by simp; omega
  have hget : ∀ (j : Nat) (y : List AV), ((xs.take u.toNat).drop l.toNat)[j]? = some y → xs[l.toNat + j]? = some y := fun j y hy => by
   rw [List.getElem?_drop, List.getElem?_take] at hy
   split at hy
   ·exact hy
   ·cases hy
  refine ⟨.slice (if c = l.toNat then A else A.map (·.add (l.toNat * E.size))) (u.toNat - l.toNat) (c - l.toNat), by simp only [execOp, ho, e1, Option.map_none, Sem.run_bind, hrun, Result.andThen_ok, Sem.run_pure], ?_⟩
  have had : ∀ (ok : Nat → Prop), (0 < xs.length → ∃ ad, A = some ad ∧ ok ad.block) → 0 < ((xs.take u.toNat).drop l.toNat).length → ∃ ad, (if c = l.toNat then A else A.map (·.add (l.toNat * E.size))) = some ad ∧ ok ad.block := by
   intro ok h hp
   rw [hlen] at hp
   obtain ⟨ad, rfl, hb⟩ := h (by omega)
   rw [if_neg (by omega)]
   exact ⟨_, rfl, by rw [a9g]; exact hb⟩
  have hcell : ∀ (ad : Addr) (j i : Nat) (x : List AV) (y : AV), (if c = l.toNat then A else A.map (·.add (l.toNat * E.size))) = some ad → ((xs.take u.toNat).drop l.toNat)[j]? = some x → x[i]? = some y → w.cell? (ad.add (j * sz + i)) = some (U (l.toNat + j) i) := by
   intro ad j i x y hA hx hy
   have hp := (List.getElem?_eq_some_iff.1 hx).1
   rw [hlen] at hp
   rw [if_neg (by omega)] at hA
   cases A with
   | none => cases hA
   | some ad0 =>
    cases hA
    rw [a8t, hz, ← Nat.add_assoc, ← Nat.add_mul, ← hz]
    exact g6 ad0 _ i x y rfl (hget j x hx) hy
  rw [← hlen]
  exact .cl (.row _ _ (fun j i => U (l.toNat + j) i) (by rw [hlen]; omega) (by omega) (fun j y hy => g3 _ y (hget j y hy)) (fun j i y z hy hz' => g4 _ i y z (hget j y hy) hz') (had _ g5) hcell (fun j i y z hy hz' => g7 _ i y z (hget j y hy) hz'))
end
section
variable {P : Program} {ev : Operand → Option AV}
def Cx.setB (X : Cx) (id g b : Nat) : Cx := { X with bx := fun i k => if i = id ∧ k = g then some b else X.bx i k }
def Cx.setR (X : Cx) (id g : Nat) (v : Value × Nat) : Cx := { X with rw := fun i k => if i = id ∧ k = g then some v else X.rw i k }
variable {X : Cx}
theorem Cx.le_setB {id g b : Nat} (h : X.bx id g = none) : X.le (X.setB id g b) :=
 ⟨fun _ h => h, fun _ h => h, fun i k c hc => by
  simp only [Cx.setB]
  split
  ·rename_i e; obtain ⟨rfl, rfl⟩ := e; rw [h] at hc; cases hc
  ·exact hc, fun _ _ _ h => h⟩
variable {id g : Nat}
theorem Cx.le_setR {v : Value × Nat} (h : X.rw id g = none) : X.le (X.setR id g v) :=
 ⟨fun _ h => h, fun _ h => h, fun _ _ _ h => h, fun i k c hc => by
  simp only [Cx.setR]
  split
  ·rename_i e; obtain ⟨rfl, rfl⟩ := e; rw [h] at hc; cases hc
  ·exact hc⟩
theorem SRf.free (H : SRf X B h F w) (he : h id = some (g, e)) : X.bx id (g + 1) = none ∧ X.rw id (g + 1) = none :=
 H.hist id (g + 1) (fun g' e' h' => by rw [he] at h'; cases h'; exact Nat.lt_succ_self g)
theorem Grew.refl (w : World) (S : List Nat) : Grew w w S := ⟨rfl, rfl, rfl, Nat.le_refl _, fun _ _ _ => rfl⟩
theorem Grew.mono (h : Grew w w' S) (hs : ∀ b ∈ S, b ∈ S') : Grew w w' S' := ⟨h.os, h.tape, h.output, h.size, fun b hb hn => h.block b hb (fun hm => hn (hs b hm))⟩
theorem b0i (w : World) (o : Obj) (S : List Nat) : Grew w (w.alloc o) S := .of (r := none) (World.grownBy_alloc w o none) S (by simp)

theorem SRf.merge (H : SRf X B h F w) (hj : h j = some (g, .dead)) (hid : h id = some ge) (hne : id ≠ j) : SRf X B h (b0f (b0f F j []) id (F id ++ F j)) w := by
 have e1 : ∀ i, i ≠ id → i ≠ j → b0f (b0f F j []) id (F id ++ F j) i = F i := fun i h1 h2 => by simp [b0f, h1, h2]
 have e2 : b0f (b0f F j []) id (F id ++ F j) id = F id ++ F j := by simp [b0f]
 have e3 : b0f (b0f F j []) id (F id ++ F j) j = [] := by simp [b0f, Ne.symm hne]
 have from' : ∀ i ge' b, h i = some ge' → b ∈ b0f (b0f F j []) id (F id ++ F j) i → (b ∈ F i ∧ i ≠ j) ∨ (i = id ∧ b ∈ F j) := fun i ge' b hi hb => by
  by_cases h1 : i = id
  ·subst h1; rw [e2] at hb
   rcases List.mem_append.1 hb with hb | hb
   ·exact .inl ⟨hb, hne⟩
   ·exact .inr ⟨rfl, hb⟩
  ·by_cases h2 : i = j
   ·subst h2; rw [e3] at hb; cases hb
   ·rw [e1 i h1 h2] at hb; exact .inl ⟨hb, h2⟩
 refine { H with ent := fun i g' e he => ?_, blk := fun i ge' b he hb => ?_, sep := fun i i' ge1 ge2 b hi hi' hb hb' => ?_, ok2 := fun b hb => ⟨(H.ok2 b hb).1, fun i ge' hi hm => ?_⟩, own := fun i ge' b hi hb => ?_ }
 ·by_cases h1 : i = id
  ·subst h1
   have := H.ent i g' e he
   rw [e2]
   cases e with
   | dead => trivial
   | box ty cs => obtain ⟨b, us, S, k1, k2, k3, k4, k5⟩ := this; exact ⟨b, us, S, k1, k2, k3, k4, fun c hc => List.mem_append_left _ (k5 c hc)⟩
   | row ty sz xs => obtain ⟨v, us, S, k1, k2, k3, k4, k5, k6⟩ := this; exact ⟨v, us, S, k1, k2, k3, k4, k5, fun c hc => List.mem_append_left _ (k6 c hc)⟩
   | map es => obtain ⟨b, en, k1, k2, k3⟩ := this; exact ⟨b, en, k1, List.mem_append_left _ k2, k3⟩
   | chn ty lty xs => obtain ⟨b, bs, k1, k2⟩ := this; exact ⟨b, bs, k1, k2.imp (fun _ h => h) (fun c hc => List.mem_append_left _ hc) (fun _ _ => rfl) (fun _ _ _ hu => hu)⟩
   | blk l => exact BlkOK.imp this (fun _ h => h) (fun c hc => List.mem_append_left _ hc) (fun _ _ => rfl) (fun _ _ _ hu => hu)
  ·by_cases h2 : i = j
   ·subst h2; rw [hj] at he; cases he; trivial
   ·rw [e1 i h1 h2]; exact H.ent i g' e he
 ·rcases from' i ge' b he hb with ⟨h1, _⟩ | ⟨rfl, h1⟩
  ·exact H.blk i ge' b he h1
  ·exact H.blk j _ b hj h1
 ·rcases from' i ge1 b hi hb with ⟨h1, n1⟩ | ⟨rfl, h1⟩ <;> rcases from' i' ge2 b hi' hb' with ⟨h2, n2⟩ | ⟨rfl, h2⟩
  ·exact H.sep i i' ge1 ge2 b hi hi' h1 h2
  ·exact absurd (H.sep i j ge1 _ b hi hj h1 h2) n1
  ·exact absurd (H.sep i' j ge2 _ b hi' hj h2 h1) n2
  ·rfl
 ·rcases from' i ge' b hi hm with ⟨h1, _⟩ | ⟨rfl, h1⟩
  ·exact (H.ok2 b hb).2 i ge' hi h1
  ·exact (H.ok2 b hb).2 j _ hj h1
 ·rcases from' i ge' b hi hb with ⟨h1, _⟩ | ⟨rfl, h1⟩
  ·exact H.own i ge' b hi h1
  ·exact H.own j _ b hj h1
variable {B : Base} {h : HF} {w : World} {ty : Nat} {us : List Value}

theorem SRh.newBox (H : SRh X B h w) (he : h id = some (g, .dead)) {cs : List AV} (hv : VRs X w cs us) (ho : (cs.all fun c => !c.isOw) = true) :
  X.le (X.setB id (g + 1) w.heap.size) ∧ SRh (X.setB id (g + 1) w.heap.size) B (upd h id (g + 1, .box ty cs)) (w.alloc (.cells us.toArray ty)) ∧ (∀ b, X.ok2 b → (w.alloc (.cells us.toArray ty)).heap[b]? = w.heap[b]?) := by
 obtain ⟨F, H⟩ := H
 have hX := Cx.le_setB (b := w.heap.size) (H.free he).1
 have hok : ∀ b, X.ok2 b → (w.alloc (.cells us.toArray ty)).heap[b]? = w.heap[b]? := fun b hb => Below.heap_alloc w _ b (H.ok2 b hb).1
 refine ⟨hX, ⟨_, H.turn he hX rfl rfl (fun i k hik => ⟨?_, rfl⟩) (Nat.le_succ g) (b0i w _ _) (f := [w.heap.size]) ?_ (fun b hb => ?_)⟩, hok⟩
 ·simp only [Cx.setB]
  rw [if_neg (by rintro ⟨rfl, rfl⟩; rcases hik with h | h <;> exact h rfl)]
 ·exact ⟨w.heap.size, us, [], by simp [Cx.setB], heap_alloc_new w _, (hv.mono hX H.ok12 hok).trs ho, by simp, fun c hc => hc⟩
 ·simp at hb
  subst hb
  exact ⟨.inr (Nat.le_refl _), by simp⟩

theorem SRf.newRow {F : Nat → List Nat} {w w' : World} (H : SRf X B h F w) {e : Ent} (he : h id = some (g, e)) {ty sz : Nat} {xs : List (List AV)} {v : Value} {L S : List Nat} (hw : Grew w w' L) (hL : ∀ b ∈ L, b ∈ F id ∧ b ∉ S)
  (hS : ∀ b ∈ S, b ∈ F id) (hSn : S.Nodup) (hown : Own w' ty sz v xs.length us) (hloc : ∀ b, (a9h v) = some b → (b ∈ F id ∧ b ∉ S) ∨ w.heap.size ≤ b) (hl : Lens sz xs) (hc : TRs X w xs.flatten us S) :
  X.le (X.setR id (g + 1) (v, sz)) ∧ SRh (X.setR id (g + 1) (v, sz)) B (upd h id (g + 1, .row ty sz xs)) w' ∧ (∀ b, X.ok2 b → w'.heap[b]? = w.heap[b]?) := by
 have hX := Cx.le_setR (v := (v, sz)) (H.free he).2
 have hok : ∀ b, X.ok2 b → w'.heap[b]? = w.heap[b]? := fun b hb => hw.block b (H.ok2 b hb).1 (fun e' => (H.ok2 b hb).2 id _ he (hL b e').1)
 have hblt : ∀ b ∈ S, b < w.heap.size := fun b hb => H.blk id _ b he (hS b hb)
 refine ⟨hX, ⟨_, H.turn he hX rfl rfl (fun i k hik => ⟨rfl, ?_⟩) (Nat.le_succ g) (hw.mono (fun b hb => (hL b hb).1)) (f := (a9h v).toList ++ S) ?_ (fun b hb => ?_)⟩, hok⟩
 ·simp only [Cx.setR]
  rw [if_neg (by rintro ⟨rfl, rfl⟩; rcases hik with h | h <;> exact h rfl)]
 ·refine ⟨v, us, S, by simp [Cx.setR], hown, hl, hc.mono hX H.ok12 hok (fun b hb => hw.block b (hblt b hb) (fun hm => (hL b hm).2 hb)), ?_, fun c hc => hc⟩
  rw [List.nodup_append]
  refine ⟨by cases (a9h v) <;> simp, hSn, fun a ha b hb => ?_⟩
  rintro rfl
  have ha' : (a9h v) = some a := by simpa using ha
  rcases hloc a ha' with h1 | h1
  ·exact h1.2 hb
  ·have := hblt a hb; omega
 ·rw [List.mem_append] at hb
  rcases hb with hb | hb
  ·have hb' : (a9h v) = some b := by simpa using hb
   refine ⟨?_, hown.lt hb'⟩
   rcases hloc b hb' with h1 | h1
   ·exact .inl h1.1
   ·exact .inr h1
  ·exact ⟨.inl (hS b hb), Nat.lt_of_lt_of_le (hblt b hb) hw.size⟩
theorem VR.setR {X : Cx} {w : World} {id g sz n c : Nat} {A : Option Addr} : VR (X.setR id g (.slice A n c, sz)) w (.ref id g) (.slice A n c) := .ref (sz := sz) (by simp [Cx.setR])
theorem VR.setB {X : Cx} {w : World} {id g b : Nat} : VR (X.setB id g b) w (.ptr id g 0) (.pointer (some ⟨b, 0, none⟩)) := .ptr (by simp [Cx.setB])

def AV.cl : AV → Bool
 | .pv v => v.oneCell'
 | .row (.rd _) _ _ _ => true
 | .ifc _ (.pv _) => true
 | _ => false
theorem VR.closed (h : VR X w a v) (hc : a.cl = true) : CR X.ok1 X.ok2 w a v ∧ a.one = true := by
 cases a <;> simp only [AV.cl, Bool.false_eq_true] at hc
 case pv u => exact ⟨by rw [h.pv_inv]; exact .pv u, hc⟩
 case row m _ _ _ =>
  cases m with
  | ow => simp [AV.cl] at hc
  | rd c =>
   cases h with
   | cl h => exact ⟨h, rfl⟩
 case ifc t b =>
  cases b <;> simp only [AV.cl, Bool.false_eq_true] at hc
  case pv u =>
   refine ⟨?_, rfl⟩
   cases h with
   | cl h => exact h
   | ifc _ _ v h => rw [h.pv_inv]; exact .ifc _ _ _ (.pv u)

inductive Le (k : Bool) : AV → AV → Prop
 | cl {a : AV} (h : a.cl = true) : Le k a a
 | nil {c : Bool} {ty sz : Nat} : Le k (.pv (.slice none 0 0)) (.row (.rd c) ty sz [])
 | rd {c c' : Bool} {ty sz : Nat} {xs xs' : List (List AV)} (hc : c' = true → c = true) (hl : xs'.length = xs.length) (h1 : ∀ (j : Nat) (x x' : List AV), xs[j]? = some x → xs'[j]? = some x' → x'.length = x.length)
   (h2 : ∀ (j i : Nat) (x x' : List AV) (y y' : AV), xs[j]? = some x → xs'[j]? = some x' → x[i]? = some y → x'[i]? = some y' → y'.one = true) (h : ∀ (j i : Nat) (x x' : List AV) (y y' : AV), xs[j]? = some x → xs'[j]? = some x' → x[i]? = some y → x'[i]? = some y' → Le k y y') :
   Le k (.row (.rd c) ty sz xs) (.row (.rd c') ty sz xs')
 | ow {c' : Bool} {ty sz : Nat} {xs xs' : List (List AV)} (hc : c' = true → k = true) (hl : xs'.length = xs.length) (h1 : ∀ (j : Nat) (x x' : List AV), xs[j]? = some x → xs'[j]? = some x' → x'.length = x.length)
   (h : ∀ (j i : Nat) (x x' : List AV) (y y' : AV), xs[j]? = some x → xs'[j]? = some x' → x[i]? = some y → x'[i]? = some y' → Le k y y') :
   Le k (.row .ow ty sz xs) (.row (.rd c') ty sz xs')
theorem CR.le (h12 : ∀ b, o1 b → o2 b) (hl : Le k a a') (h : CR o1 o2 w a v) : CR o1 o2 w a' v := by
 induction hl generalizing v with
 | cl _ => exact h
 | nil =>
  cases h with
  | pv => exact .row none 0 (fun _ _ => undef) (by simp) (by simp [maxLen]) (fun j x hx => by simp at hx) (fun j i x y hx _ => by simp at hx) (fun hp => by simp at hp) (fun ad j i x y hA => by cases hA) (fun j i x y hx _ => by simp at hx)
 | @rd c c' ty sz xs xs' hc hl h1 h2 hle ih =>
  cases h with
  | row A cp u k1 k2 k3 k4 k5 k6 k7 =>
   have get : ∀ (j : Nat) (x' : List AV), xs'[j]? = some x' → ∃ x, xs[j]? = some x := fun j x' hx => by
    have := (List.getElem?_eq_some_iff.1 hx).1
    exact ⟨_, List.getElem?_eq_getElem (by omega)⟩
   have get2 : ∀ (j i : Nat) (x' : List AV) (y' : AV), xs'[j]? = some x' → x'[i]? = some y' → ∃ x y, xs[j]? = some x ∧ x[i]? = some y := fun j i x' y' hx hy => by
    obtain ⟨x, hx0⟩ := get j x' hx
    have := (List.getElem?_eq_some_iff.1 hy).1
    have := h1 j x x' hx0 hx
    exact ⟨x, _, hx0, List.getElem?_eq_getElem (by omega)⟩
   rw [show xs.length = xs'.length from hl.symm]
   refine .row A cp u (by omega) k2 (fun j x' hx => ?_) (fun j i x' y' hx hy => ?_) (fun hp => ?_) (fun ad j i x' y' hA hx hy => ?_) (fun j i x' y' hx hy => ?_)
   ·obtain ⟨x, hx0⟩ := get j x' hx
    rw [h1 j x x' hx0 hx]; exact k3 j x hx0
   ·obtain ⟨x, y, hx0, hy0⟩ := get2 j i x' y' hx hy
    exact h2 j i x x' y y' hx0 hx hy0 hy
   ·obtain ⟨ad, e, ho⟩ := k5 (by omega)
    refine ⟨ad, e, ?_⟩
    cases c' with
    | true => rw [hc rfl] at ho; exact ho
    | false => exact ho.ok2 h12
   ·obtain ⟨x, y, hx0, hy0⟩ := get2 j i x' y' hx hy
    exact k6 ad j i x y hA hx0 hy0
   ·obtain ⟨x, y, hx0, hy0⟩ := get2 j i x' y' hx hy
    exact ih j i x x' y y' hx0 hx hy0 hy (k7 j i x y hx0 hy0)
 | ow => cases h

theorem b8d (h : Own w ty sz v xs.length us) (hl : Lens sz xs) (hc : CRs o1 o2 w xs.flatten us) (ho : ∀ b, (a9h v) = some b → okm o1 o2 c b) : CR o1 o2 w (.row (.rd c) ty sz xs) v := by
 have hu : ∀ (j i : Nat) (x : List AV) (y : AV), xs[j]? = some x → x[i]? = some y → us[j * sz + i]? = some (us.getD (j * sz + i) undef) ∧ xs.flatten[j * sz + i]? = some y := fun j i x y hx hy => by
  have hf := b6k xs j i x y hl hx hy
  have hlt := (List.getElem?_eq_some_iff.1 hf).1
  have hlt' : j * sz + i < us.length := by rw [hc.len]; exact hlt
  exact ⟨by rw [List.getD_eq_getElem?_getD, List.getElem?_eq_getElem hlt']; rfl, hf⟩
 rcases h.2 with ⟨A, rfl, h0⟩ | ⟨b, cap, cur, rfl, hc0, h5, h6, h7, _⟩
 ·have hxs : xs = [] := List.eq_nil_of_length_eq_zero h0
  subst hxs
  exact .row A 0 (fun _ _ => undef) (by simp) (by simp [maxLen]) hl (fun j i x y hx _ => by simp at hx) (fun hp => by simp at hp) (fun ad j i x y hA hx => by simp at hx) (fun j i x y hx _ => by simp at hx)
 ·refine .row _ cap (fun j i => us.getD (j * sz + i) undef) h6 h7 hl (fun j i x y hx hy => hc.one _ _ (hu j i x y hx hy).2) (fun _ => ⟨⟨b, 0, none⟩, rfl, ho b (b3l hc0)⟩) (fun ad j i x y hA hx hy => ?_) (fun j i x y hx hy => hc.rel _ _ _ (hu j i x y hx hy).2 (hu j i x y hx hy).1)
  cases hA
  obtain ⟨b', c', e, _, h8⟩ := h.cells (hu j i x y hx hy).1
  cases e
  exact h8

structure LeL (k : Bool) (cs cs' : List AV) : Prop where
 len : cs'.length = cs.length
 le : ∀ (i : Nat) (y y' : AV), cs[i]? = some y → cs'[i]? = some y' → Le k y y'
theorem LeL.flat : ∀ (xs xs' : List (List AV)), xs'.length = xs.length → (∀ (j : Nat) (x x' : List AV), xs[j]? = some x → xs'[j]? = some x' → LeL k x x') → LeL k xs.flatten xs'.flatten
 | [], [], _, _ => ⟨rfl, fun i y y' h => by simp at h⟩
 | [], _ :: _, hl, _ => by simp at hl
 | _ :: _, [], hl, _ => by simp at hl
 | x :: xs, x' :: xs', hl, h => by
  have h0 := h 0 x x' rfl rfl
  have ih := LeL.flat xs xs' (by simpa using hl) (fun j y y' hy hy' => h (j + 1) y y' (by simpa using hy) (by simpa using hy'))
  refine ⟨by simp [h0.len, ih.len], fun i y y' hy hy' => ?_⟩
  rw [List.flatten_cons, List.getElem?_append] at hy hy'
  rw [h0.len] at hy'
  split at hy
  ·rename_i hi
   rw [if_pos hi] at hy'
   exact h0.le i y y' hy hy'
  ·rename_i hi
   rw [if_neg hi] at hy'
   exact ih.le _ y y' hy hy'
theorem Le.one (h : Le k a a') (h1 : a.one = true) : a'.one = true := by
 cases h with
 | cl => exact h1
 | nil => rfl
 | rd => rfl
 | ow => rfl
theorem TRs.le (h12 : ∀ b, o1 b → o2 b) (hX1 : ∀ b, X.ok1 b → o1 b) (hX2 : ∀ b, X.ok2 b → o2 b) (hX : ∀ b, X.ok1 b → X.ok2 b) (h : TRs X w cs us S) :
  ∀ {cs' : List AV}, LeL k cs cs' → (∀ b ∈ S, o2 b ∧ (k = true → o1 b)) → CRs o1 o2 w cs' us := by
 induction h with
 | nil =>
  intro cs' hl _
  have := hl.len
  cases cs' with
  | nil => exact .nil
  | cons => simp at this
 | @vr X w y u cs us S h1 h2 h _ ih =>
  intro cs' hl hS
  cases cs' with
  | nil => have := hl.len; simp at this
  | cons y' cs' =>
   have hy := hl.le 0 y y' rfl rfl
   have ht : LeL k cs cs' := ⟨by simpa using hl.len, fun i z z' hz hz' => hl.le (i + 1) z z' (by simpa using hz) (by simpa using hz')⟩
   have hcr : CR X.ok1 X.ok2 w y u := by
    cases hy with
    | cl hc => exact (h.closed hc).1
    | nil => exact (h.closed rfl).1
    | rd => exact (h.closed rfl).1
    | ow => simp [AV.isOw] at h2
   exact .cons (hy.one h1) ((hcr.mono hX1 hX2 hX (fun _ _ => rfl)).le h12 hy) (ih hX1 hX2 hX ht hS)
 | @own X w ty sz xs v ws S' cs us S ho hlen _ _ ih1 ih2 =>
  intro cs' hl hS
  cases cs' with
  | nil => have := hl.len; simp at this
  | cons y' cs' =>
   have hy := hl.le 0 _ y' rfl rfl
   have ht : LeL k cs cs' := ⟨by simpa using hl.len, fun i z z' hz hz' => hl.le (i + 1) z z' (by simpa using hz) (by simpa using hz')⟩
   refine .cons (hy.one rfl) ?_ (ih2 hX1 hX2 hX ht (fun b hb => hS b (by simp [hb])))
   cases hy with
   | cl hc => simp [AV.cl] at hc
   | @ow c' _ _ _ xs' hc hl1 h1 h =>
    have hfl : LeL k xs.flatten xs'.flatten := LeL.flat xs xs' hl1 (fun j x x' hx hx' => ⟨h1 j x x' hx hx', fun i y y' hy hy' => h j i x x' y y' hx hx' hy hy'⟩)
    refine b8d (by rw [hl1]; exact ho) (fun j x' hx' => ?_) (ih1 hX1 hX2 hX hfl (fun b hb => hS b (by simp [hb]))) (fun b hb => ?_)
    ·have hlt := (List.getElem?_eq_some_iff.1 hx').1
     have hx0 : xs[j]? = some (xs[j]'(by omega)) := List.getElem?_eq_getElem _
     rw [h1 j _ x' hx0 hx']
     exact hlen j _ hx0
    ·have := hS b (by simp [hb])
     cases c' with
     | true => exact this.2 (hc rfl)
     | false => exact this.1

theorem SRh.freeze (H : SRh X B h w) (he : h id = some (g, .row ty sz xs)) (hle : Le true (.row .ow ty sz xs) (.row (.rd true) ty sz xs')) :
  ∃ Y : Cx, X.le Y ∧ SRh Y B (upd h id (g, .dead)) w ∧ ∀ v, VR X w (.ref id g) v → VR Y w (.row (.rd true) ty sz xs') v := by
 obtain ⟨F, H⟩ := H
 obtain ⟨v0, us, S, h1, h2, h3, h4, _, hF⟩ := H.ent _ _ _ he
 let Y : Cx := { X with ok1 := fun b => X.ok1 b ∨ b ∈ F id, ok2 := fun b => X.ok2 b ∨ b ∈ F id }
 have hX : X.le Y := ⟨fun b hb => .inl hb, fun b hb => .inl hb, fun _ _ _ h => h, fun _ _ _ h => h⟩
 have fne : ∀ i, i ≠ id → b0f F id [] i = F i := fun i hi => by simp [b0f, hi]
 have feq : b0f F id [] id = [] := by simp [b0f]
 refine ⟨Y, hX, ⟨b0f F id [], ?_, ?_, ?_, ?_, ?_, ?_, ?_, ?_, ?_, H.os, H.tape, H.output, H.size, H.keep⟩, ?_⟩
 ·intro i k c hc
  by_cases hi : i = id
  ·subst hi; rw [a4x] at hc; cases hc; trivial
  ·rw [w1w _ hi] at hc
   rw [fne i hi]
   exact (H.ent i k c hc).mono hX H.ok12 (fun _ _ => rfl) (fun _ _ => rfl)
 ·intro i ge b hc hb
  by_cases hi : i = id
  ·subst hi; rw [feq] at hb; cases hb
  ·rw [w1w _ hi] at hc; rw [fne i hi] at hb; exact H.blk i ge b hc hb
 ·intro i i' ge ge' b hc hc' hb hb'
  by_cases hi : i = id
  ·subst hi; rw [feq] at hb; cases hb
  ·by_cases hi' : i' = id
   ·subst hi'; rw [feq] at hb'; cases hb'
   ·rw [w1w _ hi] at hc
    rw [w1w _ hi'] at hc'
    rw [fne i hi] at hb
    rw [fne i' hi'] at hb'
    exact H.sep i i' ge ge' b hc hc' hb hb'
 ·intro b hb
  rcases hb with hb | hb
  ·refine ⟨(H.ok2 b hb).1, fun i ge hc hbb => ?_⟩
   by_cases hi : i = id
   ·subst hi; rw [feq] at hbb; cases hbb
   ·rw [w1w _ hi] at hc
    rw [fne i hi] at hbb
    exact (H.ok2 b hb).2 i ge hc hbb
  ·refine ⟨H.blk id _ b he hb, fun i ge hc hbb => ?_⟩
   by_cases hi : i = id
   ·subst hi; rw [feq] at hbb; cases hbb
   ·rw [w1w _ hi] at hc
    rw [fne i hi] at hbb
    exact hi (H.sep i id ge _ b hc he hbb hb)
 ·intro b hb
  rcases hb with hb | hb
  ·exact .inl (H.ok12 b hb)
  ·exact .inr hb
 ·intro b hb
  rcases hb with hb | hb
  ·exact H.in1 b hb
  ·exact .inr (H.own id _ b he hb)
 ·intro b hb
  rcases hb with hb | hb
  ·exact H.in2 b hb
  ·exact .inr (H.own id _ b he hb)
 ·intro i ge b hc hb
  by_cases hi : i = id
  ·subst hi; rw [feq] at hb; cases hb
  ·rw [w1w _ hi] at hc
   rw [fne i hi] at hb
   exact H.own i ge b hc hb
 ·intro i k hk
  by_cases hi : i = id
  ·subst hi
   have := hk g .dead (a4x _ _ _)
   exact H.hist i k (fun g' e' h' => by rw [he] at h'; cases h'; exact this)
  ·exact H.hist i k (fun g' e' h' => hk g' e' (by rw [w1w _ hi]; exact h'))
 ·intro v hv
  obtain ⟨A, n, c, sz', rfl, hr⟩ := hv.ref_inv
  rw [h1] at hr
  cases hr
  cases hle with
  | ow hc hl1 h1' h' =>
   have hfl : LeL true xs.flatten xs'.flatten := LeL.flat xs xs' hl1 (fun j x x' hx hx' => ⟨h1' j x x' hx hx', fun i y y' hy hy' => h' j i x x' y y' hx hx' hy hy'⟩)
   have hcr : CRs Y.ok1 Y.ok2 w xs'.flatten us := h4.le (k := true) (o1 := Y.ok1) (o2 := Y.ok2) (fun b hb => by
    rcases hb with hb | hb
    ·exact .inl (H.ok12 b hb)
    ·exact .inr hb) (fun b hb => .inl hb) (fun b hb => .inl hb) H.ok12 hfl (fun b hb => ⟨.inr (hF b (by simp [hb])), fun _ => .inr (hF b (by simp [hb]))⟩)
   refine .cl (b8d (by rw [hl1]; exact h2) (fun j x' hx' => ?_) hcr (fun b hb => .inr (hF b (by simp [hb]))))
   have hlt := (List.getElem?_eq_some_iff.1 hx').1
   have hx0 : xs[j]? = some (xs[j]'(by omega)) := List.getElem?_eq_getElem _
   rw [h1' j _ x' hx0 hx']
   exact h3 j _ hx0
theorem a9j (h : HF) (id : Nat) (ge : Nat × Ent) (W : TL) : b1s h ((id, ge) :: W) = upd (b1s h W) id ge := by
 funext k
 simp only [b1s, u8u, c0q, upd]
 by_cases e : k = id
 ·subst e; simp
 ·simp [e, Ne.symm e]
theorem d3k (h : HF) (id : Nat) (ge : Nat × Ent) (W : TL) (hn : (y4y W id).isSome = false) : b1s (upd h id ge) W = upd (b1s h W) id ge := by
 funext k
 simp only [b1s, upd]
 by_cases e : k = id
 ·subst e
  cases hw : y4y W k with
  | none => simp
  | some x => simp [hw] at hn
 ·simp [e]
end
section
variable {P : Program} {ev : Operand → Option AV}
def a0i : AV → List AV
 | .agg cs => cs
 | a => [a]
def AV.okc : AV → Bool
 | .agg _ => true
 | a => a.one
theorem b6l {v : Value} (h : v.oneCell' = true) : v.cells = #[v] := by
 cases v <;> first | rfl | simp [Value.oneCell'] at h
theorem a9k (h : VR X w av v) (hc : av.okc = true) : ∃ us : List Value, v.cells = us.toArray ∧ VRs X w (a0i av) us := by
 by_cases ha : ∃ cs, av = .agg cs
 ·obtain ⟨cs, rfl⟩ := ha
  obtain ⟨us, rfl, hu⟩ := h.agg_inv
  exact ⟨us, rfl, hu⟩
 ·have h1 : av.one = true := by cases av <;> first | exact hc | exact absurd ⟨_, rfl⟩ ha
  have h2 : a0i av = [av] := by cases av <;> first | rfl | exact absurd ⟨_, rfl⟩ ha
  refine ⟨[v], by rw [b6l (h.oneCell h1)], ?_⟩
  rw [h2]
  exact .cons h1 h .nil
theorem VRs.oneCells (h : VRs X w cs us) : ∀ u ∈ us, u.oneCell' = true := by
 intro u hu
 obtain ⟨i, hi⟩ := List.mem_iff_getElem?.1 hu
 have hl := (List.getElem?_eq_some_iff.1 hi).1
 have hy : cs[i]? = some (cs[i]'(by rw [← h.len]; exact hl)) := List.getElem?_eq_getElem _
 exact (h.rel i _ u hy hi).oneCell (h.one i _ hy)
theorem VRs.append (h : VRs X w cs us) (k : VRs X w ds vs) : VRs X w (cs ++ ds) (us ++ vs) := by
 refine ⟨by simp [h.len, k.len], fun i y hy => ?_, fun i y u hy hu => ?_⟩
 ·rw [List.getElem?_append] at hy
  split at hy
  ·exact h.one _ _ hy
  ·exact k.one _ _ hy
 ·rw [List.getElem?_append] at hy hu
  split at hy
  ·rename_i hi
   rw [if_pos (by rw [h.len]; exact hi)] at hu
   exact h.rel _ _ _ hy hu
  ·rename_i hi
   rw [if_neg (by rw [h.len]; exact hi), h.len] at hu
   exact k.rel _ _ _ hy hu
theorem VRs.pvs : ∀ {vs : List Value}, (∀ v ∈ vs, v.oneCell' = true) → VRs X w (vs.map .pv) vs
 | [], _ => .nil
 | v :: vs, h => .cons (h v (by simp)) (.pv v) (VRs.pvs (fun u hu => h u (by simp [hu])))
theorem e6y (vs : List Value) : ((vs.map AV.pv).all fun c => !c.isOw) = true := by
 induction vs with
 | nil => rfl
 | cons v vs ih => simp [AV.isOw]
def d6a (xs : List (List AV)) : Prop := ∀ x ∈ xs, ∀ c ∈ x, c.flat = true
inductive Abs : List AV → Hp → List AV → TL → TL → Prop
 | nil {h : Hp} : Abs [] h [] [] []
 | ref {id g ty sz : Nat} {xs : List (List AV)} {r cs : List AV} {h : Hp} {T W : TL} (hh : y4y h id = some (g, .row ty sz xs)) (hf : d6a xs) (t : Abs r ((id, (g, .dead)) :: h) cs T W) (n1 : (y4y W id).isSome = false) (n2 : (T.any (·.1 == id)) = false) :
   Abs (.ref id g :: r) h (.row .ow ty sz xs :: cs) ((id, (g, .row ty sz xs)) :: T) ((id, (g, .dead)) :: W)
 | val {c : AV} {r cs : List AV} {h : Hp} {T W : TL} (h1 : c.one = true) (h2 : c.isOw = false) (t : Abs r h cs T W) : Abs (c :: r) h (c :: cs) T W
variable {id : Nat}
theorem SRf.kill (H : SRf X B h F w) (he : h id = some (g, e)) : SRf X B (upd h id (g, .dead)) F w := by
 have := H.turn (e' := .dead) (f := F id) he (Cx.le.refl X) rfl rfl (fun _ _ _ => ⟨rfl, rfl⟩) (Nat.le_refl g) (Grew.refl w _) trivial (fun b hb => ⟨.inl hb, H.blk id _ b he hb⟩)
 have e : b0f F id (F id) = F := by funext k; by_cases hk : k = id <;> simp [b0f, hk]
 rwa [e] at this
theorem c8o (hab : Abs cs h cs' T W) : ∀ (X : Cx) (hF : HF) (F : Nat → List Nat) (us : List Value) (ge : Nat × Ent), SRf X B hF F w → VRs X w cs us → (∀ j ge, (j, ge) ∈ T → hF j = some ge) →
  hF id = some ge → (T.any (·.1 == id)) = false → ∃ F' S, SRf X B (b1s hF W) F' w ∧ TRs X w cs' us S ∧ S.Nodup ∧ (∀ b ∈ F id, b ∈ F' id) ∧ (∀ b ∈ S, b ∈ F' id ∧ b ∉ F id) ∧ b1s hF W id = some ge := by
 induction hab with
 | nil =>
  intro X hF F us ge hS hv hT hid hn
  have : us = [] := List.eq_nil_of_length_eq_zero (by rw [hv.len]; rfl)
  subst this
  exact ⟨F, [], hS, .nil, List.nodup_nil, fun b hb => hb, fun b hb => absurd hb (by simp), hid⟩
 | @ref j g' ty sz xs r cs h T' W' hh hfl t n1 n2 ih =>
  intro X hF F us ge hS hv hT hid hn
  obtain ⟨u, us, rfl⟩ : ∃ u us', us = u :: us' := by
   cases us with
   | nil => have := hv.len; simp at this
   | cons u us => exact ⟨u, us, rfl⟩
  have hr := hv.tail
  have hc0 : VR X w (.ref j g') u := hv.rel 0 _ u rfl rfl
  simp only [List.any_cons, Bool.or_eq_false_iff, beq_eq_false_iff_ne, ne_eq] at hn
  have hj := hT j _ (List.mem_cons_self ..)
  have hne : id ≠ j := fun e => hn.1 e.symm
  obtain ⟨v0, vs, S0, h1, h2, h3, h4, h5, h6⟩ := hS.ent _ _ _ hj
  have hS1 := hS.kill hj
  have hj1 : upd hF j (g', .dead) j = some (g', .dead) := a4x _ _ _
  have hid1 : upd hF j (g', .dead) id = some ge := by rw [w1w _ hne]; exact hid
  have hS2 := hS1.merge hj1 hid1 hne
  have hT' : ∀ i ge, (i, ge) ∈ T' → upd hF j (g', .dead) i = some ge := fun i ge hm => by
   rw [w1w]
   ·exact hT i ge (List.mem_cons_of_mem _ hm)
   ·rintro rfl
    rw [List.any_eq_false] at n2
    exact n2 _ hm (by simp)
  obtain ⟨F', S', k1, k2, k3, k4, k5, k6⟩ := ih X _ _ us ge hS2 hr hT' hid1 hn.2
  have fid : b0f (b0f F j []) id (F id ++ F j) id = F id ++ F j := by simp [b0f]
  rw [fid] at k4 k5
  obtain ⟨A, n, cp, sz', rfl, hrw⟩ := hc0.ref_inv
  rw [h1] at hrw
  cases hrw
  have hsub : ∀ b ∈ (a9h (Value.slice A n cp)).toList ++ S0, b ∈ F j := h6
  have h4' : TRs X.bare w xs.flatten vs S0 := h4.flat (fun _ h => h) (fun _ h => h) hS.ok12 (fun c hc => by
   obtain ⟨x, hx, hcx⟩ := List.mem_flatten.1 hc
   exact hfl x hx c hcx)
  refine ⟨F', _, ?_, .own h2 h3 h4' k2, ?_, fun b hb => k4 b (List.mem_append_left _ hb), fun b hb => ?_, ?_⟩
  ·rw [a9j, ← d3k _ _ _ _ n1]; exact k1
  ·rw [List.nodup_append]
   refine ⟨h5, k3, fun a ha b hb => ?_⟩
   rintro rfl
   exact (k5 a hb).2 (List.mem_append_right _ (hsub a ha))
  ·rcases List.mem_append.1 hb with hb | hb
   ·have hbj := hsub b hb
    exact ⟨k4 b (List.mem_append_right _ hbj), fun hbi => hne (hS.sep id j ge _ b hid hj hbi hbj)⟩
   ·exact ⟨(k5 b hb).1, fun hbi => (k5 b hb).2 (List.mem_append_left _ hbi)⟩
  ·rw [a9j, w1w _ hne]
   have : b1s hF W' id = b1s (upd hF j (g', .dead)) W' id := by rw [d3k _ _ _ _ n1, w1w _ hne]
   rw [this]; exact k6
 | @val c r cs h T W hc1 hc2 t ih =>
  intro X hF F us ge hS hv hT hid hn
  obtain ⟨u, us, rfl⟩ : ∃ u us', us = u :: us' := by
   cases us with
   | nil => have := hv.len; simp at this
   | cons u us => exact ⟨u, us, rfl⟩
  obtain ⟨F', S', k1, k2, k3, k4, k5, k6⟩ := ih X hF F us ge hS hv.tail hT hid hn
  exact ⟨F', S', k1, .vr hc1 hc2 (hv.rel 0 c u rfl rfl) k2, k3, k4, k5, k6⟩
theorem TSOk.zeroCells (hz : TSOk P t S) : (if S.agg then Value.agg S.zero.toArray else S.zero.getD 0 undef).cells = S.zero.toArray := by
 split
 ·rfl
 ·rename_i hag
  have h1 := hz.sc (by simpa using hag)
  have h2 := hz.zl
  match hm : S.zero, h2 with
  | [v], _ => exact b6l (hz.z1 v (by rw [hm]; simp))
  | [], h2 => simp at h2; omega
  | a :: b :: r, h2 => simp at h2; omega
theorem c0v (t : TypeId) (v : Value) (w : World) : (newVar t v).run P w = .ok ⟨w.heap.size, 0, none⟩ (w.alloc (.cells v.cells t)) := by
 simp [newVar, newRow]
variable {tt : TT}
theorem d8a (htt : a1z P tt) (ho : o.op = .alloc t) (hs : tt t = some S) : OpS P o ev [(id, (g, .dead))] [(id, (g + 1, .box t (S.zero.map .pv)))] (.ptr id (g + 1) 0) := by
 intro X B hF a w Q K hS hop hT hK
 have hid := hT id _ (List.mem_singleton.2 rfl)
 have hz := htt _ _ hs
 obtain ⟨hX, hS', hok⟩ := hS.newBox hid (ty := t) (VRs.pvs (X := X) (w := w) hz.z1) (e6y _)
 unfold Oper.wp
 have hr : (execOp a.eval o).run P w = .ok (.value (.pointer (some ⟨w.heap.size, 0, none⟩))) (w.alloc (.cells S.zero.toArray t)) := by
  simp only [execOp, ho, Instr.alloc, Sem.run_bind, hz.zeroValue, Result.andThen_ok, c0v, hz.zeroCells, Sem.run_pure]
 rw [hr, Oper.upon_value]
 exact hK _ _ _ hX (by rw [s2s]; exact hS') hok .setB
theorem e8n (ho : o.op = .box t x) (hx : ev x = some av) (hc : av.okc = true) (hw : ((a0i av).all fun c => !c.isOw) = true) : OpS P o ev [(id, (g, .dead))] [(id, (g + 1, .box t (a0i av)))] (.ptr id (g + 1) 0) := by
 intro X B hF a w Q K hS hop hT hK
 have hid := hT id _ (List.mem_singleton.2 rfl)
 obtain ⟨us, e1, hu⟩ := a9k (hop x (by simp [ho, Op.operands]) _ hx) hc
 obtain ⟨hX, hS', hok⟩ := hS.newBox hid (ty := t) hu hw
 unfold Oper.wp
 have hr : (execOp a.eval o).run P w = .ok (.value (.pointer (some ⟨w.heap.size, 0, none⟩))) (w.alloc (.cells us.toArray t)) := by
  simp only [execOp, ho, Instr.box, Sem.run_bind, c0v, e1, Result.andThen_ok, Sem.run_pure]
 rw [hr, Oper.upon_value]
 exact hK _ _ _ hX (by rw [s2s]; exact hS') hok .setB

theorem b6m (htt : a1z P tt) (hs : tt t = some S) (w : World) (b off ty : Nat) (us vs : List Value) (v : Value) (hv : v.cells = vs.toArray) (hn : vs.length = S.size) (hb : w.heap[b]? = some (.cells us.toArray ty (0, 0))) (hl : off + vs.length ≤ us.length) (h1 : ∀ u ∈ vs, u.oneCell' = true) :
  (Instr.storeAt t (.pointer (some ⟨b, off, none⟩)) v).run P w = .ok () (w.setRow b (us.take off ++ vs ++ us.drop (off + vs.length)).toArray) := by
 have hst := run_storeCells_at P b off ty vs 0 us.toArray w hb (by simpa using hl) h1
 simp only [Nat.add_zero] at hst
 simp [Instr.storeAt, Instr.sureAddr, storeVar, (htt _ _ hs).sizeOf, hv, hn]
 simpa [hn] using hst
theorem a8m (w : World) (b : Nat) (cs : Array Value) : Grew w (w.setRow b cs) [b] :=
 ⟨rfl, rfl, rfl, by simp, fun k _ hk => setRow_other w b k _ (by simpa using hk)⟩
theorem b6n (l : List α) (n k : Nat) (h : n + k ≤ l.length) : l = l.take n ++ ((l.drop n).take k ++ l.drop (n + k)) := by
 have h1 := List.take_append_drop n l
 have h2 := List.take_append_drop k (l.drop n)
 rw [List.drop_drop] at h2
 rw [h2]; exact h1.symm
theorem c0w {S1 S2 S3 : List Nat} {b : List Nat} (h : (b ++ (S1 ++ (S2 ++ S3))).Nodup) : (b ++ (S1 ++ S3)).Nodup :=
 h.sublist ((List.Sublist.refl b).append ((List.Sublist.refl S1).append (List.sublist_append_right S2 S3)))
variable {o : Oper} {t g off ty : Nat} {x y : Operand} {av : AV}
theorem c5u (htt : a1z P tt) {S : TS} {cs : List AV} (ho : o.op = .store t x y) (hx : ev x = some (.ptr id g off)) (hy : ev y = some av) (hc : av.okc = true) (hs : tt t = some S)
  (how : ((a0i av).all fun c => !c.isOw) = true) (hn : (a0i av).length = S.size) (hl : off + S.size ≤ cs.length) : OpS P o ev [(id, (g, .box ty cs))] [(id, (g, .box ty (cs.take off ++ a0i av ++ cs.drop (off + S.size))))] (.pv undef) := by
 rintro X B hF a w Q K ⟨F, hS⟩ hop hT hK
 have hid := hT id _ (List.mem_singleton.2 rfl)
 obtain ⟨b, e1, hb⟩ := (hop x (by simp [ho, Op.operands]) _ hx).ptr_inv
 obtain ⟨vs, e2, hv⟩ := a9k (hop y (by simp [ho, Op.operands]) _ hy) hc
 obtain ⟨b', us, S0, h1, h2, h3, h4, h5⟩ := hS.ent _ _ _ hid
 rw [hb] at h1
 cases h1
 have hvl : vs.length = S.size := by rw [hv.len, hn]
 have hr := b6m htt hs w b off ty us vs _ e2 hvl h2 (by rw [hvl, h3.len]; exact hl) hv.oneCells
 have hbF := h5 b (by simp)
 have hok : ∀ c, X.ok2 c → (w.setRow b (us.take off ++ vs ++ us.drop (off + vs.length)).toArray).heap[c]? = w.heap[c]? := fun c hc => setRow_other w b c _ (fun e => (hS.ok2 c hc).2 id _ hid (e ▸ hbF))
 have hsp := b6n cs off S.size hl
 rw [hsp] at h3
 obtain ⟨us1, us', S1, S', rfl, rfl, t1, t'⟩ := h3.split
 obtain ⟨us2, us3, S2, S3, rfl, rfl, t2, t3⟩ := t'.split
 have l1 : us1.length = off := by rw [t1.len]; simp; omega
 have l2 : us2.length = S.size := by rw [t2.len]; simp; omega
 have e3 : (us1 ++ (us2 ++ us3)).take off = us1 := by rw [List.take_append_of_le_length (by omega), List.take_of_length_le (by omega)]
 have e4 : (us1 ++ (us2 ++ us3)).drop (off + vs.length) = us3 := by
  rw [← List.append_assoc, List.drop_append_of_le_length (by simp; omega), List.drop_of_length_le (by simp; omega), List.nil_append]
 rw [e3, e4] at hok hr
 have hS' := hS.turn hid (Cx.le.refl X) rfl rfl (fun _ _ _ => ⟨rfl, rfl⟩) (Nat.le_refl g) (w' := w.setRow b (us1 ++ vs ++ us3).toArray) (f := F id) ((a8m w b _).mono (by simpa using hbF)) (e' := .box ty (cs.take off ++ a0i av ++ cs.drop (off + S.size)))
  ⟨b, _, S1 ++ S3, hb, setRow_heap w b _ _ _ _ h2, by
   have k0 : TRs X w (a0i av) vs [] := hv.trs how
   have k1 := (t1.append k0).append t3
   rw [List.append_nil] at k1
   refine k1.mono (Cx.le.refl X) hS.ok12 hok (fun c hc => setRow_other w b c _ ?_)
   rintro rfl
   have hnd : ([c] ++ (S1 ++ S3)).Nodup := c0w (b := [c]) h4
   rw [List.nodup_append] at hnd
   exact hnd.2.2 c (by simp) c hc rfl, c0w (b := [b]) h4, fun c hc => h5 c (by
    simp only [List.mem_cons, List.mem_append] at hc ⊢
    rcases hc with h | h | h <;> simp [h])⟩
  (fun c hc => ⟨.inl hc, by simpa using hS.blk id _ c hid hc⟩)
 unfold Oper.wp
 have hx2 : (execOp a.eval o).run P w = .ok .skip (w.setRow b (us1 ++ vs ++ us3).toArray) := by
  simp only [execOp, ho, e1, Sem.run_bind, hr, Result.andThen_ok, Sem.run_pure]
 rw [hx2, Oper.upon_skip]
 exact hK X _ undef (Cx.le.refl X) (by rw [s2s]; exact ⟨_, hS'⟩) hok (.pv undef)
theorem b0j : ∀ (xs : List (List α)) (i : Nat) (x : List α), (∀ (j : Nat) (x : List α), xs[j]? = some x → x.length = sz) → i < xs.length → (xs.set i x).flatten = xs.flatten.take (i * sz) ++ x ++ xs.flatten.drop (i * sz + sz)
 | [], i, x, _, hi => by simp at hi
 | y :: r, 0, x, h, _ => by
  have h0 := h 0 y rfl
  simp [List.set, h0.symm]
 | y :: r, i + 1, x, h, hi => by
  have h0 := h 0 y rfl
  have ih := b0j r i x (fun j z hz => h (j + 1) z (by simpa using hz)) (by simpa using hi)
  simp only [List.set, List.flatten_cons, ih, Nat.add_mul, Nat.one_mul]
  have e1 : (y ++ r.flatten).take (i * sz + sz) = y ++ r.flatten.take (i * sz) := by
   rw [List.take_append, h0, List.take_of_length_le (by omega)]
   congr 2; omega
  have e2 : (y ++ r.flatten).drop (i * sz + sz + sz) = r.flatten.drop (i * sz + sz) := by
   rw [List.drop_append, h0, List.drop_of_length_le (by omega), List.nil_append]
   congr 1; omega
  rw [e1, e2]
  simp [List.append_assoc]
theorem b4f (h : Own w ty sz (.slice (some ⟨b, 0, none⟩) n cap) n us) (hpos : 0 < n) (hl : off + vs.length ≤ us.length) :
  ∃ cur : Array Value, w.heap[b]? = some (.cells cur ty (0, 0)) ∧ us.length ≤ cur.size ∧ Own (w.setRow b (cur.toList.take off ++ vs ++ cur.toList.drop (off + vs.length)).toArray) ty sz (.slice (some ⟨b, 0, none⟩) n cap) n (us.take off ++ vs ++ us.drop (off + vs.length)) := by
 rcases h.2 with ⟨A, e, e2⟩ | ⟨b', cap', cur, e, hc0, h5, h6, h7, h8, h9⟩
 ·exact absurd e2 (Nat.ne_of_gt hpos)
 ·cases e
  have hul : us.length ≤ cur.size := by rw [← h9]; simp only [List.length_take, Array.length_toList]; exact Nat.min_le_right _ _
  refine ⟨cur, h5, hul, ?_, .inr ⟨b, cap, _, rfl, hc0, setRow_heap w b _ _ _ _ h5, h6, h7, ?_, ?_⟩⟩
  ·have := h.1
   simp; omega
  ·simp; omega
  ·have hn : n * sz = us.length := h.1.symm
   rw [hn]
   have e3 : us = cur.toList.take us.length := by rw [← hn]; exact h9.symm
   have e4 : us.take off = cur.toList.take off := by
    conv => lhs; rw [e3]
    rw [List.take_take, Nat.min_eq_left (by omega)]
   have e5 : us.drop (off + vs.length) = (cur.toList.drop (off + vs.length)).take (us.length - (off + vs.length)) := by
    conv => lhs; rw [e3]
    rw [List.drop_take]
   rw [e4, e5]
   have l1 : (cur.toList.take off).length = off := by simp; omega
   simp only [List.toList_toArray]
   rw [List.take_append, List.take_append, List.take_of_length_le (by omega), List.take_of_length_le (l := vs) (by omega), List.length_append, l1]

theorem SRf.setCells (H : SRf X B h F w) (he : h id = some (g, .row ty sz xs0)) (hv : X.rw id g = some (v, sz))
  (hw : Grew w w' (a9h v).toList) (hn : ((a9h v).toList ++ S).Nodup) (hS : ∀ b ∈ (a9h v).toList ++ S, b ∈ F id) (hown : Own w' ty sz v xs.length us) (hl : Lens sz xs) (hc : TRs X w xs.flatten us S) :
  SRh X B (upd h id (g, .row ty sz xs)) w' ∧ (∀ b, X.ok2 b → w'.heap[b]? = w.heap[b]?) := by
 have hbo : ∀ b ∈ (a9h v).toList, b ∈ F id := fun b hb => hS b (List.mem_append_left _ hb)
 have hok : ∀ b, X.ok2 b → w'.heap[b]? = w.heap[b]? := fun b hb => hw.block b (H.ok2 b hb).1 (fun e' => (H.ok2 b hb).2 id _ he (hbo b e'))
 rw [List.nodup_append] at hn
 refine ⟨⟨_, H.turn he (Cx.le.refl X) rfl rfl (fun i k hik => ⟨rfl, rfl⟩) (Nat.le_refl g) (hw.mono hbo) (f := F id) ⟨v, us, S, hv, hown, hl, ?_, List.nodup_append.2 hn, hS⟩ (fun b hb => ⟨.inl hb, Nat.lt_of_lt_of_le (H.blk id _ b he hb) hw.size⟩)⟩, hok⟩
 exact hc.mono (Cx.le.refl X) H.ok12 hok (fun b hb => hw.block b (H.blk id _ b he (hS b (List.mem_append_right _ hb))) (fun hm => hn.2.2 b hm b hb rfl))
theorem c5v (htt : a1z P tt) {h : Hp} {t id g i off ty sz : Nat} {S : TS} {xs : List (List AV)} {cs' : List AV} {T1 W1 : TL} (ho : o.op = .store t x y) (hx : ev x = some (.elt id g i off)) (hy : ev y = some av) (hc : av.okc = true) (hs : tt t = some S)
    (hn : (a0i av).length = S.size) (hi : i < xs.length) (hl : off + S.size ≤ sz) (hf : Abs (a0i av) h cs' T1 W1) (hid1 : (T1.any (·.1 == id)) = false) :
    OpS P o ev ((id, (g, .row ty sz xs)) :: T1) ((id, (g, .row ty sz (xs.set i ((xs.getD i []).take off ++ cs' ++ (xs.getD i []).drop (off + S.size))))) :: W1) (.pv undef) := by
  rintro X B hF a w Q K ⟨F0, hS0⟩ hop hT hK
  obtain ⟨ad, n, c, sz0, e1, hr0⟩ := (hop x (by simp [ho, Op.operands]) _ hx).elt_inv
  obtain ⟨vs, e2, hv⟩ := a9k (hop y (by simp [ho, Op.operands]) _ hy) hc
  have hid0 := hT id _ (List.mem_cons_self ..)
  obtain ⟨F, Sn, hS, hcs, hSn, hF1, hF2, hid⟩ := c8o (id := id) hf X hF F0 vs _ hS0 hv (fun j ge hm => hT j ge (List.mem_cons_of_mem _ hm)) hid0 hid1
  obtain ⟨v0, us, S0, h1, h2, h3, h4, h5, h6⟩ := hS0.ent _ _ _ hid0
  rw [hr0] at h1
  cases h1
  have hnn := d5z h2
  subst hnn
  obtain ⟨b, rfl⟩ : ∃ b, ad = ⟨b, 0, none⟩ := by
    rcases h2.2 with ⟨A, e, e0⟩ | ⟨b, cap, cur, e, _⟩
    · omega
    · injection e with e _ _; injection e with e; exact ⟨b, e⟩
  have hvl : vs.length = S.size := by rw [hv.len, hn]
  have hxi : xs[i]? = some (xs.getD i []) := by rw [List.getD_eq_getElem?_getD, List.getElem?_eq_getElem hi]; rfl
  have hxl := h3 i _ hxi
  have hfl : xs.flatten.length = xs.length * sz := a8l xs h3
  have hus : us.length = xs.length * sz := by rw [h4.len, hfl]
  have hfit : i * sz + off + vs.length ≤ us.length := by
    rw [hus, hvl]
    have : (i + 1) * sz ≤ xs.length * sz := Nat.mul_le_mul_right _ hi
    rw [Nat.add_mul] at this
    omega
  obtain ⟨cur, hcur, hle, hown⟩ := b4f (off := i * sz + off) h2 (by omega) hfit
  have hr := b6m htt hs w b (i * sz + off) ty cur.toList vs _ e2 hvl (by simpa using hcur) (by simp; omega) hv.oneCells
  have hlc : cs'.length = S.size := by rw [← hcs.len, hvl]
  have hlen' : ((xs.getD i []).take off ++ cs' ++ (xs.getD i []).drop (off + S.size)).length = sz := by
    simp only [List.length_append, List.length_take, List.length_drop, hxl]
    omega
  have hsp := b6n xs.flatten (i * sz + off) S.size (by rw [hfl]; rw [hus, hvl] at hfit; exact hfit)
  have hflat : (xs.set i ((xs.getD i []).take off ++ cs' ++ (xs.getD i []).drop (off + S.size))).flatten = xs.flatten.take (i * sz + off) ++ cs' ++ xs.flatten.drop (i * sz + off + S.size) := by
    rw [b0j xs i _ h3 hi]
    have hmid : (xs.flatten.drop (i * sz)).take sz = xs.getD i [] := by
      apply List.ext_getElem?
      intro k
      rw [List.getElem?_take, List.getElem?_drop]
      split
      · rename_i hk
        have hy' : (xs.getD i [])[k]? = some ((xs.getD i [])[k]'(by omega)) := List.getElem?_eq_getElem _
        rw [b6k xs i k _ _ h3 hxi hy', hy']
      · rename_i hk
        rw [List.getElem?_eq_none (by omega)]
    have e3 : xs.flatten.take (i * sz) ++ (xs.getD i []).take off = xs.flatten.take (i * sz + off) := by
      rw [← hmid, List.take_take, Nat.min_eq_left (by omega), List.take_add]
    have e4 : (xs.getD i []).drop (off + S.size) ++ xs.flatten.drop (i * sz + sz) = xs.flatten.drop (i * sz + off + S.size) := by
      rw [← hmid, List.drop_take, List.drop_drop]
      have := List.take_append_drop (sz - (off + S.size)) (xs.flatten.drop (i * sz + (off + S.size)))
      rw [List.drop_drop] at this
      rw [show i * sz + off + S.size = i * sz + (off + S.size) from by omega, show i * sz + sz = i * sz + (off + S.size) + (sz - (off + S.size)) from by omega]
      exact this
    rw [← e3, ← e4]; simp [List.append_assoc]
  rw [hsp] at h4
  obtain ⟨us1, us', S1, S', rfl, rfl, t1, t'⟩ := h4.split
  obtain ⟨us2, us3, S2, S3, rfl, rfl, t2, t3⟩ := t'.split
  have l1 : us1.length = i * sz + off := by rw [t1.len, List.length_take, hfl]; rw [hus, hvl] at hfit; omega
  have l2 : us2.length = S.size := by rw [t2.len, List.length_take, List.length_drop, hfl]; rw [hus, hvl] at hfit; omega
  have e3 : (us1 ++ (us2 ++ us3)).take (i * sz + off) = us1 := by rw [List.take_append_of_le_length (by omega), List.take_of_length_le (by omega)]
  have e4 : (us1 ++ (us2 ++ us3)).drop (i * sz + off + vs.length) = us3 := by
    rw [← List.append_assoc, List.drop_append_of_le_length (by simp; omega), List.drop_of_length_le (by simp; omega), List.nil_append]
  rw [e3, e4] at hown
  have hbo : (a9h (Value.slice (some (⟨b, 0, none⟩ : Addr)) xs.length c)).toList = [b] := by rw [b3l (by have := h2.n0; omega)]; rfl
  rw [hbo] at h5 h6
  have hS13 := c0w (b := [b]) h5
  have hd : ∀ a ∈ [b] ++ (S1 ++ S3), a ∈ F0 id := fun a ha => h6 a (by
    simp only [List.mem_append] at ha ⊢
    rcases ha with h | h | h <;> simp [h])
  have hnod : ([b] ++ (S1 ++ Sn ++ S3)).Nodup := by
    have p : List.Perm ([b] ++ (S1 ++ Sn ++ S3)) (([b] ++ (S1 ++ S3)) ++ Sn) := by
      simp only [List.append_assoc]
      refine List.Perm.append_left _ (List.Perm.append_left _ ?_)
      exact List.perm_append_comm
    rw [p.nodup_iff, List.nodup_append]
    exact ⟨hS13, hSn, fun a ha c hc => by rintro rfl; exact (hF2 a hc).2 (hd a ha)⟩
  have hfin := hS.setCells (w' := w.setRow b (cur.toList.take (i * sz + off) ++ vs ++ cur.toList.drop (i * sz + off + vs.length)).toArray) (xs := xs.set i ((xs.getD i []).take off ++ cs' ++ (xs.getD i []).drop (off + S.size))) (us := us1 ++ vs ++ us3) (S := S1 ++ Sn ++ S3) hid hr0 (by rw [hbo]; exact a8m w b _) (by rw [hbo]; exact hnod) (fun a ha => by
      rw [hbo] at ha
      simp only [List.mem_append] at ha
      rcases ha with h | (h | h) | h
      · exact hF1 a (hd a (by simp [List.mem_append] at h ⊢; simp [h]))
      · exact hF1 a (hd a (by simp [h]))
      · exact (hF2 a h).1
      · exact hF1 a (hd a (by simp [h])))
    (by rw [List.length_set]; exact hown) (fun j z hz => by
      rw [List.getElem?_set] at hz
      split at hz
      · first
        | (split at hz
           · cases hz; exact hlen'
           · cases hz)
        | (cases hz; exact hlen')
      · exact h3 j z hz) (by rw [hflat]; exact (t1.append hcs).append t3)
  unfold Oper.wp
  have hadd : (⟨b, 0, none⟩ : Addr).add (i * sz + off) = ⟨b, i * sz + off, none⟩ := by rw [Addr.add_mid]; simp
  have hx2 : (execOp a.eval o).run P w = .ok .skip (w.setRow b (cur.toList.take (i * sz + off) ++ vs ++ cur.toList.drop (i * sz + off + vs.length)).toArray) := by
    simp only [execOp, ho, e1, hadd, Sem.run_bind, hr, Result.andThen_ok, Sem.run_pure]
  rw [hx2, Oper.upon_skip]
  exact hK X _ undef (Cx.le.refl X) (by rw [a9j]; exact hfin.1) hfin.2 (.pv undef)
end
section
variable {P : Program} {ev : Operand → Option AV}
def b8e (tt : TT) (flds : List (Nat × Nat)) : List AV → List (Nat × AV) → Option (List AV)
 | cells, [] => some cells
 | cells, (i, av) :: r => match flds[i]? with
  | none => none
  | some (off, ft) => match tt ft with
   | none => none
   | some s => if av.okc = true ∧ (a0i av).length = s.size ∧ off + s.size ≤ cells.length then b8e tt flds (cells.take off ++ a0i av ++ cells.drop (off + s.size)) r else none
theorem d8b (place : Nat → Option (Nat × Nat)) (cells vs : List Value) (i off size : Nat) (v : Value) (rest : List (Nat × Value)) (hp : place i = some (off, size)) (hv : v.cells = vs.toArray) (hn : vs.length = size) (hl : off + size ≤ cells.length) :
  Instr.fill place cells.toArray ((i, v) :: rest) = Instr.fill place (cells.take off ++ vs ++ cells.drop (off + size)).toArray rest := by
 conv => lhs; unfold Instr.fill
 simp only [hp, hv, List.size_toArray, hn]
 rw [if_neg (by simp; omega)]
 congr 1
 apply Array.ext_getElem?
 intro k
 obtain ⟨g1, g2⟩ := Great.foldl_set off vs 0 cells.toArray
 have e : (vs.toArray.zipIdx.foldl (fun cs (x : Value × Nat) => cs.setIfInBounds (off + x.2) x.1) cells.toArray) = ((vs.zipIdx 0).foldl (fun cs (x : Value × Nat) => cs.setIfInBounds (off + x.2) x.1) cells.toArray) := by
  rw [← Array.foldl_toList, Array.toList_zipIdx]
 have e2 : (vs.toArray.zipIdx.foldl (fun cs (c, j) => cs.setIfInBounds (off + j) c) cells.toArray)[k]? = ((vs.zipIdx 0).foldl (fun cs (x : Value × Nat) => cs.setIfInBounds (off + x.2) x.1) cells.toArray)[k]? := by
  rw [← e]
 rw [e2, g2 k]
 simp only [Nat.add_zero, List.size_toArray, List.getElem?_toArray]
 rw [List.append_assoc, List.getElem?_append, List.getElem?_append]
 simp only [List.length_take, List.getElem?_take, List.getElem?_drop]
 have h1 : min off cells.length = off := by omega
 rw [h1]
 by_cases hk : k < off
 ·rw [if_pos hk, if_pos hk, if_neg (by omega)]
 ·rw [if_neg hk]
  by_cases hk2 : k - off < vs.length
  ·rw [if_pos hk2, if_pos (by omega)]
  ·rw [if_neg hk2, if_neg (by omega)]
   congr 1
   omega
theorem b4v {tt : TT} (htt : a1z P tt) (hpl : ∀ (i off ft : Nat) (s : TS), flds[i]? = some (off, ft) → tt ft = some s → place i = some (off, s.size)) :
  ∀ (parts : List (Nat × AV)) (pv : List (Nat × Value)) (cells cells' : List AV) (us : List Value), b8e tt flds cells parts = some cells' → VRs X w cells us → pv.length = parts.length →
   (∀ (j i i' : Nat) (av : AV) (v : Value), parts[j]? = some (i, av) → pv[j]? = some (i', v) → i = i' ∧ VR X w av v) → ∃ us', Instr.fill place us.toArray pv = some us'.toArray ∧ VRs X w cells' us'
 | [], pv, cells, cells', us, hf, hu, hl, hr => by
  cases hf
  have : pv = [] := List.eq_nil_of_length_eq_zero (by simpa using hl)
  subst this
  exact ⟨us, rfl, hu⟩
 | (i, av) :: r, pv, cells, cells', us, hf, hu, hl, hr => by
  cases pv with
  | nil => simp at hl
  | cons p pv =>
   obtain ⟨i', v⟩ := p
   obtain ⟨rfl, hv⟩ := hr 0 i i' av v rfl rfl
   unfold b8e at hf
   split at hf
   ·cases hf
   ·rename_i off ft hfl
    split at hf
    ·cases hf
    ·rename_i s hs
     split at hf
     ·rename_i hc
      obtain ⟨vs, e1, hvs⟩ := a9k hv hc.1
      have hn : vs.length = s.size := by rw [hvs.len, hc.2.1]
      rw [d8b place us vs i off s.size v pv (hpl i off ft s hfl hs) e1 hn (by rw [hu.len]; exact hc.2.2)]
      exact b4v htt hpl r pv _ cells' _ hf (((hu.take off).append hvs).append (hu.drop _)) (by simpa using hl) (fun j a b c d h1 h2 => hr (j + 1) a b c d (by simpa using h1) (by simpa using h2))
     ·cases hf
def b0k (ev : Operand → Option AV) : List (Nat × Operand) → Option (List (Nat × AV))
 | [] => some []
 | (i, x) :: r => match ev x, b0k ev r with
  | some av, some l => some ((i, av) :: l)
  | _, _ => none
theorem b4w {X : Cx} {w : World} {a : Act} : ∀ (ps : List (Nat × Operand)) (l : List (Nat × AV)), b0k ev ps = some l → (∀ x ∈ ps.map (·.2), ∀ av, ev x = some av → VR X w av (a.eval x)) →
  (ps.map fun p => (p.1, a.eval p.2)).length = l.length ∧ ∀ (j i i' : Nat) (av : AV) (v : Value), l[j]? = some (i, av) → (ps.map fun p => (p.1, a.eval p.2))[j]? = some (i', v) → i = i' ∧ VR X w av v
 | [], l, h, _ => by cases h; exact ⟨rfl, fun j i i' av v h => by simp at h⟩
 | (i, x) :: r, l, h, ho => by
  unfold b0k at h
  split at h
  ·rename_i av l' h1 h2
   cases h
   obtain ⟨k1, k2⟩ := b4w r l' h2 (fun y hy => ho y (by simp at hy ⊢; exact .inr hy))
   refine ⟨by simpa using k1, fun j a b c d hj hj' => ?_⟩
   cases j with
   | zero =>
    simp only [List.getElem?_cons_zero, Option.some.injEq, Prod.mk.injEq, List.map_cons] at hj hj'
    obtain ⟨rfl, rfl⟩ := hj
    obtain ⟨rfl, rfl⟩ := hj'
    exact ⟨rfl, ho x (by simp) _ h1⟩
   | succ j => exact k2 j a b c d (by simpa using hj) (by simpa using hj')
  ·cases h
theorem c0x {tt : TT} (htt : a1z P tt) : ∀ (fs : List Field) (flds : List (Nat × Nat)), flds.length = fs.length → (∀ (j off ft : Nat), flds[j]? = some (off, ft) → ∃ f, fs[j]? = some f ∧ f.offset = off ∧ f.type = ft) → (∀ p ∈ flds, ∃ i, P.info? p.2 = some i) →
  ∃ places, fs.mapM (fun f => (P.info? f.type).map fun i => (f.offset, i.size)) = some places ∧ ∀ (i off ft : Nat) (s : TS), flds[i]? = some (off, ft) → tt ft = some s → places[i]? = some (off, s.size)
 | [], flds, hl, _, _ => by
  have : flds = [] := List.eq_nil_of_length_eq_zero (by simpa using hl)
  subst this
  exact ⟨[], rfl, fun i off ft s h => by simp at h⟩
 | f :: fs, [], hl, _, _ => by simp at hl
 | f :: fs, (off, ft) :: flds, hl, hk, hi => by
  obtain ⟨places, h1, h2⟩ := c0x htt fs flds (by simpa using hl) (fun j o t h => by
   obtain ⟨g, h3, h4⟩ := hk (j + 1) o t (by simpa using h)
   exact ⟨g, by simpa using h3, h4⟩) (fun p hp => hi p (by simp [hp]))
  obtain ⟨g, h3, h4, h5⟩ := hk 0 off ft rfl
  cases h3
  obtain ⟨i, h6⟩ := hi (off, ft) (by simp)
  simp only at h6
  refine ⟨(off, i.size) :: places, ?_, fun j o t s hj hs => ?_⟩
  ·simp [List.mapM_cons, h5, h6, h1, h4]
  ·cases j with
   | zero =>
    simp only [List.getElem?_cons_zero, Option.some.injEq, Prod.mk.injEq] at hj
    obtain ⟨rfl, rfl⟩ := hj
    obtain ⟨i', h7, h8, _⟩ := (htt _ _ hs).info
    rw [h6] at h7
    cases h7
    simp [h8]
   | succ j => exact h2 j o t s (by simpa using hj) hs
variable {o : Oper} {tt : TT} {t : Nat} {parts : Array (Nat × Operand)} {S : TS} {cs : List AV}
theorem d8c (htt : a1z P tt) {flds : List (Nat × Nat)} {l : List (Nat × AV)} (ho : o.op = .build t parts) (hs : tt t = some S) (hk : S.kind = .st flds)
  (hp : b0k ev parts.toList = some l) (hf : b8e tt flds (S.zero.map .pv) l = some cs) : OpS P o ev [] [] (.agg cs) :=
 .quiet fun X B hF a w hS hop hT => by
  have T := htt _ _ hs
  obtain ⟨i, h1, h2, h3, h4⟩ := T.info
  obtain ⟨d, h5, h6⟩ := T.desc
  rw [hk] at h6
  obtain ⟨fs, rfl, h7, h8⟩ := h6
  obtain ⟨places, g1, g2⟩ := c0x htt fs.toList flds (by simpa using h7) (fun j off ft h => by
   obtain ⟨f, k1, k2⟩ := h8 j off ft h
   exact ⟨f, by simpa using k1, k2⟩) (T.fld flds hk)
  obtain ⟨k1, k2⟩ := b4w (X := X) (w := w) (a := a) parts.toList l hp (fun x hx => hop x (by
   simp only [ho, Op.operands]
   simpa using hx))
  obtain ⟨us', g3, g4⟩ := b4v htt (place := (places.toArray[·]?)) (fun i off ft s h h' => by simpa using g2 i off ft s h h') l _ _ cs S.zero hf (VRs.pvs (X := X) (w := w) T.z1) k1 k2
  have hag : S.agg = true := by simp [TS.agg, hk]
  rw [hag] at h4
  have hb : P.built t (parts.map fun (i, x) => (i, a.eval x)).toList = some us'.toArray := by
   unfold Program.built
   simp only [h1, h5, h4, g1, if_true, Value.cells, Array.toList_map]
   exact g3
  refine ⟨.agg us'.toArray, ?_, g4.agg⟩
  simp only [execOp, ho, Sem.run_bind, run_build w t _ _ hb, Result.andThen_ok, Sem.run_pure]
theorem c3m (z : List α) (n k : Nat) (hk : k < n * z.length) : (List.replicate n z).flatten[k]? = z[k % z.length]? := by
 induction n generalizing k with
 | zero => simp at hk
 | succ n ih =>
  rw [List.replicate_succ, List.flatten_cons, List.getElem?_append]
  split
  ·rename_i h; rw [Nat.mod_eq_of_lt h]
  ·rename_i h
   rw [ih (k - z.length) (by rw [Nat.add_mul] at hk; omega)]
   congr 1
   have h2 : k = (k - z.length) + z.length := by omega
   conv => rhs; rw [h2, Nat.add_mod_right]
theorem d8e (z : List Value) (n : Nat) (hz : 0 < z.length) : (madeCells z.toArray (n * z.length)).toList = (List.replicate n z).flatten := by
 apply List.ext_getElem?
 intro k
 by_cases hk : k < n * z.length
 ·rw [c3m z n k hk]
  have hm := Nat.mod_lt k hz
  simp [madeCells, hk, hm]
 ·rw [List.getElem?_eq_none (by simp [madeCells]; omega), List.getElem?_eq_none]
  simp
  omega
variable {x : Operand}
theorem f2i {X : Cx} {w : World} {a : Act} (hop : ∀ x ∈ o.op.operands, ∀ av, ev x = some av → VR X w av (a.eval x)) {v : Value} (hm : x ∈ o.op.operands) (hx : ev x = some (.pv v)) : a.eval x = v := (hop x hm _ hx).pv_inv
theorem b1u (n : Nat) (z : List Value) : (List.replicate n (z.map AV.pv)).flatten = ((List.replicate n z).flatten).map AV.pv := by
 induction n with
 | zero => rfl
 | succ n ih => rw [List.replicate_succ, List.replicate_succ, List.flatten_cons, List.flatten_cons, List.map_append, ih]
variable {e id g : Nat} {E : TS}
theorem c5w (htt : a1z P tt) {y : Operand} {k k' : IntKind} {n : Nat} (ho : o.op = .makeSlice t x y) (hs : tt t = some S) (hk : S.kind = .sl e) (he : tt e = some E) (hx : ev x = some (.pv (.int k (n : Int)))) (hy : ev y = some (.pv (.int k' (n : Int))))
  (hsz : 0 < E.size) (hb1 : 0 < E.bytes) (hb : E.bytes * n ≤ 281474976710656) : OpS P o ev [(id, (g, .dead))] [(id, (g + 1, .row e E.size (List.replicate n (E.zero.map .pv))))] (.ref id (g + 1)) := by
 rintro X B hF a w Q K ⟨F, hS⟩ hop hT hK
 have hid := hT id _ (List.mem_singleton.2 rfl)
 have e1 := f2i hop (by simp [ho, Op.operands]) hx
 have e2 := f2i hop (by simp [ho, Op.operands]) hy
 have T := htt _ _ he
 obtain ⟨i, h1, h2, h3, h4⟩ := T.info
 obtain ⟨d, h5, h6⟩ := (htt _ _ hs).desc
 rw [hk] at h6
 simp only [KOk] at h6
 subst h6
 have hml : n ≤ maxLen := by
  have : n ≤ E.bytes * n := Nat.le_mul_of_pos_left n hb1
  unfold maxLen; omega
 obtain ⟨w', hr, hown, hgr⟩ := run_make_full (P := P) w 0 t e i _ E.size h5 h1 h4 h2 k k' n (by rw [h3]; exact hb) hml (Nat.zero_le _)
 rw [T.zeroCells] at hown
 have hmf := d8e E.zero n (by rw [T.zl]; exact hsz)
 rw [T.zl] at hmf
 rw [hmf] at hown
 have hl : (List.replicate n (E.zero.map AV.pv)).length = n := by simp
 have hone : ∀ v ∈ (List.replicate n E.zero).flatten, v.oneCell' = true := by
  intro v hv
  simp only [List.mem_flatten, List.mem_replicate] at hv
  obtain ⟨l, ⟨_, rfl⟩, hv⟩ := hv
  exact T.z1 v hv
 obtain ⟨hX, hS', hok⟩ := hS.newRow hid (ty := e) (sz := E.size) (xs := List.replicate n (E.zero.map .pv)) (L := []) (S := []) (.of hgr [] (by simp)) (by simp) (by simp) List.nodup_nil (by rw [hl]; exact .of hown) (fun b hb => .inr (by rw [b6h hb]; exact Nat.le_refl _))
  (fun j z hj => by
   rw [List.getElem?_replicate] at hj
   split at hj
   ·cases hj; simp [T.zl]
   ·cases hj) (by rw [b1u]; exact (VRs.pvs hone).trs (e6y _))
 unfold Oper.wp
 have hx2 : (execOp a.eval o).run P w = .ok (.value (.slice (some ⟨w.heap.size, 0, none⟩) n n)) w' := by
  simp only [execOp, ho, e1, e2, Sem.run_bind, hr, Result.andThen_ok, Sem.run_pure]
 rw [hx2, Oper.upon_value]
 exact hK _ _ _ hX (by rw [s2s]; exact hS') hok .setR
def b4x {α : Type} (sz : Nat) : Nat → List α → List (List α)
 | 0, _ => []
 | n + 1, l => l.take sz :: b4x sz n (l.drop sz)
theorem c8p (sz : Nat) : ∀ (n : Nat) (l : List α), (b4x sz n l).length = n
 | 0, _ => rfl
 | n + 1, l => by simp [b4x, c8p sz n]
theorem c4q (sz : Nat) : ∀ (n : Nat) (l : List α), l.length = n * sz → (b4x sz n l).flatten = l
 | 0, l, h => by
  have : l = [] := List.eq_nil_of_length_eq_zero (by simpa using h)
  rw [this]; rfl
 | n + 1, l, h => by
  rw [b4x, List.flatten_cons, c4q sz n _ (by rw [List.length_drop, h, Nat.add_mul]; omega), List.take_append_drop]
theorem c4r : ∀ (n : Nat) (l : List AV), l.length = n * sz → Lens sz (b4x sz n l)
 | 0, l, h => fun j x hx => by simp [b4x] at hx
 | n + 1, l, h => fun j x hx => by
  cases j with
  | zero =>
   have : l.take sz = x := by simpa [b4x] using hx
   rw [← this, List.length_take, h, Nat.add_mul]
   omega
  | succ j => exact c4r n (l.drop sz) (by rw [List.length_drop, h, Nat.add_mul]; omega) j x (by simpa [b4x] using hx)

def d6b : Nat → List (Nat × Operand) → Option (List Operand)
 | _, [] => some []
 | n, (i, x) :: r => if i = n then match d6b (n + 1) r with
  | some l => some (x :: l)
  | none => none
  else none
theorem d3l : ∀ (n : Nat) (ps : List (Nat × Operand)) (l : List Operand), d6b n ps = some l → ps = (l.zipIdx n).map fun x => (x.2, x.1)
 | _, [], l, h => by cases h; rfl
 | n, (i, x) :: r, l, h => by
  unfold d6b at h
  split at h
  ·rename_i hi
   split at h
   ·rename_i l' hw
    cases h
    rw [d3l (n + 1) r l' hw, hi]
    simp
   ·cases h
  ·cases h
def evL (ev : Operand → Option AV) : List Operand → Option (List AV)
 | [] => some []
 | x :: r => match ev x, evL ev r with
  | some av, some l => some (av :: l)
  | _, _ => none

def a6c (sz : Nat) : List AV → Option (List AV)
 | [] => some []
 | av :: r => if av.okc = true ∧ (a0i av).length = sz then match a6c sz r with
  | some l => some (a0i av ++ l)
  | none => none
  else none
theorem b6o {X : Cx} {w : World} {a : Act} {sz : Nat} : ∀ (xs : List Operand) (avs : List AV) (cs : List AV), evL ev xs = some avs → a6c sz avs = some cs → (∀ x ∈ xs, ∀ av, ev x = some av → VR X w av (a.eval x)) →
  ∃ us, VRs X w cs us ∧ ((xs.map a.eval).flatMap fun v => v.cells.toList) = us ∧ (∀ v ∈ xs.map a.eval, v.cells.size = sz) ∧ cs.length = xs.length * sz
 | [], avs, cs, h1, h2, _ => by
  cases h1
  cases h2
  exact ⟨[], .nil, rfl, by simp, by simp⟩
 | x :: xs, avs, cs, h1, h2, ho => by
  unfold evL at h1
  split at h1
  ·rename_i av l e1 e2
   cases h1
   unfold a6c at h2
   split at h2
   ·rename_i hc
    split at h2
    ·rename_i cs' e3
     cases h2
     obtain ⟨us, k1, k2, k3, k4⟩ := b6o xs l cs' e2 e3 (fun y hy => ho y (by simp [hy]))
     obtain ⟨vs, e4, hv⟩ := a9k (ho x (by simp) _ e1) hc.1
     refine ⟨vs ++ us, hv.append k1, ?_, ?_, ?_⟩
     ·simp [e4, ← k2]
     ·intro v hv'
      rw [List.map_cons, List.mem_cons] at hv'
      rcases hv' with rfl | h
      ·rw [e4]; simp [hv.len, hc.2]
      ·exact k3 v h
     ·simp [hc.2, k4, Nat.add_mul]; omega
    ·cases h2
   ·cases h2
  ·cases h1
theorem c3n (htt : a1z P tt) {h : Hp} {t e id g len : Nat} {xs : List Operand} {avs cs cs' : List AV} {T1 W1 : TL} (ho : o.op = .buildSlice t len parts) (hs : tt t = some S) (hk : S.kind = .sl e) (he : tt e = some E)
  (hw : d6b 0 parts.toList = some xs) (hlen : len = xs.length) (hev : evL ev xs = some avs) (hpc : a6c E.size avs = some cs) (hsz : 0 < E.size) (hl0 : 0 < len) (hsm : len * E.size ≤ 16777216) (hf : Abs cs h cs' T1 W1) (hid1 : (T1.any (·.1 == id)) = false) :
  OpS P o ev ((id, (g, .dead)) :: T1) ((id, (g + 1, .row e E.size (b4x E.size len cs'))) :: W1) (.ref id (g + 1)) := by
 rintro X B hF a w Q K ⟨F0, hS0⟩ hop hT hK
 have hid0 := hT id _ (List.mem_cons_self ..)
 have hpe := d3l 0 _ _ hw
 obtain ⟨us, g1, g2, g3, g4⟩ := b6o (X := X) (w := w) (a := a) xs avs cs hev hpc (fun x hx => hop x (by
  simp only [ho, Op.operands, List.mem_toArray, hpe, List.map_map, List.mem_map]
  obtain ⟨n, hn, rfl⟩ := List.getElem_of_mem hx
  refine ⟨(xs[n], n), ?_, rfl⟩
  rw [List.mem_zipIdx_iff_getElem?]
  simp [hn]))
 obtain ⟨F, Sn, hS, hcs, hSn, hF1, hF2, hid⟩ := c8o (id := id) hf X hF F0 us _ hS0 g1 (fun j ge hm => hT j ge (List.mem_cons_of_mem _ hm)) hid0 hid1
 have T := htt _ _ he
 obtain ⟨i, h1, h2, h3, h4⟩ := T.info
 obtain ⟨d, h5, h6⟩ := (htt _ _ hs).desc
 rw [hk] at h6
 simp only [KOk] at h6
 subst h6
 have hpos : ¬ len * i.size = 0 := by rw [h2]; exact Nat.ne_of_gt (Nat.mul_pos hl0 hsz)
 have b4c : Instr.fill (fun j => some (j * i.size, i.size)) ((Array.range (len * i.size)).map ((if E.agg then Value.agg E.zero.toArray else E.zero.getD 0 undef).cells[· % (if E.agg then Value.agg E.zero.toArray else E.zero.getD 0 undef).cells.size]!)) (parts.map fun (i, x) => (i, a.eval x)).toList = some us.toArray := by
  have hpv : (parts.map fun (i, x) => (i, a.eval x)).toList = ((xs.map a.eval).zipIdx 0).map fun x => (x.2, x.1) := by
   rw [Array.toList_map, hpe, List.zipIdx_map, List.map_map, List.map_map]
   rfl
  rw [hpv, Great.fill_whole (by rw [h2]; exact hsz) (xs.map a.eval) _ (by rw [h2]; exact g3) (by simp [hlen]), g2]
 have hr := run_buildSlice (P := P) w t e len (parts.map fun (i, x) => (i, a.eval x)) us.toArray i _ h5 h1 h4 (by rw [h2]; omega) hpos b4c
 have hcl : cs'.length = len * E.size := by rw [← hcs.len, g1.len, g4, hlen]
 have hml : len ≤ maxLen := by
  have : len ≤ len * E.size := Nat.le_mul_of_pos_right len hsz
  unfold maxLen; omega
 have hown : Own (w.alloc (.cells us.toArray e)) e E.size (.slice (some ⟨w.heap.size, 0, none⟩) len len) len us := by
  have := World.ownsRow_lit (base := 0) (e := e) (size := E.size) w us.toArray len (Nat.zero_le _) hml (by simp [hcs.len, hcl])
  exact .of (by simpa using this)
 obtain ⟨hX, hS', hok⟩ := hS.newRow hid (ty := e) (sz := E.size) (xs := b4x E.size len cs') (L := []) (S := Sn) (b0i w _ _) (by simp) (fun b hb => (hF2 b hb).1) hSn (by rw [c8p]; exact hown) (fun b hb => .inr (by rw [b6h hb]; exact Nat.le_refl _))
  (c4r len cs' hcl) (by rw [c4q _ _ _ hcl]; exact hcs)
 unfold Oper.wp
 have hx2 : (execOp a.eval o).run P w = .ok (.value (.slice (some ⟨w.heap.size, 0, none⟩) len len)) (w.alloc (.cells us.toArray e)) := by
  simp only [execOp, ho, Sem.run_bind, hr, Result.andThen_ok, Sem.run_pure]
 rw [hx2, Oper.upon_value]
 exact hK _ _ _ hX (by rw [a9j]; exact hS') hok .setR

theorem c0y (htt : a1z P tt) (ho : o.op = .buildSlice t 0 #[]) (hs : tt t = some S) (hk : S.kind = .sl e) (he : tt e = some E) :
  OpS P o ev [(id, (g, .dead))] [(id, (g + 1, .row e E.size []))] (.ref id (g + 1)) := by
 rintro X B hF a w Q K ⟨F, hS⟩ hop hT hK
 have hid := hT id _ (List.mem_singleton.2 rfl)
 have T := htt _ _ he
 obtain ⟨d, h5, h6⟩ := (htt _ _ hs).desc
 rw [hk] at h6
 simp only [KOk] at h6
 subst h6
 have hr : (Instr.buildSlice t 0 #[]).run P w = .ok (.slice (some ⟨w.heap.size, 0, none⟩) 0 0) (w.alloc (.cells #[] e)) := by
  have hz : Array.range 0 = #[] := Array.eq_empty_of_size_eq_zero (by simp)
  simp [Instr.buildSlice, run_underlying h5, T.sizeOf, newRow, Instr.fill, hz]
 have hown : Own (w.alloc (.cells #[] e)) e E.size (.slice (some ⟨w.heap.size, 0, none⟩) 0 0) 0 [] := by
  have := World.ownsRow_lit (base := 0) (e := e) (size := E.size) w #[] 0 (Nat.zero_le _) (by unfold maxLen; omega) (by simp)
  exact .of (by simpa using this)
 obtain ⟨hX, hS', hok⟩ := hS.newRow hid (ty := e) (sz := E.size) (xs := []) (us := []) (L := []) (S := []) (b0i w _ _) (by simp) (by simp) List.nodup_nil hown (fun b hb => .inr (by rw [b6h hb]; exact Nat.le_refl _)) (fun j x hx => by simp at hx) .nil
 unfold Oper.wp
 have hx2 : (execOp a.eval o).run P w = .ok (.value (.slice (some ⟨w.heap.size, 0, none⟩) 0 0)) (w.alloc (.cells #[] e)) := by
  simp only [execOp, ho, List.map_toArray, List.map_nil, Sem.run_bind, hr, Result.andThen_ok, Sem.run_pure]
 rw [hx2, Oper.upon_value]
 exact hK _ _ _ hX (by rw [s2s]; exact hS') hok .setR
end
section
variable {P : Program} {ev : Operand → Option AV}
theorem d3m : ∀ (xs : List (List α)) (k : Nat) (y : α), (∀ (j : Nat) (x : List α), xs[j]? = some x → x.length = sz) → xs.flatten[k]? = some y → ∃ j i x, xs[j]? = some x ∧ x[i]? = some y ∧ k = j * sz + i
 | [], k, y, _, h => by simp at h
 | x :: r, k, y, hl, h => by
  rw [List.flatten_cons, List.getElem?_append] at h
  split at h
  ·exact ⟨0, k, x, rfl, h, by omega⟩
  ·rename_i hk
   obtain ⟨j, i, z, h1, h2, h3⟩ := d3m r _ y (fun j z hz => hl (j + 1) z (by simpa using hz)) h
   have := hl 0 x rfl
   exact ⟨j + 1, i, z, by simpa using h1, h2, by rw [Nat.add_mul]; omega⟩

def src (h : Hp) : AV → Option (Nat × List (List AV) × TL)
 | .row (.rd _) _ sz ys => some (sz, ys, [])
 | .ref id g => match y4y h id with
  | some (g', .row ty sz ys) => if g' = g then some (sz, ys, [(id, (g', .row ty sz ys))]) else none
  | _ => none
 | .cut id g lo hi => match y4y h id with
  | some (g', .row ty sz ys) => if g' = g then some (sz, (ys.take hi).drop lo, [(id, (g', .row ty sz ys))]) else none
  | _ => none
 | .pv (.slice none 0 0) => some (0, [], [])
 | _ => none
theorem Lens.part (h : Lens sz xs) (lo hi : Nat) : Lens sz ((xs.take hi).drop lo) := fun j x hx => by
 rw [List.getElem?_drop, List.getElem?_take] at hx
 split at hx
 ·exact h _ x hx
 ·cases hx
theorem VRs.sub (hl : Lens sz xs) (h : VRs X w xs.flatten us) (lo hi : Nat) (hlo : lo ≤ hi) (hhi : hi ≤ xs.length) : VRs X w ((xs.take hi).drop lo).flatten ((us.take (hi * sz)).drop (lo * sz)) := by
 have e : ((xs.take hi).drop lo).flatten = (xs.flatten.take (hi * sz)).drop (lo * sz) := by
  have h1 : xs.flatten = (xs.take hi).flatten ++ (xs.drop hi).flatten := by rw [← List.flatten_append, List.take_append_drop]
  have h2 : (xs.take hi).flatten.length = hi * sz := by
   rw [a8l (sz := sz) (xs.take hi) (fun j x hx => by
    rw [List.getElem?_take] at hx
    split at hx
    ·exact hl j x hx
    ·cases hx), List.length_take, Nat.min_eq_left hhi]
  have h3 : xs.flatten.take (hi * sz) = (xs.take hi).flatten := by rw [h1, List.take_append_of_le_length (by omega), List.take_of_length_le (by omega)]
  have h4 : (xs.take hi).flatten = ((xs.take hi).take lo).flatten ++ ((xs.take hi).drop lo).flatten := by rw [← List.flatten_append, List.take_append_drop]
  have h5 : ((xs.take hi).take lo).flatten.length = lo * sz := by
   rw [a8l (sz := sz) ((xs.take hi).take lo) (fun j x hx => by
    rw [List.getElem?_take, List.getElem?_take] at hx
    split at hx
    ·split at hx
     ·exact hl j x hx
     ·cases hx
    ·cases hx), List.length_take, List.length_take]
   congr 1; omega
  rw [h3]
  conv => rhs; rw [h4]
  rw [List.drop_append_of_le_length (by omega), show List.drop (lo * sz) ((xs.take hi).take lo).flatten = [] from List.drop_of_length_le (by omega), List.nil_append]
 rw [e]
 exact (h.take _).drop _
theorem b6p (hs : src h av = some (sz, ys, T)) (hS : SRh X B hF w) (hT : ∀ id ge, (id, ge) ∈ T → hF id = some ge) (hv : VR X w av v) :
  ∃ A c news, v = .slice A ys.length c ∧ Lens sz ys ∧ VRs X w ys.flatten news ∧ (ys = [] ∨ ∃ ad, A = some ad ∧ ∀ j u, news[j]? = some u → w.cell? (ad.add j) = some u) := by
 unfold src at hs
 split at hs
 ·cases hs
  obtain ⟨A, c, u, rfl, h1, h2, h3, h4, h5, h6, h7⟩ := hv.row_inv
  cases ys with
  | nil => exact ⟨A, c, [], rfl, h3, .nil, .inl rfl⟩
  | cons y0 yr =>
   obtain ⟨ad, rfl, _⟩ := h5 (by simp)
   have hc : Cells X w ad (y0 :: yr).flatten := ⟨fun k y hy => by
    obtain ⟨j, i, x, g1, g2, rfl⟩ := d3m _ k y h3 hy
    exact ⟨h4 j i x y g1 g2, u j i, h6 ad j i x y rfl g1 g2, .cl (h7 j i x y g1 g2)⟩⟩
   obtain ⟨news, k1, k2⟩ := hc.list
   exact ⟨_, c, news, rfl, h3, k1, .inr ⟨ad, rfl, k2⟩⟩
 ·split at hs
  ·split at hs
   ·rename_i id g _ g' ty sz0 ys0 _ e
    subst e
    cases hs
    obtain ⟨A, n, c, sz', rfl, hr⟩ := hv.ref_inv
    obtain ⟨v', us, h1, h2, h3, h4⟩ := hS.row (hT _ _ (List.mem_singleton.2 rfl))
    rw [hr] at h1
    cases h1
    have hn := d5z h2
    subst hn
    refine ⟨A, c, us, rfl, h3, h4, ?_⟩
    rcases h2.2 with ⟨A', e1, e2⟩ | ⟨b, cap, cur, e1, _⟩
    ·exact .inl (List.eq_nil_of_length_eq_zero e2)
    ·cases e1
     refine .inr ⟨_, rfl, fun j u hu => ?_⟩
     obtain ⟨b', c', e, _, h8⟩ := h2.cells hu
     cases e; exact h8
   ·cases hs
  ·cases hs
 ·split at hs
  ·split at hs
   ·rename_i id g lo hi _ g' ty sz0 ys0 _ e
    subst e
    cases hs
    obtain ⟨A, A', n, c, c', sz', rfl, hr, k1, k2, k3, k4, k5⟩ := hv.cut_inv
    obtain ⟨v', us, h1, h2, h3, h4⟩ := hS.row (hT _ _ (List.mem_singleton.2 rfl))
    rw [hr] at h1
    cases h1
    have hn := d5z h2
    subst hn
    have hlen : ((ys0.take hi).drop lo).length = hi - lo := by simp; omega
    refine ⟨A', c', _, by rw [hlen], h3.part lo hi, h4.sub h3 lo hi k1 k2, ?_⟩
    by_cases hlt : lo < hi
    ·obtain ⟨ad, rfl, rfl⟩ := k5 hlt
     refine .inr ⟨_, rfl, fun j u hu => ?_⟩
     rw [List.getElem?_drop, List.getElem?_take] at hu
     split at hu
     ·rw [a8t]
      obtain ⟨b', c2, e, _, h8⟩ := h2.cells hu
      cases e
      exact h8
     ·cases hu
    ·exact .inl (List.eq_nil_of_length_eq_zero (by omega))
   ·cases hs
  ·cases hs
 ·cases hs
  have := hv.pv_inv
  subst this
  exact ⟨none, 0, [], rfl, fun j x hx => by simp at hx, .nil, .inl rfl⟩
 ·cases hs
theorem c0z (t ty e : TypeId) (i : TypeInfo) (ht : P.underlying t = some (.slice e)) (hi : P.info? e = some i) (w : World) (A : Option Addr) (n c : Nat) (hn : n ≤ c) (A' : Option Addr) (c' : Nat) :
  (Builtin.append_ #[t, t] ty #[.slice A n c, .slice A' 0 c']).run P w = .ok (.slice A n c) w := by
 have hf : (Builtin.firstCells i.size 0 (.slice A' 0 c')).run P w = .ok #[] w := by
  cases A' with
  | none => simp [Builtin.firstCells]
  | some ad => exact run_firstCells_some (P := P) w i.size 0 ad 0 c' [] (by simp) (by simp)
 cases A with
 | none => simp [Builtin.append_, run_underlying ht, sizeOf, typeInfo, hi, Builtin.lenOf, hn, hf]
 | some ad => simp [Builtin.append_, run_underlying ht, sizeOf, typeInfo, hi, Builtin.lenOf, hn, hf, storeCells]

theorem c8q (ht : P.underlying t = some (.slice e)) (hi : P.info? e = some i) (w : World) (ad : Addr) (A : Option Addr) (m c : Nat) (hm : 0 < m) (hb : m * i.bytes ≤ 281474976710656) (hml : m ≤ maxLen) :
  (Builtin.append_ #[t, t] ty #[.slice (some ad) 0 0, .slice A m c]).run P w = (Builtin.append_ #[t, t] ty #[.slice none 0 0, .slice A m c]).run P w := by
 have h1 : (Builtin.firstCells i.size 0 (.slice (some ad) 0 0)).run P w = .ok #[] w := run_firstCells_some (P := P) w i.size 0 ad 0 0 [] (by simp) (by simp)
 have h2 : (Builtin.firstCells i.size 0 (.slice none 0 0)).run P w = .ok #[] w := by simp [Builtin.firstCells]
 have hn : Builtin.nextslicecap m 0 = m := by unfold Builtin.nextslicecap; rw [if_pos (by omega)]
 have h3 : ∀ w : World, (Builtin.firstCells i.size 0 (.slice (some ad) 0 0)).run P w = .ok #[] w := fun w => run_firstCells_some (P := P) w i.size 0 ad 0 0 [] (by simp) (by simp)
 have h4 : ∀ w : World, (Builtin.firstCells i.size 0 (.slice none 0 0)).run P w = .ok #[] w := fun w => by simp [Builtin.firstCells]
 have hm' : ¬ m ≤ 0 := by omega
 have hb' : ¬ m * i.bytes > 2 ^ 48 := by omega
 simp [Builtin.append_, run_underlying ht, sizeOf, typeInfo, hi, Builtin.lenOf, hm', hn, hb', h3, h4]
 have hz : ¬ m = 0 := by omega
 simp only [hz, if_false]
variable {tt : TT}

theorem b8f (htt : a1z P tt) (hs : tt t = some S) (hk : S.kind = .sl e) (he : tt e = some E) (ty : Nat) (hown : Own w e E.size v n us) (hn : news.length = m * E.size)
  (hsrc : m = 0 ∨ ∃ ad, A = some ad ∧ ∀ j u, news[j]? = some u → w.cell? (ad.add j) = some u) (h1 : ∀ u ∈ news, u.oneCell' = true) (hsz : 0 < E.size) (hb1 : 0 < E.bytes) (hb : (n + m) * E.bytes ≤ 140737488355328) :
  ∃ v' w', (Builtin.append_ #[t, t] ty #[v, .slice A m c]).run P w = .ok v' w' ∧ Own w' e E.size v' (n + m) (us ++ news) ∧ w.grownBy w' (a9h v) ∧ (∀ b, a9h v' = some b → a9h v = some b ∨ b = w.heap.size) := by
 have T := htt _ _ he
 obtain ⟨i, k1, k2, k3, k4⟩ := T.info
 obtain ⟨d, k5, k6⟩ := (htt _ _ hs).desc
 rw [hk] at k6
 simp only [KOk] at k6
 subst k6
 by_cases hm : m = 0
 ·subst hm
  have : news = [] := List.eq_nil_of_length_eq_zero (by simpa using hn)
  subst this
  obtain ⟨A0, n0, c0, rfl, hle⟩ : ∃ A0 n0 c0, v = .slice A0 n0 c0 ∧ n0 ≤ c0 := by
   rcases hown.2 with ⟨A', e1, _⟩ | ⟨b, cap, cur, e1, _, _, h6, _⟩
   ·exact ⟨_, _, _, e1, Nat.le_refl _⟩
   ·exact ⟨_, _, _, e1, h6⟩
  exact ⟨_, w, c0z t ty e i k5 k1 w A0 n0 c0 hle A c, by simpa using hown, ⟨rfl, rfl, rfl, Nat.le_refl _, fun _ _ _ => rfl⟩, fun b hb => .inl hb⟩
 ·obtain ⟨ad, rfl, hc⟩ := hsrc.resolve_left hm
  have hml : n + m ≤ maxLen := by
   have : n + m ≤ (n + m) * E.bytes := Nat.le_mul_of_pos_right _ hb1
   unfold maxLen; omega
  have main : ∀ v, w.ownsRow 0 e E.size v n us → ∃ v' w', (Builtin.append_ #[t, t] ty #[v, .slice (some ad) m c]).run P w = .ok v' w' ∧ w'.ownsRow 0 e E.size v' (n + m) (us ++ news) ∧ w.grownBy w' v.ownBlock ∧ (v'.ownBlock = v.ownBlock ∨ v'.ownBlock = some w.heap.size) := fun v hown => by
   obtain ⟨v', w', g1, g2, g3, _, g4⟩ := run_append_own_at (P := P) w 0 t ty e i _ E.size E.bytes k5 k1 k4 k2 k3 (by rw [T.zeroCells]; simp [T.zl]) hsz v n us hown ad m c news hn hc h1 hml hb (Nat.zero_le _)
   exact ⟨v', w', g1, g2, g3, g4⟩
  have own' : ∀ (v : Value) b, a9h v = some b → v.ownBlock = some b := fun v b hb => by
   cases v with
   | slice A n c =>
    cases A with
    | none => cases hb
    | some a => cases c with
     | zero => cases hb
     | succ c => exact hb
   | _ => cases hb
  rcases hown.split with ⟨A0, e1, e2, e3⟩ | ⟨h2, h3⟩
  ·subst e1 e2 e3
   obtain ⟨v', w', g1, g2, g3, g4⟩ := main (.slice none 0 0) ⟨by simp, .inl ⟨rfl, rfl⟩⟩
   refine ⟨v', w', ?_, .of g2, ⟨g3.os, g3.tape, g3.output, g3.size, fun k hk hne => g3.block k hk (by simp [Value.ownBlock])⟩, fun b hb => ?_⟩
   ·cases A0 with
    | none => exact g1
    | some ad0 =>
     rw [c8q k5 k1 w ad0 (some ad) m c (by omega) (by rw [k3]; rw [Nat.zero_add] at hb; omega) (by omega)]
     exact g1
   ·rcases g4 with g4 | g4
    ·rw [own' _ _ hb] at g4; simp [Value.ownBlock] at g4
    ·rw [own' _ _ hb] at g4; cases g4; exact .inr rfl
  ·obtain ⟨v', w', g1, g2, g3, g4⟩ := main v h2
   refine ⟨v', w', g1, .of g2, by rw [h3]; exact g3, fun b hb => ?_⟩
   rcases g4 with g4 | g4
   ·rw [own' _ _ hb] at g4; rw [h3]; exact .inl g4.symm
   ·rw [own' _ _ hb] at g4; cases g4; exact .inr rfl
variable {id : Nat}

theorem c4s (htt : a1z P tt) (ho : o.op = .call { callee := .builtin .append, args := #[x, y], argTypes := #[t, t] }) (hs : tt t = some S) (hk : S.kind = .sl e) (he : tt e = some E)
  (hx : ev x = some (.ref id g)) (hy : ev y = some av) (hsrc : src h av = some (E.size, ys, T) ∨ (ys = [] ∧ T = [] ∧ ∃ z, src h av = some (z, [], []))) (how : (ys.flatten.all fun c => !c.isOw) = true) (hsz : 0 < E.size) (hb1 : 0 < E.bytes) (hb : (xs.length + ys.length) * E.bytes ≤ 140737488355328) :
  OpS P o ev ((id, (g, .row e E.size xs)) :: T) [(id, (g + 1, .row e E.size (xs ++ ys)))] (.ref id (g + 1)) := by
 rintro X B hF a w Q K hS0 hop hT hK
 have hid := hT id _ (List.mem_cons_self ..)
 have hv := hop y (by simp [ho, Op.operands, Call.operands]) _ hy
 obtain ⟨A0, n0, c0, sz0, e1, hr0⟩ := (hop x (by simp [ho, Op.operands, Call.operands]) _ hx).ref_inv
 obtain ⟨A, c, news, e2, hl, hvs, hcl⟩ : ∃ A c news, a.eval y = .slice A ys.length c ∧ Lens E.size ys ∧ VRs X w ys.flatten news ∧ (ys = [] ∨ ∃ ad, A = some ad ∧ ∀ j u, news[j]? = some u → w.cell? (ad.add j) = some u) := by
  rcases hsrc with hsrc | ⟨rfl, rfl, z, hsrc⟩
  ·exact b6p hsrc hS0 (fun i ge hm => hT i ge (List.mem_cons_of_mem _ hm)) hv
  ·obtain ⟨A, c, news, k1, _, k3, k4⟩ := b6p hsrc hS0 (by simp) hv
   exact ⟨A, c, news, k1, fun j x hx => by simp at hx, k3, k4⟩
 obtain ⟨F, hS⟩ := hS0
 obtain ⟨v0, us, S0, h1, h2, h3, h4, h5, h6⟩ := hS.ent _ _ _ hid
 rw [hr0] at h1
 cases h1
 have hnl : news.length = ys.length * E.size := by rw [hvs.len, a8l ys hl]
 obtain ⟨v', w', g1, g2, g3, g4⟩ := b8f htt hs hk he o.type h2 (c := c) hnl (hcl.imp (fun h => by simp [h]) (fun h => h)) hvs.oneCells hsz hb1 hb
 rw [List.nodup_append] at h5
 obtain ⟨hX, hS', hok⟩ := hS.newRow hid (ty := e) (sz := E.size) (xs := xs ++ ys) (us := us ++ news) (v := v') (w' := w') (L := (a9h (Value.slice A0 n0 c0)).toList) (S := S0 ++ []) (.of g3 _ (fun b hb => by simp [hb])) (fun b hb => ⟨h6 b (List.mem_append_left _ hb), fun hb2 => h5.2.2 b hb b (by simpa using hb2) rfl⟩)
  (fun b hb => h6 b (List.mem_append_right _ (by simpa using hb))) (by simpa using h5.2.1) (by rw [List.length_append]; exact g2) (fun b hb => by
   rcases g4 b hb with g4 | g4
   ·exact .inl ⟨h6 b (by simp [g4]), fun hb2 => h5.2.2 b (by simp [g4]) b (by simpa using hb2) rfl⟩
   ·exact .inr (by omega))
  (fun j z hz => by
   rw [List.getElem?_append] at hz
   split at hz
   ·exact h3 j z hz
   ·exact hl _ z hz) (by rw [List.flatten_append]; exact h4.append (hvs.trs how))
 unfold Oper.wp
 have hx2 : (execOp a.eval o).run P w = .ok (.value v') w' := by
  simp only [execOp, ho, resolve, invoke, builtin, Sem.run_bind, Sem.run_pure, Result.andThen_ok, List.map_toArray, List.map_cons, List.map_nil, e1, e2, g1]
 rw [hx2, Oper.upon_value]
 obtain ⟨A', n', c', rfl⟩ : ∃ A' n' c', v' = .slice A' n' c' := by
  rcases g2.2 with ⟨A2, e1, _⟩ | ⟨b, cap, cur, e1, _⟩ <;> exact ⟨_, _, _, e1⟩
 exact hK _ _ _ hX (by rw [s2s]; exact hS') hok .setR

theorem c3o (htt : a1z P tt) (ho : o.op = .call { callee := .builtin .append, args := #[x, y], argTypes := #[t, t] }) (hs : tt t = some S) (hk : S.kind = .sl e) (he : tt e = some E)
  (hx : ev x = some (.pv (.slice none 0 0))) (hy : ev y = some av) (hsrc : src h av = some (E.size, ys, T) ∨ (ys = [] ∧ T = [] ∧ ∃ z, src h av = some (z, [], []))) (how : (ys.flatten.all fun c => !c.isOw) = true) (hsz : 0 < E.size) (hb1 : 0 < E.bytes) (hb : ys.length * E.bytes ≤ 140737488355328) :
  OpS P o ev ((id, (g, .dead)) :: T) [(id, (g + 1, .row e E.size ys))] (.ref id (g + 1)) := by
 rintro X B hF a w Q K hS0 hop hT hK
 have hid := hT id _ (List.mem_cons_self ..)
 have hv := hop y (by simp [ho, Op.operands, Call.operands]) _ hy
 have e1 := f2i hop (by simp [ho, Op.operands, Call.operands]) hx
 obtain ⟨A, c, news, e2, hl, hvs, hcl⟩ : ∃ A c news, a.eval y = .slice A ys.length c ∧ Lens E.size ys ∧ VRs X w ys.flatten news ∧ (ys = [] ∨ ∃ ad, A = some ad ∧ ∀ j u, news[j]? = some u → w.cell? (ad.add j) = some u) := by
  rcases hsrc with hsrc | ⟨rfl, rfl, z, hsrc⟩
  ·exact b6p hsrc hS0 (fun i ge hm => hT i ge (List.mem_cons_of_mem _ hm)) hv
  ·obtain ⟨A, c, news, k1, _, k3, k4⟩ := b6p hsrc hS0 (by simp) hv
   exact ⟨A, c, news, k1, fun j x hx => by simp at hx, k3, k4⟩
 obtain ⟨F, hS⟩ := hS0
 have h2 : Own w e E.size (.slice none 0 0) 0 [] := ⟨by simp, .inl ⟨none, rfl, rfl⟩⟩
 have hnl : news.length = ys.length * E.size := by rw [hvs.len, a8l ys hl]
 obtain ⟨v', w', g1, g2, g3, g4⟩ := b8f htt hs hk he o.type h2 (c := c) hnl (hcl.imp (fun h => by simp [h]) (fun h => h)) hvs.oneCells hsz hb1 (by simpa using hb)
 obtain ⟨hX, hS', hok⟩ := hS.newRow hid (ty := e) (sz := E.size) (xs := ys) (us := news) (v := v') (w' := w') (L := []) (S := []) (.of g3 _ (fun b hb => by simp [a9h] at hb)) (by simp)
  (by simp) List.nodup_nil (by simpa using g2) (fun b hb => by
   rcases g4 b hb with g4 | g4
   ·simp [a9h] at g4
   ·exact .inr (by omega))
  hl (hvs.trs how)
 unfold Oper.wp
 have hx2 : (execOp a.eval o).run P w = .ok (.value v') w' := by
  simp only [execOp, ho, resolve, invoke, builtin, Sem.run_bind, Sem.run_pure, Result.andThen_ok, List.map_toArray, List.map_cons, List.map_nil, e1, e2, g1]
 rw [hx2, Oper.upon_value]
 obtain ⟨A', n', c', rfl⟩ : ∃ A' n' c', v' = .slice A' n' c' := by
  rcases g2.2 with ⟨A2, e1, _⟩ | ⟨b, cap, cur, e1, _⟩ <;> exact ⟨_, _, _, e1⟩
 exact hK _ _ _ hX (by rw [s2s]; exact hS') hok .setR

theorem b1v (htt : a1z P tt) (ho : o.op = .call { callee := .builtin .append, args := #[x, y], argTypes := #[t, t] }) (hs : tt t = some S) (hk : S.kind = .sl e) (he : tt e = some E)
  (hx : ev x = some (.ref id g)) (hy : ev y = some (.ref id2 g2)) (hne : id ≠ id2) (hsz : 0 < E.size) (hb1 : 0 < E.bytes) (hb : (xs.length + ys.length) * E.bytes ≤ 140737488355328) :
  OpS P o ev [(id, (g, .row e E.size xs)), (id2, (g2, .row ty2 E.size ys))] [(id, (g + 1, .row e E.size (xs ++ ys))), (id2, (g2, .dead))] (.ref id (g + 1)) := by
 rintro X B hF a w Q K ⟨F0, hS0⟩ hop hT hK
 have hid0 := hT id _ (List.mem_cons_self ..)
 have hid2 := hT id2 _ (List.mem_cons_of_mem _ (List.mem_singleton.2 rfl))
 obtain ⟨A0, n0, c0, sz0, e1, hr0⟩ := (hop x (by simp [ho, Op.operands, Call.operands]) _ hx).ref_inv
 have hv := hop y (by simp [ho, Op.operands, Call.operands]) _ hy
 obtain ⟨A2, n2, c2, sz2, e2, hr2⟩ := hv.ref_inv
 obtain ⟨v2, news, S2, k1, k2, k3, k4, k5, k6⟩ := hS0.ent _ _ _ hid2
 rw [hr2] at k1
 cases k1
 have hn2 := d5z k2
 subst hn2
 obtain ⟨v0, us, S0, h1, h2, h3, h4, h5, h6⟩ := hS0.ent _ _ _ hid0
 rw [hr0] at h1
 cases h1
 have hS1 := hS0.kill hid2
 have hid : upd hF id2 (g2, .dead) id = some (g, .row e E.size xs) := by rw [w1w _ hne]; exact hid0
 have hS := hS1.merge (a4x _ _ _) hid hne
 have fid : b0f (b0f F0 id2 []) id (F0 id ++ F0 id2) id = F0 id ++ F0 id2 := by simp [b0f]
 have hnl : news.length = ys.length * E.size := by rw [k4.len, a8l ys k3]
 have hcl : ys.length = 0 ∨ ∃ ad, A2 = some ad ∧ ∀ j u, news[j]? = some u → w.cell? (ad.add j) = some u := by
  rcases k2.2 with ⟨A', q1, q2⟩ | ⟨b, cap, cur, q1, _⟩
  ·exact .inl q2
  ·cases q1
   refine .inr ⟨_, rfl, fun j u hu => ?_⟩
   obtain ⟨b', c', e, _, h8⟩ := k2.cells hu
   cases e; exact h8
 obtain ⟨v', w', g1, g2', g3, g4⟩ := b8f htt hs hk he o.type h2 (c := c2) hnl hcl k4.vrs.oneCells hsz hb1 hb
 rw [List.nodup_append] at h5 k5
 have hdis : ∀ b ∈ F0 id, b ∉ F0 id2 := fun b hb hb2 => hne (hS0.sep id id2 _ _ b hid0 hid2 hb hb2)
 have hb0 : ∀ b ∈ (a9h (Value.slice A0 n0 c0)).toList, b ∈ F0 id ∧ b ∉ S0 ++ S2 := fun b hb => ⟨h6 b (List.mem_append_left _ hb), fun hm => by
  rcases List.mem_append.1 hm with hm | hm
  ·exact h5.2.2 b hb b hm rfl
  ·exact hdis b (h6 b (List.mem_append_left _ hb)) (k6 b (List.mem_append_right _ hm))⟩
 obtain ⟨hX, hS', hok⟩ := hS.newRow hid (ty := e) (sz := E.size) (xs := xs ++ ys) (us := us ++ news) (v := v') (w' := w') (L := (a9h (Value.slice A0 n0 c0)).toList) (S := S0 ++ S2) (.of g3 _ (fun b hb => by simp [hb])) (fun b hb => by rw [fid]; exact ⟨List.mem_append_left _ (hb0 b hb).1, (hb0 b hb).2⟩)
  (fun b hb => by
   rw [fid]
   rcases List.mem_append.1 hb with hb | hb
   ·exact List.mem_append_left _ (h6 b (List.mem_append_right _ hb))
   ·exact List.mem_append_right _ (k6 b (List.mem_append_right _ hb))) (List.nodup_append.2 ⟨h5.2.1, k5.2.1, fun a ha b hb => by rintro rfl; exact hdis a (h6 a (List.mem_append_right _ ha)) (k6 a (List.mem_append_right _ hb))⟩) (by rw [List.length_append]; exact g2') (fun b hb => by
   rcases g4 b hb with g4 | g4
   ·have := hb0 b (by simp [g4])
    rw [fid]
    exact .inl ⟨List.mem_append_left _ this.1, this.2⟩
   ·exact .inr (by omega))
  (fun j z hz => by
   rw [List.getElem?_append] at hz
   split at hz
   ·exact h3 j z hz
   ·exact k3 _ z hz) (by rw [List.flatten_append]; exact h4.append k4)
 unfold Oper.wp
 have hx2 : (execOp a.eval o).run P w = .ok (.value v') w' := by
  simp only [execOp, ho, resolve, invoke, builtin, Sem.run_bind, Sem.run_pure, Result.andThen_ok, List.map_toArray, List.map_cons, List.map_nil, e1, e2, g1]
 rw [hx2, Oper.upon_value]
 obtain ⟨A', n', c', rfl⟩ : ∃ A' n' c', v' = .slice A' n' c' := by
  rcases g2'.2 with ⟨A2, e1, _⟩ | ⟨b, cap, cur, e1, _⟩ <;> exact ⟨_, _, _, e1⟩
 exact hK _ _ _ hX (by rw [a9j, s2s]; exact hS') hok .setR
end
section
variable {P : Program}
def Opt {α : Type} : Option α → (α → Prop) → Prop
 | some a, k => k a
 | none, _ => False
theorem Opt.ex (h : Opt o k) : ∃ a, o = some a ∧ k a := by
 cases o with
 | none => exact h.elim
 | some a => exact ⟨a, rfl, h⟩
def evO (fr : Fr) : Operand → Option AV
 | .tmp t => fr.get t
 | .const v => some (.pv v)
 | .func f => some (.fn (.func f) [] [])
 | .global _ => none
def FreshK (h : Hp) (k : Nat × Nat → Prop) : Prop := ∃ p : Nat × Nat, y4y h p.1 = some (p.2, .dead) ∧ k p
theorem FreshK.ex (x : FreshK h k) : ∃ p : Nat × Nat, y4y h p.1 = some (p.2, .dead) ∧ k p := x

def d8f (P : Program) (f : FuncId) (avs : List AV) (T W : TL) (out : AV) : Prop :=
 (∃ fn c, P.funcs[f]? = some fn ∧ (fn.name == "runtime.NumGoroutine") = false ∧ fn.body = some c) ∧
 ∀ (X : Cx) (B : Base) (hF : HF) (w : World) (vs : List Value), SRh X B hF w → vs.length = avs.length → (∀ (i : Nat) (a : AV) (v : Value), avs[i]? = some a → vs[i]? = some v → VR X w a v) → (∀ id ge, (id, ge) ∈ T → hF id = some ge) →
  Calls P f vs.toArray w fun e w' => ∃ v, e = .returned v ∧ ∃ X', X.le X' ∧ SRh X' B (b1s hF W) w' ∧ (∀ b, X.ok2 b → w'.heap[b]? = w.heap[b]?) ∧ VR X' w' out v
def f5i (P : Program) (f : FuncId) (avs : List AV) (h : Hp) (K : AV → TL → TL → Prop) : Prop :=
 ∃ out T W, d8f P f avs T W out ∧ (∀ p ∈ T, y4y h p.1 = some p.2) ∧ (∀ p ∈ W, ∃ ge, (p.1, ge) ∈ T) ∧ K out T W
def a6u (op : BinOp) (r : Bool) : Value := .bool (if op = .eql then r else !r)

def EqA (P : Program) (t : TypeId) (x y : Operand) (a b : AV) (r : Bool) : Prop :=
 ∀ (X : Cx) (w : World) (u v : Value), (∀ c, X.ok1 c → X.ok2 c) → VR X w a u → VR X w b v → ∀ op, op = .eql ∨ op = .neq → (do eqGuard op t x y u v; binOp op t u v : Sem Value).run P w = .ok (a6u op r) w
def EqK (P : Program) (t : TypeId) (x y : Operand) (a b : AV) (K : Bool → Prop) : Prop := ∃ r, EqA P t x y a b r ∧ K r
def f2j (E : TS) (h : Hp) (a : AV) (i : Int) (K : AV → TL → TL → Prop) : Prop :=
 match a with
 | .row (.rd m) ty sz xs => sz = E.size ∧ 0 ≤ i ∧ i < xs.length ∧ K (.iel (xs.getD i.toNat [])) [] []
 | .ref id g => Opt (y4y h id) fun ge => match ge with
  | (g', .row ty sz xs) => g' = g ∧ sz = E.size ∧ 0 ≤ i ∧ i < xs.length ∧ K (.elt id g i.toNat 0) [(id, (g, .row ty sz xs))] []
  | _ => False
 | .cut id g lo hi => Opt (y4y h id) fun ge => match ge with
  | (g', .row ty sz xs) => g' = g ∧ sz = E.size ∧ 0 ≤ i ∧ i < ((hi - lo : Nat) : Int) ∧ K (.elt id g (lo + i.toNat) 0) [(id, (g, .row ty sz xs))] []
  | _ => False
 | .bsl id g off len => E.size = 1 ∧ 0 ≤ i ∧ i < len ∧ K (.ptr id g (off + i.toNat)) [] []
 | _ => False
def e3q (fr : Fr) (d : Int) : Option Operand → Option Int
 | none => some d
 | some x => match evO fr x with
  | some (.pv (.int _ i)) => some i
  | _ => none
def f4u (E : TS) (e : Nat) (h : Hp) (a b : AV) (K : AV → TL → TL → Prop) : Prop :=
 match a with
 | .pv (.slice none 0 0) => FreshK h fun p => Opt (src h b) fun s => (s.1 = E.size ∨ (s.2.1 = [] ∧ s.2.2 = [])) ∧ (s.2.1.flatten.all fun c => !c.isOw) = true ∧ s.2.1.length * E.bytes ≤ 140737488355328 ∧
   K (.ref p.1 (p.2 + 1)) ((p.1, (p.2, .dead)) :: s.2.2) [(p.1, (p.2 + 1, .row e E.size s.2.1))]
 | .ref id g => Opt (y4y h id) fun ge => match ge with
  | (g', .row ty sz xs) => g' = g ∧ ty = e ∧ sz = E.size ∧ Opt (src h b) fun s => (s.1 = E.size ∨ (s.2.1 = [] ∧ s.2.2 = [])) ∧ (xs.length + s.2.1.length) * E.bytes ≤ 140737488355328 ∧
    if (s.2.1.flatten.all fun c => !c.isOw) = true then K (.ref id (g + 1)) ((id, (g, .row e E.size xs)) :: s.2.2) [(id, (g + 1, .row e E.size (xs ++ s.2.1)))]
    else match b with
     | .ref id2 g2 => Opt (y4y h id2) fun ge2 => match ge2 with
      | (g2', .row ty2 sz2 ys) => g2' = g2 ∧ sz2 = E.size ∧ id ≠ id2 ∧ K (.ref id (g + 1)) [(id, (g, .row e E.size xs)), (id2, (g2, .row ty2 E.size ys))] [(id, (g + 1, .row e E.size (xs ++ ys))), (id2, (g2, .dead))]
      | _ => False
     | _ => False
  | _ => False
 | _ => False
def a0x (P : Program) (tt : TT) (fr : Fr) (h : Hp) : Op → (AV → TL → TL → Prop) → Prop
 | .move x, K => Opt (evO fr x) fun a => K a [] []
 | .assign x, K => Opt (evO fr x) fun a => K a [] []
 | .pick c x y, K => Opt (evO fr c) fun a => match a with
  | .pv (.bool b) => (b = true → Opt (evO fr x) fun u => K u [] []) ∧ (b = false → Opt (evO fr y) fun u => K u [] [])
  | _ => False
 | .alloc t, K => Opt (tt t) fun S => FreshK h fun p => K (.ptr p.1 (p.2 + 1) 0) [(p.1, (p.2, .dead))] [(p.1, (p.2 + 1, .box t (S.zero.map .pv)))]
 | .box t x, K => Opt (evO fr x) fun a => FreshK h fun p => a.okc = true ∧ ((a0i a).all fun c => !c.isOw) = true ∧ K (.ptr p.1 (p.2 + 1) 0) [(p.1, (p.2, .dead))] [(p.1, (p.2 + 1, .box t (a0i a)))]
 | .build t parts, K => Opt (tt t) fun S => match S.kind with
  | .st flds => Opt (b0k (evO fr) parts.toList) fun l => Opt (b8e tt flds (S.zero.map .pv) l) fun cs => K (.agg cs) [] []
  | _ => False
 | .buildSlice t len parts, K => Opt (tt t) fun S => match S.kind with
  | .sl e => Opt (tt e) fun E => (len = 0 ∧ parts = #[] ∧ FreshK h fun p => K (.ref p.1 (p.2 + 1)) [(p.1, (p.2, .dead))] [(p.1, (p.2 + 1, .row e E.size []))]) ∨
   Opt (d6b 0 parts.toList) fun xs => Opt (evL (evO fr) xs) fun avs => Opt (a6c E.size avs) fun cs => FreshK h fun p => ∃ q : List AV × TL × TL, Abs cs h q.1 q.2.1 q.2.2 ∧
    len = xs.length ∧ 0 < E.size ∧ 0 < len ∧ len * E.size ≤ 16777216 ∧ (q.2.1.any (·.1 == p.1)) = false ∧ K (.ref p.1 (p.2 + 1)) ((p.1, (p.2, .dead)) :: q.2.1) ((p.1, (p.2 + 1, .row e E.size (b4x E.size len q.1))) :: q.2.2)
  | _ => False
 | .load t x, K => Opt (evO fr x) fun a => Opt (tt t) fun S => Opt (d5y h a) fun p => Opt (ldv S p.1) fun out => K out p.2 []
 | .store t x y, K => Opt (evO fr x) fun a => Opt (evO fr y) fun b => Opt (tt t) fun S => b.okc = true ∧ (a0i b).length = S.size ∧ match a with
  | .ptr id g off => ((a0i b).all fun c => !c.isOw) = true ∧ Opt (y4y h id) fun ge => match ge with
   | (g', .box ty cs) => g' = g ∧ off + S.size ≤ cs.length ∧ K (.pv undef) [(id, (g, .box ty cs))] [(id, (g, .box ty (cs.take off ++ a0i b ++ cs.drop (off + S.size))))]
   | _ => False
  | .elt id g i off => Opt (y4y h id) fun ge => match ge with
   | (g', .row ty sz xs) => g' = g ∧ i < xs.length ∧ off + S.size ≤ sz ∧ ∃ q : List AV × TL × TL, Abs (a0i b) h q.1 q.2.1 q.2.2 ∧ (q.2.1.any (·.1 == id)) = false ∧
     K (.pv undef) ((id, (g, .row ty sz xs)) :: q.2.1) ((id, (g, .row ty sz (xs.set i ((xs.getD i []).take off ++ q.1 ++ (xs.getD i []).drop (off + S.size))))) :: q.2.2)
   | _ => False
  | _ => False
 | .nilCheck x, K => Opt (evO fr x) fun a => nck a = true ∧ K a [] []
 | .binOp op t x y _, K => Opt (evO fr x) fun a => Opt (evO fr y) fun b => match a, b with
  | .pv u, .pv v => match d7r op u v with
   | some r => K (.pv r) [] []
   | none => (op = .eql ∨ op = .neq) ∧ EqK P t x y a b fun r => K (.pv (a6u op r)) [] []
  | a, b => (op = .eql ∨ op = .neq) ∧ EqK P t x y a b fun r => K (.pv (a6u op r)) [] []
 | .unOp .not _ x, K => Opt (evO fr x) fun a => match a with
  | .pv (.bool b) => K (.pv (.bool (!b))) [] []
  | _ => False
 | .unOp .neg _ x, K => Opt (evO fr x) fun a => match a with
  | .pv (.int k n) => K (.pv (.int k (k.wrap (0 - n)))) [] []
  | _ => False
 | .convert s d x, K => Opt (evO fr x) fun a => Opt (tt s) fun S => Opt (tt d) fun D => match a, S.kind, D.kind with
  | .pv (.int k n), .int k0, .int k' => K (.pv (.int k' (k'.wrap n))) [] []
  | _, _, _ => False
 | .makeSlice t x y, K => Opt (tt t) fun S => match S.kind with
  | .sl e => Opt (tt e) fun E => Opt (evO fr x) fun a => Opt (evO fr y) fun b => FreshK h fun p => match a, b with
   | .pv (.int k n), .pv (.int k' n') => n = n' ∧ 0 ≤ n ∧ 0 < E.size ∧ 0 < E.bytes ∧ E.bytes * n.toNat ≤ 281474976710656 ∧
     K (.ref p.1 (p.2 + 1)) [(p.1, (p.2, .dead))] [(p.1, (p.2 + 1, .row e E.size (List.replicate n.toNat (E.zero.map .pv))))]
   | _, _ => False
  | _ => False
 | .slice t x lo hi none, K => Opt (evO fr x) fun a => Opt (tt t) fun S => match S.kind, a with
  | .str, .pv (.string s) => Opt (e3q fr 0 lo) fun l => Opt (e3q fr s.size hi) fun u => 0 ≤ l ∧ l ≤ u ∧ u ≤ s.size ∧ K (.pv (.string (s.extract l.toNat u.toNat))) [] []
  | .sl e, .row (.rd m) ty sz xs => Opt (tt e) fun E => Opt (e3q fr 0 lo) fun l => Opt (e3q fr xs.length hi) fun u => sz = E.size ∧ 0 ≤ l ∧ l ≤ u ∧ u ≤ xs.length ∧ K (.row (.rd m) ty sz ((xs.take u.toNat).drop l.toNat)) [] []
  | _, _ => False
 | .fieldAddr t x f, K => Opt (evO fr x) fun a => Opt (tt t) fun S => match S.kind with
  | .st flds => Opt flds[f]? fun p => Opt (tt p.2) fun sf => sf.size ≠ 0 ∧ Opt (shift p.1 a) fun out => K out [] []
  | _ => False
 | .field t x f, K => Opt (evO fr x) fun a => Opt (tt t) fun S => match S.kind, a with
  | .st flds, .agg cs => Opt flds[f]? fun p => Opt (tt p.2) fun sf => Opt (ldv sf (cs.drop p.1)) fun out => K out [] []
  | _, _ => False
 | .indexAddr t x ix, K => Opt (evO fr x) fun a => Opt (evO fr ix) fun b => Opt (tt t) fun S => match b, S.kind with
  | .pv (.int k i), .sl e => Opt (tt e) fun E => f2j E h a i K
  | .pv (.int k i), .arr n e => Opt (tt e) fun E => 0 ≤ i ∧ i < n ∧ Opt (shift (i.toNat * E.size) a) fun out => K out [] []
  | _, _ => False
 | .index t x ix, K => Opt (evO fr x) fun a => Opt (evO fr ix) fun b => Opt (tt t) fun S => match S.kind, a, b with
  | .str, .pv (.string s), .pv (.int k i) => 0 ≤ i ∧ i < s.size ∧ K (.pv (.int .u8 (bt s i.toNat))) [] []
  | _, _, _ => False
 | .extract x i, K => Opt (evO fr x) fun a => match a with
  | .tup cs => Opt cs[i]? fun out => K out [] []
  | _ => False
 | .call c, K => match c.callee with
  | .builtin .len => match c.args.toList, c.argTypes.toList with
   | [x], [t] => Opt (evO fr x) fun a => Opt (tt t) fun S => Opt (e6x h a) fun p => (match S.kind, a with
    | .str, .pv (.string _) => True
    | .sl _, .pv (.string _) => False
    | .sl _, _ => True
    | _, _ => False) ∧ K (.pv (.int .i64 p.1)) p.2 []
   | _, _ => False
  | .builtin .append => match c.args.toList, c.argTypes.toList with
   | [x, y], [t, t'] => t = t' ∧ Opt (evO fr x) fun a => Opt (evO fr y) fun b => Opt (tt t) fun S => match S.kind with
    | .sl e => Opt (tt e) fun E => 0 < E.size ∧ 0 < E.bytes ∧ f4u E e h a b K
    | _ => False
   | _, _ => False
  | .value f => Opt (evO fr f) fun fv => Opt (evL (evO fr) c.args.toList) fun avs => match fv with
   | .fn (.func f) fi cap => f5i P f (fi ++ avs ++ cap) h K
   | _ => False
  | _ => False
 | _, _ => False
end
section
variable {P : Program}
def InH (h : Hp) (T : TL) : Prop := ∀ p ∈ T, y4y h p.1 = some p.2
def Sub (W T : TL) : Prop := ∀ p ∈ W, ∃ ge, (p.1, ge) ∈ T
theorem InH.nil : InH h [] := fun p hp => by cases hp
variable {id : Nat}
theorem InH.one (hh : y4y h id = some ge) : InH h [(id, ge)] := fun p hp => by rw [List.mem_singleton] at hp; subst hp; exact hh
theorem InH.cons (hh : y4y h id = some ge) (hT : InH h T) : InH h ((id, ge) :: T) := fun p hp => by
 rw [List.mem_cons] at hp
 rcases hp with rfl | hp
 ·exact hh
 ·exact hT p hp
theorem Sub.nil : Sub [] T := fun p hp => by cases hp
theorem Sub.one (h : (id, ge') ∈ T) : Sub [(id, ge)] T := fun p hp => by rw [List.mem_singleton] at hp; subst hp; exact ⟨_, h⟩
theorem Sub.cons (ge' : Nat × Ent) (hW : Sub W T) : Sub ((id, ge) :: W) ((id, ge') :: T) := fun p hp => by
 rw [List.mem_cons] at hp
 rcases hp with rfl | hp
 ·exact ⟨ge', List.mem_cons_self ..⟩
 ·obtain ⟨x, hx⟩ := hW p hp; exact ⟨x, List.mem_cons_of_mem _ hx⟩
theorem e6z (hp : d5y h a = some (cs, T)) : InH h T := by
 unfold d5y at hp
 split at hp
 ·cases hp; exact .nil
 ·split at hp
  ·split at hp
   ·cases hp; exact .one ‹_›
   ·cases hp
  ·cases hp
 ·split at hp
  ·split at hp
   ·cases hp; exact .one ‹_›
   ·cases hp
  ·cases hp
 ·cases hp
theorem f2k (hp : e6x h a = some (n, T)) : InH h T := by
  unfold e6x at hp
  split at hp
  all_goals first
    | (cases hp; exact .nil)
    | (split at hp
       · split at hp
         · cases hp; exact .one ‹_›
         · cases hp
       · cases hp)
    | cases hp
theorem f2l (hp : src h a = some (sz, ys, T)) : InH h T := by
  unfold src at hp
  split at hp
  all_goals first
    | (cases hp; exact .nil)
    | (split at hp
       · split at hp
         · cases hp; exact .one ‹_›
         · cases hp
       · cases hp)
    | cases hp
theorem f2m (hab : Abs cs h cs' T W) : InH h T ∧ Sub W T := by
 induction hab with
 | nil => exact ⟨.nil, .nil⟩
 | ref hh hf t n1 n2 ih =>
  obtain ⟨k1, k2⟩ := ih
  refine ⟨.cons hh (fun p hp => ?_), .cons _ k2⟩
  have := k1 p hp
  rw [List.any_eq_false] at n2
  rwa [u8u, if_neg (fun e => n2 p hp (by simp [e]))] at this
 | val h1 h2 t ih => exact ih
theorem b8g {ev : Operand → Option AV} {X : Cx} {w : World} {a : Act} : ∀ (xs : List Operand) (l : List AV), evL ev xs = some l → (∀ x ∈ xs, ∀ av, ev x = some av → VR X w av (a.eval x)) →
  (xs.map a.eval).length = l.length ∧ ∀ (i : Nat) (av : AV) (v : Value), l[i]? = some av → (xs.map a.eval)[i]? = some v → VR X w av v
 | [], l, h, _ => by cases h; exact ⟨rfl, fun i av v h => by simp at h⟩
 | x :: r, l, h, ho => by
  unfold evL at h
  split at h
  ·rename_i av l' h1 h2
   cases h
   obtain ⟨k1, k2⟩ := b8g r l' h2 (fun y hy => ho y (by simp [hy]))
   refine ⟨by simpa using k1, fun j b c hj hj' => ?_⟩
   cases j with
   | zero =>
    simp only [List.getElem?_cons_zero, Option.some.injEq, List.map_cons] at hj hj'
    subst hj hj'
    exact ho x (by simp) _ h1
   | succ j => exact k2 j b c (by simpa using hj) (by simpa using hj')
  ·cases h
theorem a7j {X : Cx} {w : World} {az bs : List AV} {us vs : List Value} (hl : us.length = az.length) (h : ∀ (i : Nat) (a : AV) (v : Value), az[i]? = some a → us[i]? = some v → VR X w a v) (k : ∀ (i : Nat) (a : AV) (v : Value), bs[i]? = some a → vs[i]? = some v → VR X w a v) :
  ∀ (i : Nat) (a : AV) (v : Value), (az ++ bs)[i]? = some a → (us ++ vs)[i]? = some v → VR X w a v := by
 intro i a v ha hv
 rw [List.getElem?_append] at ha hv
 rw [hl] at hv
 split at ha
 ·rename_i hi
  rw [if_pos hi] at hv
  exact h i a v ha hv
 ·rename_i hi
  rw [if_neg hi] at hv
  exact k _ a v ha hv

theorem e4a {o : Oper} {ev : Operand → Option AV} {c : Call} {x : Operand} {f : FuncId} {fi cap avs : List AV} {fv : AV} {T W : TL} {out : AV} (ho : o.op = .call c) (hc : c.callee = .value x) (hx : ev x = some fv) (hfv : fv = .fn (.func f) fi cap)
  (he : evL ev c.args.toList = some avs) (hC : d8f P f (fi ++ avs ++ cap) T W out) : OpS P o ev T W out := by
 intro X B hF a w Q K hS hop hT hK
 obtain ⟨⟨fn, code, h1, h2, h3⟩, hC⟩ := hC
 have hxv := hop x (by simp [ho, Op.operands, Call.operands, hc]) _ hx
 obtain ⟨us, vs, e1, hl1, hl2, r1, r2⟩ : ∃ us vs : List Value, a.eval x = .func (.func f) us.toArray vs.toArray ∧ us.length = fi.length ∧ vs.length = cap.length ∧ (∀ (i : Nat) (y : AV) (u : Value), fi[i]? = some y → us[i]? = some u → VR X w y u) ∧ (∀ (i : Nat) (y : AV) (u : Value), cap[i]? = some y → vs[i]? = some u → VR X w y u) := by
  subst hfv
  exact hxv.fn_inv
 obtain ⟨k1, k2⟩ := b8g (X := X) (w := w) (a := a) c.args.toList avs he (fun y hy => hop y (by
  simp only [ho, Op.operands, Call.operands, hc, Array.mem_append]
  exact .inr (by simpa using hy)))
 have hr := hC X B hF w (us ++ c.args.toList.map a.eval ++ vs) hS (by simp [hl1, hl2, ← k1]) (a7j (by simp [hl1, ← k1]) (a7j hl1 r1 k2) r2) hT
 have hargs : us.toArray ++ c.args.map a.eval ++ vs.toArray = (us ++ c.args.toList.map a.eval ++ vs).toArray := by
  apply Array.ext'
  simp
 unfold Oper.wp
 have hx2 : (execOp a.eval o).run P w = .ok (.enter f (us ++ c.args.toList.map a.eval ++ vs).toArray) w := by
  rw [← hargs]
  simp only [execOp, ho, resolve, hc, e1, Deferred.ofValue, Sem.run_bind, Sem.run_pure, Result.andThen_ok, invoke]
  have h4 : fn.name ≠ "runtime.NumGoroutine" := by simpa using h2
  simp [callFunc, h1, h4, h3]
 rw [hx2, Oper.upon_enter]
 refine hr.mono fun e w' hh => ?_
 obtain ⟨v, rfl, X', g1, g2, g3, g4⟩ := hh
 exact hK X' w' v g1 g2 g3 g4
theorem e7a (ho : o.op = .binOp op t x y t') (hop' : op = .eql ∨ op = .neq) (hx : ev x = some u) (hy : ev y = some v) (h : EqA P t x y u v r) : OpS P o ev [] [] (.pv (a6u op r)) :=
 .quiet fun X B hp a w hS hop hT => by
  have h1 := h X w _ _ hS.ok12 (hop x (by simp [ho, Op.operands]) _ hx) (hop y (by simp [ho, Op.operands]) _ hy) op hop'
  refine ⟨_, ?_, .pv _⟩
  simp only [execOp, ho]
  rw [Sem.run_bind, h1]
  rfl
theorem b8h (h : e3q fr d lo = some l) : (lo = none ∧ l = d) ∨ ∃ y k, lo = some y ∧ evO fr y = some (.pv (.int k l)) := by
 unfold e3q at h
 split at h
 ·cases h; exact .inl ⟨rfl, rfl⟩
 ·split at h
  ·cases h; exact .inr ⟨_, _, rfl, ‹_›⟩
  ·cases h
def e4b (P : Program) (fr : Fr) (h : Hp) (o : Oper) (K : AV → TL → TL → Prop) : Prop := ∃ out T W, OpS P o (evO fr) T W out ∧ InH h T ∧ Sub W T ∧ K out T W
variable {tt : TT}
theorem d6c (htt : a1z P tt) (ho : o.op = .indexAddr t x ix) (hx : evO fr x = some a) (hi : evO fr ix = some (.pv (.int k i))) (hs : tt t = some S) (hk : S.kind = .sl e) (he : tt e = some E)
  (hK : f2j E h a i K) : e4b P fr h o K := by
 unfold f2j at hK
 split at hK
 ·obtain ⟨h1, h2, h3, h4⟩ := hK
  exact ⟨_, _, _, d1n htt ho hx hi hs hk he h1 h2 h3, .nil, .nil, h4⟩
 ·obtain ⟨ge, h0, hK⟩ := hK.ex
  split at hK
  ·obtain ⟨rfl, h1, h2, h3, h4⟩ := hK
   exact ⟨_, _, _, d1o htt ho hx hi hs hk he h1 h2 h3, .one h0, .nil, h4⟩
  ·exact hK.elim
 ·obtain ⟨ge, h0, hK⟩ := hK.ex
  split at hK
  ·obtain ⟨rfl, h1, h2, h3, h4⟩ := hK
   exact ⟨_, _, _, d1p htt ho hx hi hs hk he h1 h2 h3, .one h0, .nil, h4⟩
  ·exact hK.elim
 ·obtain ⟨h1, h2, h3, h4⟩ := hK
  exact ⟨_, _, _, c0s htt ho hx hi hs hk he h1 h2 h3, .nil, .nil, h4⟩
 ·exact hK.elim
theorem b3n {h : Hp} {p : Nat × Nat} (hf : y4y h p.1 = some (p.2, .dead)) : y4y h p.1 = some (p.2, .dead) := hf
theorem d6e (htt : a1z P tt) (ho : o.op = .call { callee := .builtin .append, args := #[x, y], argTypes := #[t, t] }) (hx : evO fr x = some a) (hy : evO fr y = some b) (hs : tt t = some S) (hk : S.kind = .sl e) (he : tt e = some E)
  (hsz : 0 < E.size) (hb : 0 < E.bytes) (hK : f4u E e h a b K) : e4b P fr h o K := by
 have two : ∀ (s : Nat × List (List AV) × TL), src h b = some s → (s.1 = E.size ∨ (s.2.1 = [] ∧ s.2.2 = [])) → src h b = some (E.size, s.2.1, s.2.2) ∨ (s.2.1 = [] ∧ s.2.2 = [] ∧ ∃ z, src h b = some (z, [], [])) := by
  rintro ⟨s1, s2, s3⟩ h1 h2
  rcases h2 with rfl | ⟨rfl, rfl⟩
  ·exact .inl h1
  ·exact .inr ⟨rfl, rfl, _, h1⟩
 unfold f4u at hK
 split at hK
 ·obtain ⟨p, h0, hK⟩ := hK.ex
  obtain ⟨s, h1, h2, h3, h4, h5⟩ := hK.ex
  exact ⟨_, _, _, c3o htt ho hs hk he hx hy (two s h1 h2) h3 hsz hb h4, .cons (b3n h0) (f2l h1), .one (List.mem_cons_self ..), h5⟩
 ·obtain ⟨ge, h0, hK⟩ := hK.ex
  split at hK
  ·obtain ⟨rfl, rfl, rfl, hK⟩ := hK
   obtain ⟨s, h1, h2, h3, h4⟩ := hK.ex
   split at h4
   ·rename_i how
    exact ⟨_, _, _, c4s htt ho hs hk he hx hy (two s h1 h2) how hsz hb h3, .cons h0 (f2l h1), .one (List.mem_cons_self ..), h4⟩
   ·split at h4
    ·rename_i id2 g2
     obtain ⟨ge2, h5, h6⟩ := h4.ex
     split at h6
     ·obtain ⟨rfl, rfl, h7, h8⟩ := h6
      rename_i ys
      have hys : s.2.1 = ys := by
       have h9 := h1
       simp only [src, h5, if_true, Option.some.injEq] at h9
       rw [← h9]
      rw [hys] at h3
      exact ⟨_, _, _, b1v htt ho hs hk he hx hy h7 hsz hb h3, .cons h0 (.one h5), .cons _ (.cons _ .nil), h8⟩
     ·exact h6.elim
    ·exact h4.elim
  ·exact hK.elim
 ·exact hK.elim
theorem d1r (htt : a1z P tt) (ho : o.op = op) (hK : a0x P tt fr h op K) : e4b P fr h o K := by
 unfold a0x at hK
 split at hK
 ·-- move
  obtain ⟨a, h1, h2⟩ := hK.ex
  exact ⟨_, _, _, d3h (.inl ho) h1, .nil, .nil, h2⟩
 ·obtain ⟨a, h1, h2⟩ := hK.ex
  exact ⟨_, _, _, d3h (.inr ho) h1, .nil, .nil, h2⟩
 ·-- pick
  obtain ⟨a, h1, h2⟩ := hK.ex
  split at h2
  ·rename_i b
   cases b with
   | true =>
    obtain ⟨u, h3, h4⟩ := (h2.1 rfl).ex
    exact ⟨_, _, _, d3i (t := true) ho h1 h3, .nil, .nil, h4⟩
   | false =>
    obtain ⟨u, h3, h4⟩ := (h2.2 rfl).ex
    exact ⟨_, _, _, d3i (t := false) ho h1 h3, .nil, .nil, h4⟩
  ·exact h2.elim
 ·-- alloc
  obtain ⟨S, h1, h2⟩ := hK.ex
  obtain ⟨p, h3, h4⟩ := h2.ex
  exact ⟨_, _, _, d8a htt ho h1, .one (b3n h3), .one (List.mem_singleton.2 rfl), h4⟩
 ·-- box
  obtain ⟨a, h1, h2⟩ := hK.ex
  obtain ⟨p, h3, h4, h5, h6⟩ := h2.ex
  exact ⟨_, _, _, e8n ho h1 h4 h5, .one (b3n h3), .one (List.mem_singleton.2 rfl), h6⟩
 ·-- build
  obtain ⟨S, h1, h2⟩ := hK.ex
  split at h2
  ·obtain ⟨l, h3, h4⟩ := h2.ex
   obtain ⟨cs, h5, h6⟩ := h4.ex
   exact ⟨_, _, _, d8c htt ho h1 ‹_› h3 h5, .nil, .nil, h6⟩
  ·exact h2.elim
 ·-- buildSlice
  obtain ⟨S, h1, h2⟩ := hK.ex
  split at h2
  ·obtain ⟨E, g1, h2⟩ := h2.ex
   rcases h2 with ⟨rfl, rfl, h00⟩ | h2
   ·obtain ⟨p, g5, g6⟩ := h00.ex
    exact ⟨_, _, _, c0y htt ho h1 ‹_› g1, .one (b3n g5), .one (List.mem_singleton.2 rfl), g6⟩
   obtain ⟨xs, g2, h2⟩ := h2.ex
   obtain ⟨avs, g3, h2⟩ := h2.ex
   obtain ⟨cs, g4, h2⟩ := h2.ex
   obtain ⟨p, g5, h2⟩ := h2.ex
   obtain ⟨q, g6, g7, g8, g9, g10, g11, g12⟩ := h2
   obtain ⟨k1, k2⟩ := f2m g6
   exact ⟨_, _, _, c3n htt ho h1 ‹_› g1 g2 g7 g3 g4 g8 g9 g10 g6 g11, .cons (b3n g5) k1, .cons _ k2, g12⟩
  ·exact h2.elim
 ·-- load
  obtain ⟨a, h1, h2⟩ := hK.ex
  obtain ⟨S, h3, h4⟩ := h2.ex
  obtain ⟨p, h5, h6⟩ := h4.ex
  obtain ⟨out, h7, h8⟩ := h6.ex
  exact ⟨_, _, _, e3z htt ho h1 h3 h5 h7, e6z h5, .nil, h8⟩
 ·-- store
  obtain ⟨a, h1, h2⟩ := hK.ex
  obtain ⟨b, h3, h4⟩ := h2.ex
  obtain ⟨S, h5, h6, h7, h8⟩ := h4.ex
  split at h8
  ·obtain ⟨g1, h8⟩ := h8
   obtain ⟨ge, g2, h8⟩ := h8.ex
   split at h8
   ·obtain ⟨rfl, g3, g4⟩ := h8
    exact ⟨_, _, _, c5u htt ho h1 h3 h6 h5 g1 h7 g3, .one g2, .one (List.mem_singleton.2 rfl), g4⟩
   ·exact h8.elim
  ·obtain ⟨ge, g2, h8⟩ := h8.ex
   split at h8
   ·obtain ⟨rfl, g3, g4, h8⟩ := h8
    obtain ⟨q, g5, g6, g7⟩ := h8
    obtain ⟨k1, k2⟩ := f2m g5
    exact ⟨_, _, _, c5v htt ho h1 h3 h6 h5 h7 g3 g4 g5 g6, .cons g2 k1, .cons _ k2, g7⟩
   ·exact h8.elim
  ·exact h8.elim
 ·-- nilCheck
  obtain ⟨a, h1, h2, h3⟩ := hK.ex
  exact ⟨_, _, _, c8n ho h1 h2, .nil, .nil, h3⟩
 ·-- binOp
  obtain ⟨a, h1, h2⟩ := hK.ex
  obtain ⟨b, h3, h4⟩ := h2.ex
  split at h4
  ·split at h4
   ·exact ⟨_, _, _, e8j ho h1 h3 ‹_›, .nil, .nil, h4⟩
   ·obtain ⟨g1, r, g2, g3⟩ := h4
    exact ⟨_, _, _, e7a ho g1 h1 h3 g2, .nil, .nil, g3⟩
  ·obtain ⟨g1, r, g2, g3⟩ := h4
   exact ⟨_, _, _, e7a ho g1 h1 h3 g2, .nil, .nil, g3⟩
 ·obtain ⟨a, h1, h2⟩ := hK.ex
  split at h2
  ·exact ⟨_, _, _, e8k ho h1, .nil, .nil, h2⟩
  ·exact h2.elim
 ·obtain ⟨a, h1, h2⟩ := hK.ex
  split at h2
  ·exact ⟨_, _, _, e8l ho h1, .nil, .nil, h2⟩
  ·exact h2.elim
 ·-- convert
  obtain ⟨a, h1, h2⟩ := hK.ex
  obtain ⟨S, h3, h4⟩ := h2.ex
  obtain ⟨D, h5, h6⟩ := h4.ex
  split at h6
  ·exact ⟨_, _, _, e3y htt ho h1 h3 h5 ‹_› ‹_›, .nil, .nil, h6⟩
  ·exact h6.elim
 ·-- makeSlice
  obtain ⟨S, h1, h2⟩ := hK.ex
  split at h2
  ·obtain ⟨E, h3, h2⟩ := h2.ex
   obtain ⟨a, h4, h2⟩ := h2.ex
   obtain ⟨b, h5, h2⟩ := h2.ex
   obtain ⟨p, h6, h2⟩ := h2.ex
   split at h2
   ·obtain ⟨rfl, h7, h8, h9, h10, h11⟩ := h2
    rw [(Int.toNat_of_nonneg h7).symm] at h4 h5
    exact ⟨_, _, _, c5w htt ho h1 ‹_› h3 h4 h5 h8 h9 h10, .one (b3n h6), .one (List.mem_singleton.2 rfl), h11⟩
   ·exact h2.elim
  ·exact h2.elim
 ·-- slice
  obtain ⟨a, h1, h2⟩ := hK.ex
  obtain ⟨S, h3, h4⟩ := h2.ex
  split at h4
  ·obtain ⟨l, h5, h4⟩ := h4.ex
   obtain ⟨u, h6, h7, h8, h9, h10⟩ := h4.ex
   exact ⟨_, _, _, c5s htt ho h1 h3 ‹_› (b8h h5) (b8h h6) h7 h8 h9, .nil, .nil, h10⟩
  ·obtain ⟨E, g1, h4⟩ := h4.ex
   obtain ⟨l, h5, h4⟩ := h4.ex
   obtain ⟨u, h6, g2, h7, h8, h9, h10⟩ := h4.ex
   exact ⟨_, _, _, c5t htt ho h1 h3 ‹_› g1 g2 (b8h h5) (b8h h6) h7 h8 h9, .nil, .nil, h10⟩
  ·exact h4.elim
 ·-- fieldAddr
  obtain ⟨a, h1, h2⟩ := hK.ex
  obtain ⟨S, h3, h4⟩ := h2.ex
  split at h4
  ·obtain ⟨p, h5, h6⟩ := h4.ex
   obtain ⟨sf, h7, h8, h9⟩ := h6.ex
   obtain ⟨out, h10, h11⟩ := h9.ex
   exact ⟨_, _, _, c5q htt ho h1 h3 ‹_› h5 h7 h8 h10, .nil, .nil, h11⟩
  ·exact h4.elim
 ·-- field
  obtain ⟨a, h1, h2⟩ := hK.ex
  obtain ⟨S, h3, h4⟩ := h2.ex
  split at h4
  ·obtain ⟨p, h5, h6⟩ := h4.ex
   obtain ⟨sf, h7, h8⟩ := h6.ex
   obtain ⟨out, h10, h11⟩ := h8.ex
   exact ⟨_, _, _, d7z htt ho h1 h3 ‹_› h5 h7 h10, .nil, .nil, h11⟩
  ·exact h4.elim
 ·-- indexAddr
  obtain ⟨a, h1, h2⟩ := hK.ex
  obtain ⟨b, h3, h4⟩ := h2.ex
  obtain ⟨S, h5, h6⟩ := h4.ex
  split at h6
  ·obtain ⟨E, h7, h8⟩ := h6.ex
   exact d6c htt ho h1 h3 h5 ‹_› h7 h8
  ·obtain ⟨E, h7, h8, h9, h10⟩ := h6.ex
   obtain ⟨out, h11, h12⟩ := h10.ex
   exact ⟨_, _, _, c0t htt ho h1 h3 h5 ‹_› h7 h8 h9 h11, .nil, .nil, h12⟩
  ·exact h6.elim
 ·-- index
  obtain ⟨a, h1, h2⟩ := hK.ex
  obtain ⟨b, h3, h4⟩ := h2.ex
  obtain ⟨S, h5, h6⟩ := h4.ex
  split at h6
  ·obtain ⟨h7, h8, h9⟩ := h6
   exact ⟨_, _, _, d1q htt ho h1 h3 h5 ‹_› h7 h8, .nil, .nil, h9⟩
  ·exact h6.elim
 ·-- extract
  obtain ⟨a, h1, h2⟩ := hK.ex
  split at h2
  ·obtain ⟨out, h3, h4⟩ := h2.ex
   exact ⟨_, _, _, d1m ho h1 h3, .nil, .nil, h4⟩
  ·exact h2.elim
 ·-- call
  rename_i c
  obtain ⟨callee, args, argTypes⟩ := c
  split at hK
  ·rename_i hcal
   simp only at hcal
   subst hcal
   split at hK
   ·rename_i x t ha ht
    obtain ⟨a, h1, h2⟩ := hK.ex
    obtain ⟨S, h3, h4⟩ := h2.ex
    obtain ⟨p, h5, h6, h7⟩ := h4.ex
    have ha' : args = #[x] := by
     apply Array.ext'; simpa using ha
    have ht' : argTypes = #[t] := by
     apply Array.ext'; simpa using ht
    subst ha' ht'
    have hkk : (S.kind = .str ∨ ∃ e, S.kind = .sl e) ∧ ((∃ s, a = .pv (.string s)) ↔ S.kind = .str) := by
     split at h6
     ·rename_i hk
      exact ⟨.inl hk, ⟨fun _ => hk, fun _ => ⟨_, rfl⟩⟩⟩
     ·exact h6.elim
     ·rename_i e hk hns
      exact ⟨.inr ⟨_, hk⟩, ⟨fun ⟨s, hs⟩ => (hns s hs).elim, fun h => by rw [hk] at h; cases h⟩⟩
     ·exact h6.elim
    exact ⟨_, _, _, e8m htt ho h1 h3 hkk.1 h5 hkk.2, f2k h5, .nil, h7⟩
   ·exact hK.elim
  ·rename_i hcal
   simp only at hcal
   subst hcal
   split at hK
   ·rename_i x y t t' ha ht
    obtain ⟨rfl, hK⟩ := hK
    obtain ⟨a, h1, h2⟩ := hK.ex
    obtain ⟨b, h3, h4⟩ := h2.ex
    obtain ⟨S, h5, h6⟩ := h4.ex
    have ha' : args = #[x, y] := by
     apply Array.ext'; simpa using ha
    have ht' : argTypes = #[t, t] := by
     apply Array.ext'; simpa using ht
    subst ha' ht'
    split at h6
    ·obtain ⟨E, h7, h8, h9, h10⟩ := h6.ex
     exact d6e htt ho h1 h3 h5 ‹_› h7 h8 h9 h10
    ·exact h6.elim
   ·exact hK.elim
  ·rename_i f hcal
   simp only at hcal
   subst hcal
   obtain ⟨fv, h1, h2⟩ := hK.ex
   obtain ⟨avs, h3, h4⟩ := h2.ex
   split at h4
   ·obtain ⟨out, T, W, g1, g2, g3, g4⟩ := h4
    exact ⟨_, _, _, e4a ho rfl h1 rfl h3 g1, g2, g3, g4⟩
   ·exact h4.elim
  ·exact hK.elim
 ·exact hK.elim
end
section
variable {P : Program}
def e4c (fr : Fr) : Option Nat → AV → Fr
 | none, _ => fr
 | some k, v => (k, v) :: fr
theorem a6v (fr : Fr) (d : Option Nat) (v : AV) : (e4c fr d v).get = c0r fr.get d v := by
 funext j
 cases d with
 | none => rfl
 | some k =>
  simp only [e4c, Fr.get_cons, c0r]
  by_cases e : k = j
  ·simp [e]
  ·simp [e, Ne.symm e]
def d7s (h : Hp) (W : TL) : Hp := W ++ h
theorem b4y : ∀ {W : TL}, hf (d7s h W) = b1s (hf h) W
 | [] => rfl
 | (id, ge) :: W => by
  rw [a9j, ← b4y]
  exact a3g (d7s h W) id ge
abbrev Log := List (List Nat × List Nat)
def ids (T : TL) : List Nat := T.map (·.1)

def e8o (P : Program) (tt : TT) (fr : Fr) (h : Hp) (o : Oper) (K : AV → TL → TL → Prop) : Prop := a0x P tt fr h o.op K ∨ ∃ out T W, OpS P { o with guard := none } (evO fr) T W out ∧ InH h T ∧ Sub W T ∧ K out T W
theorem b4z {tt : TT} (htt : a1z P tt) (hK : e8o P tt fr h o K) : e4b P fr h o K := by
 rcases hK with hK | hK
 ·exact d1r htt rfl hK
 ·exact hK
def u4u (P : Program) (tt : TT) (ops : Array Oper) : List Oper → Fr → Hp → Log → (Fr → Hp → Log → Prop) → Prop
 | [], fr, h, lg, K => K fr h lg
 | o :: r, fr, h, lg, K => match o.guard with
  | none => e8o P tt fr h o fun out T W => u4u P tt ops r (e4c fr o.dst out) (d7s h W) ((ids T, ids W) :: lg) K
  | some (j, want) => Opt (w4w ops j) fun t => Opt (fr.get t) fun g => match g with
   | .pv (.bool b) => (b = want → e8o P tt ((t, .pv (.bool want)) :: fr) h o fun out T W => u4u P tt ops r (e4c ((t, .pv (.bool want)) :: fr) o.dst out) (d7s h W) ((ids T, ids W) :: lg) K) ∧
     (b = (!want) → u4u P tt ops r (e4c ((t, .pv (.bool (!want))) :: fr) o.dst (.pv undef)) h (([], []) :: lg) K)
   | .pv (.tuple _) => u4u P tt ops r (e4c fr o.dst (.pv undef)) h (([], []) :: lg) K
   | _ => False
structure At (P : Program) (ops : Array Oper) (fr : FF) (h : Hp) (i : Nat) (r : OR) : Prop where
 op : OpT P ops i r
 ins : ∀ t av, (t, av) ∈ r.ins → fr t = some av
 slots : ∀ t av, (t, av) ∈ r.ins → ∃ o, ops[i]? = some o ∧ ((∃ x ∈ o.op.operands, x = .tmp t) ∨ ∃ j w, o.guard = some (j, w) ∧ w4w ops j = some t)
 ent : InH h r.T
 sub : Sub r.W r.T
inductive Tr (P : Program) (ops : Array Oper) : Nat → FF → Hp → List OR → FF → Hp → Prop
 | nil {i : Nat} {f : FF} {h : Hp} : Tr P ops i f h [] f h
 | cons {i : Nat} {f f' : FF} {h h' : Hp} {r : OR} {rs : List OR} (ha : At P ops f h i r) (ht : Tr P ops (i + 1) (c0r f (w4w ops i) r.out) (d7s h r.W) rs f' h') : Tr P ops i f h (r :: rs) f' h'
variable {X : Cx} {w : World} {a : Act} {fr : Fr}
theorem c1a {ins : List (Nat × AV)} (hin : ∀ t av, (t, av) ∈ ins → VR X w av (a.tmps.getD t undef)) {x : Operand} (hx : ∀ t, x = .tmp t → ∀ av, fr.get t = some av → (t, av) ∈ ins) :
  ∀ av, evO fr x = some av → VR X w av (a.eval x) := by
 intro av h
 cases x with
 | tmp t => exact hin t av (hx t rfl av h)
 | const v => cases h; exact .pv v
 | global g => cases h
 | func f => cases h; exact .fn [] [] rfl rfl (fun i y u h => by simp at h) (fun i y u h => by simp at h)
def c3p (fr : Fr) (o : Oper) : List (Nat × AV) := o.op.operands.toList.filterMap fun x => match x with
 | .tmp t => (fr.get t).map fun av => (t, av)
 | _ => none
theorem a1s : (t, av) ∈ c3p fr o ↔ (∃ x ∈ o.op.operands, x = .tmp t) ∧ fr.get t = some av := by
 simp only [c3p, List.mem_filterMap, Array.mem_toList_iff]
 constructor
 ·rintro ⟨x, hx, h⟩
  cases x with
  | tmp s =>
   simp only [Option.map_eq_some_iff] at h
   obtain ⟨b, h1, h2⟩ := h
   cases h2
   exact ⟨⟨_, hx, rfl⟩, h1⟩
  | _ => cases h
 ·rintro ⟨⟨x, hx, rfl⟩, h⟩
  exact ⟨_, hx, by simp [h]⟩
theorem c8r {i : Nat} (ho : ops[i]? = some o) (hg : o.guard = none) (h : OpS P o (evO fr) T W out) : OpT P ops i ⟨c3p fr o, T, W, out⟩ := by
 intro X B hF a w Q K hS hin hT hK
 have hd : w4w ops i = o.dst := by simp [w4w, ho]
 rw [hd] at hK
 unfold wpOp
 rw [ho]
 simp only [Region.wanted, hg, if_true]
 refine .inl (h X B hF a w Q K hS (fun x hx => c1a hin (fun t ht av hav => a1s.2 ⟨⟨x, hx, ht⟩, hav⟩)) hT hK)
variable {ops : Array Oper} {j t : Nat}
theorem b5a {b : Bool} (hj : w4w ops j = some t) (hv : VR X w (.pv (.bool b)) (a.tmps.getD t undef)) : yielded ops a.tmps j = some b := by
 have h1 := hv.pv_inv
 simp only [w4w] at hj
 rw [Array.getD_eq_getD_getElem?] at h1
 unfold yielded
 rw [hj]
 cases h2 : a.tmps[t]? with
 | none => rw [h2] at h1; simp [undef] at h1
 | some v => rw [h2] at h1; simp at h1; simp [h2, h1]
theorem d1s {u : Array Value} (hj : w4w ops j = some t) (hv : VR X w (.pv (.tuple u)) (a.tmps.getD t undef)) : yielded ops a.tmps j = none := by
 have h1 := hv.pv_inv
 simp only [w4w] at hj
 rw [Array.getD_eq_getD_getElem?] at h1
 unfold yielded
 rw [hj]
 cases h2 : a.tmps[t]? with
 | none => simp [h2]
 | some v => rw [h2] at h1; simp at h1; simp [h2, h1]
theorem d8g (ho : ops[i]? = some o) (hg : o.guard = some (j, want)) (hj : w4w ops j = some t) (h : OpS P o (evO fr) T W out) : OpT P ops i ⟨(t, .pv (.bool want)) :: c3p fr o, T, W, out⟩ := by
 intro X B hF a w Q K hS hin hT hK
 have hd : w4w ops i = o.dst := by simp [w4w, ho]
 rw [hd] at hK
 unfold wpOp
 rw [ho]
 have hy := b5a hj (hin t _ (List.mem_cons_self ..))
 simp only [Region.wanted, hg, hy, beq_self_eq_true, if_true]
 refine .inl (h X B hF a w Q K hS (fun x hx => c1a (fun s av hm => hin s av (List.mem_cons_of_mem _ hm)) (fun t ht av hav => a1s.2 ⟨⟨x, hx, ht⟩, hav⟩)) hT hK)
theorem d3n (ho : ops[i]? = some o) (hg : o.guard = some (j, want)) (hj : w4w ops j = some t) (h : g = .pv (.bool (!want)) ∨ ∃ u, g = .pv (.tuple u)) : OpT P ops i ⟨[(t, g)], [], [], .pv undef⟩ := by
 intro X B hF a w Q K hS hin hT hK
 have hd : w4w ops i = o.dst := by simp [w4w, ho]
 rw [hd] at hK
 unfold wpOp
 rw [ho]
 have hin0 := hin t _ (List.mem_singleton.2 rfl)
 have hw : Region.wanted o (yielded ops a.tmps) = false := by
  rcases h with rfl | ⟨u, rfl⟩
  ·have hy := b5a hj hin0
   simp only [Region.wanted, hg, hy]
   cases want <;> rfl
  ·have hy := d1s hj hin0
   simp only [Region.wanted, hg, hy]
   rfl
 simp only [hw, Bool.false_eq_true, if_false]
 exact hK X w undef (Cx.le.refl X) hS (fun _ _ => rfl) (.pv undef)
theorem d3o {g : AV} (h : fr.get t = some g) : Fr.get ((t, g) :: fr) = fr.get := by
 funext k
 simp only [Fr.get_cons]
 split
 ·rename_i e; rw [← e, h]
 ·rfl
theorem a4n {tt : TT} (htt : a1z P tt) {ops : Array Oper} {K : Fr → Hp → Log → Prop} : ∀ (l : List Oper) (i : Nat) (fr : Fr) (h : Hp) (lg : Log) (tl : List Oper), ops.toList.drop i = l ++ tl → u4u P tt ops l fr h lg K →
  ∃ rs fr' h', Tr P ops i fr.get h rs (Fr.get fr') h' ∧ rs.length = l.length ∧ K fr' h' ((rs.map fun r => (ids r.T, ids r.W)).reverse ++ lg)
 | [], i, fr, h, lg, tl, hl, hr => ⟨[], fr, h, .nil, rfl, by simpa [u4u] using hr⟩
 | o :: r, i, fr, h, lg, tl, hl, hr => by
  have ho : ops[i]? = some o := by
   have : ops.toList[i]? = some o := by
    have h1 := congrArg (fun l => l[0]?) hl
    simpa [List.getElem?_drop] using h1
   simpa using this
  have hd : w4w ops i = o.dst := by simp [w4w, ho]
  have hl' : ops.toList.drop (i + 1) = r ++ tl := by
   have := congrArg (fun l => l.drop 1) hl
   simpa [List.drop_drop] using this
  unfold u4u at hr
  split at hr
  ·rename_i hg
   obtain ⟨out, T, W, h1, h2, h3, h4⟩ := b4z htt hr
   obtain ⟨rs, fr', h', k1, k2, k3⟩ := a4n htt r (i + 1) _ _ _ tl hl' h4
   refine ⟨⟨c3p fr o, T, W, out⟩ :: rs, fr', h', .cons ⟨c8r ho hg h1, fun t av hm => (a1s.1 hm).2, fun t av hm => ⟨o, ho, .inl (a1s.1 hm).1⟩, h2, h3⟩ ?_, by simp [k2], by simpa using k3⟩
   rw [hd, ← a6v]
   exact k1
  ·rename_i j want hg
   obtain ⟨t, hj, hr⟩ := hr.ex
   obtain ⟨g, hgt, hr⟩ := hr.ex
   have sl : ∀ s av, (s, av) = (t, g) → ∃ o, ops[i]? = some o ∧ ((∃ x ∈ o.op.operands, x = .tmp s) ∨ ∃ j w, o.guard = some (j, w) ∧ w4w ops j = some s) := fun s av e => by
    cases e; exact ⟨o, ho, .inr ⟨j, want, hg, hj⟩⟩
   split at hr
   ·rename_i b
    by_cases hb : b = want
    ·subst hb
     have hs := hr.1 rfl
     obtain ⟨out, T, W, h1, h2, h3, h4⟩ := b4z htt hs
     obtain ⟨rs, fr', h', k1, k2, k3⟩ := a4n htt r (i + 1) _ _ _ tl hl' h4
     have hsame := d3o hgt
     refine ⟨⟨(t, .pv (.bool b)) :: c3p ((t, .pv (.bool b)) :: fr) o, T, W, out⟩ :: rs, fr', h', .cons ⟨d8g ho hg hj h1, fun s av hm => ?_, fun s av hm => ?_, h2, h3⟩ ?_, by simp [k2], by simpa using k3⟩
     ·rw [List.mem_cons] at hm
      rcases hm with e | hm
      ·cases e; exact hgt
      ·have := (a1s.1 hm).2
       rwa [hsame] at this
     ·rw [List.mem_cons] at hm
      rcases hm with e | hm
      ·exact sl s av e
      ·exact ⟨o, ho, .inl (a1s.1 hm).1⟩
     ·rw [hd]
      rw [a6v, hsame] at k1
      exact k1
    ·have hb' : b = !want := by cases b <;> cases want <;> simp_all
     subst hb'
     have hs := hr.2 rfl
     obtain ⟨rs, fr', h', k1, k2, k3⟩ := a4n htt r (i + 1) _ _ _ tl hl' hs
     refine ⟨⟨[(t, .pv (.bool (!want)))], [], [], .pv undef⟩ :: rs, fr', h', .cons ⟨d3n ho hg hj (.inl rfl), fun s av hm => by rw [List.mem_singleton] at hm; cases hm; exact hgt, fun s av hm => by rw [List.mem_singleton] at hm; exact sl s av hm, .nil, .nil⟩ ?_, by simp [k2], by simpa [ids] using k3⟩
     rw [hd]
     rw [a6v, d3o hgt] at k1
     exact k1
   ·rename_i u
    obtain ⟨rs, fr', h', k1, k2, k3⟩ := a4n htt r (i + 1) _ _ _ tl hl' hr
    refine ⟨⟨[(t, .pv (.tuple u))], [], [], .pv undef⟩ :: rs, fr', h', .cons ⟨d3n ho hg hj (.inr ⟨u, rfl⟩), fun s av hm => by rw [List.mem_singleton] at hm; cases hm; exact hgt, fun s av hm => by rw [List.mem_singleton] at hm; exact sl s av hm, .nil, .nil⟩ ?_, by simp [k2], by simpa [ids] using k3⟩
    rw [hd]
    rw [a6v] at k1
    exact k1
   ·exact hr.elim

theorem d8h (tl : List Nat) (hd : ∀ i k, w4w ops i = some k → k < n) (ht : Tr P ops i f h rs f' h') :
  ∀ {X : Cx} {a : Act} {w : World}, SRh X B (hf h) w → FrOK X w n f a →
  (∀ X' w' a', X.le X' → SRh X' B (hf h') w' → FrOK X' w' n f' a' → (∀ b, X.ok2 b → w'.heap[b]? = w.heap[b]?) → a'.defers = a.defers → wpOps P ops Q tl a' w') → wpOps P ops Q (List.range' i rs.length ++ tl) a w := by
 induction ht with
 | nil =>
  intro X a w hS hF hQ
  exact hQ X w a (Cx.le.refl X) hS hF (fun _ _ => rfl) rfl
 | @cons i f f' h h' r rs ha ht ih =>
  intro X a w hS hF hQ
  rw [List.length_cons, List.range'_succ, List.cons_append, wpOps_cons]
  refine ha.op X B (hf h) a w Q _ hS (fun t av hm => ?_) (fun id ge hm => ha.ent _ hm) (fun X' w' v hX hS' hok hv => ?_)
  ·obtain ⟨v, h1, h2⟩ := hF.slot t av (ha.ins t av hm)
   rw [Array.getD_eq_getD_getElem?, h1]
   exact h2
  ·rw [← b4y] at hS'
   refine ih hS' ((hF.mono hX hS.ok12 hok).put _ hv (fun k hk => hd i k hk)) (fun X2 w2 a2 hX2 hS2 hF2 hok2 hd2 => hQ X2 w2 a2 (hX.trans hX2) hS2 hF2 (fun b hb => (hok2 b (hX.ok2 b hb)).trans (hok b hb)) (hd2.trans ?_))
   cases w4w ops i <;> rfl
end
section
variable {P : Program}
instance : Inhabited OR := ⟨⟨[], [], [], .any⟩⟩
def d8i (acc : List Nat) (o : Oper) : Nat := o.after.toList.foldl (fun m e => if Region.binds .any e then m ||| ((1 <<< e.on) ||| acc.getD e.on 0) else m) 0
def d8j : List Oper → List Nat → List Nat
 | [], acc => acc
 | o :: r, acc => d8j r (acc ++ [d8i acc o])
def d1t (ops : Array Oper) (o : Oper) : List Nat := (o.op.operands.toList.filterMap fun x => match x with
 | .tmp t => some t
 | _ => none) ++ (match o.guard with
 | some (j, _) => (w4w ops j).toList
 | none => [])
def f5j (M : List Nat) (i j : Nat) : Bool := if i < j then (M.getD j 0).testBit i else (M.getD i 0).testBit j
def chk (ops : Array Oper) (lg : Log) : Bool :=
  let M := d8j ops.toList []
  (ops.toList.zipIdx.all fun p => p.1.after.toList.all fun e => !Region.binds .any e || decide (e.on < p.2)) &&
  (ops.toList.zipIdx.all fun p => ops.toList.zipIdx.all fun q => p.2 == q.2 || f5j M p.2 q.2 ||
    ((match q.1.dst with
      | none => true
      | some t => !((d1t ops p.1).contains t || p.1.dst == some t)) &&
     ((lg.getD q.2 ([], [])).2.all fun id => !(lg.getD p.2 ([], [])).1.contains id)))
theorem c8s (ho : ops[i]? = some o) (hacc : ∀ k j, (acc.getD k 0).testBit j = true → Reach ops j k) : ∀ j, (d8i acc o).testBit j = true → Reach ops j i := by
 have key : ∀ (l : List Edge) (m : Nat), (∀ e ∈ l, e ∈ o.after) → (∀ j, m.testBit j = true → Reach ops j i) → ∀ j, (l.foldl (fun m e => if Region.binds .any e then m ||| ((1 <<< e.on) ||| acc.getD e.on 0) else m) m).testBit j = true → Reach ops j i := by
  intro l
  induction l with
  | nil => intro m _ hm j hj; exact hm j hj
  | cons e l ih =>
   intro m hl hm j hj
   rw [List.foldl_cons] at hj
   refine ih _ (fun e' he' => hl e' (List.mem_cons_of_mem _ he')) (fun k hk => ?_) j hj
   split at hk
   ·rename_i hb
    rw [Nat.testBit_or, Nat.testBit_or, Bool.or_eq_true, Bool.or_eq_true] at hk
    have hedge : Reach ops e.on i := .edge ho (hl e (List.mem_cons_self ..)) hb
    rcases hk with hk | hk | hk
    ·exact hm k hk
    ·have : e.on = k := by
      rw [Nat.one_shiftLeft, Nat.testBit_two_pow] at hk
      simpa using hk
     rw [← this]; exact hedge
    ·exact (hacc _ k hk).trans hedge
   ·exact hm k hk
 exact key o.after.toList 0 (fun e he => by simpa using he) (fun j hj => by simp at hj)
theorem b5c : ∀ (l : List Oper) (acc : List Nat), ops.toList.drop acc.length = l → (∀ k j, (acc.getD k 0).testBit j = true → Reach ops j k) → ∀ k j, ((d8j l acc).getD k 0).testBit j = true → Reach ops j k
 | [], acc, _, hacc => hacc
 | o :: r, acc, hl, hacc => by
  have ho : ops[acc.length]? = some o := by
   have : ops.toList[acc.length]? = some o := by
    have h1 := congrArg (fun l => l[0]?) hl
    simpa [List.getElem?_drop] using h1
   simpa using this
  refine b5c r (acc ++ [d8i acc o]) ?_ (fun k j hk => ?_)
  ·have := congrArg (fun l => l.drop 1) hl
   simpa [List.drop_drop] using this
  ·rw [List.getD_eq_getElem?_getD, List.getElem?_append] at hk
   split at hk
   ·exact hacc k j (by rw [List.getD_eq_getElem?_getD]; exact hk)
   ·rename_i h1
    by_cases h2 : k = acc.length
    ·subst h2
     simp at hk
     exact c8s ho hacc j hk
    ·rw [List.getElem?_eq_none (by simp; omega)] at hk
     simp at hk
theorem e8p (hi : i < ops.size) : FV ops rs f0 (fun j => decide (j < i + 1)) = c0r (FV ops rs f0 (fun j => decide (j < i))) (w4w ops i) (rs i).out := by
 funext t
 by_cases ht : w4w ops i = some t
 ·rw [ht]
  simp only [c0r, if_true]
  unfold FV
  rw [a8k (j := i) hi (by simp [wrT, ht]) (fun k hk hik => by simp [show ¬ k < i + 1 by omega])]
 ·have hft : c0r (FV ops rs f0 (fun j => decide (j < i))) (w4w ops i) (rs i).out t = FV ops rs f0 (fun j => decide (j < i)) t := by
   cases hd : w4w ops i with
   | none => rfl
   | some k =>
    simp only [c0r]
    rw [if_neg (fun e => ht (by rw [hd, e]))]
  rw [hft]
  refine a4y (fun j hj hw => ?_)
  have : j ≠ i := by
   rintro rfl
   exact ht (by simpa [wrT] using hw)
  by_cases h : j < i
  ·simp [h, show j < i + 1 by omega]
  ·simp [h, show ¬ j < i + 1 by omega]
theorem e8q (hi : i < ops.size) : HV ops rs h0 (fun j => decide (j < i + 1)) = b1s (HV ops rs h0 (fun j => decide (j < i))) (rs i).W := by
 funext id
 by_cases ht : wrI rs i id = true
 ·have h1 : HV ops rs h0 (fun j => decide (j < i + 1)) id = y4y (rs i).W id := by
   unfold HV
   rw [a8k (j := i) hi (by simp [ht]) (fun k hk hik => by simp [show ¬ k < i + 1 by omega])]
  rw [h1]
  unfold b1s
  cases hw : y4y (rs i).W id with
  | none => simp [wrI, hw] at ht
  | some ge => rfl
 ·have h1 : y4y (rs i).W id = none := by
   cases hw : y4y (rs i).W id with
   | none => rfl
   | some ge => simp [wrI, hw] at ht
  simp only [b1s, h1]
  refine a4z (fun j hj hw => ?_)
  have : j ≠ i := by
   rintro rfl
   exact ht hw
  by_cases h : j < i
  ·simp [h, show j < i + 1 by omega]
  ·simp [h, show ¬ j < i + 1 by omega]
variable {ops : Array Oper} {L : List OR} {f f' : FF} {h h' : Hp}
theorem d8k {f0 : FF} {h0 : Hp} {i : Nat} {tail : List OR} (ht : Tr P ops i f h tail f' h') : (∀ k, tail[k]? = L[i + k]?) → i + tail.length = ops.size → f = FV ops (fun j => L.getD j default) f0 (fun j => decide (j < i)) → hf h = HV ops (fun j => L.getD j default) (hf h0) (fun j => decide (j < i)) →
  (∀ k, i ≤ k → k < ops.size → ∃ fk hk, At P ops fk hk k (L.getD k default) ∧ fk = FV ops (fun j => L.getD j default) f0 (fun j => decide (j < k)) ∧ hf hk = HV ops (fun j => L.getD j default) (hf h0) (fun j => decide (j < k))) ∧
  f' = FV ops (fun j => L.getD j default) f0 (fun j => decide (j < ops.size)) ∧ hf h' = HV ops (fun j => L.getD j default) (hf h0) (fun j => decide (j < ops.size)) := by
 induction ht with
 | @nil i f h =>
  intro _ hs hf' hh'
  have hs' : i = ops.size := by simpa using hs
  subst hs'
  exact ⟨fun k h1 h2 => by omega, hf', hh'⟩
 | @cons i f f' h h' r rs ha ht ih =>
  intro hL hs hf' hh'
  have hi : i < ops.size := by simp at hs; omega
  have hr : L.getD i default = r := by
   have := hL 0
   simp at this
   rw [List.getD_eq_getElem?_getD, ← this]; rfl
  have e1 : c0r f (w4w ops i) r.out = FV ops (fun j => L.getD j default) f0 (fun j => decide (j < i + 1)) := by
   rw [e8p hi, ← hf', hr]
  have e2 : hf (d7s h r.W) = HV ops (fun j => L.getD j default) (hf h0) (fun j => decide (j < i + 1)) := by
   rw [e8q hi, ← hh', hr, b4y]
  obtain ⟨k1, k2, k3⟩ := ih (fun k => by
   have := hL (k + 1)
   rw [List.getElem?_cons_succ] at this
   rw [this]; congr 1; omega) (by simp at hs; omega) e1 e2
  refine ⟨fun k h1 h2 => ?_, k2, k3⟩
  by_cases hk : k = i
  ·subst hk
   exact ⟨f, h, by rw [hr]; exact ha, hf', hh'⟩
  ·exact k1 k (by omega) h2
theorem d8l (hlg : ∀ k, k < ops.size → lg.getD k ([], []) = (ids (rs k).T, ids (rs k).W)) (all : ∀ i, i < ops.size → (∀ t av, (t, av) ∈ (rs i).ins → ∃ o, ops[i]? = some o ∧ ((∃ x ∈ o.op.operands, x = .tmp t) ∨ ∃ j w, o.guard = some (j, w) ∧ w4w ops j = some t)) ∧ Sub (rs i).W (rs i).T) (hc : chk ops lg = true) : RegO ops rs := by
 unfold chk at hc
 simp only [Bool.and_eq_true, List.all_eq_true] at hc
 obtain ⟨c1, c2⟩ := hc
 have mem : ∀ i o, ops[i]? = some o → (o, i) ∈ ops.toList.zipIdx := fun i o ho => by
  rw [List.mem_zipIdx_iff_getElem?]; simpa using ho
 have hord : ∀ i j, f5j (d8j ops.toList []) i j = true → Ord ops i j := fun i j hb => by
  have ms := b5c (ops := ops) ops.toList [] (by simp) (fun k j hk => by simp at hk)
  unfold f5j at hb
  split at hb
  ·rename_i hlt
   exact ⟨fun _ => ms _ _ hb, fun hh => by omega⟩
  ·rename_i hlt
   exact ⟨fun hh => by omega, fun _ => ms _ _ hb⟩
 have pair : ∀ i j oi oj, ops[i]? = some oi → ops[j]? = some oj → i ≠ j → Ord ops i j ∨ ((∀ t, oj.dst = some t → t ∉ d1t ops oi ∧ oi.dst ≠ some t) ∧ ∀ id, id ∈ ids (rs j).W → id ∉ ids (rs i).T) := fun i j oi oj hi hj hne => by
  have := c2 _ (mem i oi hi) _ (mem j oj hj)
  simp only [Bool.or_eq_true, Bool.and_eq_true, beq_iff_eq] at this
  rcases this with (h1 | h1) | ⟨h1, h2⟩
  ·exact absurd h1 hne
  ·exact .inl (hord i j h1)
  ·refine .inr ⟨fun t ht => ?_, fun id hid => ?_⟩
   ·rw [ht] at h1
    simp only [Bool.not_eq_true', Bool.or_eq_false_iff, beq_eq_false_iff_ne, ne_eq] at h1
    exact ⟨fun hm => by
     have := h1.1
     rw [List.contains_eq_mem, decide_eq_false_iff_not] at this
     exact this hm, h1.2⟩
   ·rw [List.all_eq_true, hlg j (Array.getElem?_eq_some_iff.1 hj).1, hlg i (Array.getElem?_eq_some_iff.1 hi).1] at h2
    have h3 := h2 id hid
    rw [Bool.not_eq_true', List.contains_eq_mem, decide_eq_false_iff_not] at h3
    exact h3
 have getO : ∀ i, i < ops.size → ∃ o, ops[i]? = some o := fun i hi => ⟨ops[i], Array.getElem?_eq_getElem hi⟩
 have dOf : ∀ i o, ops[i]? = some o → w4w ops i = o.dst := fun i o ho => by simp [w4w, ho]
 refine ⟨?_, ?_, ?_, ?_⟩
 ·intro i o e ho he hb
  have := c1 _ (mem i o ho)
  have h2 := this e (by simpa using he)
  simpa [hb] using h2
 ·intro i id hi hw
  have ha := all i hi
  unfold wrI at hw
  cases hf : y4y (rs i).W id with
  | none => rw [hf] at hw; cases hw
  | some ge =>
   have : (id, ge) ∈ (rs i).W := by
    clear hw ha
    generalize (rs i).W = W at hf
    induction W with
    | nil => cases hf
    | cons p W ih =>
     obtain ⟨a, b⟩ := p
     simp only [u8u] at hf
     split at hf
     ·rename_i e; subst e; cases hf; exact List.mem_cons_self ..
     ·exact List.mem_cons_of_mem _ (ih hf)
   exact ha.2 _ this
 ·intro i j t hi hj hne h1 h2
  obtain ⟨oi, ho⟩ := getO i hi
  obtain ⟨oj, hoj⟩ := getO j hj
  rcases pair i j oi oj ho hoj hne with h3 | ⟨h3, _⟩
  ·exact h3
  ·exfalso
   have h4 := h3 t (by rw [← dOf j oj hoj]; exact h2)
   rcases h1 with ⟨av, hm⟩ | h1
   ·have ha := all i hi
    obtain ⟨o, ho', hs⟩ := ha.1 t av hm
    rw [ho] at ho'
    cases ho'
    refine h4.1 ?_
    unfold d1t
    rw [List.mem_append]
    rcases hs with ⟨x, hx, rfl⟩ | ⟨k, w, hg, hd⟩
    ·left
     rw [List.mem_filterMap]
     exact ⟨_, by simpa using hx, rfl⟩
    ·right
     rw [hg]
     show t ∈ (w4w ops k).toList
     rw [hd]; simp
   ·exact h4.2 (by rw [← dOf i oi ho]; exact h1)
 ·intro i j id hi hj hne h1 h2
  obtain ⟨oi, ho⟩ := getO i hi
  obtain ⟨oj, hoj⟩ := getO j hj
  rcases pair i j oi oj ho hoj hne with h3 | ⟨_, h3⟩
  ·exact h3
  ·exfalso
   obtain ⟨ge, hm⟩ := h1
   have hw : id ∈ ids (rs j).W := by
    unfold wrI at h2
    generalize (rs j).W = W at h2
    clear h3
    induction W with
    | nil => cases h2
    | cons p W ih =>
     obtain ⟨a, b⟩ := p
     simp only [u8u] at h2
     split at h2
     ·rename_i e; subst e; simp [ids]
     ·have := ih h2
      simp only [ids, List.map_cons, List.mem_cons] at this ⊢
      exact .inr this
   exact h3 id hw (List.mem_map.2 ⟨_, hm, rfl⟩)
theorem d8m (ht : Tr P ops 0 f h L f' h') (hlen : L.length = ops.size) (hc : chk ops (L.map fun r => (ids r.T, ids r.W)) = true) :
  RegOK ops (fun j => L.getD j default) f (hf h) ∧ (∀ i, i < ops.size → OpT P ops i (L.getD i default)) ∧ f' = FV ops (fun j => L.getD j default) f (fun _ => true) ∧ hf h' = HV ops (fun j => L.getD j default) (hf h) (fun _ => true) := by
 have e0 : FV ops (fun j => L.getD j default) f (fun j => decide (j < 0)) = f := by
  funext t
  unfold FV
  rw [a2d (fun j _ => by simp)]
 have e1 : HV ops (fun j => L.getD j default) (hf h) (fun j => decide (j < 0)) = hf h := by
  funext t
  unfold HV
  rw [a2d (fun j _ => by simp)]
 obtain ⟨k1, k2, k3⟩ := d8k (L := L) (f0 := f) (h0 := h) ht (fun k => by rw [Nat.zero_add]) (by rw [Nat.zero_add]; exact hlen) e0.symm e1.symm
 have all : ∀ i, i < ops.size → ∃ fk hk, At P ops fk hk i (L.getD i default) ∧ fk = FV ops (fun j => L.getD j default) f (fun j => decide (j < i)) ∧ hf hk = HV ops (fun j => L.getD j default) (hf h) (fun j => decide (j < i)) := fun i hi => k1 i (Nat.zero_le _) hi
 have lgd : ∀ k, k < ops.size → (L.map fun r => (ids r.T, ids r.W)).getD k ([], []) = (ids (L.getD k default).T, ids (L.getD k default).W) := fun k _ => by
  rw [List.getD_eq_getElem?_getD, List.getElem?_map, List.getD_eq_getElem?_getD]
  cases L[k]? <;> rfl
 have ho := d8l (rs := fun j => L.getD j default) lgd (fun i hi => let ⟨_, _, h, _⟩ := all i hi; ⟨h.slots, h.sub⟩) hc
 refine ⟨⟨ho, ?_, ?_⟩, fun i hi => ?_, ?_, ?_⟩
 ·intro i t av hi hm
  obtain ⟨fk, hk, ha, e2, e3⟩ := all i hi
  rw [← e2]; exact ha.ins t av hm
 ·intro i id ge hi hm
  obtain ⟨fk, hk, ha, e2, e3⟩ := all i hi
  rw [← e3]; exact ha.ent _ hm
 ·obtain ⟨fk, hk, ha, _⟩ := all i hi
  exact ha.op
 ·rw [k2]
  funext t
  exact a4y (fun j hj _ => by simp [hj])
 ·rw [k3]
  funext t
  exact a4z (fun j hj _ => by simp [hj])
end
section
variable {P : Program}

def Ex (P : Program) (n : Nat) (c : Code) (fr : Fr) (h : Hp) (Q : Exit → Fr → Hp → Prop) : Prop :=
 ∀ (X : Cx) (B : Base) (a : Act) (w : World), SRh X B (hf h) w → FrOK X w n fr.get a → a.defers = [] →
  c.wp P (fun e a' w' => ∃ fr' h' X', Q e fr' h' ∧ X.le X' ∧ SRh X' B (hf h') w' ∧ FrOK X' w' n (Fr.get fr') a' ∧ a'.defers = [] ∧ ∀ b, X.ok2 b → w'.heap[b]? = w.heap[b]?) a w
def c1b (K : Fr → Hp → Prop) (Q : Exit → Fr → Hp → Prop) : Exit → Fr → Hp → Prop
 | .normal, fr, h => K fr h
 | e, fr, h => Q e fr h
variable {n : Nat} {fr : Fr} {h : Hp} {Q : Exit → Fr → Hp → Prop}
theorem Ex.mono (hx : Ex P n c fr h Q) (hq : ∀ e fr h, Q e fr h → Q' e fr h) : Ex P n c fr h Q' := fun X B a w hS hF hd =>
 wp_mono (hx X B a w hS hF hd) fun e a' w' ⟨fr', h', X', h1, h2⟩ => ⟨fr', h', X', hq _ _ _ h1, h2⟩

theorem e4d {X : Cx} {B : Base} {w : World} {c d : Code} {a : Act} (K : Fr → Hp → Prop)
  (h1 : c.wp P (fun e a' w' => ∃ fr' h' X', c1b K Q e fr' h' ∧ X.le X' ∧ SRh X' B (hf h') w' ∧ FrOK X' w' n (Fr.get fr') a' ∧ a'.defers = [] ∧ ∀ b, X.ok2 b → w'.heap[b]? = w.heap[b]?) a w)
  (h2 : ∀ fr h, K fr h → Ex P n d fr h Q) :
  c.wp P (Exit.then (d.wp P (fun e a' w' => ∃ fr' h' X', Q e fr' h' ∧ X.le X' ∧ SRh X' B (hf h') w' ∧ FrOK X' w' n (Fr.get fr') a' ∧ a'.defers = [] ∧ ∀ b, X.ok2 b → w'.heap[b]? = w.heap[b]?)) (fun e a' w' => ∃ fr' h' X', Q e fr' h' ∧ X.le X' ∧ SRh X' B (hf h') w' ∧ FrOK X' w' n (Fr.get fr') a' ∧ a'.defers = [] ∧ ∀ b, X.ok2 b → w'.heap[b]? = w.heap[b]?)) a w := by
 refine wp_mono h1 fun e a' w' hh => ?_
 obtain ⟨fr', h', X', k1, k2, k3, k4, k5, k6⟩ := hh
 cases e with
 | normal =>
  refine wp_mono (h2 fr' h' k1 X' B a' w' k3 k4 k5) fun e a2 w2 hh => ?_
  obtain ⟨fr2, h2', X2, g1, g2, g3, g4, g5, g6⟩ := hh
  exact ⟨fr2, h2', X2, g1, k2.trans g2, g3, g4, g5, fun b hb => (g6 b (k2.ok2 b hb)).trans (k6 b hb)⟩
 | exit id => exact ⟨fr', h', X', k1, k2, k3, k4, k5, k6⟩
 | goto l => exact ⟨fr', h', X', k1, k2, k3, k4, k5, k6⟩
 | ret => exact ⟨fr', h', X', k1, k2, k3, k4, k5, k6⟩
 | panic ch => exact ⟨fr', h', X', k1, k2, k3, k4, k5, k6⟩
 | outgrown => exact ⟨fr', h', X', k1, k2, k3, k4, k5, k6⟩
theorem c4t (K : Fr → Hp → Prop) (h1 : Ex P n c fr h (c1b K Q)) (h2 : ∀ fr h, K fr h → Ex P n d fr h Q) : Ex P n (.seq c d) fr h Q := fun X B a w hS hF hd => by
 refine wp_seq ?_
 exact e4d K (h1 X B a w hS hF hd) h2

theorem a5b (h1 : ∀ K : Fr → Hp → Prop, (∀ fr h, Ex P n d fr h Q → K fr h) → Ex P n c fr h (c1b K Q)) : Ex P n (.seq c d) fr h Q :=
 c4t (fun fr h => Ex P n d fr h Q) (h1 _ fun _ _ h => h) (fun _ _ h => h)
theorem b5d (hq : Q .normal fr h) : Ex P n .skip fr h Q := fun X B a w hS hF hd => wp_skip ⟨fr, h, X, hq, Cx.le.refl X, hS, hF, hd, fun _ _ => rfl⟩
variable {id : Nat}
theorem b1w (hq : Q (.exit id) fr h) : Ex P n (.exit id) fr h Q := fun X B a w hS hF hd => wp_exit ⟨fr, h, X, hq, Cx.le.refl X, hS, hF, hd, fun _ _ => rfl⟩
theorem b1a (hq : Q .ret fr h) : Ex P n .ret fr h Q := fun X B a w hS hF hd => wp_ret ⟨fr, h, X, hq, Cx.le.refl X, hS, hF, hd, fun _ _ => rfl⟩
theorem a0f (hc : evO fr c = some (.pv (.bool t))) (h1 : t = true → Ex P n x fr h Q) (h2 : t = false → Ex P n y fr h Q) : Ex P n (.cond c x y) fr h Q := fun X B a w hS hF hd => by
 have hv : VR X w (.pv (.bool t)) (a.eval c) := c1a (ins := match c with | .tmp s => [(s, .pv (.bool t))] | _ => []) (fun s av hm => by
  cases c with
  | tmp s' =>
   simp only [List.mem_singleton, Prod.mk.injEq] at hm
   obtain ⟨rfl, rfl⟩ := hm
   obtain ⟨v, k1, k2⟩ := hF.slot s _ hc
   rw [Array.getD_eq_getD_getElem?, k1]
   exact k2
  | _ => simp at hm) (fun s e av hav => by
  subst e
  simp only [evO] at hc
  rw [hc] at hav
  cases hav
  exact List.mem_singleton.2 rfl) _ hc
 have e := hv.pv_inv
 refine wp_cond_split e (fun ht => h1 ht X B a w hS hF hd) (fun ht => h2 ht X B a w hS hF hd)
def e7b (id : Nat) (Q : Exit → Fr → Hp → Prop) : Exit → Fr → Hp → Prop
 | .exit i, fr, h => if i = id then Q .normal fr h else Q (.exit i) fr h
 | e, fr, h => Q e fr h
theorem a8n (hc : Ex P n c fr h (e7b id Q)) : Ex P n (.block id c) fr h Q := fun X B a w hS hF hd => by
 refine wp_block (wp_mono (hc X B a w hS hF hd) fun e a' w' hh => ?_)
 obtain ⟨fr', h', X', k1, k2⟩ := hh
 cases e with
 | exit i =>
  simp only [Exit.inBlock]
  simp only [e7b] at k1
  split
  ·rename_i e; rw [if_pos e] at k1; exact ⟨fr', h', X', k1, k2⟩
  ·rename_i e; rw [if_neg e] at k1; exact ⟨fr', h', X', k1, k2⟩
 | normal => exact ⟨fr', h', X', k1, k2⟩
 | goto l => exact ⟨fr', h', X', k1, k2⟩
 | ret => exact ⟨fr', h', X', k1, k2⟩
 | panic ch => exact ⟨fr', h', X', k1, k2⟩
 | outgrown => exact ⟨fr', h', X', k1, k2⟩
variable {tt : TT}
theorem b6q (htt : a1z P tt) (hd : (ops.toList.all fun o => match o.dst with | some d => decide (d < n) | none => true) = true) (hr : u4u P tt ops ops.toList fr h [] fun fr' h' _ => Q .normal fr' h') : Ex P n (.region id ops false) fr h Q := fun X B a w hS hF hdf => by
 have hdst : ∀ i k, w4w ops i = some k → k < n := fun i k hk => by
  simp only [w4w] at hk
  cases ho : ops[i]? with
  | none => rw [ho] at hk; cases hk
  | some o =>
   rw [ho] at hk
   rw [List.all_eq_true] at hd
   have := hd o (by rw [Array.mem_toList_iff]; exact Array.mem_of_getElem? ho)
   simp only [Option.bind_some] at hk
   rw [hk] at this
   simpa using this
 obtain ⟨rs, fr', h', k1, k2, k3⟩ := a4n htt ops.toList 0 fr h [] [] (by simp) hr
 refine wp_region ?_
 rw [List.range_eq_range', show ops.size = rs.length from by rw [k2]; simp, ← List.append_nil (List.range' 0 rs.length)]
 exact d8h [] hdst k1 hS hF (fun X' w' a' g1 g2 g3 g4 g5 => ⟨fr', h', X', k3, g1, g2, g3, g5.trans hdf, g4⟩)
theorem b6r (htt : a1z P tt) (hm : P.follows .mixedOrders = true) (hd : (ops.toList.all fun o => match o.dst with | some d => decide (d < n) | none => true) = true) (hr : u4u P tt ops ops.toList fr h [] fun fr' h' lg => chk ops lg.reverse = true ∧ Q .normal fr' h') : Ex P n (.region id ops true) fr h Q := fun X B a w hS hF hdf => by
 have hdst : ∀ i k, w4w ops i = some k → k < n := fun i k hk => by
  simp only [w4w] at hk
  cases ho : ops[i]? with
  | none => rw [ho] at hk; cases hk
  | some o =>
   rw [ho] at hk
   rw [List.all_eq_true] at hd
   have := hd o (by rw [Array.mem_toList_iff]; exact Array.mem_of_getElem? ho)
   simp only [Option.bind_some] at hk
   rw [hk] at this
   simpa using this
 obtain ⟨rs, fr', h', k1, k2, k3, k4⟩ := a4n htt ops.toList 0 fr h [] [] (by simp) hr
 rw [List.append_nil, List.reverse_reverse] at k3
 obtain ⟨g1, g2, g3, g4⟩ := d8m k1 (by rw [k2]; simp) k3
 refine c8l hm g1 g2 hdst hS hF (fun X' w' a' q1 q5 q2 q3 q4 => ⟨fr', h', X', k4, q1, by rw [g4]; exact q2, by rw [g3]; exact q3, q4.trans hdf, q5⟩)

def Cov (f F : Fr) : Prop := ∀ t av, f.get t = some av → F.get t = some av
theorem Cov.refl (f : Fr) : Cov f f := fun _ _ h => h
theorem Cov.nil : Cov [] F := fun t av h => by cases h
theorem Cov.cons (h : F.get t = some av) (k : Cov f F) : Cov ((t, av) :: f) F := fun s a hs => by
 simp only [Fr.get_cons] at hs
 split at hs
 ·rename_i e; subst e; cases hs; exact h
 ·exact k s a hs

structure HW (h h' : Hp) : Prop where
 ent : ∀ id ge, y4y h' id = some ge → ∃ e, y4y h id = some (ge.1, e) ∧ (ge.2 = e ∨ ge.2 = .dead)
 dom : ∀ id, y4y h' id = none → y4y h id = none
theorem HW.refl (h : Hp) : HW h h := ⟨fun id ge hg => ⟨ge.2, hg, .inl rfl⟩, fun _ h => h⟩

inductive HE (h : Hp) : Hp → Prop
 | nil : HE h []
 | same {id : Nat} {ge : Nat × Ent} {r : Hp} (he : y4y h id = some ge) (t : HE h r) : HE h ((id, ge) :: r)
 | kill {id g : Nat} {e : Ent} {r : Hp} (he : y4y h id = some (g, e)) (t : HE h r) : HE h ((id, (g, .dead)) :: r)
def f4v (h h' : Hp) : Bool := h.all fun p => h'.any fun q => Nat.beq p.1 q.1
theorem HE.ent (k : HE h h') : ∀ id ge, y4y h' id = some ge → ∃ e, y4y h id = some (ge.1, e) ∧ (ge.2 = e ∨ ge.2 = .dead) := by
 induction k with
 | nil => intro id ge hg; cases hg
 | same he t ih =>
  intro i ge' hg
  rw [u8u] at hg
  split at hg
  ·rename_i e; subst e; cases hg; exact ⟨_, he, .inl rfl⟩
  ·exact ih i ge' hg
 | kill he t ih =>
  intro i ge' hg
  rw [u8u] at hg
  split at hg
  ·rename_i e; subst e; cases hg; exact ⟨_, he, .inr rfl⟩
  ·exact ih i ge' hg
theorem d8n : y4y h id = some ge → ∃ p ∈ h, p.1 = id := by
 induction h with
 | nil => intro hg; cases hg
 | cons p r ih =>
  intro hg
  obtain ⟨i, g⟩ := p
  rw [u8u] at hg
  split at hg
  ·exact ⟨_, List.mem_cons_self .., ‹_›⟩
  ·obtain ⟨q, h1, h2⟩ := ih hg
   exact ⟨q, List.mem_cons_of_mem _ h1, h2⟩
theorem b8i (hm : ∃ p ∈ h, p.1 = id) : ∃ ge, y4y h id = some ge := by
 induction h with
 | nil => obtain ⟨p, hp, _⟩ := hm; cases hp
 | cons p r ih =>
  obtain ⟨i, g⟩ := p
  rw [u8u]
  split
  ·exact ⟨_, rfl⟩
  ·rename_i hne
   obtain ⟨q, hq, e⟩ := hm
   rw [List.mem_cons] at hq
   rcases hq with rfl | hq
   ·exact absurd e hne
   ·exact ih ⟨q, hq, e⟩
theorem HE.hw (k : HE h h') (hd : f4v h h' = true) : HW h h' := by
 refine ⟨k.ent, fun id hn => ?_⟩
 cases hg : y4y h id with
 | none => rfl
 | some ge =>
  obtain ⟨p, h1, h2⟩ := d8n hg
  unfold f4v at hd
  rw [List.all_eq_true] at hd
  have h3 := hd p h1
  rw [List.any_eq_true] at h3
  obtain ⟨q, h4, h5⟩ := h3
  obtain ⟨ge', h6⟩ := b8i (h := h') (id := id) ⟨q, h4, by rw [← Nat.eq_of_beq_eq_true h5, h2]⟩
  rw [hn] at h6
  cases h6
theorem SRh.weak (H : SRh X B (hf h) w) (k : HW h h') : SRh X B (hf h') w := by
 obtain ⟨F, H⟩ := H
 have get : ∀ id ge, hf h' id = some ge → ∃ e, hf h id = some (ge.1, e) ∧ (ge.2 = e ∨ ge.2 = .dead) := fun id ge hg => k.ent id ge hg
 refine ⟨F, { H with ent := fun id g e he => ?_, blk := fun id ge b he hb => ?_, sep := fun id id' ge ge' b he he' hb hb' => ?_, ok2 := fun b hb => ⟨(H.ok2 b hb).1, fun id ge he hm => ?_⟩, own := fun id ge b he hb => ?_, hist := fun id g hg => ?_ }⟩
 ·obtain ⟨e', h1, h2⟩ := get id _ he
  rcases h2 with h2 | h2
  ·simp only at h2; subst h2; exact H.ent id g _ h1
  ·simp only at h2; subst h2; trivial
 ·obtain ⟨e', h1, _⟩ := get id _ he
  exact H.blk id _ b h1 hb
 ·obtain ⟨e1, h1, _⟩ := get id _ he
  obtain ⟨e2, h2, _⟩ := get id' _ he'
  exact H.sep id id' _ _ b h1 h2 hb hb'
 ·obtain ⟨e', h1, _⟩ := get id _ he
  exact (H.ok2 b hb).2 id _ h1 hm
 ·obtain ⟨e', h1, _⟩ := get id _ he
  exact H.own id _ b h1 hb
 ·refine H.hist id g (fun g' e hh => ?_)
  cases h3 : hf h' id with
  | none => have := k.dom id h3; rw [show y4y h id = hf h id from rfl, hh] at this; cases this
  | some ge =>
   obtain ⟨e', h4, _⟩ := get id _ h3
   rw [hh] at h4
   cases h4
   exact hg _ _ h3
theorem e8r (hf' : Cov fr' fr) (hh : HW h h') (hx : Ex P n c fr' h' Q) : Ex P n c fr h Q := fun X B a w hS hF hd =>
 hx X B a w (hS.weak hh) ⟨hF.size, fun k av hk => hF.slot k av (hf' k av hk)⟩ hd

theorem e8s (fI : ι → Fr) (hI : ι → Hp) (ok : ι → Prop) (μ : ι → Nat) (i0 : ι) (h0 : ok i0) (hf0 : Cov (fI i0) fr) (hh0 : HW h (hI i0))
  (step : ∀ i, ok i → Ex P n c (fI i) (hI i) (c1b (fun fr' h' => ∃ i', ok i' ∧ μ i' < μ i ∧ Cov (fI i') fr' ∧ HW h' (hI i')) Q)) : Ex P n (.loop c) fr h Q := by
 intro X B a w hS hF hd
 have key : ∀ (m : Nat) (i : ι) (X1 : Cx) (a1 : Act) (w1 : World), μ i ≤ m → ok i → X.le X1 → SRh X1 B (hf (hI i)) w1 → FrOK X1 w1 n (Fr.get (fI i)) a1 → a1.defers = [] → (∀ b, X.ok2 b → w1.heap[b]? = w.heap[b]?) →
   Code.rounds P c (fun e a' w' => ∃ fr' h' X', Q e fr' h' ∧ X.le X' ∧ SRh X' B (hf h') w' ∧ FrOK X' w' n (Fr.get fr') a' ∧ a'.defers = [] ∧ ∀ b, X.ok2 b → w'.heap[b]? = w.heap[b]?) (m + 1) a1 w1 := by
  intro m
  induction m using Nat.strongRecOn with
  | _ m ih =>
   intro i X1 a1 w1 hm h1 h2 h3 h4 h5 h6
   rw [rounds_succ]
   refine wp_mono (step i h1 X1 B a1 w1 h3 h4 h5) fun e a2 w2 hh => ?_
   obtain ⟨fr2, h2', X2, k1, k2, k3, k4, k5, k6⟩ := hh
   have kk : ∀ b, X.ok2 b → w2.heap[b]? = w.heap[b]? := fun b hb => (k6 b (h2.ok2 b hb)).trans (h6 b hb)
   cases e with
   | normal =>
    obtain ⟨i', g1, g2, g3, g4⟩ := k1
    cases m with
    | zero => omega
    | succ m => exact ih m (Nat.lt_succ_self m) i' X2 a2 w2 (by omega) g1 (h2.trans k2) (k3.weak g4) ⟨k4.size, fun k av hk => k4.slot k av (g3 k av hk)⟩ k5 kk
   | exit id => exact ⟨fr2, h2', X2, k1, h2.trans k2, k3, k4, k5, kk⟩
   | goto l => exact ⟨fr2, h2', X2, k1, h2.trans k2, k3, k4, k5, kk⟩
   | ret => exact ⟨fr2, h2', X2, k1, h2.trans k2, k3, k4, k5, kk⟩
   | panic ch => exact ⟨fr2, h2', X2, k1, h2.trans k2, k3, k4, k5, kk⟩
   | outgrown => exact ⟨fr2, h2', X2, k1, h2.trans k2, k3, k4, k5, kk⟩
 exact wp_loop_rounds _ (key (μ i0) i0 X a w (Nat.le_refl _) h0 (Cx.le.refl X) (hS.weak hh0) ⟨hF.size, fun k av hk => hF.slot k av (hf0 k av hk)⟩ hd (fun _ _ => rfl))
end
section
variable {P : Program}

def AV.clA : AV → Bool
 | .agg cs => cs.all AV.cl
 | a => a.cl
theorem VR.closedA (h : VR X w a v) (hc : a.clA = true) : CR X.ok1 X.ok2 w a v := by
 by_cases ha : ∃ cs, a = .agg cs
 ·obtain ⟨cs, rfl⟩ := ha
  obtain ⟨us, rfl, hu⟩ := h.agg_inv
  simp only [AV.clA, List.all_eq_true] at hc
  exact .agg us hu.len hu.one (fun i y u hy hu' => ((hu.rel i y u hy hu').closed (hc y (List.mem_of_getElem? hy))).1)
 ·have : a.cl = true := by cases a <;> first | exact hc | exact absurd ⟨_, rfl⟩ ha
  exact (h.closed this).1

inductive FinL : Hp → List AV → List AV → Hp → Prop
 | nil {h : Hp} : FinL h [] [] h
 | cl {h h' : Hp} {a : AV} {az bs : List AV} (hc : a.cl = true) (t : FinL h az bs h') : FinL h (a :: az) (a :: bs) h'
 | le {h h' : Hp} {a b : AV} {az bs : List AV} (hc : a.cl = true) (hl : Le true a b) (t : FinL h az bs h') : FinL h (a :: az) (b :: bs) h'
 | ref {h h' : Hp} {id g ty sz : Nat} {xs xs' : List (List AV)} {az bs : List AV} (he : y4y h id = some (g, .row ty sz xs)) (hl : Le true (.row .ow ty sz xs) (.row (.rd true) ty sz xs')) (t : FinL ((id, (g, .dead)) :: h) az bs h') :
   FinL h (.ref id g :: az) (.row (.rd true) ty sz xs' :: bs) h'
 | agg {h h1 h' : Hp} {cs ds az bs : List AV} (h1c : (cs.all AV.one) = true) (hc : FinL h cs ds h1) (t : FinL h1 az bs h') : FinL h (.agg cs :: az) (.agg ds :: bs) h'
theorem FinL.one (k : FinL h az bs h') : (az.all AV.one) = true → (bs.all AV.one) = true := by
 induction k with
 | nil => exact fun h => h
 | cl hc t ih => intro h; rw [List.all_cons, Bool.and_eq_true] at h ⊢; exact ⟨h.1, ih h.2⟩
 | le hc hl t ih => intro h; rw [List.all_cons, Bool.and_eq_true] at h ⊢; exact ⟨hl.one h.1, ih h.2⟩
 | ref he hl t ih => intro h; rw [List.all_cons, Bool.and_eq_true] at h ⊢; exact ⟨rfl, ih h.2⟩
 | agg _ _ t _ ih2 => intro h; rw [List.all_cons, Bool.and_eq_true] at h; simp [AV.one] at h
theorem FinL.len (k : FinL h az bs h') : bs.length = az.length := by
 induction k with
 | nil => rfl
 | cl _ _ ih => simp [ih]
 | le _ _ _ ih => simp [ih]
 | ref _ _ _ ih => simp [ih]
 | agg _ _ _ _ ih => simp [ih]
variable {w : World}
theorem CR.grow {X Y : Cx} {a : AV} {v : Value} (h : CR X.ok1 X.ok2 w a v) (hX : X.le Y) (h12 : ∀ b, X.ok1 b → X.ok2 b) : CR Y.ok1 Y.ok2 w a v := h.mono hX.ok1 hX.ok2 h12 (fun _ _ => rfl)
theorem FinL.sound {B : Base} {h h' : Hp} {az bs : List AV} (k : FinL h az bs h') : ∀ {X : Cx} {vs : List Value}, SRh X B (hf h) w → vs.length = az.length → (∀ (i : Nat) (a : AV) (v : Value), az[i]? = some a → vs[i]? = some v → VR X w a v) →
  ∃ Y : Cx, X.le Y ∧ SRh Y B (hf h') w ∧ ∀ (i : Nat) (b : AV) (v : Value), bs[i]? = some b → vs[i]? = some v → CR Y.ok1 Y.ok2 w b v := by
 have shift : ∀ {X Y : Cx} {a : AV} {az : List AV} {v : Value} {vs : List Value}, X.le Y → (∀ b, X.ok1 b → X.ok2 b) → (∀ (i : Nat) (c : AV) (u : Value), (a :: az)[i]? = some c → (v :: vs)[i]? = some u → VR X w c u) → ∀ (i : Nat) (c : AV) (u : Value), az[i]? = some c → vs[i]? = some u → VR Y w c u :=
  fun hX h12 hr i c u hc hu => (hr (i + 1) c u (by simpa using hc) (by simpa using hu)).mono hX h12 (fun _ _ => rfl)
 have glue : ∀ {Y : Cx} {b : AV} {bs : List AV} {v : Value} {vs : List Value}, CR Y.ok1 Y.ok2 w b v → (∀ (i : Nat) (c : AV) (u : Value), bs[i]? = some c → vs[i]? = some u → CR Y.ok1 Y.ok2 w c u) → ∀ (i : Nat) (c : AV) (u : Value), (b :: bs)[i]? = some c → (v :: vs)[i]? = some u → CR Y.ok1 Y.ok2 w c u := by
  intro Y b bs v vs h1 h2 i c u hc hu
  cases i with
  | zero =>
   simp only [List.getElem?_cons_zero, Option.some.injEq] at hc hu
   rw [← hc, ← hu]; exact h1
  | succ i => exact h2 i c u (by simpa using hc) (by simpa using hu)
 induction k with
 | nil =>
  intro X vs hS hl hr
  exact ⟨X, Cx.le.refl X, hS, fun i b v hb => by simp at hb⟩
 | @cl h h' a az bs hc t ih =>
  intro X vs hS hl hr
  cases vs with
  | nil => simp at hl
  | cons v vs =>
   obtain ⟨Y, k1, k2, k3⟩ := ih hS (by simpa using hl) (shift (Cx.le.refl X) hS.ok12 hr)
   exact ⟨Y, k1, k2, glue ((hr 0 a v rfl rfl).closed hc |>.1.grow k1 hS.ok12) k3⟩
 | @le h h' a b az bs hc hle t ih =>
  intro X vs hS hl hr
  cases vs with
  | nil => simp at hl
  | cons v vs =>
   obtain ⟨Y, k1, k2, k3⟩ := ih hS (by simpa using hl) (shift (Cx.le.refl X) hS.ok12 hr)
   exact ⟨Y, k1, k2, glue ((((hr 0 a v rfl rfl).closed hc).1.le hS.ok12 hle).grow k1 hS.ok12) k3⟩
 | @ref h h' id g ty sz xs xs' az bs he hle t ih =>
  intro X vs hS hl hr
  cases vs with
  | nil => simp at hl
  | cons v vs =>
   obtain ⟨Y, k1, k2, k3⟩ := hS.freeze (id := id) he hle
   rw [← a3g] at k2
   obtain ⟨Z, g1, g2, g3⟩ := ih k2 (by simpa using hl) (shift k1 hS.ok12 hr)
   have := k3 v (hr 0 _ v rfl rfl)
   exact ⟨Z, k1.trans g1, g2, glue ((this.closed rfl).1.grow g1 k2.ok12) g3⟩
 | @agg h h1 h' cs ds az bs h1c hc t ih1 ih2 =>
  intro X vs hS hl hr
  cases vs with
  | nil => simp at hl
  | cons v vs =>
   obtain ⟨us, rfl, hu⟩ := (hr 0 _ v rfl rfl).agg_inv
   obtain ⟨Y, k1, k2, k3⟩ := ih1 hS hu.len hu.rel
   obtain ⟨Z, g1, g2, g3⟩ := ih2 k2 (by simpa using hl) (shift k1 hS.ok12 hr)
   refine ⟨Z, k1.trans g1, g2, glue (.agg us (by rw [hc.len]; exact hu.len) (fun i y hy => ?_) (fun i y u hy hu' => (k3 i y u hy hu').grow g1 k2.ok12)) g3⟩
   have := hc.one h1c
   rw [List.all_eq_true] at this
   exact this y (List.mem_of_getElem? hy)

def c4u (tt : TT) (fr : Fr) (h : Hp) : List ResultVar → Option (List AV)
 | [] => some []
 | .tmp t :: r => match fr.get t, c4u tt fr h r with
  | some a, some l => some (a :: l)
  | _, _ => none
 | .cell t ty :: r => match fr.get t with
  | some a => match tt ty, d5y h a with
   | some S, some p => match ldv S p.1, c4u tt fr h r with
    | some o, some l => some (o :: l)
    | _, _ => none
   | _, _ => none
  | none => none
variable {tt : TT}
theorem e4f (htt : a1z P tt) (hs : tt t = some S) (hp : d5y h a = some (cs, T)) (hl : ldv S cs = some out) (hS : SRh X B (hf h) w) (hv : VR X w a v) :
  ∃ ad u, v = .pointer (some ad) ∧ (loadVar t ad).run P w = .ok u w ∧ VR X w out u := by
 obtain ⟨ad, e, hc⟩ := c4p hp hS (fun id ge hm => e6z hp _ hm) hv
 have S' := htt _ _ hs
 obtain ⟨us, hus, hcell⟩ := hc.list
 refine ⟨ad, ?_⟩
 unfold ldv at hl
 split at hl
 ·rename_i hagg
  split at hl
  ·rename_i hn
   cases hl
   have hlen : (us.take S.size).length = S.size := by rw [List.length_take, hus.len]; omega
   have hld := run_loadCells_list (P := P) w ad (us.take S.size) (fun j v hv => by
    rw [List.getElem?_take] at hv
    split at hv
    ·exact hcell j v hv
    ·cases hv)
   rw [hlen] at hld
   exact ⟨.agg (us.take S.size).toArray, e, by simp [loadVar, S'.isAgg, S'.sizeOf, hagg, hld], (hus.take _).agg⟩
  ·cases hl
 ·rename_i hagg
  cases cs with
  | nil => cases hl
  | cons c r =>
   cases hl
   obtain ⟨h1, u, h2, h3⟩ := hc.get 0 _ rfl
   have hag : S.agg = false := by simpa using hagg
   have h2' : w.cell? ad = some u := h2
   exact ⟨u, e, by simp [loadVar, S'.isAgg, hag, load, Sem.run, h2'], h3⟩
def d3p (tmps : Array Value) : ResultVar → Sem Value
 | .tmp t => pure (tmps.getD t undef)
 | .cell t ty => do loadVar ty (← asAddr (tmps.getD t undef))
theorem d6f (fn : Func) (tmps : Array Value) : results fn tmps = (do
 let vs ← fn.results.mapM (d3p tmps)
 pure (if h : vs.size = 1 then vs[0] else .tuple vs)) := by
 unfold results
 congr 2
theorem c5x {tt : TT} (htt : a1z P tt) (hS : SRh X B (hf h) w) (hF : FrOK X w n fr.get a) : ∀ (rs : List ResultVar) (l : List AV), c4u tt fr h rs = some l →
  ∃ vs : List Value, (rs.mapM (d3p a.tmps)).run P w = .ok vs w ∧ vs.length = l.length ∧ ∀ (i : Nat) (b : AV) (v : Value), l[i]? = some b → vs[i]? = some v → VR X w b v
 | [], l, hr => by cases hr; exact ⟨[], by simp, rfl, fun i b v hb => by simp at hb⟩
 | .tmp t :: r, l, hr => by
  unfold c4u at hr
  split at hr
  ·rename_i av l' h1 h2
   cases hr
   obtain ⟨vs, k1, k2, k3⟩ := c5x htt hS hF r l' h2
   obtain ⟨v, g1, g2⟩ := hF.slot t av h1
   refine ⟨v :: vs, ?_, by simp [k2], fun i b u hb hu => ?_⟩
   ·have e : a.tmps.getD t undef = v := by rw [Array.getD_eq_getD_getElem?, g1]; rfl
    simp only [List.mapM_cons, d3p, Sem.run_bind, Sem.run_pure, Result.andThen_ok, e, k1]
   ·cases i with
    | zero =>
     simp only [List.getElem?_cons_zero, Option.some.injEq] at hb hu
     rw [← hb, ← hu]; exact g2
    | succ i => exact k3 i b u (by simpa using hb) (by simpa using hu)
  ·cases hr
 | .cell t ty :: r, l, hr => by
  unfold c4u at hr
  split at hr
  ·rename_i av h1
   split at hr
   ·rename_i S p h2 h3
    split at hr
    ·rename_i o l' h4 h5
     cases hr
     obtain ⟨vs, k1, k2, k3⟩ := c5x htt hS hF r l' h5
     obtain ⟨v, g1, g2⟩ := hF.slot t av h1
     obtain ⟨ad, u, e, q1, q2⟩ := e4f htt h2 h3 h4 hS g2
     subst e
     refine ⟨u :: vs, ?_, by simp [k2], fun i b x hb hx => ?_⟩
     ·have e : a.tmps.getD t undef = .pointer (some ad) := by rw [Array.getD_eq_getD_getElem?, g1]; rfl
      simp only [List.mapM_cons, d3p, Sem.run_bind, Sem.run_pure, Result.andThen_ok, e, asAddr, q1, k1]
     ·cases i with
      | zero =>
       simp only [List.getElem?_cons_zero, Option.some.injEq] at hb hx
       rw [← hb, ← hx]; exact q2
      | succ i => exact k3 i b x (by simpa using hb) (by simpa using hx)
    ·cases hr
   ·cases hr
  ·cases hr
def one1 : List AV → AV
 | [a] => a
 | l => .tup l
theorem c1d (htt : a1z P tt) (hS : SRh X B (hf h) w) (hF : FrOK X w n fr.get a) (hr : c4u tt fr h fn.results.toList = some l) :
  ∃ vs : List Value, (results fn a.tmps).run P w = .ok (if h : vs.length = 1 then vs[0] else .tuple vs.toArray) w ∧ vs.length = l.length ∧ ∀ (i : Nat) (b : AV) (v : Value), l[i]? = some b → vs[i]? = some v → VR X w b v := by
 obtain ⟨vs, k1, k2, k3⟩ := c5x htt hS hF fn.results.toList l hr
 refine ⟨vs, ?_, k2, k3⟩
 have e : fn.results = fn.results.toList.toArray := by simp
 rw [d6f, Sem.run_bind, e, List.mapM_toArray]
 simp [k1]
def b6s (avs : List AV) : Fr := avs.zipIdx.map fun p => (p.2, p.1)
theorem c4v : ∀ (avs : List AV) (s k : Nat) (av : AV), Fr.get ((avs.zipIdx s).map fun p => (p.2, p.1)) k = some av → s ≤ k ∧ avs[k - s]? = some av
 | [], s, k, av, h => by cases h
 | a :: avs, s, k, av, h => by
  simp only [List.zipIdx_cons, List.map_cons, Fr.get_cons] at h
  split at h
  ·rename_i e; subst e; cases h; simp
  ·rename_i hne
   obtain ⟨h1, h2⟩ := c4v avs (s + 1) k av h
   refine ⟨by omega, ?_⟩
   have : k - s = (k - (s + 1)) + 1 := by omega
   rw [this]; simpa using h2
variable {X : Cx}
theorem c8t {n : Nat} {avs : List AV} {vs : List Value} (hl : vs.length = avs.length) (hn : avs.length ≤ n) (hr : ∀ (i : Nat) (a : AV) (v : Value), avs[i]? = some a → vs[i]? = some v → VR X w a v) :
  FrOK X w n (Fr.get (b6s avs)) { tmps := vs.toArray ++ Array.replicate (n - vs.toArray.size) undef, defers := [] } := by
 refine ⟨by simp; omega, fun k av hk => ?_⟩
 obtain ⟨_, h1⟩ := c4v avs 0 k av hk
 rw [Nat.sub_zero] at h1
 have hlt := (List.getElem?_eq_some_iff.1 h1).1
 have hv : vs[k]? = some (vs[k]'(by omega)) := List.getElem?_eq_getElem _
 refine ⟨vs[k]'(by omega), ?_, hr k av _ h1 hv⟩
 rw [Array.getElem?_append_left (by simp; omega)]
 exact hv ▸ (by simp)
def d6g : Nat → Hp
 | 0 => []
 | k + 1 => (k, (0, .dead)) :: d6g k
theorem d8o {id : Nat} : ∀ {k : Nat}, hf (d6g k) id = some ge → ge = (0, .dead)
 | 0, h => by cases h
 | k + 1, h => by
  rw [d6g, a3g] at h
  simp only [upd] at h
  split at h
  ·cases h; rfl
  ·exact d8o h
theorem SRh.empty (H : SRh X B h w) (k : Nat) : SRh ⟨X.ok1, X.ok2, fun _ _ => none, fun _ _ => none⟩ ⟨w, fun _ => False, X.ok1, X.ok2⟩ (hf (d6g k)) w := by
 obtain ⟨F, H⟩ := H
 refine ⟨fun _ => [], ?_, ?_, ?_, ?_, H.ok12, fun b hb => .inl hb, fun b hb => .inl hb, ?_, fun _ _ _ => ⟨rfl, rfl⟩, rfl, rfl, rfl, Nat.le_refl _, fun _ _ _ => rfl⟩
 ·intro id g e he
  cases d8o he; trivial
 ·intro id ge b _ hb; cases hb
 ·intro id id' ge ge' b _ _ hb; cases hb
 ·exact fun b hb => ⟨(H.ok2 b hb).1, fun id ge _ hm => by cases hm⟩
 ·intro id ge b _ hb; cases hb

theorem SRh.back (H : SRh X B h w) (H' : SRh X' ⟨w, fun _ => False, X.ok1, X.ok2⟩ h' w') (hX1 : ∀ b, X.ok1 b → X'.ok1 b) (hX2 : ∀ b, X.ok2 b → X'.ok2 b) (hk : ∀ b, X.ok2 b → w'.heap[b]? = w.heap[b]?) :
  SRh ⟨X'.ok1, X'.ok2, X.bx, X.rw⟩ B h w' := by
 obtain ⟨F, H⟩ := H
 obtain ⟨F', H'⟩ := H'
 have hX : X.le ⟨X'.ok1, X'.ok2, X.bx, X.rw⟩ := ⟨hX1, hX2, fun _ _ _ h => h, fun _ _ _ h => h⟩
 have hkeep : ∀ b, b < w.heap.size → w'.heap[b]? = w.heap[b]? := fun b hb => H'.keep b hb (fun h => h)
 refine ⟨F, ?_, ?_, H.sep, ?_, H'.ok12, ?_, ?_, H.own, H.hist, H'.os.trans H.os, H'.tape.trans H.tape, H'.output.trans H.output, Nat.le_trans H.size H'.size, fun b hb hs => (hkeep b (Nat.lt_of_lt_of_le hb H.size)).trans (H.keep b hb hs)⟩
 ·exact fun id g e he => (H.ent id g e he).mono hX H.ok12 hk (fun b hb => hkeep b (H.blk id _ b he hb))
 ·exact fun id ge b he hb => Nat.lt_of_lt_of_le (H.blk id ge b he hb) H'.size
 ·refine fun b hb => ⟨(H'.ok2 b hb).1, fun id ge he hm => ?_⟩
  rcases H'.in2 b hb with h1 | h1 | h1
  ·exact (H.ok2 b h1).2 id ge he hm
  ·exact h1
  ·have := H.blk id ge b he hm
   exact absurd this (Nat.not_lt.2 h1)
 ·intro b hb
  rcases H'.in1 b hb with h1 | h1 | h1
  ·exact H.in1 b h1
  ·exact h1.elim
  ·exact .inr (.inr (Nat.le_trans H.size h1))
 ·intro b hb
  rcases H'.in2 b hb with h1 | h1 | h1
  ·exact H.in2 b h1
  ·exact h1.elim
  ·exact .inr (.inr (Nat.le_trans H.size h1))

def a0j (P : Program) (f : FuncId) (avs : List AV) (out : AV) : Prop := d8f P f avs [] [] out
theorem d6h (htt : a1z P tt) (hfn : P.funcs[f]? = some fn) (hname : (fn.name == "runtime.NumGoroutine") = false) (hb : fn.body = some c) (hcl : (avs.all AV.clA) = true) (hn : avs.length ≤ fn.ntmps) (k : Nat)
  (hx : Ex P fn.ntmps c (b6s avs) (d6g k) fun e fr h => (e = .normal ∨ e = .ret) ∧ ∃ l h', c4u tt fr h fn.results.toList = some l ∧ FinL h l outs h') : a0j P f avs (one1 outs) := by
 refine ⟨⟨fn, c, hfn, hname, hb⟩, fun X B hF w vs hS hl hr hT => ?_⟩
 let X0 : Cx := ⟨X.ok1, X.ok2, fun _ _ => none, fun _ _ => none⟩
 have h12 := hS.ok12
 have hr0 : ∀ (i : Nat) (a : AV) (v : Value), avs[i]? = some a → vs[i]? = some v → VR X0 w a v := fun i a v ha hv => by
  rw [List.all_eq_true] at hcl
  exact .cl ((hr i a v ha hv).closedA (hcl a (List.mem_of_getElem? ha)))
 refine calls_of_wp hfn hb (wp_mono (hx X0 _ _ w (hS.empty k) (c8t hl hn hr0) rfl) fun e a' w' hh => ?_)
 obtain ⟨fr', h', X', ⟨he, l, h2, hres, hfin⟩, k2, k3, k4, k5, k6⟩ := hh
 obtain ⟨us, g1, g2, g3⟩ := c1d htt k3 k4 hres
 obtain ⟨Y, q1, q2, q3⟩ := hfin.sound k3 g2 g3
 have hXY : X0.le Y := k2.trans q1
 have hback : SRh ⟨Y.ok1, Y.ok2, X.bx, X.rw⟩ B hF w' := hS.back q2 hXY.ok1 hXY.ok2 k6
 have post : a'.defers = [] ∧ ∃ v, (results fn a'.tmps).run P w' = .ok v w' ∧ ∃ v', Ending.returned v = .returned v' ∧ ∃ X', X.le X' ∧ SRh X' B (b1s hF []) w' ∧ (∀ b, X.ok2 b → w'.heap[b]? = w.heap[b]?) ∧ VR X' w' (one1 outs) v' := by
  refine ⟨k5, _, g1, _, rfl, ⟨Y.ok1, Y.ok2, X.bx, X.rw⟩, ⟨hXY.ok1, hXY.ok2, fun _ _ _ h => h, fun _ _ _ h => h⟩, by rw [b0g]; exact hback, k6, ?_⟩
  have hlo : outs.length = us.length := by rw [hfin.len, g2]
  by_cases h1 : us.length = 1
  ·rw [dif_pos h1]
   obtain ⟨u, rfl⟩ := List.length_eq_one_iff.1 h1
   obtain ⟨b, rfl⟩ := List.length_eq_one_iff.1 (hlo.trans h1)
   exact .cl (q3 0 b u rfl rfl)
  ·rw [dif_neg h1]
   have : one1 outs = .tup outs := by
    match outs, hlo with
    | [], _ => rfl
    | [b], hlo => exact absurd hlo.symm h1
    | _ :: _ :: _, _ => rfl
   rw [this]
   exact .tup us hlo.symm (fun i y u hy hu => .cl (q3 i y u hy hu))
 rcases he with rfl | rfl
 ·exact post
 ·exact post
end
section
variable {P : Program}
def e4g : TK → TypeDesc → Bool
 | .oth, d => !d.isRow
 | .int k, .int k' => k == k'
 | .str, .string => true
 | .st flds, .struct fs => flds.length == fs.size && flds.zipIdx.all fun p => match fs[p.2]? with
  | some f => f.offset == p.1.1 && f.type == p.1.2
  | none => false
 | .arr n e, .array n' e' => n == n' && e == e'
 | .sl e, .slice e' => e == e'
 | .mp k e, .map k' e' => k == k' && e == e'
 | _, _ => false
theorem e8t (h : e4g k d = true) : KOk k d := by
 cases k with
 | oth => simpa [e4g, KOk] using h
 | int k => cases d <;> simp_all [e4g, KOk]
 | str => cases d <;> simp_all [e4g, KOk]
 | st flds =>
  cases d <;> simp only [e4g, Bool.false_eq_true] at h
  rename_i fs
  simp only [Bool.and_eq_true, beq_iff_eq, List.all_eq_true] at h
  refine ⟨fs, rfl, h.1, fun j off ft hj => ?_⟩
  have := h.2 ((off, ft), j) (by rw [List.mem_zipIdx_iff_getElem?]; simpa using hj)
  simp only at this
  split at this
  ·rename_i f hf
   simp only [Bool.and_eq_true, beq_iff_eq] at this
   exact ⟨f, hf, this.1, this.2⟩
  ·cases this
 | arr n e => cases d <;> simp_all [e4g, KOk]
 | sl e => cases d <;> simp_all [e4g, KOk]
 | mp k e => cases d <;> simp_all [e4g, KOk]
def tsB (P : Program) (t : Nat) (s : TS) : Bool :=
 s.zero.length == s.size && s.zero.all (·.oneCell') && (s.agg || s.size == 1) && (match P.underlying t with
  | some d => e4g s.kind d
  | none => false) && (match s.kind with
  | .st flds => flds.all fun p => (P.info? p.2).isSome
  | _ => true)
theorem TSOk.of (h1 : (P.info? t).map (fun i => (i.zero, i.size, i.bytes)) = some (some (if s.agg then .agg s.zero.toArray else s.zero.getD 0 undef), s.size, s.bytes)) (h2 : tsB P t s = true) (h3 : True) : TSOk P t s := by
 unfold tsB at h2
 simp only [Bool.and_eq_true] at h2
 obtain ⟨⟨⟨⟨g1, g2⟩, g3⟩, g4⟩, g5⟩ := h2
 refine ⟨?_, by simpa using g1, by simpa using g2, fun ha => by simpa [ha] using g3, ?_, fun flds hk p hp => ?_⟩
 ·cases hi : P.info? t with
  | none => rw [hi] at h1; cases h1
  | some i =>
   rw [hi] at h1
   simp only [Option.map_some, Option.some.injEq, Prod.mk.injEq] at h1
   exact ⟨i, rfl, h1.2.1, h1.2.2, h1.1⟩
 ·split at g4
  ·exact ⟨_, ‹_›, e8t g4⟩
  ·cases g4
 ·rw [hk] at g5
  simp only [List.all_eq_true] at g5
  exact Option.isSome_iff_exists.1 (g5 p hp)
end
section
def T3 : TS := ⟨.int .i64, 1, 8, [.int .i64 0]⟩
def T4 : TS := ⟨.oth, 1, 1, [.bool false]⟩
def T5 : TS := ⟨.int .u8, 1, 1, [.int .u8 0]⟩
def T24 : TS := ⟨.sl 121, 1, 24, [.slice none 0 0]⟩
def T25 : TS := ⟨.sl 65, 1, 24, [.slice none 0 0]⟩
def T26 : TS := ⟨.sl 79, 1, 24, [.slice none 0 0]⟩
def T28 : TS := ⟨.st [(0, 3), (1, 26), (2, 26), (3, 26)], 4, 80, [.int .i64 0, .slice none 0 0, .slice none 0 0, .slice none 0 0]⟩
def T29 : TS := ⟨.sl 141, 1, 24, [.slice none 0 0]⟩
def T31 : TS := ⟨.st [(0, 3), (1, 24), (2, 25), (3, 26), (4, 28), (8, 29)], 9, 184, [.int .i64 0, .slice none 0 0, .slice none 0 0, .slice none 0 0, .int .i64 0, .slice none 0 0, .slice none 0 0, .slice none 0 0, .slice none 0 0]⟩
def T39 : TS := ⟨.sl 5, 1, 24, [.slice none 0 0]⟩
def T41 : TS := ⟨.st [(0, 3), (1, 3), (2, 3)], 3, 24, [.int .i64 0, .int .i64 0, .int .i64 0]⟩
def T42 : TS := ⟨.sl 58, 1, 24, [.slice none 0 0]⟩
def T44 : TS := ⟨.st [(0, 3), (1, 41), (4, 42)], 5, 56, [.int .i64 0, .int .i64 0, .int .i64 0, .int .i64 0, .slice none 0 0]⟩
def T47 : TS := ⟨.sl 56, 1, 24, [.slice none 0 0]⟩
def T56 : TS := ⟨.st [(0, 3), (1, 3), (2, 3), (3, 3), (4, 3), (5, 3), (6, 3)], 7, 56, [.int .i64 0, .int .i64 0, .int .i64 0, .int .i64 0, .int .i64 0, .int .i64 0, .int .i64 0]⟩
def T58 : TS := ⟨.st [(0, 56), (7, 41), (10, 47), (11, 29)], 12, 128, [.int .i64 0, .int .i64 0, .int .i64 0, .int .i64 0, .int .i64 0, .int .i64 0, .int .i64 0, .int .i64 0, .int .i64 0, .int .i64 0, .slice none 0 0, .slice none 0 0]⟩
def T61 : TS := ⟨.sl 44, 1, 24, [.slice none 0 0]⟩
def T62 : TS := ⟨.sl 190, 1, 24, [.slice none 0 0]⟩
def T63 : TS := ⟨.sl 3, 1, 24, [.slice none 0 0]⟩
def T65 : TS := ⟨.st [(0, 3), (1, 4), (2, 3), (3, 3), (4, 61), (5, 47), (6, 29), (7, 3), (8, 3), (9, 62), (10, 63), (11, 3), (12, 3)], 13, 184, [.int .i64 0, .bool false, .int .i64 0, .int .i64 0, .slice none 0 0, .slice none 0 0, .slice none 0 0, .int .i64 0, .int .i64 0, .slice none 0 0, .slice none 0 0, .int .i64 0, .int .i64 0]⟩
def T79 : TS := ⟨.st [(0, 3), (1, 3), (2, 3), (3, 3), (4, 3), (5, 3), (6, 3), (7, 63), (8, 63), (9, 47), (10, 29)], 11, 152, [.int .i64 0, .int .i64 0, .int .i64 0, .int .i64 0, .int .i64 0, .int .i64 0, .int .i64 0, .slice none 0 0, .slice none 0 0, .slice none 0 0, .slice none 0 0]⟩
def T94 : TS := ⟨.sl 279, 1, 24, [.slice none 0 0]⟩
def T95 : TS := ⟨.sl 285, 1, 24, [.slice none 0 0]⟩
def T96 : TS := ⟨.sl 287, 1, 24, [.slice none 0 0]⟩
def T97 : TS := ⟨.sl 282, 1, 24, [.slice none 0 0]⟩
def T99 : TS := ⟨.st [(0, 3), (1, 4), (2, 3), (3, 3), (4, 94), (5, 95), (6, 96), (7, 3), (8, 3), (9, 97), (10, 63), (11, 3), (12, 3)], 13, 184, [.int .i64 0, .bool false, .int .i64 0, .int .i64 0, .slice none 0 0, .slice none 0 0, .slice none 0 0, .int .i64 0, .int .i64 0, .slice none 0 0, .slice none 0 0, .int .i64 0, .int .i64 0]⟩
def f7c : TS := ⟨.st [(0, 3), (1, 3), (2, 3), (3, 3), (4, 3), (5, 3), (6, 3), (7, 63), (8, 63), (9, 95), (10, 96)], 11, 152, [.int .i64 0, .int .i64 0, .int .i64 0, .int .i64 0, .int .i64 0, .int .i64 0, .int .i64 0, .slice none 0 0, .slice none 0 0, .slice none 0 0, .slice none 0 0]⟩
def f7d : TS := ⟨.sl 294, 1, 24, [.slice none 0 0]⟩
def f7e : TS := ⟨.st [(0, 113)], 1, 24, [.slice none 0 0]⟩
def f6o : TS := ⟨.sl 232, 1, 24, [.slice none 0 0]⟩
def T121 : TS := ⟨.st [(0, 119)], 1, 24, [.slice none 0 0]⟩
def f5k : TS := ⟨.oth, 1, 8, [.pointer none]⟩
def T141 : TS := ⟨.st [(0, 3), (1, 3), (2, 3), (3, 3), (4, 3)], 5, 40, [.int .i64 0, .int .i64 0, .int .i64 0, .int .i64 0, .int .i64 0]⟩
def f7g : TS := ⟨.oth, 1, 8, [.pointer none]⟩
def f5l : TS := ⟨.oth, 1, 8, [.nilFunc]⟩
def T153 : TS := ⟨.arr 7 3, 7, 56, [.int .i64 0, .int .i64 0, .int .i64 0, .int .i64 0, .int .i64 0, .int .i64 0, .int .i64 0]⟩
def f7h : TS := ⟨.oth, 1, 8, [.pointer none]⟩
def f5m : TS := ⟨.sl 41, 1, 24, [.slice none 0 0]⟩
def T160 : TS := ⟨.st [(0, 3), (1, 3), (2, 3), (3, 3), (4, 158), (5, 47), (6, 29)], 7, 104, [.int .i64 0, .int .i64 0, .int .i64 0, .int .i64 0, .slice none 0 0, .slice none 0 0, .slice none 0 0]⟩
def f5n : TS := ⟨.sl 42, 1, 24, [.slice none 0 0]⟩
def f5o : TS := ⟨.mp 3 190, 1, 8, [.map none]⟩
def T164 : TS := ⟨.st [(0, 160), (7, 4), (8, 161), (9, 3), (10, 162), (11, 63), (12, 3), (13, 3)], 14, 192, [.int .i64 0, .int .i64 0, .int .i64 0, .int .i64 0, .slice none 0 0, .slice none 0 0, .slice none 0 0, .bool false, .slice none 0 0, .int .i64 0, .map none, .slice none 0 0, .int .i64 0, .int .i64 0]⟩
def f5p : TS := ⟨.sl 263, 1, 24, [.slice none 0 0]⟩
def T171 : TS := ⟨.st [(0, 132), (1, 31), (10, 169)], 11, 216, [.pointer none, .int .i64 0, .slice none 0 0, .slice none 0 0, .slice none 0 0, .int .i64 0, .slice none 0 0, .slice none 0 0, .slice none 0 0, .slice none 0 0, .slice none 0 0]⟩
def T180 : TS := ⟨.st [(0, 3), (1, 3), (2, 3), (3, 47)], 4, 48, [.int .i64 0, .int .i64 0, .int .i64 0, .slice none 0 0]⟩
def T183 : TS := ⟨.st [(0, 3), (1, 29)], 2, 32, [.int .i64 0, .slice none 0 0]⟩
def T190 : TS := ⟨.st [(0, 3), (1, 3), (2, 47)], 3, 40, [.int .i64 0, .int .i64 0, .slice none 0 0]⟩
def f5q : TS := ⟨.sl 297, 1, 24, [.slice none 0 0]⟩
def T232 : TS := ⟨.st [(0, 3), (1, 230)], 2, 32, [.int .i64 0, .slice none 0 0]⟩
def f5r : TS := ⟨.oth, 1, 8, [.nilFunc]⟩
def T243 : TS := ⟨.st [(0, 39), (1, 3)], 2, 32, [.slice none 0 0, .int .i64 0]⟩
def f5s : TS := ⟨.oth, 1, 8, [.pointer none]⟩
def T256 : TS := ⟨.st [(0, 254), (1, 254)], 2, 16, [.pointer none, .pointer none]⟩
def T259 : TS := ⟨.st [(0, 58), (12, 254)], 13, 136, [.int .i64 0, .int .i64 0, .int .i64 0, .int .i64 0, .int .i64 0, .int .i64 0, .int .i64 0, .int .i64 0, .int .i64 0, .int .i64 0, .slice none 0 0, .slice none 0 0, .pointer none]⟩
def T263 : TS := ⟨.st [(0, 3), (1, 3), (2, 3), (3, 3), (4, 4)], 5, 40, [.int .i64 0, .int .i64 0, .int .i64 0, .int .i64 0, .bool false]⟩
def f7i : TS := ⟨.st [(0, 3), (1, 3), (2, 3)], 3, 24, [.int .i64 0, .int .i64 0, .int .i64 0]⟩
def f7j : TS := ⟨.sl 338, 1, 24, [.slice none 0 0]⟩
def f7k : TS := ⟨.st [(0, 3), (1, 276), (4, 277)], 5, 56, [.int .i64 0, .int .i64 0, .int .i64 0, .int .i64 0, .slice none 0 0]⟩
def f7l : TS := ⟨.st [(0, 3), (1, 3), (2, 95)], 3, 40, [.int .i64 0, .int .i64 0, .slice none 0 0]⟩
def f7m : TS := ⟨.st [(0, 3), (1, 3), (2, 3), (3, 3), (4, 3), (5, 3), (6, 3)], 7, 56, [.int .i64 0, .int .i64 0, .int .i64 0, .int .i64 0, .int .i64 0, .int .i64 0, .int .i64 0]⟩
def f7n : TS := ⟨.st [(0, 3), (1, 3), (2, 3), (3, 3), (4, 3)], 5, 40, [.int .i64 0, .int .i64 0, .int .i64 0, .int .i64 0, .int .i64 0]⟩
def f7o : TS := ⟨.sl 342, 1, 24, [.slice none 0 0]⟩
def f7p : TS := ⟨.st [(0, 3), (1, 292)], 2, 32, [.int .i64 0, .slice none 0 0]⟩
def T297 : TS := ⟨.st [(0, 3), (1, 3), (2, 3), (3, 3), (4, 3)], 5, 40, [.int .i64 0, .int .i64 0, .int .i64 0, .int .i64 0, .int .i64 0]⟩
def f5t : TS := ⟨.sl 153, 1, 24, [.slice none 0 0]⟩
def T303 : TS := ⟨.st [(0, 301), (1, 151)], 2, 32, [.slice none 0 0, .nilFunc]⟩
def f7q : TS := ⟨.st [(0, 29), (1, 239)], 2, 32, [.slice none 0 0, .nilFunc]⟩
def T329 : TS := ⟨.arr 5 3, 5, 40, [.int .i64 0, .int .i64 0, .int .i64 0, .int .i64 0, .int .i64 0]⟩
def f7r : TS := ⟨.st [(0, 285), (7, 276), (10, 95), (11, 96)], 12, 128, [.int .i64 0, .int .i64 0, .int .i64 0, .int .i64 0, .int .i64 0, .int .i64 0, .int .i64 0, .int .i64 0, .int .i64 0, .int .i64 0, .slice none 0 0, .slice none 0 0]⟩
def f7s : TS := ⟨.st [(0, 3), (1, 3), (2, 3), (3, 3), (4, 3)], 5, 40, [.int .i64 0, .int .i64 0, .int .i64 0, .int .i64 0, .int .i64 0]⟩
def T362 : TS := ⟨.st [(0, 41), (3, 56), (10, 47), (11, 29)], 12, 128, [.int .i64 0, .int .i64 0, .int .i64 0, .int .i64 0, .int .i64 0, .int .i64 0, .int .i64 0, .int .i64 0, .int .i64 0, .int .i64 0, .slice none 0 0, .slice none 0 0]⟩
def tt : TT := fun t => match t with
 | 3 => some T3
 | 4 => some T4
 | 5 => some T5
 | 24 => some T24
 | 25 => some T25
 | 26 => some T26
 | 28 => some T28
 | 29 => some T29
 | 31 => some T31
 | 39 => some T39
 | 41 => some T41
 | 42 => some T42
 | 44 => some T44
 | 47 => some T47
 | 56 => some T56
 | 58 => some T58
 | 61 => some T61
 | 62 => some T62
 | 63 => some T63
 | 65 => some T65
 | 79 => some T79
 | 94 => some T94
 | 95 => some T95
 | 96 => some T96
 | 97 => some T97
 | 99 => some T99
 | 101 => some f7c
 | 113 => some f7d
 | 115 => some f7e
 | 119 => some f6o
 | 121 => some T121
 | 132 => some f5k
 | 141 => some T141
 | 148 => some f7g
 | 151 => some f5l
 | 153 => some T153
 | 156 => some f7h
 | 158 => some f5m
 | 160 => some T160
 | 161 => some f5n
 | 162 => some f5o
 | 164 => some T164
 | 169 => some f5p
 | 171 => some T171
 | 180 => some T180
 | 183 => some T183
 | 190 => some T190
 | 230 => some f5q
 | 232 => some T232
 | 239 => some f5r
 | 243 => some T243
 | 254 => some f5s
 | 256 => some T256
 | 259 => some T259
 | 263 => some T263
 | 276 => some f7i
 | 277 => some f7j
 | 279 => some f7k
 | 282 => some f7l
 | 285 => some f7m
 | 287 => some f7n
 | 292 => some f7o
 | 294 => some f7p
 | 297 => some T297
 | 301 => some f5t
 | 303 => some T303
 | 310 => some f7q
 | 329 => some T329
 | 338 => some f7r
 | 342 => some f7s
 | 362 => some T362
 | _ => none
theorem r3r : tt 3 = some T3 := rfl
theorem f7t : tt 4 = some T4 := rfl
theorem f2n : tt 5 = some T5 := rfl
theorem c5y : tt 24 = some T24 := rfl
theorem a6l : tt 25 = some T25 := rfl
theorem p5p : tt 26 = some T26 := rfl
theorem a6d : tt 28 = some T28 := rfl
theorem a0c : tt 29 = some T29 := rfl
theorem b5e : tt 31 = some T31 := rfl
theorem e8u : tt 39 = some T39 := rfl
theorem a7q : tt 41 = some T41 := rfl
theorem a9l : tt 42 = some T42 := rfl
theorem a0y : tt 44 = some T44 := rfl
theorem v6v : tt 47 = some T47 := rfl
theorem z4z : tt 56 = some T56 := rfl
theorem a6m : tt 58 = some T58 := rfl
theorem a8u : tt 61 = some T61 := rfl
theorem b1m : tt 62 = some T62 := rfl
theorem a0k : tt 63 = some T63 := rfl
theorem u6u : tt 65 = some T65 := rfl
theorem v2v : tt 79 = some T79 := rfl
theorem d3q : tt 119 = some f6o := rfl
theorem a5c : tt 121 = some T121 := rfl
theorem f2o : tt 132 = some f5k := rfl
theorem v9v : tt 141 = some T141 := rfl
theorem f2p : tt 151 = some f5l := rfl
theorem q2q : tt 153 = some T153 := rfl
theorem d8p : tt 158 = some f5m := rfl
theorem d3r : tt 160 = some T160 := rfl
theorem c1e : tt 161 = some f5n := rfl
theorem f2q : tt 162 = some f5o := rfl
theorem f2r : tt 164 = some T164 := rfl
theorem d8q : tt 169 = some f5p := rfl
theorem f2s : tt 171 = some T171 := rfl
theorem e7c : tt 180 = some T180 := rfl
theorem f2t : tt 183 = some T183 := rfl
theorem a0d : tt 190 = some T190 := rfl
theorem b6t : tt 230 = some f5q := rfl
theorem b9q : tt 232 = some T232 := rfl
theorem f2u : tt 239 = some f5r := rfl
theorem e7d : tt 243 = some T243 := rfl
theorem b1x : tt 254 = some f5s := rfl
theorem f2v : tt 256 = some T256 := rfl
theorem d3s : tt 259 = some T259 := rfl
theorem a1q : tt 263 = some T263 := rfl
theorem a0z : tt 297 = some T297 := rfl
theorem a2e : tt 301 = some f5t := rfl
theorem d8r : tt 303 = some T303 := rfl
theorem c4w : tt 329 = some T329 := rfl
theorem e7f : tt 362 = some T362 := rfl
theorem f6p : T3.zero.map AV.pv = [.pv (.int .i64 0)] := rfl
theorem b5f : T28.zero.map AV.pv = [.pv (.int .i64 0), .pv (.slice none 0 0), .pv (.slice none 0 0), .pv (.slice none 0 0)] := rfl
theorem b8j : T31.zero.map AV.pv = [.pv (.int .i64 0), .pv (.slice none 0 0), .pv (.slice none 0 0), .pv (.slice none 0 0), .pv (.int .i64 0), .pv (.slice none 0 0), .pv (.slice none 0 0), .pv (.slice none 0 0), .pv (.slice none 0 0)] := rfl
theorem c8u : T41.zero.map AV.pv = [.pv (.int .i64 0), .pv (.int .i64 0), .pv (.int .i64 0)] := rfl
theorem f5u : T42.zero.map AV.pv = [.pv (.slice none 0 0)] := rfl
theorem a9m : T44.zero.map AV.pv = [.pv (.int .i64 0), .pv (.int .i64 0), .pv (.int .i64 0), .pv (.int .i64 0), .pv (.slice none 0 0)] := rfl
theorem a8g : T56.zero.map AV.pv = [.pv (.int .i64 0), .pv (.int .i64 0), .pv (.int .i64 0), .pv (.int .i64 0), .pv (.int .i64 0), .pv (.int .i64 0), .pv (.int .i64 0)] := rfl
theorem c3q : T58.zero.map AV.pv = [.pv (.int .i64 0), .pv (.int .i64 0), .pv (.int .i64 0), .pv (.int .i64 0), .pv (.int .i64 0), .pv (.int .i64 0), .pv (.int .i64 0), .pv (.int .i64 0), .pv (.int .i64 0), .pv (.int .i64 0), .pv (.slice none 0 0), .pv (.slice none 0 0)] := rfl
theorem q4q : T65.zero.map AV.pv = [.pv (.int .i64 0), .pv (.bool false), .pv (.int .i64 0), .pv (.int .i64 0), .pv (.slice none 0 0), .pv (.slice none 0 0), .pv (.slice none 0 0), .pv (.int .i64 0), .pv (.int .i64 0), .pv (.slice none 0 0), .pv (.slice none 0 0), .pv (.int .i64 0), .pv (.int .i64 0)] := rfl
theorem a6n : T79.zero.map AV.pv = [.pv (.int .i64 0), .pv (.int .i64 0), .pv (.int .i64 0), .pv (.int .i64 0), .pv (.int .i64 0), .pv (.int .i64 0), .pv (.int .i64 0), .pv (.slice none 0 0), .pv (.slice none 0 0), .pv (.slice none 0 0), .pv (.slice none 0 0)] := rfl
theorem b4g : T121.zero.map AV.pv = [.pv (.slice none 0 0)] := rfl
theorem c4x : T141.zero.map AV.pv = [.pv (.int .i64 0), .pv (.int .i64 0), .pv (.int .i64 0), .pv (.int .i64 0), .pv (.int .i64 0)] := rfl
theorem c4y : T153.zero.map AV.pv = [.pv (.int .i64 0), .pv (.int .i64 0), .pv (.int .i64 0), .pv (.int .i64 0), .pv (.int .i64 0), .pv (.int .i64 0), .pv (.int .i64 0)] := rfl
theorem d8s : T160.zero.map AV.pv = [.pv (.int .i64 0), .pv (.int .i64 0), .pv (.int .i64 0), .pv (.int .i64 0), .pv (.slice none 0 0), .pv (.slice none 0 0), .pv (.slice none 0 0)] := rfl
theorem f2w : T164.zero.map AV.pv = [.pv (.int .i64 0), .pv (.int .i64 0), .pv (.int .i64 0), .pv (.int .i64 0), .pv (.slice none 0 0), .pv (.slice none 0 0), .pv (.slice none 0 0), .pv (.bool false), .pv (.slice none 0 0), .pv (.int .i64 0), .pv (.map none), .pv (.slice none 0 0), .pv (.int .i64 0), .pv (.int .i64 0)] := rfl
theorem f2x : T171.zero.map AV.pv = [.pv (.pointer none), .pv (.int .i64 0), .pv (.slice none 0 0), .pv (.slice none 0 0), .pv (.slice none 0 0), .pv (.int .i64 0), .pv (.slice none 0 0), .pv (.slice none 0 0), .pv (.slice none 0 0), .pv (.slice none 0 0), .pv (.slice none 0 0)] := rfl
theorem e7g : T180.zero.map AV.pv = [.pv (.int .i64 0), .pv (.int .i64 0), .pv (.int .i64 0), .pv (.slice none 0 0)] := rfl
theorem f2y : T183.zero.map AV.pv = [.pv (.int .i64 0), .pv (.slice none 0 0)] := rfl
theorem a9n : T190.zero.map AV.pv = [.pv (.int .i64 0), .pv (.int .i64 0), .pv (.slice none 0 0)] := rfl
theorem d3t : T232.zero.map AV.pv = [.pv (.int .i64 0), .pv (.slice none 0 0)] := rfl
theorem e7h : T243.zero.map AV.pv = [.pv (.slice none 0 0), .pv (.int .i64 0)] := rfl
theorem f2z : T256.zero.map AV.pv = [.pv (.pointer none), .pv (.pointer none)] := rfl
theorem f3a : T259.zero.map AV.pv = [.pv (.int .i64 0), .pv (.int .i64 0), .pv (.int .i64 0), .pv (.int .i64 0), .pv (.int .i64 0), .pv (.int .i64 0), .pv (.int .i64 0), .pv (.int .i64 0), .pv (.int .i64 0), .pv (.int .i64 0), .pv (.slice none 0 0), .pv (.slice none 0 0), .pv (.pointer none)] := rfl
theorem a2f : T263.zero.map AV.pv = [.pv (.int .i64 0), .pv (.int .i64 0), .pv (.int .i64 0), .pv (.int .i64 0), .pv (.bool false)] := rfl
theorem b6u : T297.zero.map AV.pv = [.pv (.int .i64 0), .pv (.int .i64 0), .pv (.int .i64 0), .pv (.int .i64 0), .pv (.int .i64 0)] := rfl
theorem e7i : T303.zero.map AV.pv = [.pv (.slice none 0 0), .pv (.nilFunc)] := rfl
theorem d3u : T329.zero.map AV.pv = [.pv (.int .i64 0), .pv (.int .i64 0), .pv (.int .i64 0), .pv (.int .i64 0), .pv (.int .i64 0)] := rfl
theorem f3b : T362.zero.map AV.pv = [.pv (.int .i64 0), .pv (.int .i64 0), .pv (.int .i64 0), .pv (.int .i64 0), .pv (.int .i64 0), .pv (.int .i64 0), .pv (.int .i64 0), .pv (.int .i64 0), .pv (.int .i64 0), .pv (.int .i64 0), .pv (.slice none 0 0), .pv (.slice none 0 0)] := rfl
theorem w5w : a1z Tryz.prog tt := by
 intro t s h
 unfold tt at h
 split at h
 all_goals first | (cases h; exact .of (by kernel_rfl) (by kernel_rfl) trivial) | cases h
theorem c3r : Tryz.prog.follows .mixedOrders = true := by kernel_rfl
end
end Go.Proofs.YtlgknoapdbpojaaGreat.Am
