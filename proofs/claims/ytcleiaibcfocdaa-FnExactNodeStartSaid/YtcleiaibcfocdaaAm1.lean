/- The abstract machine, part 1: abstract values, how they stand to the model's values and worlds, and what keeps that. -/
import Derived.WalkKit
set_option linter.unusedVariables false
set_option linter.unusedSimpArgs false
namespace Go.Proofs.Ytcleiaibcfocdaa.Am
open Go Go.RowKit

/-- Whose a row's cells are: 'rd true' nobody's, for ever; 'rd false' lent for the call; 'ow' the entry's in which the row stands. -/
inductive Md where
  | rd (c : Bool)
  | ow
  deriving DecidableEq, Inhabited

/-- Abstract values. 'row': a slice by its elements' cells. 'ref': a slice in the heap of ids. -/
inductive AV where
  | any
  | pv (v : Value)
  | row (m : Md) (ty sz : Nat) (xs : List (List AV))
  | ref (id g : Nat)
  | bsl (id g off len : Nat)
  | cut (id g lo hi : Nat)
  | ptr (id g off : Nat)
  | elt (id g i off : Nat)
  | iel (cs : List AV)
  | agg (cs : List AV)
  | tup (cs : List AV)
  | fn (f : Fn) (fi cap : List AV)
  | ifc (t : TypeId) (a : AV)
  | mp (id g : Nat)
  deriving Inhabited

def AV.one : AV → Bool
  | .any => false
  | .pv v => v.oneCell'
  | .agg _ => false
  | .tup _ => false
  | _ => true
def AV.isOw : AV → Bool
  | .row .ow _ _ _ => true
  | _ => false

def okm (ok1 ok2 : Nat → Prop) : Bool → Nat → Prop
  | true, b => ok1 b
  | false, b => ok2 b

/-- What is closed: values without memory of the call's own. ok1, ok2: the blocks that are only read. -/
inductive CR (ok1 ok2 : Nat → Prop) (w : World) : AV → Value → Prop
  | pv (v : Value) : CR ok1 ok2 w (.pv v) v
  | row {m : Bool} {ty sz : Nat} {xs : List (List AV)} (A : Option Addr) (c : Nat) (u : Nat → Nat → Value) (hc : xs.length ≤ c) (hm : c ≤ maxLen)
      (hlen : ∀ (j : Nat) (x : List AV), xs[j]? = some x → x.length = sz)
      (hone : ∀ (j i : Nat) (x : List AV) (y : AV), xs[j]? = some x → x[i]? = some y → y.one = true)
      (had : 0 < xs.length → ∃ ad, A = some ad ∧ okm ok1 ok2 m ad.block)
      (hcell : ∀ (ad : Addr) (j i : Nat) (x : List AV) (y : AV), A = some ad → xs[j]? = some x → x[i]? = some y → w.cell? (ad.add (j * sz + i)) = some (u j i))
      (hrec : ∀ (j i : Nat) (x : List AV) (y : AV), xs[j]? = some x → x[i]? = some y → CR ok1 ok2 w y (u j i)) : CR ok1 ok2 w (.row (.rd m) ty sz xs) (.slice A xs.length c)
  | ifc (t : TypeId) (a : AV) (v : Value) (h : CR ok1 ok2 w a v) : CR ok1 ok2 w (.ifc t a) (.iface t v)
  | agg {cs : List AV} (us : List Value) (hl : us.length = cs.length) (hone : ∀ (i : Nat) (y : AV), cs[i]? = some y → y.one = true)
      (h : ∀ (i : Nat) (y : AV) (u : Value), cs[i]? = some y → us[i]? = some u → CR ok1 ok2 w y u) : CR ok1 ok2 w (.agg cs) (.agg us.toArray)

theorem add_block' (ad : Addr) (n : Nat) : (ad.add n).block = ad.block := by unfold Addr.add; split <;> rfl

theorem oneCell_one {ok1 ok2 : Nat → Prop} {w : World} {a : AV} {v : Value} (h : CR ok1 ok2 w a v) : a.one = true → v.oneCell' = true := by
  intro h1
  cases h with
  | pv => exact h1
  | row => rfl
  | ifc => rfl
  | agg => simp [AV.one] at h1

theorem okm.mono {o1 o2 p1 p2 : Nat → Prop} (h1 : ∀ b, o1 b → p1 b) (h2 : ∀ b, o2 b → p2 b) {m : Bool} {b : Nat} (h : okm o1 o2 m b) : okm p1 p2 m b := by
  cases m with
  | true => exact h1 b h
  | false => exact h2 b h
theorem okm.ok2 {o1 o2 : Nat → Prop} (h12 : ∀ b, o1 b → o2 b) {m : Bool} {b : Nat} (h : okm o1 o2 m b) : o2 b := by
  cases m with
  | true => exact h12 b h
  | false => exact h

theorem CR.mono {o1 o2 p1 p2 : Nat → Prop} {w w' : World} {a : AV} {v : Value} (h : CR o1 o2 w a v) (h1 : ∀ b, o1 b → p1 b) (h2 : ∀ b, o2 b → p2 b) (h12 : ∀ b, o1 b → o2 b) (hw : ∀ b, o2 b → w'.heap[b]? = w.heap[b]?) : CR p1 p2 w' a v := by
  induction h with
  | pv v => exact .pv v
  | row A c u hc hm hlen hone had hcell hrec ih =>
    refine .row A c u hc hm hlen hone (fun hp => ?_) (fun ad j i x y hA hx hy => ?_) ih
    · obtain ⟨ad, e, ho⟩ := had hp
      exact ⟨ad, e, ho.mono h1 h2⟩
    · have h0 := hcell ad j i x y hA hx hy
      have hp := Nat.lt_of_le_of_lt (Nat.zero_le j) (List.getElem?_eq_some_iff.1 hx).1
      obtain ⟨ad', e, ho⟩ := had hp
      have : ad = ad' := by rw [hA] at e; exact Option.some.inj e
      subst this
      refine (World.cell?_of_block ?_).trans h0
      rw [add_block']
      exact hw _ (ho.ok2 h12)
  | ifc t a v _ ih => exact .ifc t a v ih
  | agg us hl hone _ ih => exact .agg us hl hone ih

/-- The context: which blocks are only read; where the ids lie (by id and generation). -/
structure Cx where
  ok1 : Nat → Prop
  ok2 : Nat → Prop
  bx : Nat → Nat → Option Nat
  rw : Nat → Nat → Option (Value × Nat)

structure Cx.le (X Y : Cx) : Prop where
  ok1 : ∀ b, X.ok1 b → Y.ok1 b
  ok2 : ∀ b, X.ok2 b → Y.ok2 b
  bx : ∀ i g b, X.bx i g = some b → Y.bx i g = some b
  rw : ∀ i g v, X.rw i g = some v → Y.rw i g = some v

theorem Cx.le.refl (X : Cx) : X.le X := ⟨fun _ h => h, fun _ h => h, fun _ _ _ h => h, fun _ _ _ h => h⟩
theorem Cx.le.trans {X Y Z : Cx} (h : X.le Y) (k : Y.le Z) : X.le Z :=
  ⟨fun b hb => k.ok1 b (h.ok1 b hb), fun b hb => k.ok2 b (h.ok2 b hb), fun i g b hb => k.bx i g b (h.bx i g b hb), fun i g v hv => k.rw i g v (h.rw i g v hv)⟩

inductive VR (X : Cx) (w : World) : AV → Value → Prop
  | any (v : Value) : VR X w .any v
  | owd {ty sz : Nat} {xs : List (List AV)} (v : Value) (h : v.oneCell' = true) : VR X w (.row .ow ty sz xs) v
  | cl {a : AV} {v : Value} (h : CR X.ok1 X.ok2 w a v) : VR X w a v
  | iel {cs : List AV} (ad : Addr) (u : Nat → Value) (hok : X.ok2 ad.block)
      (hone : ∀ (i : Nat) (y : AV), cs[i]? = some y → y.one = true)
      (hcell : ∀ (i : Nat) (y : AV), cs[i]? = some y → w.cell? (ad.add i) = some (u i))
      (hrec : ∀ (i : Nat) (y : AV), cs[i]? = some y → CR X.ok1 X.ok2 w y (u i)) : VR X w (.iel cs) (.pointer (some ad))
  | ref {id g : Nat} {A : Option Addr} {n c : Nat} {sz : Nat} (h : X.rw id g = some (.slice A n c, sz)) : VR X w (.ref id g) (.slice A n c)
  | cut {id g lo hi : Nat} {A A' : Option Addr} {n c c' : Nat} {sz : Nat} (h : X.rw id g = some (.slice A n c, sz)) (hlo : lo ≤ hi) (hhi : hi ≤ n) (hc : hi - lo ≤ c') (hm : c' ≤ maxLen)
      (hA : lo < hi → ∃ ad, A = some ad ∧ A' = some (ad.add (lo * sz))) : VR X w (.cut id g lo hi) (.slice A' (hi - lo) c')
  | elt {id g i off : Nat} {ad : Addr} {n c sz : Nat} (h : X.rw id g = some (.slice (some ad) n c, sz)) : VR X w (.elt id g i off) (.pointer (some (ad.add (i * sz + off))))
  | bsl {id g off len : Nat} {b c : Nat} (h : X.bx id g = some b) (hc : len ≤ c) (hm : c ≤ maxLen) : VR X w (.bsl id g off len) (.slice (some ⟨b, off, none⟩) len c)
  | ptr {id g off : Nat} {b : Nat} (h : X.bx id g = some b) : VR X w (.ptr id g off) (.pointer (some ⟨b, off, none⟩))
  | mp {id g : Nat} {b : Nat} (h : X.bx id g = some b) : VR X w (.mp id g) (.map (some b))
  | agg {cs : List AV} (us : List Value) (hl : us.length = cs.length) (hone : ∀ (i : Nat) (y : AV), cs[i]? = some y → y.one = true)
      (h : ∀ (i : Nat) (y : AV) (u : Value), cs[i]? = some y → us[i]? = some u → VR X w y u) : VR X w (.agg cs) (.agg us.toArray)
  | tup {cs : List AV} (us : List Value) (hl : us.length = cs.length)
      (h : ∀ (i : Nat) (y : AV) (u : Value), cs[i]? = some y → us[i]? = some u → VR X w y u) : VR X w (.tup cs) (.tuple us.toArray)
  | fn {f : Fn} {fi cap : List AV} (us vs : List Value) (hl : us.length = fi.length) (hl' : vs.length = cap.length)
      (h : ∀ (i : Nat) (y : AV) (u : Value), fi[i]? = some y → us[i]? = some u → VR X w y u)
      (h' : ∀ (i : Nat) (y : AV) (u : Value), cap[i]? = some y → vs[i]? = some u → VR X w y u) : VR X w (.fn f fi cap) (.func f us.toArray vs.toArray)
  | ifc (t : TypeId) (a : AV) (v : Value) (h : VR X w a v) : VR X w (.ifc t a) (.iface t v)

theorem VR.pv {X : Cx} {w : World} (v : Value) : VR X w (.pv v) v := .cl (.pv v)

theorem VR.mono {X Y : Cx} {w w' : World} {a : AV} {v : Value} (h : VR X w a v) (hX : X.le Y) (h12 : ∀ b, X.ok1 b → X.ok2 b) (hw : ∀ b, X.ok2 b → w'.heap[b]? = w.heap[b]?) : VR Y w' a v := by
  induction h with
  | any v => exact .any v
  | owd v h => exact .owd v h
  | cl h => exact .cl (h.mono hX.ok1 hX.ok2 h12 hw)
  | iel ad u hok hone hcell hrec =>
    refine .iel ad u (hX.ok2 _ hok) hone (fun i y hy => ?_) (fun i y hy => (hrec i y hy).mono hX.ok1 hX.ok2 h12 hw)
    refine (World.cell?_of_block ?_).trans (hcell i y hy)
    rw [add_block']
    exact hw _ hok
  | ref h => exact .ref (hX.rw _ _ _ h)
  | cut h hlo hhi hc hm hA => exact .cut (hX.rw _ _ _ h) hlo hhi hc hm hA
  | elt h => exact .elt (hX.rw _ _ _ h)
  | bsl h hc hm => exact .bsl (hX.bx _ _ _ h) hc hm
  | ptr h => exact .ptr (hX.bx _ _ _ h)
  | mp h => exact .mp (hX.bx _ _ _ h)
  | agg us hl hone _ ih => exact .agg us hl hone ih
  | tup us hl _ ih => exact .tup us hl ih
  | fn us vs hl hl' _ _ ih ih' => exact .fn us vs hl hl' ih ih'
  | ifc t a v _ ih => exact .ifc t a v ih

theorem VR.oneCell {X : Cx} {w : World} {a : AV} {v : Value} (h : VR X w a v) (h1 : a.one = true) : v.oneCell' = true := by
  cases h with
  | any => simp [AV.one] at h1
  | owd v h => exact h
  | cl h => exact oneCell_one h h1
  | agg => simp [AV.one] at h1
  | tup => simp [AV.one] at h1
  | _ => rfl
end Go.Proofs.Ytcleiaibcfocdaa.Am
