/- The abstract machine, part 7: boxes and rows made, changed, frozen. -/
import Derived.Test.YtcleiaibcfocdaaAm6
import Derived.Maps.AppendAt
import Derived.Laws.OwnMore
import Derived.Laws.MakeOwn
set_option linter.unusedVariables false
set_option linter.unusedSimpArgs false
namespace Go.Proofs.Ytcleiaibcfocdaa.Am
open Go Go.RowKit

variable {P : Program} {ev : Operand → Option AV}

def Cx.setB (X : Cx) (id g b : Nat) : Cx := { X with bx := fun i k => if i = id ∧ k = g then some b else X.bx i k }
def Cx.setR (X : Cx) (id g : Nat) (v : Value × Nat) : Cx := { X with rw := fun i k => if i = id ∧ k = g then some v else X.rw i k }
theorem Cx.le_setB {X : Cx} {id g b : Nat} (h : X.bx id g = none) : X.le (X.setB id g b) :=
  ⟨fun _ h => h, fun _ h => h, fun i k c hc => by
    simp only [Cx.setB]
    split
    · rename_i e; obtain ⟨rfl, rfl⟩ := e; rw [h] at hc; cases hc
    · exact hc, fun _ _ _ h => h⟩
theorem Cx.le_setR {X : Cx} {id g : Nat} {v : Value × Nat} (h : X.rw id g = none) : X.le (X.setR id g v) :=
  ⟨fun _ h => h, fun _ h => h, fun _ _ _ h => h, fun i k c hc => by
    simp only [Cx.setR]
    split
    · rename_i e; obtain ⟨rfl, rfl⟩ := e; rw [h] at hc; cases hc
    · exact hc⟩

theorem SRf.free {X : Cx} {B : Base} {h : HF} {F : Nat → List Nat} {w : World} (H : SRf X B h F w) {id g : Nat} {e : Ent} (he : h id = some (g, e)) : X.bx id (g + 1) = none ∧ X.rw id (g + 1) = none :=
  H.hist id (g + 1) (fun g' e' h' => by rw [he] at h'; cases h'; exact Nat.lt_succ_self g)

theorem Grew.refl (w : World) (S : List Nat) : Grew w w S := ⟨rfl, rfl, rfl, Nat.le_refl _, fun _ _ _ => rfl⟩
theorem Grew.mono {w w' : World} {S S' : List Nat} (h : Grew w w' S) (hs : ∀ b ∈ S, b ∈ S') : Grew w w' S' := ⟨h.os, h.tape, h.output, h.size, fun b hb hn => h.block b hb (fun hm => hn (hs b hm))⟩
theorem grown_alloc (w : World) (o : Obj) (S : List Nat) : Grew w (w.alloc o) S := .of (r := none) (World.grownBy_alloc w o none) S (by simp)

/-- A dead entry's blocks go over to another one. -/
theorem SRf.merge {X : Cx} {B : Base} {h : HF} {F : Nat → List Nat} {w : World} (H : SRf X B h F w) {id j g : Nat} {ge : Nat × Ent} (hj : h j = some (g, .dead)) (hid : h id = some ge) (hne : id ≠ j) : SRf X B h (updF (updF F j []) id (F id ++ F j)) w := by
  have e1 : ∀ i, i ≠ id → i ≠ j → updF (updF F j []) id (F id ++ F j) i = F i := fun i h1 h2 => by simp [updF, h1, h2]
  have e2 : updF (updF F j []) id (F id ++ F j) id = F id ++ F j := by simp [updF]
  have e3 : updF (updF F j []) id (F id ++ F j) j = [] := by simp [updF, Ne.symm hne]
  have from' : ∀ i ge' b, h i = some ge' → b ∈ updF (updF F j []) id (F id ++ F j) i → (b ∈ F i ∧ i ≠ j) ∨ (i = id ∧ b ∈ F j) := fun i ge' b hi hb => by
    by_cases h1 : i = id
    · subst h1; rw [e2] at hb
      rcases List.mem_append.1 hb with hb | hb
      · exact .inl ⟨hb, hne⟩
      · exact .inr ⟨rfl, hb⟩
    · by_cases h2 : i = j
      · subst h2; rw [e3] at hb; cases hb
      · rw [e1 i h1 h2] at hb; exact .inl ⟨hb, h2⟩
  refine { H with ent := fun i g' e he => ?_, blk := fun i ge' b he hb => ?_, sep := fun i i' ge1 ge2 b hi hi' hb hb' => ?_, ok2 := fun b hb => ⟨(H.ok2 b hb).1, fun i ge' hi hm => ?_⟩, own := fun i ge' b hi hb => ?_ }
  · by_cases h1 : i = id
    · subst h1
      have := H.ent i g' e he
      rw [e2]
      cases e with
      | dead => trivial
      | box ty cs => obtain ⟨b, us, S, k1, k2, k3, k4, k5⟩ := this; exact ⟨b, us, S, k1, k2, k3, k4, fun c hc => List.mem_append_left _ (k5 c hc)⟩
      | row ty sz xs => obtain ⟨v, us, S, k1, k2, k3, k4, k5, k6⟩ := this; exact ⟨v, us, S, k1, k2, k3, k4, k5, fun c hc => List.mem_append_left _ (k6 c hc)⟩
      | map es => obtain ⟨b, en, k1, k2, k3⟩ := this; exact ⟨b, en, k1, List.mem_append_left _ k2, k3⟩
      | chn ty lty xs => obtain ⟨b, bs, uss, k1, k2, k3, k4, k5, k6, k7, k8⟩ := this; exact ⟨b, bs, uss, k1, k2, k3, k4, k5, k6, k7, fun c hc => List.mem_append_left _ (k8 c hc)⟩
    · by_cases h2 : i = j
      · subst h2; rw [hj] at he; cases he; trivial
      · rw [e1 i h1 h2]; exact H.ent i g' e he
  · rcases from' i ge' b he hb with ⟨h1, _⟩ | ⟨rfl, h1⟩
    · exact H.blk i ge' b he h1
    · exact H.blk j _ b hj h1
  · rcases from' i ge1 b hi hb with ⟨h1, n1⟩ | ⟨rfl, h1⟩ <;> rcases from' i' ge2 b hi' hb' with ⟨h2, n2⟩ | ⟨rfl, h2⟩
    · exact H.sep i i' ge1 ge2 b hi hi' h1 h2
    · exact absurd (H.sep i j ge1 _ b hi hj h1 h2) n1
    · exact absurd (H.sep i' j ge2 _ b hi' hj h2 h1) n2
    · rfl
  · rcases from' i ge' b hi hm with ⟨h1, _⟩ | ⟨rfl, h1⟩
    · exact (H.ok2 b hb).2 i ge' hi h1
    · exact (H.ok2 b hb).2 j _ hj h1
  · rcases from' i ge' b hi hb with ⟨h1, _⟩ | ⟨rfl, h1⟩
    · exact H.own i ge' b hi h1
    · exact H.own j _ b hj h1

/-- A new box. -/
theorem SRh.newBox {X : Cx} {B : Base} {h : HF} {w : World} (H : SRh X B h w) {id g : Nat} (he : h id = some (g, .dead)) {ty : Nat} {cs : List AV} {us : List Value} (hv : VRs X w cs us) (ho : (cs.all fun c => !c.isOw) = true) :
    X.le (X.setB id (g + 1) w.heap.size) ∧ SRh (X.setB id (g + 1) w.heap.size) B (upd h id (g + 1, .box ty cs)) (w.alloc (.cells us.toArray ty)) ∧ (∀ b, X.ok2 b → (w.alloc (.cells us.toArray ty)).heap[b]? = w.heap[b]?) := by
  obtain ⟨F, H⟩ := H
  have hX := Cx.le_setB (b := w.heap.size) (H.free he).1
  have hok : ∀ b, X.ok2 b → (w.alloc (.cells us.toArray ty)).heap[b]? = w.heap[b]? := fun b hb => Below.heap_alloc w _ b (H.ok2 b hb).1
  refine ⟨hX, ⟨_, H.turn he hX rfl rfl (fun i k hik => ⟨?_, rfl⟩) (Nat.le_succ g) (grown_alloc w _ _) (f := [w.heap.size]) ?_ (fun b hb => ?_)⟩, hok⟩
  · simp only [Cx.setB]
    rw [if_neg (by rintro ⟨rfl, rfl⟩; rcases hik with h | h <;> exact h rfl)]
  · exact ⟨w.heap.size, us, [], by simp [Cx.setB], heap_alloc_new w _, (hv.mono hX H.ok12 hok).trs ho, by simp, fun c hc => hc⟩
  · simp at hb
    subst hb
    exact ⟨.inr (Nat.le_refl _), by simp⟩

/-- A row: new, or changed. v: the slice as it is then; L: the block that the step wrote. -/
theorem SRf.newRow {X : Cx} {B : Base} {h : HF} {F : Nat → List Nat} {w w' : World} (H : SRf X B h F w) {id g : Nat} {e : Ent} (he : h id = some (g, e)) {ty sz : Nat} {xs : List (List AV)} {us : List Value} {v : Value} {L S : List Nat} (hw : Grew w w' L) (hL : ∀ b ∈ L, b ∈ F id ∧ b ∉ S)
    (hS : ∀ b ∈ S, b ∈ F id) (hSn : S.Nodup) (hown : Own w' ty sz v xs.length us) (hloc : ∀ b, (ownB v) = some b → (b ∈ F id ∧ b ∉ S) ∨ w.heap.size ≤ b) (hl : Lens sz xs) (hc : TRs X w xs.flatten us S) :
    X.le (X.setR id (g + 1) (v, sz)) ∧ SRh (X.setR id (g + 1) (v, sz)) B (upd h id (g + 1, .row ty sz xs)) w' ∧ (∀ b, X.ok2 b → w'.heap[b]? = w.heap[b]?) := by
  have hX := Cx.le_setR (v := (v, sz)) (H.free he).2
  have hok : ∀ b, X.ok2 b → w'.heap[b]? = w.heap[b]? := fun b hb => hw.block b (H.ok2 b hb).1 (fun e' => (H.ok2 b hb).2 id _ he (hL b e').1)
  have hblt : ∀ b ∈ S, b < w.heap.size := fun b hb => H.blk id _ b he (hS b hb)
  refine ⟨hX, ⟨_, H.turn he hX rfl rfl (fun i k hik => ⟨rfl, ?_⟩) (Nat.le_succ g) (hw.mono (fun b hb => (hL b hb).1)) (f := (ownB v).toList ++ S) ?_ (fun b hb => ?_)⟩, hok⟩
  · simp only [Cx.setR]
    rw [if_neg (by rintro ⟨rfl, rfl⟩; rcases hik with h | h <;> exact h rfl)]
  · refine ⟨v, us, S, by simp [Cx.setR], hown, hl, hc.mono hX H.ok12 hok (fun b hb => hw.block b (hblt b hb) (fun hm => (hL b hm).2 hb)), ?_, fun c hc => hc⟩
    rw [List.nodup_append]
    refine ⟨by cases (ownB v) <;> simp, hSn, fun a ha b hb => ?_⟩
    rintro rfl
    have ha' : (ownB v) = some a := by simpa using ha
    rcases hloc a ha' with h1 | h1
    · exact h1.2 hb
    · have := hblt a hb; omega
  · rw [List.mem_append] at hb
    rcases hb with hb | hb
    · have hb' : (ownB v) = some b := by simpa using hb
      refine ⟨?_, hown.lt hb'⟩
      rcases hloc b hb' with h1 | h1
      · exact .inl h1.1
      · exact .inr h1
    · exact ⟨.inl (hS b hb), Nat.lt_of_lt_of_le (hblt b hb) hw.size⟩

theorem VR.setR {X : Cx} {w : World} {id g sz n c : Nat} {A : Option Addr} : VR (X.setR id g (.slice A n c, sz)) w (.ref id g) (.slice A n c) := .ref (sz := sz) (by simp [Cx.setR])
theorem VR.setB {X : Cx} {w : World} {id g b : Nat} : VR (X.setB id g b) w (.ptr id g 0) (.pointer (some ⟨b, 0, none⟩)) := .ptr (by simp [Cx.setB])

/-! ### rows that are given up: from here on they are only read -/
/-- Cells that are closed as they stand. -/
def AV.cl : AV → Bool
  | .pv v => v.oneCell'
  | .row (.rd _) _ _ _ => true
  | .ifc _ (.pv _) => true
  | _ => false

theorem VR.closed {X : Cx} {w : World} {a : AV} {v : Value} (h : VR X w a v) (hc : a.cl = true) : CR X.ok1 X.ok2 w a v ∧ a.one = true := by
  cases a <;> simp only [AV.cl, Bool.false_eq_true] at hc
  case pv u => exact ⟨by rw [h.pv_inv]; exact .pv u, hc⟩
  case row m _ _ _ =>
    cases m with
    | ow => simp [AV.cl] at hc
    | rd c =>
      cases h with
      | cl h => exact ⟨h, rfl⟩
  case ifc t b =>
    cases b <;> simp only [AV.cl, Bool.false_eq_true] at hc
    case pv u =>
      refine ⟨?_, rfl⟩
      cases h with
      | cl h => exact h
      | ifc _ _ v h => rw [h.pv_inv]; exact .ifc _ _ _ (.pv u)

/-- What a value may be taken for. k: whether what the entry owns is given up for good (true), or lent (false). -/
inductive Le (k : Bool) : AV → AV → Prop
  | cl {a : AV} (h : a.cl = true) : Le k a a
  | nil {c : Bool} {ty sz : Nat} : Le k (.pv (.slice none 0 0)) (.row (.rd c) ty sz [])
  | rd {c c' : Bool} {ty sz : Nat} {xs xs' : List (List AV)} (hc : c' = true → c = true) (hl : xs'.length = xs.length) (h1 : ∀ (j : Nat) (x x' : List AV), xs[j]? = some x → xs'[j]? = some x' → x'.length = x.length)
      (h2 : ∀ (j i : Nat) (x x' : List AV) (y y' : AV), xs[j]? = some x → xs'[j]? = some x' → x[i]? = some y → x'[i]? = some y' → y'.one = true) (h : ∀ (j i : Nat) (x x' : List AV) (y y' : AV), xs[j]? = some x → xs'[j]? = some x' → x[i]? = some y → x'[i]? = some y' → Le k y y') :
      Le k (.row (.rd c) ty sz xs) (.row (.rd c') ty sz xs')
  | ow {c' : Bool} {ty sz : Nat} {xs xs' : List (List AV)} (hc : c' = true → k = true) (hl : xs'.length = xs.length) (h1 : ∀ (j : Nat) (x x' : List AV), xs[j]? = some x → xs'[j]? = some x' → x'.length = x.length)
      (h : ∀ (j i : Nat) (x x' : List AV) (y y' : AV), xs[j]? = some x → xs'[j]? = some x' → x[i]? = some y → x'[i]? = some y' → Le k y y') :
      Le k (.row .ow ty sz xs) (.row (.rd c') ty sz xs')

theorem CR.le {o1 o2 : Nat → Prop} {w : World} (h12 : ∀ b, o1 b → o2 b) {k : Bool} {a a' : AV} {v : Value} (hl : Le k a a') (h : CR o1 o2 w a v) : CR o1 o2 w a' v := by
  induction hl generalizing v with
  | cl _ => exact h
  | nil =>
    cases h with
    | pv => exact .row none 0 (fun _ _ => undef) (by simp) (by simp [maxLen]) (fun j x hx => by simp at hx) (fun j i x y hx _ => by simp at hx) (fun hp => by simp at hp) (fun ad j i x y hA => by cases hA) (fun j i x y hx _ => by simp at hx)
  | @rd c c' ty sz xs xs' hc hl h1 h2 hle ih =>
    cases h with
    | row A cp u k1 k2 k3 k4 k5 k6 k7 =>
      have get : ∀ (j : Nat) (x' : List AV), xs'[j]? = some x' → ∃ x, xs[j]? = some x := fun j x' hx => by
        have := (List.getElem?_eq_some_iff.1 hx).1
        exact ⟨_, List.getElem?_eq_getElem (by omega)⟩
      have get2 : ∀ (j i : Nat) (x' : List AV) (y' : AV), xs'[j]? = some x' → x'[i]? = some y' → ∃ x y, xs[j]? = some x ∧ x[i]? = some y := fun j i x' y' hx hy => by
        obtain ⟨x, hx0⟩ := get j x' hx
        have := (List.getElem?_eq_some_iff.1 hy).1
        have := h1 j x x' hx0 hx
        exact ⟨x, _, hx0, List.getElem?_eq_getElem (by omega)⟩
      rw [show xs.length = xs'.length from hl.symm]
      refine .row A cp u (by omega) k2 (fun j x' hx => ?_) (fun j i x' y' hx hy => ?_) (fun hp => ?_) (fun ad j i x' y' hA hx hy => ?_) (fun j i x' y' hx hy => ?_)
      · obtain ⟨x, hx0⟩ := get j x' hx
        rw [h1 j x x' hx0 hx]; exact k3 j x hx0
      · obtain ⟨x, y, hx0, hy0⟩ := get2 j i x' y' hx hy
        exact h2 j i x x' y y' hx0 hx hy0 hy
      · obtain ⟨ad, e, ho⟩ := k5 (by omega)
        refine ⟨ad, e, ?_⟩
        cases c' with
        | true => rw [hc rfl] at ho; exact ho
        | false => exact ho.ok2 h12
      · obtain ⟨x, y, hx0, hy0⟩ := get2 j i x' y' hx hy
        exact k6 ad j i x y hA hx0 hy0
      · obtain ⟨x, y, hx0, hy0⟩ := get2 j i x' y' hx hy
        exact ih j i x x' y y' hx0 hx hy0 hy (k7 j i x y hx0 hy0)
  | ow => cases h

/-- A row of one's own, read as one that is only read. -/
theorem row_of_own {o1 o2 : Nat → Prop} {w : World} {ty sz : Nat} {xs : List (List AV)} {us : List Value} {v : Value} {c : Bool} (h : Own w ty sz v xs.length us) (hl : Lens sz xs) (hc : CRs o1 o2 w xs.flatten us) (ho : ∀ b, (ownB v) = some b → okm o1 o2 c b) : CR o1 o2 w (.row (.rd c) ty sz xs) v := by
  have hu : ∀ (j i : Nat) (x : List AV) (y : AV), xs[j]? = some x → x[i]? = some y → us[j * sz + i]? = some (us.getD (j * sz + i) undef) ∧ xs.flatten[j * sz + i]? = some y := fun j i x y hx hy => by
    have hf := flat_get xs j i x y hl hx hy
    have hlt := (List.getElem?_eq_some_iff.1 hf).1
    have hlt' : j * sz + i < us.length := by rw [hc.len]; exact hlt
    exact ⟨by rw [List.getD_eq_getElem?_getD, List.getElem?_eq_getElem hlt']; rfl, hf⟩
  rcases h.2 with ⟨A, rfl, h0⟩ | ⟨b, cap, cur, rfl, hc0, h5, h6, h7, _⟩
  · have hxs : xs = [] := List.eq_nil_of_length_eq_zero h0
    subst hxs
    exact .row A 0 (fun _ _ => undef) (by simp) (by simp [maxLen]) hl (fun j i x y hx _ => by simp at hx) (fun hp => by simp at hp) (fun ad j i x y hA hx => by simp at hx) (fun j i x y hx _ => by simp at hx)
  · refine .row _ cap (fun j i => us.getD (j * sz + i) undef) h6 h7 hl (fun j i x y hx hy => hc.one _ _ (hu j i x y hx hy).2) (fun _ => ⟨⟨b, 0, none⟩, rfl, ho b (ownB_pos hc0)⟩) (fun ad j i x y hA hx hy => ?_) (fun j i x y hx hy => hc.rel _ _ _ (hu j i x y hx hy).2 (hu j i x y hx hy).1)
    cases hA
    obtain ⟨b', c', e, _, h8⟩ := h.cells (hu j i x y hx hy).1
    cases e
    exact h8

/-- Lists of cells, one after the other. -/
structure LeL (k : Bool) (cs cs' : List AV) : Prop where
  len : cs'.length = cs.length
  le : ∀ (i : Nat) (y y' : AV), cs[i]? = some y → cs'[i]? = some y' → Le k y y'

theorem LeL.flat {k : Bool} : ∀ (xs xs' : List (List AV)), xs'.length = xs.length → (∀ (j : Nat) (x x' : List AV), xs[j]? = some x → xs'[j]? = some x' → LeL k x x') → LeL k xs.flatten xs'.flatten
  | [], [], _, _ => ⟨rfl, fun i y y' h => by simp at h⟩
  | [], _ :: _, hl, _ => by simp at hl
  | _ :: _, [], hl, _ => by simp at hl
  | x :: xs, x' :: xs', hl, h => by
    have h0 := h 0 x x' rfl rfl
    have ih := LeL.flat xs xs' (by simpa using hl) (fun j y y' hy hy' => h (j + 1) y y' (by simpa using hy) (by simpa using hy'))
    refine ⟨by simp [h0.len, ih.len], fun i y y' hy hy' => ?_⟩
    rw [List.flatten_cons, List.getElem?_append] at hy hy'
    rw [h0.len] at hy'
    split at hy
    · rename_i hi
      rw [if_pos hi] at hy'
      exact h0.le i y y' hy hy'
    · rename_i hi
      rw [if_neg hi] at hy'
      exact ih.le _ y y' hy hy'

theorem Le.one {k : Bool} {a a' : AV} (h : Le k a a') (h1 : a.one = true) : a'.one = true := by
  cases h with
  | cl => exact h1
  | nil => rfl
  | rd => rfl
  | ow => rfl

theorem TRs.le {X : Cx} {w : World} {k : Bool} {o1 o2 : Nat → Prop} (h12 : ∀ b, o1 b → o2 b) (hX1 : ∀ b, X.ok1 b → o1 b) (hX2 : ∀ b, X.ok2 b → o2 b) (hX : ∀ b, X.ok1 b → X.ok2 b) {cs : List AV} {us : List Value} {S : List Nat} (h : TRs X w cs us S) :
    ∀ {cs' : List AV}, LeL k cs cs' → (∀ b ∈ S, o2 b ∧ (k = true → o1 b)) → CRs o1 o2 w cs' us := by
  induction h with
  | nil =>
    intro cs' hl _
    have := hl.len
    cases cs' with
    | nil => exact .nil
    | cons => simp at this
  | @vr X w y u cs us S h1 h2 h _ ih =>
    intro cs' hl hS
    cases cs' with
    | nil => have := hl.len; simp at this
    | cons y' cs' =>
      have hy := hl.le 0 y y' rfl rfl
      have ht : LeL k cs cs' := ⟨by simpa using hl.len, fun i z z' hz hz' => hl.le (i + 1) z z' (by simpa using hz) (by simpa using hz')⟩
      have hcr : CR X.ok1 X.ok2 w y u := by
        cases hy with
        | cl hc => exact (h.closed hc).1
        | nil => exact (h.closed rfl).1
        | rd => exact (h.closed rfl).1
        | ow => simp [AV.isOw] at h2
      exact .cons (hy.one h1) ((hcr.mono hX1 hX2 hX (fun _ _ => rfl)).le h12 hy) (ih hX1 hX2 hX ht hS)
  | @own X w ty sz xs v ws S' cs us S ho hlen _ _ ih1 ih2 =>
    intro cs' hl hS
    cases cs' with
    | nil => have := hl.len; simp at this
    | cons y' cs' =>
      have hy := hl.le 0 _ y' rfl rfl
      have ht : LeL k cs cs' := ⟨by simpa using hl.len, fun i z z' hz hz' => hl.le (i + 1) z z' (by simpa using hz) (by simpa using hz')⟩
      refine .cons (hy.one rfl) ?_ (ih2 hX1 hX2 hX ht (fun b hb => hS b (by simp [hb])))
      cases hy with
      | cl hc => simp [AV.cl] at hc
      | @ow c' _ _ _ xs' hc hl1 h1 h =>
        have hfl : LeL k xs.flatten xs'.flatten := LeL.flat xs xs' hl1 (fun j x x' hx hx' => ⟨h1 j x x' hx hx', fun i y y' hy hy' => h j i x x' y y' hx hx' hy hy'⟩)
        refine row_of_own (by rw [hl1]; exact ho) (fun j x' hx' => ?_) (ih1 hX1 hX2 hX hfl (fun b hb => hS b (by simp [hb]))) (fun b hb => ?_)
        · have hlt := (List.getElem?_eq_some_iff.1 hx').1
          have hx0 : xs[j]? = some (xs[j]'(by omega)) := List.getElem?_eq_getElem _
          rw [h1 j _ x' hx0 hx']
          exact hlen j _ hx0
        · have := hS b (by simp [hb])
          cases c' with
          | true => exact this.2 (hc rfl)
          | false => exact this.1

/-- A row is given up for good. -/
theorem SRh.freeze {X : Cx} {B : Base} {h : HF} {w : World} (H : SRh X B h w) {id g ty sz : Nat} {xs xs' : List (List AV)} (he : h id = some (g, .row ty sz xs)) (hle : Le true (.row .ow ty sz xs) (.row (.rd true) ty sz xs')) :
    ∃ Y : Cx, X.le Y ∧ SRh Y B (upd h id (g, .dead)) w ∧ ∀ v, VR X w (.ref id g) v → VR Y w (.row (.rd true) ty sz xs') v := by
  obtain ⟨F, H⟩ := H
  obtain ⟨v0, us, S, h1, h2, h3, h4, _, hF⟩ := H.ent _ _ _ he
  let Y : Cx := { X with ok1 := fun b => X.ok1 b ∨ b ∈ F id, ok2 := fun b => X.ok2 b ∨ b ∈ F id }
  have hX : X.le Y := ⟨fun b hb => .inl hb, fun b hb => .inl hb, fun _ _ _ h => h, fun _ _ _ h => h⟩
  have fne : ∀ i, i ≠ id → updF F id [] i = F i := fun i hi => by simp [updF, hi]
  have feq : updF F id [] id = [] := by simp [updF]
  refine ⟨Y, hX, ⟨updF F id [], ?_, ?_, ?_, ?_, ?_, ?_, ?_, ?_, ?_, H.os, H.tape, H.output, H.size, H.keep⟩, ?_⟩
  · intro i k c hc
    by_cases hi : i = id
    · subst hi; rw [upd_same] at hc; cases hc; trivial
    · rw [upd_other _ hi] at hc
      rw [fne i hi]
      exact (H.ent i k c hc).mono hX H.ok12 (fun _ _ => rfl) (fun _ _ => rfl)
  · intro i ge b hc hb
    by_cases hi : i = id
    · subst hi; rw [feq] at hb; cases hb
    · rw [upd_other _ hi] at hc; rw [fne i hi] at hb; exact H.blk i ge b hc hb
  · intro i i' ge ge' b hc hc' hb hb'
    by_cases hi : i = id
    · subst hi; rw [feq] at hb; cases hb
    · by_cases hi' : i' = id
      · subst hi'; rw [feq] at hb'; cases hb'
      · rw [upd_other _ hi] at hc
        rw [upd_other _ hi'] at hc'
        rw [fne i hi] at hb
        rw [fne i' hi'] at hb'
        exact H.sep i i' ge ge' b hc hc' hb hb'
  · intro b hb
    rcases hb with hb | hb
    · refine ⟨(H.ok2 b hb).1, fun i ge hc hbb => ?_⟩
      by_cases hi : i = id
      · subst hi; rw [feq] at hbb; cases hbb
      · rw [upd_other _ hi] at hc
        rw [fne i hi] at hbb
        exact (H.ok2 b hb).2 i ge hc hbb
    · refine ⟨H.blk id _ b he hb, fun i ge hc hbb => ?_⟩
      by_cases hi : i = id
      · subst hi; rw [feq] at hbb; cases hbb
      · rw [upd_other _ hi] at hc
        rw [fne i hi] at hbb
        exact hi (H.sep i id ge _ b hc he hbb hb)
  · intro b hb
    rcases hb with hb | hb
    · exact .inl (H.ok12 b hb)
    · exact .inr hb
  · intro b hb
    rcases hb with hb | hb
    · exact H.in1 b hb
    · exact .inr (H.own id _ b he hb)
  · intro b hb
    rcases hb with hb | hb
    · exact H.in2 b hb
    · exact .inr (H.own id _ b he hb)
  · intro i ge b hc hb
    by_cases hi : i = id
    · subst hi; rw [feq] at hb; cases hb
    · rw [upd_other _ hi] at hc
      rw [fne i hi] at hb
      exact H.own i ge b hc hb
  · intro i k hk
    by_cases hi : i = id
    · subst hi
      have := hk g .dead (upd_same _ _ _)
      exact H.hist i k (fun g' e' h' => by rw [he] at h'; cases h'; exact this)
    · exact H.hist i k (fun g' e' h' => hk g' e' (by rw [upd_other _ hi]; exact h'))
  · intro v hv
    obtain ⟨A, n, c, sz', rfl, hr⟩ := hv.ref_inv
    rw [h1] at hr
    cases hr
    cases hle with
    | ow hc hl1 h1' h' =>
      have hfl : LeL true xs.flatten xs'.flatten := LeL.flat xs xs' hl1 (fun j x x' hx hx' => ⟨h1' j x x' hx hx', fun i y y' hy hy' => h' j i x x' y y' hx hx' hy hy'⟩)
      have hcr : CRs Y.ok1 Y.ok2 w xs'.flatten us := h4.le (k := true) (o1 := Y.ok1) (o2 := Y.ok2) (fun b hb => by
        rcases hb with hb | hb
        · exact .inl (H.ok12 b hb)
        · exact .inr hb) (fun b hb => .inl hb) (fun b hb => .inl hb) H.ok12 hfl (fun b hb => ⟨.inr (hF b (by simp [hb])), fun _ => .inr (hF b (by simp [hb]))⟩)
      refine .cl (row_of_own (by rw [hl1]; exact h2) (fun j x' hx' => ?_) hcr (fun b hb => .inr (hF b (by simp [hb]))))
      have hlt := (List.getElem?_eq_some_iff.1 hx').1
      have hx0 : xs[j]? = some (xs[j]'(by omega)) := List.getElem?_eq_getElem _
      rw [h1' j _ x' hx0 hx']
      exact h3 j _ hx0

theorem upds_cons (h : HF) (id : Nat) (ge : Nat × Ent) (W : TL) : upds h ((id, ge) :: W) = upd (upds h W) id ge := by
  funext k
  simp only [upds, wfind_cons, wfind_nil, upd]
  by_cases e : k = id
  · subst e; simp
  · simp [e, Ne.symm e]
theorem upds_upd (h : HF) (id : Nat) (ge : Nat × Ent) (W : TL) (hn : (wfind W id).isSome = false) : upds (upd h id ge) W = upd (upds h W) id ge := by
  funext k
  simp only [upds, upd]
  by_cases e : k = id
  · subst e
    cases hw : wfind W k with
    | none => simp
    | some x => simp [hw] at hn
  · simp [e]

end Go.Proofs.Ytcleiaibcfocdaa.Am
