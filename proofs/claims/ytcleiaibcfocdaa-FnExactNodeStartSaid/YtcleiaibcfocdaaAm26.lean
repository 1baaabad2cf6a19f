/- The abstract machine, part 26: rows of one's own lent to a call. -/
import Derived.Test.YtcleiaibcfocdaaAm25
set_option linter.unusedVariables false
set_option linter.unusedSimpArgs false
namespace Go.Proofs.Ytcleiaibcfocdaa.Am
open Go Go.RowKit
variable {P : Program}

/-- What leans on nothing that was lent. -/
inductive Strict : AV → Prop
  | pv (v : Value) : Strict (.pv v)
  | row {ty sz : Nat} {xs : List (List AV)} (h : ∀ x ∈ xs, ∀ y ∈ x, Strict y) : Strict (.row (.rd true) ty sz xs)
  | ifc {t : TypeId} {a : AV} (h : Strict a) : Strict (.ifc t a)
  | agg {cs : List AV} (h : ∀ y ∈ cs, Strict y) : Strict (.agg cs)
  | tup {cs : List AV} (h : ∀ y ∈ cs, Strict y) : Strict (.tup cs)
theorem Strict.cr {o1 o2 : Nat → Prop} {w : World} {a : AV} (hs : Strict a) : ∀ {v : Value}, CR o1 o2 w a v → CR o1 o1 w a v := by
  induction hs with
  | pv u => intro v h; cases h; exact .pv u
  | row _ ih =>
    intro v h
    cases h with
    | row A c u hc hm hlen hone had hcell hrec => exact .row A c u hc hm hlen hone had hcell (fun j i x y hx hy => ih x (List.mem_of_getElem? hx) y (List.mem_of_getElem? hy) (hrec j i x y hx hy))
  | ifc _ ih => intro v h; cases h with | ifc _ _ u h => exact .ifc _ _ u (ih h)
  | agg _ ih => intro v h; cases h with | agg us hl hone h => exact .agg us hl hone (fun i y u hy hu => ih y (List.mem_of_getElem? hy) (h i y u hy hu))
  | tup => intro v h; cases h
theorem Strict.vr {X Y : Cx} {w : World} {a : AV} (hs : Strict a) (h1 : ∀ b, X.ok1 b → Y.ok1 b) (h2 : ∀ b, X.ok1 b → Y.ok2 b) : ∀ {v : Value}, VR X w a v → VR Y w a v := by
  have base : ∀ {a : AV} {v : Value}, Strict a → CR X.ok1 X.ok2 w a v → VR Y w a v := fun hs h => .cl ((hs.cr h).mono h1 h2 (fun _ h => h) (fun b hb => rfl))
  induction hs with
  | pv u => intro v h; rw [h.pv_inv]; exact .pv u
  | row h0 => intro v h; cases h with | cl h => exact base (.row h0) h
  | ifc h0 ih =>
    intro v h
    cases h with
    | cl h => exact base (.ifc h0) h
    | ifc _ _ u h => exact .ifc _ _ u (ih h)
  | agg h0 ih =>
    intro v h
    cases h with
    | cl h => exact base (.agg h0) h
    | agg us hl hone h => exact .agg us hl hone (fun i y u hy hu => ih y (List.mem_of_getElem? hy) (h i y u hy hu))
  | tup h0 ih =>
    intro v h
    cases h with
    | cl h => exact base (.tup h0) h
    | tup us hl h => exact .tup us hl (fun i y u hy hu => ih y (List.mem_of_getElem? hy) (h i y u hy hu))
theorem strict_map {α : Type} {f : α → List AV} {ty sz : Nat} {l : List α} (h : ∀ a, ∀ y ∈ f a, Strict y) : Strict (.row (.rd true) ty sz (l.map f)) := .row fun x hx y hy => by
  obtain ⟨a, _, rfl⟩ := List.mem_map.1 hx
  exact h a y hy
theorem strict_pvs {cs : List AV} (h : (cs.all fun c => match c with | .pv _ => true | _ => false) = true) : ∀ y ∈ cs, Strict y := fun y hy => by
  have := List.all_eq_true.1 h y hy
  cases y <;> first | exact .pv _ | simp at this

/-- What is lent of values: closed ones as they are, rows of one's own (T) as rows that are read. -/
inductive LendL (h : Hp) : List AV → List AV → TL → Prop
  | nil : LendL h [] [] []
  | cl {a : AV} {as bs : List AV} {T : TL} (hc : a.cl = true) (t : LendL h as bs T) : LendL h (a :: as) (a :: bs) T
  | le {a b : AV} {as bs : List AV} {T : TL} (hc : a.cl = true) (hl : Le false a b) (t : LendL h as bs T) : LendL h (a :: as) (b :: bs) T
  | ref {id g ty sz : Nat} {xs xs' : List (List AV)} {as bs : List AV} {T : TL} (hh : wfind h id = some (g, .row ty sz xs)) (hl : Le false (.row .ow ty sz xs) (.row (.rd false) ty sz xs')) (t : LendL h as bs T) :
      LendL h (.ref id g :: as) (.row (.rd false) ty sz xs' :: bs) ((id, (g, .row ty sz xs)) :: T)
  | agg {cs ds as bs : List AV} {T1 T : TL} (h1 : (cs.all AV.one) = true) (hc : LendL h cs ds T1) (t : LendL h as bs T) : LendL h (.agg cs :: as) (.agg ds :: bs) (T1 ++ T)

theorem LendL.one {h : Hp} {as bs : List AV} {T : TL} (k : LendL h as bs T) : (as.all AV.one) = true → (bs.all AV.one) = true := by
  induction k with
  | nil => exact fun h => h
  | cl hc t ih => intro ha; rw [List.all_cons, Bool.and_eq_true] at ha ⊢; exact ⟨ha.1, ih ha.2⟩
  | le hc hl t ih => intro ha; rw [List.all_cons, Bool.and_eq_true] at ha ⊢; exact ⟨hl.one ha.1, ih ha.2⟩
  | ref hh hl t ih => intro ha; rw [List.all_cons, Bool.and_eq_true] at ha ⊢; exact ⟨rfl, ih ha.2⟩
  | agg => intro ha; simp [AV.one] at ha
theorem LendL.len {h : Hp} {as bs : List AV} {T : TL} (k : LendL h as bs T) : bs.length = as.length := by
  induction k with
  | nil => rfl
  | cl _ _ ih => simp [ih]
  | le _ _ _ ih => simp [ih]
  | ref _ _ _ ih => simp [ih]
  | agg _ _ _ _ ih => simp [ih]
theorem LendL.inH {h : Hp} {as bs : List AV} {T : TL} (k : LendL h as bs T) : InH h T := by
  induction k with
  | nil => exact .nil
  | cl _ _ ih => exact ih
  | le _ _ _ ih => exact ih
  | ref hh _ _ ih => exact .cons hh ih
  | agg _ _ _ ih1 ih2 =>
    intro p hp
    rcases List.mem_append.1 hp with hp | hp
    · exact ih1 p hp
    · exact ih2 p hp

theorem LendL.sound {h : Hp} {as bs : List AV} {T : TL} (k : LendL h as bs T) : ∀ {X : Cx} {B : Base} {hF : HF} {F : Nat → List Nat} {w : World} {o2 : Nat → Prop} {vs : List Value}, SRf X B hF F w → (∀ b, X.ok2 b → o2 b) → (∀ id ge, (id, ge) ∈ T → hF id = some ge) → (∀ id ge, (id, ge) ∈ T → ∀ b ∈ F id, o2 b) →
    vs.length = as.length → (∀ (i : Nat) (a : AV) (v : Value), as[i]? = some a → vs[i]? = some v → VR X w a v) → ∀ (i : Nat) (b : AV) (v : Value), bs[i]? = some b → vs[i]? = some v → CR X.ok1 o2 w b v := by
  have glue : ∀ {o1 o2 : Nat → Prop} {w : World} {b : AV} {bs : List AV} {v : Value} {vs : List Value}, CR o1 o2 w b v → (∀ (i : Nat) (c : AV) (u : Value), bs[i]? = some c → vs[i]? = some u → CR o1 o2 w c u) → ∀ (i : Nat) (c : AV) (u : Value), (b :: bs)[i]? = some c → (v :: vs)[i]? = some u → CR o1 o2 w c u := by
    intro o1 o2 w b bs v vs h1 h2 i c u hc hu
    cases i with
    | zero =>
      simp only [List.getElem?_cons_zero, Option.some.injEq] at hc hu
      rw [← hc, ← hu]; exact h1
    | succ i => exact h2 i c u (by simpa using hc) (by simpa using hu)
  induction k with
  | nil => intro X B hF F w o2 vs _ _ _ _ _ _ i b v hb; simp at hb
  | cl hc t ih =>
    intro X B hF F w o2 vs hS h2 hT hb hl hr
    cases vs with
    | nil => simp at hl
    | cons v vs =>
      exact glue (((hr 0 _ v rfl rfl).closed hc).1.mono (fun _ h => h) h2 hS.ok12 (fun _ _ => rfl)) (ih hS h2 hT hb (by simpa using hl) (fun i c u hc hu => hr (i + 1) c u (by simpa using hc) (by simpa using hu)))
  | le hc hle t ih =>
    intro X B hF F w o2 vs hS h2 hT hb hl hr
    cases vs with
    | nil => simp at hl
    | cons v vs =>
      exact glue ((((hr 0 _ v rfl rfl).closed hc).1.mono (fun _ h => h) h2 hS.ok12 (fun _ _ => rfl)).le (fun b hb => h2 b (hS.ok12 b hb)) hle) (ih hS h2 hT hb (by simpa using hl) (fun i c u hc hu => hr (i + 1) c u (by simpa using hc) (by simpa using hu)))
  | @ref id g ty sz xs xs' as bs T hh hle t ih =>
    intro X B hF F w o2 vs hS h2 hT hb hl hr
    cases vs with
    | nil => simp at hl
    | cons v vs =>
      refine glue ?_ (ih hS h2 (fun i ge hm => hT i ge (List.mem_cons_of_mem _ hm)) (fun i ge hm => hb i ge (List.mem_cons_of_mem _ hm)) (by simpa using hl) (fun i c u hc hu => hr (i + 1) c u (by simpa using hc) (by simpa using hu)))
      obtain ⟨v0, us, S, q1, q2, q3, q4, q5, q6⟩ := hS.ent _ _ _ (hT id _ (List.mem_cons_self ..))
      obtain ⟨A, nn, c, s0, e1, e2⟩ := (hr 0 _ v rfl rfl).ref_inv
      rw [q1] at e2
      cases e2
      have hF' := hb id _ (List.mem_cons_self ..)
      cases hle with
      | ow hc hl1 h1 h =>
        have hfl : LeL false xs.flatten xs'.flatten := LeL.flat xs xs' hl1 (fun j x x' hx hx' => ⟨h1 j x x' hx hx', fun i y y' hy hy' => h j i x x' y y' hx hx' hy hy'⟩)
        have hcr := q4.le (k := false) (o1 := X.ok1) (o2 := o2) (fun b hb => h2 b (hS.ok12 b hb)) (fun _ h => h) h2 hS.ok12 hfl (fun b hb => ⟨hF' b (q6 b (List.mem_append_right _ hb)), fun h => (by cases h)⟩)
        rw [e1]
        refine row_of_own (by rw [hl1]; exact q2) (fun j x' hx' => ?_) hcr (fun b hb => hF' b (q6 b (by simp [hb])))
        have hlt := (List.getElem?_eq_some_iff.1 hx').1
        have hx0 : xs[j]? = some (xs[j]'(by omega)) := List.getElem?_eq_getElem _
        rw [h1 j _ x' hx0 hx']
        exact q3 j _ hx0
  | @agg cs ds as bs T1 T h1 hc t ih1 ih2 =>
    intro X B hF F w o2 vs hS h2 hT hb hl hr
    cases vs with
    | nil => simp at hl
    | cons v vs =>
      refine glue ?_ (ih2 hS h2 (fun i ge hm => hT i ge (List.mem_append_right _ hm)) (fun i ge hm => hb i ge (List.mem_append_right _ hm)) (by simpa using hl) (fun i c u hc hu => hr (i + 1) c u (by simpa using hc) (by simpa using hu)))
      obtain ⟨us, rfl, hu⟩ := (hr 0 _ v rfl rfl).agg_inv
      have h1' := hc.one h1
      exact .agg us (by rw [hu.len, hc.len]) (fun i y hy => List.all_eq_true.1 h1' y (List.mem_of_getElem? hy)) (ih1 hS h2 (fun i ge hm => hT i ge (List.mem_append_left _ hm)) (fun i ge hm => hb i ge (List.mem_append_left _ hm)) hu.len hu.rel)

/-- A call that is lent rows of one's own. -/
theorem lend_call {f : FuncId} {as bs : List AV} {h : Hp} {T : TL} {out : AV} (hP : Pure P f bs out) (hl : LendL h as bs T) (hs : Strict out) : CallA P f as T [] out := by
  refine ⟨hP.1, fun X B hF w vs hS hlen hr hT => ?_⟩
  obtain ⟨F, hS⟩ := hS
  let lent : Nat → Prop := fun b => ∃ id ge, (id, ge) ∈ T ∧ b ∈ F id
  let X0 : Cx := ⟨X.ok1, fun b => X.ok2 b ∨ lent b, fun _ _ => none, fun _ _ => none⟩
  let B0 : Base := ⟨w, fun _ => False, X0.ok1, X0.ok2⟩
  have lt : ∀ b, lent b → b < w.heap.size := fun b ⟨id, ge, h1, h2⟩ => hS.blk id ge b (hT id ge h1) h2
  have lno : ∀ b, lent b → ¬ X.ok2 b := fun b ⟨id, ge, h1, h2⟩ h3 => (hS.ok2 b h3).2 id ge (hT id ge h1) h2
  have hcr := hl.sound (o2 := X0.ok2) hS (fun b hb => .inl hb) hT (fun id ge hm b hb => .inr ⟨id, ge, hm, hb⟩) hlen hr
  have hS0 : SRh X0 B0 (hf []) w := by
    refine ⟨fun _ => [], ?_, ?_, ?_, ?_, fun b hb => .inl (hS.ok12 b hb), fun b hb => .inl hb, fun b hb => .inl hb, ?_, fun _ _ _ => ⟨rfl, rfl⟩, rfl, rfl, rfl, Nat.le_refl _, fun _ _ _ => rfl⟩
    · intro id g e he; cases he
    · intro id ge b he; cases he
    · intro id id' ge ge' b he; cases he
    · refine fun b hb => ⟨?_, fun id ge he => by cases he⟩
      rcases hb with hb | hb
      · exact (hS.ok2 b hb).1
      · exact lt b hb
    · intro id ge b he; cases he
  refine (hP.2 X0 B0 (hf []) w vs hS0 (by rw [hl.len]; exact hlen) (fun i a v ha hv => .cl (hcr i a v ha hv)) (fun _ _ h => by cases h)).mono fun e w' hh => ?_
  obtain ⟨v, rfl, X', k1, ⟨F', k2⟩, k3, k4⟩ := hh
  have hkeep : ∀ b, b < w.heap.size → w'.heap[b]? = w.heap[b]? := fun b hb => k2.keep b hb (fun h => h)
  have in1 : ∀ b, X'.ok1 b → X.ok1 b ∨ w.heap.size ≤ b := fun b hb => by
    rcases k2.in1 b hb with h | h | h
    · exact .inl h
    · exact h.elim
    · exact .inr h
  have nol : ∀ b, X'.ok1 b → ¬ lent b := fun b hb hlb => by
    rcases in1 b hb with h | h
    · exact lno b hlb (hS.ok12 b h)
    · exact absurd (lt b hlb) (Nat.not_lt.2 h)
  let Z : Cx := ⟨X'.ok1, fun b => X'.ok2 b ∧ ¬ lent b, X.bx, X.rw⟩
  have hX : X.le Z := ⟨k1.ok1, fun b hb => ⟨k1.ok2 b (.inl hb), fun h => lno b h hb⟩, fun _ _ _ h => h, fun _ _ _ h => h⟩
  refine ⟨v, rfl, Z, hX, ⟨F, ?_, ?_, ?_, ?_, fun b hb => ⟨k2.ok12 b hb, nol b hb⟩, ?_, ?_, ?_, ?_, k2.os.trans hS.os, k2.tape.trans hS.tape, k2.output.trans hS.output, Nat.le_trans hS.size k2.size, fun b hb hs' => (hkeep b (Nat.lt_of_lt_of_le hb hS.size)).trans (hS.keep b hb hs')⟩, fun b hb => hkeep b (hS.ok2 b hb).1, hs.vr (X := X') (Y := Z) (fun _ h => h) (fun b hb => ⟨k2.ok12 b hb, nol b hb⟩) k4⟩
  · intro id g e he
    rw [upds_nil] at he
    exact (hS.ent id g e he).mono hX hS.ok12 (fun b hb => hkeep b (hS.ok2 b hb).1) (fun b hb => hkeep b (hS.blk id _ b he hb))
  · intro id ge b he hb
    rw [upds_nil] at he
    exact Nat.lt_of_lt_of_le (hS.blk id ge b he hb) k2.size
  · intro id id' ge ge' b he he' hb hb'
    rw [upds_nil] at he he'
    exact hS.sep id id' ge ge' b he he' hb hb'
  · refine fun b hb => ⟨(k2.ok2 b hb.1).1, fun id ge he hm => ?_⟩
    rw [upds_nil] at he
    rcases k2.in2 b hb.1 with h | h | h
    · rcases h with h | h
      · exact (hS.ok2 b h).2 id ge he hm
      · exact hb.2 h
    · exact h.elim
    · exact absurd (hS.blk id ge b he hm) (Nat.not_lt.2 h)
  · intro b hb
    rcases in1 b hb with h | h
    · exact hS.in1 b h
    · exact .inr (.inr (Nat.le_trans hS.size h))
  · intro b hb
    rcases k2.in2 b hb.1 with h | h | h
    · rcases h with h | h
      · exact hS.in2 b h
      · exact absurd h hb.2
    · exact h.elim
    · exact .inr (.inr (Nat.le_trans hS.size h))
  · intro id ge b he hb
    rw [upds_nil] at he
    exact hS.own id ge b he hb
  · intro id g hg
    refine hS.hist id g (fun g' e hh => hg g' e ?_)
    rw [upds_nil]; exact hh
theorem rl_lend {tt : TT} {ops : Array Oper} {r : List Oper} {fr : Fr} {h : Hp} {lg : Log} {K : Fr → Hp → Log → Prop} {d : Nat} {ty : TypeId} {pos : String} {af : Array Edge} {f : FuncId} {x : Operand} {args : Array Operand} {at' : Array TypeId} {fi cap avs as bs : List AV} {T : TL} {out : AV}
    (hf : evO fr x = some (.fn (.func f) fi cap)) (ha : evL (evO fr) args.toList = some avs) (he : fi ++ avs ++ cap = as) (hl : LendL h as bs T) (hC : Pure P f bs out) (hs : Strict out) (k : RunL P tt ops r ((d, out) :: fr) h ((ids T, []) :: lg) K) :
    RunL P tt ops (⟨some d, .call { callee := .value x, args := args, argTypes := at' }, ty, pos, af, none⟩ :: r) fr h lg K := by
  subst he
  refine rl_inl ?_; simp only [StepK, Opt, hf, ha]
  exact ⟨out, T, [], lend_call hC hl hs, hl.inH, Sub.nil, k⟩
end Go.Proofs.Ytcleiaibcfocdaa.Am
