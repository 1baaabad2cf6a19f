/- The abstract machine, part 16: functions. -/
import Derived.Test.YtcleiaibcfocdaaAm15
set_option linter.unusedVariables false
set_option linter.unusedSimpArgs false
namespace Go.Proofs.Ytcleiaibcfocdaa.Am
open Go Go.RowKit

variable {P : Program}

/-- Values that are closed as they stand, structs among them. -/
def AV.clA : AV → Bool
  | .agg cs => cs.all AV.cl
  | a => a.cl

theorem VR.closedA {X : Cx} {w : World} {a : AV} {v : Value} (h : VR X w a v) (hc : a.clA = true) : CR X.ok1 X.ok2 w a v := by
  by_cases ha : ∃ cs, a = .agg cs
  · obtain ⟨cs, rfl⟩ := ha
    obtain ⟨us, rfl, hu⟩ := h.agg_inv
    simp only [AV.clA, List.all_eq_true] at hc
    exact .agg us hu.len hu.one (fun i y u hy hu' => ((hu.rel i y u hy hu').closed (hc y (List.mem_of_getElem? hy))).1)
  · have : a.cl = true := by cases a <;> first | exact hc | exact absurd ⟨_, rfl⟩ ha
    exact (h.closed this).1

/-- What is handed back: rows of one's own are given up. -/
inductive FinL : Hp → List AV → List AV → Hp → Prop
  | nil {h : Hp} : FinL h [] [] h
  | cl {h h' : Hp} {a : AV} {as bs : List AV} (hc : a.cl = true) (t : FinL h as bs h') : FinL h (a :: as) (a :: bs) h'
  | le {h h' : Hp} {a b : AV} {as bs : List AV} (hc : a.cl = true) (hl : Le true a b) (t : FinL h as bs h') : FinL h (a :: as) (b :: bs) h'
  | ref {h h' : Hp} {id g ty sz : Nat} {xs xs' : List (List AV)} {as bs : List AV} (he : wfind h id = some (g, .row ty sz xs)) (hl : Le true (.row .ow ty sz xs) (.row (.rd true) ty sz xs')) (t : FinL ((id, (g, .dead)) :: h) as bs h') :
      FinL h (.ref id g :: as) (.row (.rd true) ty sz xs' :: bs) h'
  | agg {h h1 h' : Hp} {cs ds as bs : List AV} (h1c : (cs.all AV.one) = true) (hc : FinL h cs ds h1) (t : FinL h1 as bs h') : FinL h (.agg cs :: as) (.agg ds :: bs) h'

theorem FinL.one {h h' : Hp} {as bs : List AV} (k : FinL h as bs h') : (as.all AV.one) = true → (bs.all AV.one) = true := by
  induction k with
  | nil => exact fun h => h
  | cl hc t ih => intro h; rw [List.all_cons, Bool.and_eq_true] at h ⊢; exact ⟨h.1, ih h.2⟩
  | le hc hl t ih => intro h; rw [List.all_cons, Bool.and_eq_true] at h ⊢; exact ⟨hl.one h.1, ih h.2⟩
  | ref he hl t ih => intro h; rw [List.all_cons, Bool.and_eq_true] at h ⊢; exact ⟨rfl, ih h.2⟩
  | agg _ _ t _ ih2 => intro h; rw [List.all_cons, Bool.and_eq_true] at h; simp [AV.one] at h

theorem FinL.len {h h' : Hp} {as bs : List AV} (k : FinL h as bs h') : bs.length = as.length := by
  induction k with
  | nil => rfl
  | cl _ _ ih => simp [ih]
  | le _ _ _ ih => simp [ih]
  | ref _ _ _ ih => simp [ih]
  | agg _ _ _ _ ih => simp [ih]

theorem CR.grow {X Y : Cx} {w : World} {a : AV} {v : Value} (h : CR X.ok1 X.ok2 w a v) (hX : X.le Y) (h12 : ∀ b, X.ok1 b → X.ok2 b) : CR Y.ok1 Y.ok2 w a v := h.mono hX.ok1 hX.ok2 h12 (fun _ _ => rfl)

theorem FinL.sound {B : Base} {w : World} {h h' : Hp} {as bs : List AV} (k : FinL h as bs h') : ∀ {X : Cx} {vs : List Value}, SRh X B (hf h) w → vs.length = as.length → (∀ (i : Nat) (a : AV) (v : Value), as[i]? = some a → vs[i]? = some v → VR X w a v) →
    ∃ Y : Cx, X.le Y ∧ SRh Y B (hf h') w ∧ ∀ (i : Nat) (b : AV) (v : Value), bs[i]? = some b → vs[i]? = some v → CR Y.ok1 Y.ok2 w b v := by
  have shift : ∀ {X Y : Cx} {a : AV} {as : List AV} {v : Value} {vs : List Value}, X.le Y → (∀ b, X.ok1 b → X.ok2 b) → (∀ (i : Nat) (c : AV) (u : Value), (a :: as)[i]? = some c → (v :: vs)[i]? = some u → VR X w c u) → ∀ (i : Nat) (c : AV) (u : Value), as[i]? = some c → vs[i]? = some u → VR Y w c u :=
    fun hX h12 hr i c u hc hu => (hr (i + 1) c u (by simpa using hc) (by simpa using hu)).mono hX h12 (fun _ _ => rfl)
  have glue : ∀ {Y : Cx} {b : AV} {bs : List AV} {v : Value} {vs : List Value}, CR Y.ok1 Y.ok2 w b v → (∀ (i : Nat) (c : AV) (u : Value), bs[i]? = some c → vs[i]? = some u → CR Y.ok1 Y.ok2 w c u) → ∀ (i : Nat) (c : AV) (u : Value), (b :: bs)[i]? = some c → (v :: vs)[i]? = some u → CR Y.ok1 Y.ok2 w c u := by
    intro Y b bs v vs h1 h2 i c u hc hu
    cases i with
    | zero =>
      simp only [List.getElem?_cons_zero, Option.some.injEq] at hc hu
      rw [← hc, ← hu]; exact h1
    | succ i => exact h2 i c u (by simpa using hc) (by simpa using hu)
  induction k with
  | nil =>
    intro X vs hS hl hr
    exact ⟨X, Cx.le.refl X, hS, fun i b v hb => by simp at hb⟩
  | @cl h h' a as bs hc t ih =>
    intro X vs hS hl hr
    cases vs with
    | nil => simp at hl
    | cons v vs =>
      obtain ⟨Y, k1, k2, k3⟩ := ih hS (by simpa using hl) (shift (Cx.le.refl X) hS.ok12 hr)
      exact ⟨Y, k1, k2, glue ((hr 0 a v rfl rfl).closed hc |>.1.grow k1 hS.ok12) k3⟩
  | @le h h' a b as bs hc hle t ih =>
    intro X vs hS hl hr
    cases vs with
    | nil => simp at hl
    | cons v vs =>
      obtain ⟨Y, k1, k2, k3⟩ := ih hS (by simpa using hl) (shift (Cx.le.refl X) hS.ok12 hr)
      exact ⟨Y, k1, k2, glue ((((hr 0 a v rfl rfl).closed hc).1.le hS.ok12 hle).grow k1 hS.ok12) k3⟩
  | @ref h h' id g ty sz xs xs' as bs he hle t ih =>
    intro X vs hS hl hr
    cases vs with
    | nil => simp at hl
    | cons v vs =>
      obtain ⟨Y, k1, k2, k3⟩ := hS.freeze (id := id) he hle
      rw [← hf_cons] at k2
      obtain ⟨Z, g1, g2, g3⟩ := ih k2 (by simpa using hl) (shift k1 hS.ok12 hr)
      have := k3 v (hr 0 _ v rfl rfl)
      exact ⟨Z, k1.trans g1, g2, glue ((this.closed rfl).1.grow g1 k2.ok12) g3⟩
  | @agg h h1 h' cs ds as bs h1c hc t ih1 ih2 =>
    intro X vs hS hl hr
    cases vs with
    | nil => simp at hl
    | cons v vs =>
      obtain ⟨us, rfl, hu⟩ := (hr 0 _ v rfl rfl).agg_inv
      obtain ⟨Y, k1, k2, k3⟩ := ih1 hS hu.len hu.rel
      obtain ⟨Z, g1, g2, g3⟩ := ih2 k2 (by simpa using hl) (shift k1 hS.ok12 hr)
      refine ⟨Z, k1.trans g1, g2, glue (.agg us (by rw [hc.len]; exact hu.len) (fun i y hy => ?_) (fun i y u hy hu' => (k3 i y u hy hu').grow g1 k2.ok12)) g3⟩
      have := hc.one h1c
      rw [List.all_eq_true] at this
      exact this y (List.mem_of_getElem? hy)

/-- A function's results, read off its frame and its heap of ids. -/
def resA (tt : TT) (fr : Fr) (h : Hp) : List ResultVar → Option (List AV)
  | [] => some []
  | .tmp t :: r => match fr.get t, resA tt fr h r with
    | some a, some l => some (a :: l)
    | _, _ => none
  | .cell t ty :: r => match fr.get t with
    | some a => match tt ty, peek h a with
      | some S, some p => match ldv S p.1, resA tt fr h r with
        | some o, some l => some (o :: l)
        | _, _ => none
      | _, _ => none
    | none => none

theorem load_run {tt : TT} (htt : TTOk P tt) {h : Hp} {X : Cx} {B : Base} {w : World} {t : Nat} {S : TS} {a out : AV} {cs : List AV} {T : TL} {v : Value} (hs : tt t = some S) (hp : peek h a = some (cs, T)) (hl : ldv S cs = some out) (hS : SRh X B (hf h) w) (hv : VR X w a v) :
    ∃ ad u, v = .pointer (some ad) ∧ (loadVar t ad).run P w = .ok u w ∧ VR X w out u := by
  obtain ⟨ad, e, hc⟩ := peek_cells hp hS (fun id ge hm => peek_T hp _ hm) hv
  have S' := htt _ _ hs
  obtain ⟨us, hus, hcell⟩ := hc.list
  refine ⟨ad, ?_⟩
  unfold ldv at hl
  split at hl
  · rename_i hagg
    split at hl
    · rename_i hn
      cases hl
      have hlen : (us.take S.size).length = S.size := by rw [List.length_take, hus.len]; omega
      have hld := run_loadCells_list (P := P) w ad (us.take S.size) (fun j v hv => by
        rw [List.getElem?_take] at hv
        split at hv
        · exact hcell j v hv
        · cases hv)
      rw [hlen] at hld
      exact ⟨.agg (us.take S.size).toArray, e, by simp [loadVar, S'.isAgg, S'.sizeOf, hagg, hld], (hus.take _).agg⟩
    · cases hl
  · rename_i hagg
    cases cs with
    | nil => cases hl
    | cons c r =>
      cases hl
      obtain ⟨h1, u, h2, h3⟩ := hc.get 0 _ rfl
      have hag : S.agg = false := by simpa using hagg
      have h2' : w.cell? ad = some u := h2
      exact ⟨u, e, by simp [loadVar, S'.isAgg, hag, load, Sem.run, h2'], h3⟩

def resOne (tmps : Array Value) : ResultVar → Sem Value
  | .tmp t => pure (tmps.getD t undef)
  | .cell t ty => do loadVar ty (← asAddr (tmps.getD t undef))
theorem results_eq (fn : Func) (tmps : Array Value) : results fn tmps = (do
  let vs ← fn.results.mapM (resOne tmps)
  pure (if h : vs.size = 1 then vs[0] else .tuple vs)) := by
  unfold results
  congr 2

theorem resA_run {tt : TT} (htt : TTOk P tt) {fr : Fr} {h : Hp} {X : Cx} {B : Base} {w : World} {n : Nat} {a : Act} (hS : SRh X B (hf h) w) (hF : FrOK X w n fr.get a) : ∀ (rs : List ResultVar) (l : List AV), resA tt fr h rs = some l →
    ∃ vs : List Value, (rs.mapM (resOne a.tmps)).run P w = .ok vs w ∧ vs.length = l.length ∧ ∀ (i : Nat) (b : AV) (v : Value), l[i]? = some b → vs[i]? = some v → VR X w b v
  | [], l, hr => by cases hr; exact ⟨[], by simp, rfl, fun i b v hb => by simp at hb⟩
  | .tmp t :: r, l, hr => by
    unfold resA at hr
    split at hr
    · rename_i av l' h1 h2
      cases hr
      obtain ⟨vs, k1, k2, k3⟩ := resA_run htt hS hF r l' h2
      obtain ⟨v, g1, g2⟩ := hF.slot t av h1
      refine ⟨v :: vs, ?_, by simp [k2], fun i b u hb hu => ?_⟩
      · have e : a.tmps.getD t undef = v := by rw [Array.getD_eq_getD_getElem?, g1]; rfl
        simp only [List.mapM_cons, resOne, Sem.run_bind, Sem.run_pure, Result.andThen_ok, e, k1]
      · cases i with
        | zero =>
          simp only [List.getElem?_cons_zero, Option.some.injEq] at hb hu
          rw [← hb, ← hu]; exact g2
        | succ i => exact k3 i b u (by simpa using hb) (by simpa using hu)
    · cases hr
  | .cell t ty :: r, l, hr => by
    unfold resA at hr
    split at hr
    · rename_i av h1
      split at hr
      · rename_i S p h2 h3
        split at hr
        · rename_i o l' h4 h5
          cases hr
          obtain ⟨vs, k1, k2, k3⟩ := resA_run htt hS hF r l' h5
          obtain ⟨v, g1, g2⟩ := hF.slot t av h1
          obtain ⟨ad, u, e, q1, q2⟩ := load_run htt h2 h3 h4 hS g2
          subst e
          refine ⟨u :: vs, ?_, by simp [k2], fun i b x hb hx => ?_⟩
          · have e : a.tmps.getD t undef = .pointer (some ad) := by rw [Array.getD_eq_getD_getElem?, g1]; rfl
            simp only [List.mapM_cons, resOne, Sem.run_bind, Sem.run_pure, Result.andThen_ok, e, asAddr, q1, k1]
          · cases i with
            | zero =>
              simp only [List.getElem?_cons_zero, Option.some.injEq] at hb hx
              rw [← hb, ← hx]; exact q2
            | succ i => exact k3 i b x (by simpa using hb) (by simpa using hx)
        · cases hr
      · cases hr
    · cases hr

def one1 : List AV → AV
  | [a] => a
  | l => .tup l

theorem results_run {tt : TT} (htt : TTOk P tt) {fn : Func} {fr : Fr} {h : Hp} {X : Cx} {B : Base} {w : World} {n : Nat} {a : Act} (hS : SRh X B (hf h) w) (hF : FrOK X w n fr.get a) {l : List AV} (hr : resA tt fr h fn.results.toList = some l) :
    ∃ vs : List Value, (results fn a.tmps).run P w = .ok (if h : vs.length = 1 then vs[0] else .tuple vs.toArray) w ∧ vs.length = l.length ∧ ∀ (i : Nat) (b : AV) (v : Value), l[i]? = some b → vs[i]? = some v → VR X w b v := by
  obtain ⟨vs, k1, k2, k3⟩ := resA_run htt hS hF fn.results.toList l hr
  refine ⟨vs, ?_, k2, k3⟩
  have e : fn.results = fn.results.toList.toArray := by simp
  rw [results_eq, Sem.run_bind, e, List.mapM_toArray]
  simp [k1]

def argsFr (avs : List AV) : Fr := avs.zipIdx.map fun p => (p.2, p.1)
theorem argsFr_get : ∀ (avs : List AV) (s k : Nat) (av : AV), Fr.get ((avs.zipIdx s).map fun p => (p.2, p.1)) k = some av → s ≤ k ∧ avs[k - s]? = some av
  | [], s, k, av, h => by cases h
  | a :: avs, s, k, av, h => by
    simp only [List.zipIdx_cons, List.map_cons, Fr.get_cons] at h
    split at h
    · rename_i e; subst e; cases h; simp
    · rename_i hne
      obtain ⟨h1, h2⟩ := argsFr_get avs (s + 1) k av h
      refine ⟨by omega, ?_⟩
      have : k - s = (k - (s + 1)) + 1 := by omega
      rw [this]; simpa using h2

theorem argsFr_ok {X : Cx} {w : World} {n : Nat} {avs : List AV} {vs : List Value} (hl : vs.length = avs.length) (hn : avs.length ≤ n) (hr : ∀ (i : Nat) (a : AV) (v : Value), avs[i]? = some a → vs[i]? = some v → VR X w a v) :
    FrOK X w n (Fr.get (argsFr avs)) { tmps := vs.toArray ++ Array.replicate (n - vs.toArray.size) undef, defers := [] } := by
  refine ⟨by simp; omega, fun k av hk => ?_⟩
  obtain ⟨_, h1⟩ := argsFr_get avs 0 k av hk
  rw [Nat.sub_zero] at h1
  have hlt := (List.getElem?_eq_some_iff.1 h1).1
  have hv : vs[k]? = some (vs[k]'(by omega)) := List.getElem?_eq_getElem _
  refine ⟨vs[k]'(by omega), ?_, hr k av _ h1 hv⟩
  rw [Array.getElem?_append_left (by simp; omega)]
  exact hv ▸ (by simp)

def deads : Nat → Hp
  | 0 => []
  | k + 1 => (k, (0, .dead)) :: deads k
theorem hf_repl {id : Nat} {ge : Nat × Ent} : ∀ {k : Nat}, hf (deads k) id = some ge → ge = (0, .dead)
  | 0, h => by cases h
  | k + 1, h => by
    rw [deads, hf_cons] at h
    simp only [upd] at h
    split at h
    · cases h; rfl
    · exact hf_repl h

theorem SRh.empty {X : Cx} {B : Base} {h : HF} {w : World} (H : SRh X B h w) (k : Nat) : SRh ⟨X.ok1, X.ok2, fun _ _ => none, fun _ _ => none⟩ ⟨w, fun _ => False, X.ok1, X.ok2⟩ (hf (deads k)) w := by
  obtain ⟨F, H⟩ := H
  refine ⟨fun _ => [], ?_, ?_, ?_, ?_, H.ok12, fun b hb => .inl hb, fun b hb => .inl hb, ?_, fun _ _ _ => ⟨rfl, rfl⟩, rfl, rfl, rfl, Nat.le_refl _, fun _ _ _ => rfl⟩
  · intro id g e he
    cases hf_repl he; trivial
  · intro id ge b _ hb; cases hb
  · intro id id' ge ge' b _ _ hb; cases hb
  · exact fun b hb => ⟨(H.ok2 b hb).1, fun id ge _ hm => by cases hm⟩
  · intro id ge b _ hb; cases hb

/-- Behind a call that wrote into nothing old. -/
theorem SRh.back {X X' : Cx} {B : Base} {h h' : HF} {w w' : World} (H : SRh X B h w) (H' : SRh X' ⟨w, fun _ => False, X.ok1, X.ok2⟩ h' w') (hX1 : ∀ b, X.ok1 b → X'.ok1 b) (hX2 : ∀ b, X.ok2 b → X'.ok2 b) (hk : ∀ b, X.ok2 b → w'.heap[b]? = w.heap[b]?) :
    SRh ⟨X'.ok1, X'.ok2, X.bx, X.rw⟩ B h w' := by
  obtain ⟨F, H⟩ := H
  obtain ⟨F', H'⟩ := H'
  have hX : X.le ⟨X'.ok1, X'.ok2, X.bx, X.rw⟩ := ⟨hX1, hX2, fun _ _ _ h => h, fun _ _ _ h => h⟩
  have hkeep : ∀ b, b < w.heap.size → w'.heap[b]? = w.heap[b]? := fun b hb => H'.keep b hb (fun h => h)
  refine ⟨F, ?_, ?_, H.sep, ?_, H'.ok12, ?_, ?_, H.own, H.hist, H'.os.trans H.os, H'.tape.trans H.tape, H'.output.trans H.output, Nat.le_trans H.size H'.size, fun b hb hs => (hkeep b (Nat.lt_of_lt_of_le hb H.size)).trans (H.keep b hb hs)⟩
  · exact fun id g e he => (H.ent id g e he).mono hX H.ok12 hk (fun b hb => hkeep b (H.blk id _ b he hb))
  · exact fun id ge b he hb => Nat.lt_of_lt_of_le (H.blk id ge b he hb) H'.size
  · refine fun b hb => ⟨(H'.ok2 b hb).1, fun id ge he hm => ?_⟩
    rcases H'.in2 b hb with h1 | h1 | h1
    · exact (H.ok2 b h1).2 id ge he hm
    · exact h1
    · have := H.blk id ge b he hm
      exact absurd this (Nat.not_lt.2 h1)
  · intro b hb
    rcases H'.in1 b hb with h1 | h1 | h1
    · exact H.in1 b h1
    · exact h1.elim
    · exact .inr (.inr (Nat.le_trans H.size h1))
  · intro b hb
    rcases H'.in2 b hb with h1 | h1 | h1
    · exact H.in2 b h1
    · exact h1.elim
    · exact .inr (.inr (Nat.le_trans H.size h1))

/-- A function that reads what it is handed, and hands back what is its own no more. -/
def Pure (P : Program) (f : FuncId) (avs : List AV) (out : AV) : Prop := CallA P f avs [] [] out

theorem pure_of_ex {tt : TT} (htt : TTOk P tt) {f : FuncId} {fn : Func} {c : Code} (hfn : P.funcs[f]? = some fn) (hname : (fn.name == "runtime.NumGoroutine") = false) (hb : fn.body = some c) {avs outs : List AV} (hcl : (avs.all AV.clA) = true) (hn : avs.length ≤ fn.ntmps) (k : Nat)
    (hx : Ex P fn.ntmps c (argsFr avs) (deads k) fun e fr h => (e = .normal ∨ e = .ret) ∧ ∃ l h', resA tt fr h fn.results.toList = some l ∧ FinL h l outs h') : Pure P f avs (one1 outs) := by
  refine ⟨⟨fn, c, hfn, hname, hb⟩, fun X B hF w vs hS hl hr hT => ?_⟩
  let X0 : Cx := ⟨X.ok1, X.ok2, fun _ _ => none, fun _ _ => none⟩
  have h12 := hS.ok12
  have hr0 : ∀ (i : Nat) (a : AV) (v : Value), avs[i]? = some a → vs[i]? = some v → VR X0 w a v := fun i a v ha hv => by
    rw [List.all_eq_true] at hcl
    exact .cl ((hr i a v ha hv).closedA (hcl a (List.mem_of_getElem? ha)))
  refine calls_of_wp hfn hb (wp_mono (hx X0 _ _ w (hS.empty k) (argsFr_ok hl hn hr0) rfl) fun e a' w' hh => ?_)
  obtain ⟨fr', h', X', ⟨he, l, h2, hres, hfin⟩, k2, k3, k4, k5, k6⟩ := hh
  obtain ⟨us, g1, g2, g3⟩ := results_run htt k3 k4 hres
  obtain ⟨Y, q1, q2, q3⟩ := hfin.sound k3 g2 g3
  have hXY : X0.le Y := k2.trans q1
  have hback : SRh ⟨Y.ok1, Y.ok2, X.bx, X.rw⟩ B hF w' := hS.back q2 hXY.ok1 hXY.ok2 k6
  have post : a'.defers = [] ∧ ∃ v, (results fn a'.tmps).run P w' = .ok v w' ∧ ∃ v', Ending.returned v = .returned v' ∧ ∃ X', X.le X' ∧ SRh X' B (upds hF []) w' ∧ (∀ b, X.ok2 b → w'.heap[b]? = w.heap[b]?) ∧ VR X' w' (one1 outs) v' := by
    refine ⟨k5, _, g1, _, rfl, ⟨Y.ok1, Y.ok2, X.bx, X.rw⟩, ⟨hXY.ok1, hXY.ok2, fun _ _ _ h => h, fun _ _ _ h => h⟩, by rw [upds_nil]; exact hback, k6, ?_⟩
    have hlo : outs.length = us.length := by rw [hfin.len, g2]
    by_cases h1 : us.length = 1
    · rw [dif_pos h1]
      obtain ⟨u, rfl⟩ := List.length_eq_one_iff.1 h1
      obtain ⟨b, rfl⟩ := List.length_eq_one_iff.1 (hlo.trans h1)
      exact .cl (q3 0 b u rfl rfl)
    · rw [dif_neg h1]
      have : one1 outs = .tup outs := by
        match outs, hlo with
        | [], _ => rfl
        | [b], hlo => exact absurd hlo.symm h1
        | _ :: _ :: _, _ => rfl
      rw [this]
      exact .tup us hlo.symm (fun i y u hy hu => .cl (q3 i y u hy hu))
  rcases he with rfl | rfl
  · exact post
  · exact post
end Go.Proofs.Ytcleiaibcfocdaa.Am
