/- The abstract machine, part 4: types; the operations that only read. -/
import Derived.Test.YtcleiaibcfocdaaAm3
import Derived.Deep.MidRow
set_option linter.unusedVariables false
set_option linter.unusedSimpArgs false
namespace Go.Proofs.Ytcleiaibcfocdaa.Am
open Go Go.RowKit

inductive TK where
  | oth
  | int (k : IntKind)
  | str
  | st (flds : List (Nat × Nat))
  | arr (n e : Nat)
  | sl (e : Nat)
  | mp (k e : Nat)

structure TS where
  kind : TK
  size : Nat
  bytes : Nat
  zero : List Value

def TS.agg (s : TS) : Bool := match s.kind with
  | .st _ => true
  | .arr _ _ => true
  | _ => false

def KOk : TK → TypeDesc → Prop
  | .oth, d => d.isRow = false
  | .int k, d => d = .int k
  | .str, d => d = .string
  | .st flds, d => ∃ fs : Array Field, d = .struct fs ∧ flds.length = fs.size ∧ ∀ (j off ft : Nat), flds[j]? = some (off, ft) → ∃ f, fs[j]? = some f ∧ f.offset = off ∧ f.type = ft
  | .arr n e, d => d = .array n e
  | .sl e, d => d = .slice e
  | .mp k e, d => d = .map k e

structure TSOk (P : Program) (t : Nat) (s : TS) : Prop where
  info : ∃ i, P.info? t = some i ∧ i.size = s.size ∧ i.bytes = s.bytes ∧ i.zero = some (if s.agg then .agg s.zero.toArray else s.zero.getD 0 undef)
  zl : s.zero.length = s.size
  z1 : ∀ v ∈ s.zero, v.oneCell' = true
  sc : s.agg = false → s.size = 1
  desc : ∃ d, P.underlying t = some d ∧ KOk s.kind d
  fld : ∀ flds, s.kind = .st flds → ∀ p ∈ flds, ∃ i, P.info? p.2 = some i

def TT := Nat → Option TS
def TTOk (P : Program) (tt : TT) : Prop := ∀ t s, tt t = some s → TSOk P t s

theorem TSOk.isRow {P : Program} {t : Nat} {s : TS} (h : TSOk P t s) : ∃ d, P.underlying t = some d ∧ d.isRow = s.agg := by
  obtain ⟨d, h1, h2⟩ := h.desc
  refine ⟨d, h1, ?_⟩
  unfold TS.agg
  cases hk : s.kind <;> simp only [hk, KOk] at h2
  case oth => exact h2
  case st => obtain ⟨fs, rfl, _⟩ := h2; rfl
  all_goals (subst h2; rfl)

theorem TSOk.isAgg {P : Program} {t : Nat} {s : TS} (h : TSOk P t s) (w : World) : (isAgg t).run P w = .ok s.agg w := by
  obtain ⟨d, h1, h2⟩ := h.isRow
  unfold Go.isAgg
  rw [Sem.run_bind, run_underlying h1 w, ← h2]
  cases d <;> simp [TypeDesc.isRow]

theorem TSOk.sizeOf {P : Program} {t : Nat} {s : TS} (h : TSOk P t s) (w : World) : (sizeOf t).run P w = .ok s.size w := by
  obtain ⟨i, h1, h2, _⟩ := h.info
  simp [Go.sizeOf, typeInfo, h1, h2]

theorem TSOk.zeroValue {P : Program} {t : Nat} {s : TS} (h : TSOk P t s) (w : World) : (zeroValue t).run P w = .ok (if s.agg then .agg s.zero.toArray else s.zero.getD 0 undef) w := by
  obtain ⟨i, h1, _, _, h4⟩ := h.info
  simp [Go.zeroValue, typeInfo, h1, h4]

/-- What an operation does: out of any world that fits, on any frame that holds its operands. -/
def OpS (P : Program) (o : Oper) (ev : Operand → Option AV) (T W : List (Nat × (Nat × Ent))) (out : AV) : Prop :=
  ∀ (X : Cx) (B : Base) (h : HF) (a : Act) (w : World) (Q : Exit → Act → World → Prop) (K : Act → World → Prop), SRh X B h w →
    (∀ x ∈ o.op.operands, ∀ av, ev x = some av → VR X w av (a.eval x)) → (∀ id ge, (id, ge) ∈ T → h id = some ge) →
    (∀ X' w' v, X.le X' → SRh X' B (upds h W) w' → (∀ b, X.ok2 b → w'.heap[b]? = w.heap[b]?) → VR X' w' out v → K (a.put o.dst v) w') → o.wp P a w K Q

theorem OpS.quiet {P : Program} {o : Oper} {ev : Operand → Option AV} {T : List (Nat × (Nat × Ent))} {out : AV}
    (h : ∀ (X : Cx) (B : Base) (hp : HF) (a : Act) (w : World), SRh X B hp w → (∀ x ∈ o.op.operands, ∀ av, ev x = some av → VR X w av (a.eval x)) → (∀ id ge, (id, ge) ∈ T → hp id = some ge) →
      ∃ v, (execOp a.eval o).run P w = .ok (.value v) w ∧ VR X w out v) : OpS P o ev T [] out := by
  intro X B hp a w Q K hS hop hT hK
  obtain ⟨v, h1, h2⟩ := h X B hp a w hS hop hT
  unfold Oper.wp
  rw [h1, Oper.upon_value]
  exact hK X w v (Cx.le.refl X) hS (fun _ _ => rfl) h2

section inversions
variable {X : Cx} {w : World}
theorem VR.pv_inv {u v : Value} (h : VR X w (.pv u) v) : v = u := by
  cases h with
  | cl h => cases h; rfl
theorem VR.agg_inv {cs : List AV} {v : Value} (h : VR X w (.agg cs) v) : ∃ us, v = .agg us.toArray ∧ VRs X w cs us := by
  cases h with
  | cl h =>
    cases h with
    | agg us hl hone h => exact ⟨us, rfl, hl, hone, fun i y u hy hu => .cl (h i y u hy hu)⟩
  | agg us hl hone h => exact ⟨us, rfl, hl, hone, h⟩
theorem VR.tup_inv {cs : List AV} {v : Value} (h : VR X w (.tup cs) v) : ∃ us : List Value, v = .tuple us.toArray ∧ us.length = cs.length ∧ ∀ (i : Nat) (y : AV) (u : Value), cs[i]? = some y → us[i]? = some u → VR X w y u := by
  cases h with
  | cl h => cases h
  | tup us hl h => exact ⟨us, rfl, hl, h⟩
theorem VR.ref_inv {id g : Nat} {v : Value} (h : VR X w (.ref id g) v) : ∃ A n c sz, v = .slice A n c ∧ X.rw id g = some (.slice A n c, sz) := by
  cases h with
  | cl h => cases h
  | ref h => exact ⟨_, _, _, _, rfl, h⟩
theorem VR.ptr_inv {id g off : Nat} {v : Value} (h : VR X w (.ptr id g off) v) : ∃ b, v = .pointer (some ⟨b, off, none⟩) ∧ X.bx id g = some b := by
  cases h with
  | cl h => cases h
  | ptr h => exact ⟨_, rfl, h⟩
theorem VR.elt_inv {id g i off : Nat} {v : Value} (h : VR X w (.elt id g i off) v) : ∃ ad n c sz, v = .pointer (some (ad.add (i * sz + off))) ∧ X.rw id g = some (.slice (some ad) n c, sz) := by
  cases h with
  | cl h => cases h
  | elt h => exact ⟨_, _, _, _, rfl, h⟩
theorem VR.bsl_inv {id g off len : Nat} {v : Value} (h : VR X w (.bsl id g off len) v) : ∃ b c, v = .slice (some ⟨b, off, none⟩) len c ∧ X.bx id g = some b ∧ len ≤ c ∧ c ≤ maxLen := by
  cases h with
  | cl h => cases h
  | bsl h hc hm => exact ⟨_, _, rfl, h, hc, hm⟩
theorem VR.iel_inv {cs : List AV} {v : Value} (h : VR X w (.iel cs) v) : ∃ (ad : Addr) (u : Nat → Value), v = .pointer (some ad) ∧ X.ok2 ad.block ∧ (∀ (i : Nat) (y : AV), cs[i]? = some y → y.one = true) ∧
    (∀ (i : Nat) (y : AV), cs[i]? = some y → w.cell? (ad.add i) = some (u i)) ∧ (∀ (i : Nat) (y : AV), cs[i]? = some y → CR X.ok1 X.ok2 w y (u i)) := by
  cases h with
  | cl h => cases h
  | iel ad u h1 h2 h3 h4 => exact ⟨ad, u, rfl, h1, h2, h3, h4⟩
theorem VR.cut_inv {id g lo hi : Nat} {v : Value} (h : VR X w (.cut id g lo hi) v) : ∃ A A' n c c' sz, v = .slice A' (hi - lo) c' ∧ X.rw id g = some (.slice A n c, sz) ∧ lo ≤ hi ∧ hi ≤ n ∧ hi - lo ≤ c' ∧ c' ≤ maxLen ∧ (lo < hi → ∃ ad, A = some ad ∧ A' = some (ad.add (lo * sz))) := by
  cases h with
  | cl h => cases h
  | cut h h1 h2 h3 h4 h5 => exact ⟨_, _, _, _, _, _, rfl, h, h1, h2, h3, h4, h5⟩

theorem VR.fn_inv {f : Fn} {fi cap : List AV} {v : Value} (h : VR X w (.fn f fi cap) v) : ∃ us vs : List Value, v = .func f us.toArray vs.toArray ∧ us.length = fi.length ∧ vs.length = cap.length ∧
    (∀ (i : Nat) (y : AV) (u : Value), fi[i]? = some y → us[i]? = some u → VR X w y u) ∧ (∀ (i : Nat) (y : AV) (u : Value), cap[i]? = some y → vs[i]? = some u → VR X w y u) := by
  cases h with
  | cl h => cases h
  | fn us vs h1 h2 h3 h4 => exact ⟨us, vs, rfl, h1, h2, h3, h4⟩

theorem VR.row_inv {m : Bool} {ty sz : Nat} {xs : List (List AV)} {v : Value} (h : VR X w (.row (.rd m) ty sz xs) v) :
    ∃ (A : Option Addr) (c : Nat) (u : Nat → Nat → Value), v = .slice A xs.length c ∧ xs.length ≤ c ∧ c ≤ maxLen ∧ Lens sz xs ∧
      (∀ (j i : Nat) (x : List AV) (y : AV), xs[j]? = some x → x[i]? = some y → y.one = true) ∧ (0 < xs.length → ∃ ad, A = some ad ∧ okm X.ok1 X.ok2 m ad.block) ∧
      (∀ (ad : Addr) (j i : Nat) (x : List AV) (y : AV), A = some ad → xs[j]? = some x → x[i]? = some y → w.cell? (ad.add (j * sz + i)) = some (u j i)) ∧
      (∀ (j i : Nat) (x : List AV) (y : AV), xs[j]? = some x → x[i]? = some y → CR X.ok1 X.ok2 w y (u j i)) := by
  cases h with
  | cl h =>
    cases h with
    | row A c u h1 h2 h3 h4 h5 h6 h7 => exact ⟨A, c, u, rfl, h1, h2, h3, h4, h5, h6, h7⟩
end inversions

theorem add_add (ad : Addr) (m n : Nat) : (ad.add m).add n = ad.add (m + n) := by
  unfold Addr.add
  by_cases h1 : m = 0 <;> by_cases h2 : n = 0 <;> simp [h1, h2]
  omega

/-! ### moves, numbers -/
variable {P : Program} {ev : Operand → Option AV}

theorem ops_move {o : Oper} {x : Operand} {av : AV} (ho : o.op = .move x ∨ o.op = .assign x) (hx : ev x = some av) : OpS P o ev [] [] av :=
  .quiet fun X B hp a w hS hop hT => by
    rcases ho with ho | ho
    all_goals
      refine ⟨a.eval x, by simp [execOp, ho], hop x (by simp [ho, Op.operands]) av hx⟩

theorem ops_pick {o : Oper} {c x y : Operand} {t : Bool} {av : AV} (ho : o.op = .pick c x y) (hc : ev c = some (.pv (.bool t))) (hx : ev (if t then x else y) = some av) : OpS P o ev [] [] av :=
  .quiet fun X B hp a w hS hop hT => by
    have h1 := (hop c (by simp [ho, Op.operands]) _ hc).pv_inv
    refine ⟨a.eval (if t then x else y), ?_, hop _ (by cases t <;> simp [ho, Op.operands]) av hx⟩
    cases t <;> simp [execOp, ho, h1, asBool]

/-- An operation on plain values that yields a plain value in every world. -/
theorem ops_plain {o : Oper} {v : Value} (h : ∀ (a : Act) (w : World), (∀ x ∈ o.op.operands, ∀ u, ev x = some (.pv u) → a.eval x = u) → (execOp a.eval o).run P w = .ok (.value v) w) : OpS P o ev [] [] (.pv v) :=
  .quiet fun X B hp a w hS hop hT => ⟨v, h a w (fun x hx u hu => (hop x hx _ hu).pv_inv), .pv v⟩

def binV (op : BinOp) (x y : Value) : Option Value :=
  match x, y with
  | .int k a, .int k' b =>
    if k = k' then match op with
      | .add => some (.int k (k.wrap (a + b)))
      | .sub => some (.int k (k.wrap (a - b)))
      | .mul => some (.int k (k.wrap (a * b)))
      | .quo => if b = 0 then none else some (.int k (k.wrap (a.tdiv b)))
      | .rem => if b = 0 then none else some (.int k (a.tmod b))
      | .eql => some (.bool (a == b))
      | .neq => some (.bool (a != b))
      | .lss => some (.bool (decide (a < b)))
      | .leq => some (.bool (decide (a ≤ b)))
      | .gtr => some (.bool (decide (a > b)))
      | .geq => some (.bool (decide (a ≥ b)))
      | .and => some (.int k (k.wrap (BitVec.ofInt k.bits a &&& BitVec.ofInt k.bits b).toNat))
      | .or => some (.int k (k.wrap (BitVec.ofInt k.bits a ||| BitVec.ofInt k.bits b).toNat))
      | .xor => some (.int k (k.wrap (BitVec.ofInt k.bits a ^^^ BitVec.ofInt k.bits b).toNat))
      | .shl => if b < 0 then none else some (.int k (k.wrap (a * 2 ^ (min b.toNat k.bits))))
      | .shr => if b < 0 then none else some (.int k (a.fdiv (2 ^ (min b.toNat k.bits))))
      | _ => none
    else none
  | .string a, .string b => match op with
    | .eql => some (.bool (a.toList == b.toList))
    | .neq => some (.bool !(a.toList == b.toList))
    | _ => none
  | _, _ => none

theorem binV_run {op : BinOp} {x y v : Value} (h : binV op x y = some v) (t : TypeId) (ox oy : Operand) (w : World) :
    (do eqGuard op t ox oy x y; binOp op t x y : Sem Value).run P w = .ok v w := by
  unfold binV at h
  split at h
  · rename_i k a k' b
    split at h
    · rename_i hk
      subst hk
      have hg : (eqGuard op t ox oy (.int k a) (.int k b)).run P w = .ok () w := by
        unfold eqGuard
        cases op <;> simp
      rw [Sem.run_bind, hg]
      simp only [Result.andThen_ok]
      cases op <;> simp only [Option.some.injEq, reduceCtorEq] at h <;> first
        | (subst h; simp [binOp, Op.intArith, Op.intCmp]; done)
        | (subst h; simp [binOp, Op.intBits]; done)
        | (split at h <;> simp only [Option.some.injEq, reduceCtorEq] at h; rename_i hb; subst h; simp [binOp, Op.intDiv, hb]; done)
        | (split at h <;> simp only [Option.some.injEq, reduceCtorEq] at h; rename_i hb; subst h; simp [binOp, Op.shift, hb]; done)
    · cases h
  · rename_i a b
    have hg : (eqGuard op t ox oy (.string a) (.string b)).run P w = .ok () w := by
      unfold eqGuard
      cases op <;> simp
    rw [Sem.run_bind, hg]
    simp only [Result.andThen_ok]
    cases op <;> simp only [Option.some.injEq, reduceCtorEq] at h <;> (subst h; simp [binOp, Op.stringOp])
  · cases h

theorem ops_bin {o : Oper} {op : BinOp} {t t' : TypeId} {x y : Operand} {u v r : Value} (ho : o.op = .binOp op t x y t') (hx : ev x = some (.pv u)) (hy : ev y = some (.pv v)) (h : binV op u v = some r) : OpS P o ev [] [] (.pv r) :=
  ops_plain fun a w hop => by
    have h1 := hop x (by simp [ho, Op.operands]) u hx
    have h2 := hop y (by simp [ho, Op.operands]) v hy
    have := binV_run (P := P) h t x y w
    simp only [execOp, ho, h1, h2]
    rw [Sem.run_bind, this]
    rfl

theorem ops_not {o : Oper} {t : TypeId} {x : Operand} {b : Bool} (ho : o.op = .unOp .not t x) (hx : ev x = some (.pv (.bool b))) : OpS P o ev [] [] (.pv (.bool (!b))) :=
  ops_plain fun a w hop => by
    have h1 := hop x (by simp [ho, Op.operands]) _ hx
    simp [execOp, ho, h1, Op.unary]

theorem ops_neg {o : Oper} {t : TypeId} {x : Operand} {k : IntKind} {n : Int} (ho : o.op = .unOp .neg t x) (hx : ev x = some (.pv (.int k n))) : OpS P o ev [] [] (.pv (.int k (k.wrap (0 - n)))) :=
  ops_plain fun a w hop => by
    have h1 := hop x (by simp [ho, Op.operands]) _ hx
    simp [execOp, ho, h1, Op.unary, Op.intArith]

theorem ops_conv {o : Oper} {tt : TT} (htt : TTOk P tt) {s d : TypeId} {x : Operand} {k k' k0 : IntKind} {n : Int} {S D : TS} (ho : o.op = .convert s d x) (hx : ev x = some (.pv (.int k n))) (hs : tt s = some S) (hd : tt d = some D)
    (hks : S.kind = .int k0) (hkd : D.kind = .int k') : OpS P o ev [] [] (.pv (.int k' (k'.wrap n))) :=
  ops_plain fun a w hop => by
    have h1 := hop x (by simp [ho, Op.operands]) _ hx
    obtain ⟨d1, e1, e2⟩ := (htt _ _ hs).desc
    obtain ⟨d2, e3, e4⟩ := (htt _ _ hd).desc
    rw [hks] at e2
    rw [hkd] at e4
    simp only [KOk] at e2 e4
    subst e2
    subst e4
    simp [execOp, ho, h1, convert, run_underlying e1, run_underlying e3, Conv.intToInt]
end Go.Proofs.Ytcleiaibcfocdaa.Am
