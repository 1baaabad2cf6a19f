/- The abstract machine, part 11: an operation by the frame and the heap of ids. -/
import Derived.Test.YtcleiaibcfocdaaAm10
set_option linter.unusedVariables false
set_option linter.unusedSimpArgs false
namespace Go.Proofs.Ytcleiaibcfocdaa.Am
open Go Go.RowKit

variable {P : Program}

def Opt {α : Type} : Option α → (α → Prop) → Prop
  | some a, k => k a
  | none, _ => False
theorem Opt.ex {α : Type} {o : Option α} {k : α → Prop} (h : Opt o k) : ∃ a, o = some a ∧ k a := by
  cases o with
  | none => exact h.elim
  | some a => exact ⟨a, rfl, h⟩

def evO (fr : Fr) : Operand → Option AV
  | .tmp t => fr.get t
  | .const v => some (.pv v)
  | .func f => some (.fn (.func f) [] [])
  | .global _ => none

def FreshK (h : Hp) (k : Nat × Nat → Prop) : Prop := ∃ p : Nat × Nat, wfind h p.1 = some (p.2, .dead) ∧ k p
theorem FreshK.ex {h : Hp} {k : Nat × Nat → Prop} (x : FreshK h k) : ∃ p : Nat × Nat, wfind h p.1 = some (p.2, .dead) ∧ k p := x

/-- What a call of a Go function does: a contract. -/
def CallA (P : Program) (f : FuncId) (avs : List AV) (T W : TL) (out : AV) : Prop :=
  (∃ fn c, P.funcs[f]? = some fn ∧ (fn.name == "runtime.NumGoroutine") = false ∧ fn.body = some c) ∧
  ∀ (X : Cx) (B : Base) (hF : HF) (w : World) (vs : List Value), SRh X B hF w → vs.length = avs.length → (∀ (i : Nat) (a : AV) (v : Value), avs[i]? = some a → vs[i]? = some v → VR X w a v) → (∀ id ge, (id, ge) ∈ T → hF id = some ge) →
    Calls P f vs.toArray w fun e w' => ∃ v, e = .returned v ∧ ∃ X', X.le X' ∧ SRh X' B (upds hF W) w' ∧ (∀ b, X.ok2 b → w'.heap[b]? = w.heap[b]?) ∧ VR X' w' out v

def CallK (P : Program) (f : FuncId) (avs : List AV) (h : Hp) (K : AV → TL → TL → Prop) : Prop :=
  ∃ out T W, CallA P f avs T W out ∧ (∀ p ∈ T, wfind h p.1 = some p.2) ∧ (∀ p ∈ W, ∃ ge, (p.1, ge) ∈ T) ∧ K out T W

def litOp (op : BinOp) (r : Bool) : Value := .bool (if op = .eql then r else !r)

/-- What two values' comparison yields. -/
def EqA (P : Program) (t : TypeId) (x y : Operand) (a b : AV) (r : Bool) : Prop :=
  ∀ (X : Cx) (w : World) (u v : Value), (∀ c, X.ok1 c → X.ok2 c) → VR X w a u → VR X w b v → ∀ op, op = .eql ∨ op = .neq → (do eqGuard op t x y u v; binOp op t u v : Sem Value).run P w = .ok (litOp op r) w

def EqK (P : Program) (t : TypeId) (x y : Operand) (a b : AV) (K : Bool → Prop) : Prop := ∃ r, EqA P t x y a b r ∧ K r

def idxK (E : TS) (h : Hp) (a : AV) (i : Int) (K : AV → TL → TL → Prop) : Prop :=
  match a with
  | .row (.rd m) ty sz xs => sz = E.size ∧ 0 ≤ i ∧ i < xs.length ∧ K (.iel (xs.getD i.toNat [])) [] []
  | .ref id g => Opt (wfind h id) fun ge => match ge with
    | (g', .row ty sz xs) => g' = g ∧ sz = E.size ∧ 0 ≤ i ∧ i < xs.length ∧ K (.elt id g i.toNat 0) [(id, (g, .row ty sz xs))] []
    | _ => False
  | .cut id g lo hi => Opt (wfind h id) fun ge => match ge with
    | (g', .row ty sz xs) => g' = g ∧ sz = E.size ∧ 0 ≤ i ∧ i < ((hi - lo : Nat) : Int) ∧ K (.elt id g (lo + i.toNat) 0) [(id, (g, .row ty sz xs))] []
    | _ => False
  | .bsl id g off len => E.size = 1 ∧ 0 ≤ i ∧ i < len ∧ K (.ptr id g (off + i.toNat)) [] []
  | _ => False

def bndO (fr : Fr) (d : Int) : Option Operand → Option Int
  | none => some d
  | some x => match evO fr x with
    | some (.pv (.int _ i)) => some i
    | _ => none

def appK (E : TS) (e : Nat) (h : Hp) (a b : AV) (K : AV → TL → TL → Prop) : Prop :=
  match a with
  | .pv (.slice none 0 0) => FreshK h fun p => Opt (src h b) fun s => (s.1 = E.size ∨ (s.2.1 = [] ∧ s.2.2 = [])) ∧ (s.2.1.flatten.all fun c => !c.isOw) = true ∧ s.2.1.length * E.bytes ≤ 140737488355328 ∧
      K (.ref p.1 (p.2 + 1)) ((p.1, (p.2, .dead)) :: s.2.2) [(p.1, (p.2 + 1, .row e E.size s.2.1))]
  | .ref id g => Opt (wfind h id) fun ge => match ge with
    | (g', .row ty sz xs) => g' = g ∧ ty = e ∧ sz = E.size ∧ Opt (src h b) fun s => (s.1 = E.size ∨ (s.2.1 = [] ∧ s.2.2 = [])) ∧ (xs.length + s.2.1.length) * E.bytes ≤ 140737488355328 ∧
        if (s.2.1.flatten.all fun c => !c.isOw) = true then K (.ref id (g + 1)) ((id, (g, .row e E.size xs)) :: s.2.2) [(id, (g + 1, .row e E.size (xs ++ s.2.1)))]
        else match b with
          | .ref id2 g2 => Opt (wfind h id2) fun ge2 => match ge2 with
            | (g2', .row ty2 sz2 ys) => g2' = g2 ∧ sz2 = E.size ∧ id ≠ id2 ∧ K (.ref id (g + 1)) [(id, (g, .row e E.size xs)), (id2, (g2, .row ty2 E.size ys))] [(id, (g + 1, .row e E.size (xs ++ ys))), (id2, (g2, .dead))]
            | _ => False
          | _ => False
    | _ => False
  | _ => False

def StepK (P : Program) (tt : TT) (fr : Fr) (h : Hp) : Op → (AV → TL → TL → Prop) → Prop
  | .move x, K => Opt (evO fr x) fun a => K a [] []
  | .assign x, K => Opt (evO fr x) fun a => K a [] []
  | .pick c x y, K => Opt (evO fr c) fun a => match a with
    | .pv (.bool b) => (b = true → Opt (evO fr x) fun u => K u [] []) ∧ (b = false → Opt (evO fr y) fun u => K u [] [])
    | _ => False
  | .alloc t, K => Opt (tt t) fun S => FreshK h fun p => K (.ptr p.1 (p.2 + 1) 0) [(p.1, (p.2, .dead))] [(p.1, (p.2 + 1, .box t (S.zero.map .pv)))]
  | .box t x, K => Opt (evO fr x) fun a => FreshK h fun p => a.okc = true ∧ ((cellsA a).all fun c => !c.isOw) = true ∧ K (.ptr p.1 (p.2 + 1) 0) [(p.1, (p.2, .dead))] [(p.1, (p.2 + 1, .box t (cellsA a)))]
  | .build t parts, K => Opt (tt t) fun S => match S.kind with
    | .st flds => Opt (evParts (evO fr) parts.toList) fun l => Opt (fillA tt flds (S.zero.map .pv) l) fun cs => K (.agg cs) [] []
    | _ => False
  | .buildSlice t len parts, K => Opt (tt t) fun S => match S.kind with
    | .sl e => Opt (tt e) fun E => (len = 0 ∧ parts = #[] ∧ FreshK h fun p => K (.ref p.1 (p.2 + 1)) [(p.1, (p.2, .dead))] [(p.1, (p.2 + 1, .row e E.size []))]) ∨
      Opt (whole 0 parts.toList) fun xs => Opt (evL (evO fr) xs) fun avs => Opt (partCells E.size avs) fun cs => FreshK h fun p => ∃ q : List AV × TL × TL, Abs cs h q.1 q.2.1 q.2.2 ∧
        len = xs.length ∧ 0 < E.size ∧ 0 < len ∧ len * E.size ≤ 16777216 ∧ (q.2.1.any (·.1 == p.1)) = false ∧ K (.ref p.1 (p.2 + 1)) ((p.1, (p.2, .dead)) :: q.2.1) ((p.1, (p.2 + 1, .row e E.size (chunk E.size len q.1))) :: q.2.2)
    | _ => False
  | .load t x, K => Opt (evO fr x) fun a => Opt (tt t) fun S => Opt (peek h a) fun p => Opt (ldv S p.1) fun out => K out p.2 []
  | .store t x y, K => Opt (evO fr x) fun a => Opt (evO fr y) fun b => Opt (tt t) fun S => b.okc = true ∧ (cellsA b).length = S.size ∧ match a with
    | .ptr id g off => ((cellsA b).all fun c => !c.isOw) = true ∧ Opt (wfind h id) fun ge => match ge with
      | (g', .box ty cs) => g' = g ∧ off + S.size ≤ cs.length ∧ K (.pv undef) [(id, (g, .box ty cs))] [(id, (g, .box ty (cs.take off ++ cellsA b ++ cs.drop (off + S.size))))]
      | _ => False
    | .elt id g i off => Opt (wfind h id) fun ge => match ge with
      | (g', .row ty sz xs) => g' = g ∧ i < xs.length ∧ off + S.size ≤ sz ∧ ∃ q : List AV × TL × TL, Abs (cellsA b) h q.1 q.2.1 q.2.2 ∧ (q.2.1.any (·.1 == id)) = false ∧
          K (.pv undef) ((id, (g, .row ty sz xs)) :: q.2.1) ((id, (g, .row ty sz (xs.set i ((xs.getD i []).take off ++ q.1 ++ (xs.getD i []).drop (off + S.size))))) :: q.2.2)
      | _ => False
    | _ => False
  | .nilCheck x, K => Opt (evO fr x) fun a => nck a = true ∧ K a [] []
  | .binOp op t x y _, K => Opt (evO fr x) fun a => Opt (evO fr y) fun b => match a, b with
    | .pv u, .pv v => match binV op u v with
      | some r => K (.pv r) [] []
      | none => (op = .eql ∨ op = .neq) ∧ EqK P t x y a b fun r => K (.pv (litOp op r)) [] []
    | a, b => (op = .eql ∨ op = .neq) ∧ EqK P t x y a b fun r => K (.pv (litOp op r)) [] []
  | .unOp .not _ x, K => Opt (evO fr x) fun a => match a with
    | .pv (.bool b) => K (.pv (.bool (!b))) [] []
    | _ => False
  | .unOp .neg _ x, K => Opt (evO fr x) fun a => match a with
    | .pv (.int k n) => K (.pv (.int k (k.wrap (0 - n)))) [] []
    | _ => False
  | .convert s d x, K => Opt (evO fr x) fun a => Opt (tt s) fun S => Opt (tt d) fun D => match a, S.kind, D.kind with
    | .pv (.int k n), .int k0, .int k' => K (.pv (.int k' (k'.wrap n))) [] []
    | _, _, _ => False
  | .makeSlice t x y, K => Opt (tt t) fun S => match S.kind with
    | .sl e => Opt (tt e) fun E => Opt (evO fr x) fun a => Opt (evO fr y) fun b => FreshK h fun p => match a, b with
      | .pv (.int k n), .pv (.int k' n') => n = n' ∧ 0 ≤ n ∧ 0 < E.size ∧ 0 < E.bytes ∧ E.bytes * n.toNat ≤ 281474976710656 ∧
          K (.ref p.1 (p.2 + 1)) [(p.1, (p.2, .dead))] [(p.1, (p.2 + 1, .row e E.size (List.replicate n.toNat (E.zero.map .pv))))]
      | _, _ => False
    | _ => False
  | .slice t x lo hi none, K => Opt (evO fr x) fun a => Opt (tt t) fun S => match S.kind, a with
    | .str, .pv (.string s) => Opt (bndO fr 0 lo) fun l => Opt (bndO fr s.size hi) fun u => 0 ≤ l ∧ l ≤ u ∧ u ≤ s.size ∧ K (.pv (.string (s.extract l.toNat u.toNat))) [] []
    | .sl e, .row (.rd m) ty sz xs => Opt (tt e) fun E => Opt (bndO fr 0 lo) fun l => Opt (bndO fr xs.length hi) fun u => sz = E.size ∧ 0 ≤ l ∧ l ≤ u ∧ u ≤ xs.length ∧ K (.row (.rd m) ty sz ((xs.take u.toNat).drop l.toNat)) [] []
    | _, _ => False
  | .fieldAddr t x f, K => Opt (evO fr x) fun a => Opt (tt t) fun S => match S.kind with
    | .st flds => Opt flds[f]? fun p => Opt (tt p.2) fun sf => sf.size ≠ 0 ∧ Opt (shift p.1 a) fun out => K out [] []
    | _ => False
  | .field t x f, K => Opt (evO fr x) fun a => Opt (tt t) fun S => match S.kind, a with
    | .st flds, .agg cs => Opt flds[f]? fun p => Opt (tt p.2) fun sf => Opt (ldv sf (cs.drop p.1)) fun out => K out [] []
    | _, _ => False
  | .indexAddr t x ix, K => Opt (evO fr x) fun a => Opt (evO fr ix) fun b => Opt (tt t) fun S => match b, S.kind with
    | .pv (.int k i), .sl e => Opt (tt e) fun E => idxK E h a i K
    | .pv (.int k i), .arr n e => Opt (tt e) fun E => 0 ≤ i ∧ i < n ∧ Opt (shift (i.toNat * E.size) a) fun out => K out [] []
    | _, _ => False
  | .index t x ix, K => Opt (evO fr x) fun a => Opt (evO fr ix) fun b => Opt (tt t) fun S => match S.kind, a, b with
    | .str, .pv (.string s), .pv (.int k i) => 0 ≤ i ∧ i < s.size ∧ K (.pv (.int .u8 (bt s i.toNat))) [] []
    | _, _, _ => False
  | .extract x i, K => Opt (evO fr x) fun a => match a with
    | .tup cs => Opt cs[i]? fun out => K out [] []
    | _ => False
  | .call c, K => match c.callee with
    | .builtin .len => match c.args.toList, c.argTypes.toList with
      | [x], [t] => Opt (evO fr x) fun a => Opt (tt t) fun S => Opt (lenA h a) fun p => (match S.kind, a with
        | .str, .pv (.string _) => True
        | .sl _, .pv (.string _) => False
        | .sl _, _ => True
        | _, _ => False) ∧ K (.pv (.int .i64 p.1)) p.2 []
      | _, _ => False
    | .builtin .append => match c.args.toList, c.argTypes.toList with
      | [x, y], [t, t'] => t = t' ∧ Opt (evO fr x) fun a => Opt (evO fr y) fun b => Opt (tt t) fun S => match S.kind with
        | .sl e => Opt (tt e) fun E => 0 < E.size ∧ 0 < E.bytes ∧ appK E e h a b K
        | _ => False
      | _, _ => False
    | .value f => Opt (evO fr f) fun fv => Opt (evL (evO fr) c.args.toList) fun avs => match fv with
      | .fn (.func f) fi cap => CallK P f (fi ++ avs ++ cap) h K
      | _ => False
    | _ => False
  | _, _ => False
end Go.Proofs.Ytcleiaibcfocdaa.Am
