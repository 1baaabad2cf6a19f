/- The abstract machine, part 23: 'append' and lengths by what is known of the entries. -/
import Derived.Test.YtcleiaibcfocdaaAm22
set_option linter.unusedVariables false
set_option linter.unusedSimpArgs false
namespace Go.Proofs.Ytcleiaibcfocdaa.Am
open Go Go.RowKit

variable {P : Program} {tt : TT} {ops : Array Oper} {r : List Oper} {fr : Fr} {h : Hp} {lg : Log} {K : Fr → Hp → Log → Prop} {d : Nat} {ty : TypeId} {pos : String} {af : Array Edge}

theorem src_ref {id g ty sz : Nat} {ys : List (List AV)} (hh : wfind h id = some (g, .row ty sz ys)) : src h (.ref id g) = some (sz, ys, [(id, (g, .row ty sz ys))]) := by simp [src, hh]

theorem rl_app_rr {t e : Nat} {x y : Operand} {S E : TS} {xs ys zs : List (List AV)} {id g id2 g2 ty2 : Nat} (hx : evO fr x = some (.ref id g)) (hy : evO fr y = some (.ref id2 g2)) (hs : tt t = some S) (hk : S.kind = .sl e) (he : tt e = some E) (h2 : Nat.ble 1 E.size = true) (h3 : Nat.ble 1 E.bytes = true) (hh : wfind h id = some (g, .row e E.size xs)) (hh2 : wfind h id2 = some (g2, .row ty2 E.size ys))
    (how : (ys.flatten.all fun c => !c.isOw) = true) (hz : xs ++ ys = zs) (h4 : zs.length * E.bytes ≤ 140737488355328) (k : RunL P tt ops r ((d, .ref id (g + 1)) :: fr) ((id, (g + 1, .row e E.size zs)) :: h) (([id, id2], [id]) :: lg) K) :
    RunL P tt ops (⟨some d, .call { callee := .builtin .append, args := #[x, y], argTypes := #[t, t] }, ty, pos, af, none⟩ :: r) fr h lg K :=
  rl_app hx hy hs hk he h2 h3 hh (src_ref hh2) how hz h4 k
theorem rl_app_rd {t e : Nat} {x y : Operand} {S E : TS} {xs ys zs : List (List AV)} {id g ty2 : Nat} {m : Bool} (hx : evO fr x = some (.ref id g)) (hy : evO fr y = some (.row (.rd m) ty2 E.size ys)) (hs : tt t = some S) (hk : S.kind = .sl e) (he : tt e = some E) (h2 : Nat.ble 1 E.size = true) (h3 : Nat.ble 1 E.bytes = true) (hh : wfind h id = some (g, .row e E.size xs))
    (how : (ys.flatten.all fun c => !c.isOw) = true) (hz : xs ++ ys = zs) (h4 : zs.length * E.bytes ≤ 140737488355328) (k : RunL P tt ops r ((d, .ref id (g + 1)) :: fr) ((id, (g + 1, .row e E.size zs)) :: h) (([id], [id]) :: lg) K) :
    RunL P tt ops (⟨some d, .call { callee := .builtin .append, args := #[x, y], argTypes := #[t, t] }, ty, pos, af, none⟩ :: r) fr h lg K :=
  rl_app hx hy hs hk he h2 h3 hh (T := []) rfl how hz h4 k
theorem rl_app_nr {t e : Nat} {x y : Operand} {S E : TS} {ys : List (List AV)} {id g id2 g2 ty2 : Nat} (hx : evO fr x = some (.pv (.slice none 0 0))) (hy : evO fr y = some (.ref id2 g2)) (hs : tt t = some S) (hk : S.kind = .sl e) (he : tt e = some E) (h2 : Nat.ble 1 E.size = true) (h3 : Nat.ble 1 E.bytes = true) (hd : wfind h id = some (g, .dead)) (hh2 : wfind h id2 = some (g2, .row ty2 E.size ys))
    (how : (ys.flatten.all fun c => !c.isOw) = true) (h4 : ys.length * E.bytes ≤ 140737488355328) (k : RunL P tt ops r ((d, .ref id (g + 1)) :: fr) ((id, (g + 1, .row e E.size ys)) :: h) (([id, id2], [id]) :: lg) K) :
    RunL P tt ops (⟨some d, .call { callee := .builtin .append, args := #[x, y], argTypes := #[t, t] }, ty, pos, af, none⟩ :: r) fr h lg K :=
  rl_app_nil hx hy hs hk he h2 h3 hd (src_ref hh2) how h4 k
theorem rl_app_nd {t e : Nat} {x y : Operand} {S E : TS} {ys : List (List AV)} {id g ty2 : Nat} {m : Bool} (hx : evO fr x = some (.pv (.slice none 0 0))) (hy : evO fr y = some (.row (.rd m) ty2 E.size ys)) (hs : tt t = some S) (hk : S.kind = .sl e) (he : tt e = some E) (h2 : Nat.ble 1 E.size = true) (h3 : Nat.ble 1 E.bytes = true) (hd : wfind h id = some (g, .dead))
    (how : (ys.flatten.all fun c => !c.isOw) = true) (h4 : ys.length * E.bytes ≤ 140737488355328) (k : RunL P tt ops r ((d, .ref id (g + 1)) :: fr) ((id, (g + 1, .row e E.size ys)) :: h) (([id], [id]) :: lg) K) :
    RunL P tt ops (⟨some d, .call { callee := .builtin .append, args := #[x, y], argTypes := #[t, t] }, ty, pos, af, none⟩ :: r) fr h lg K :=
  rl_app_nil hx hy hs hk he h2 h3 hd (T := []) rfl how h4 k
theorem rl_lenr {t e : Nat} {x : Operand} {S : TS} {id g rty sz n : Nat} {xs : List (List AV)} (hx : evO fr x = some (.ref id g)) (hs : tt t = some S) (hk : S.kind = .sl e) (hh : wfind h id = some (g, .row rty sz xs)) (hn : xs.length = n) (k : RunL P tt ops r ((d, .pv (.int .i64 (n : Int))) :: fr) h (([id], []) :: lg) K) :
    RunL P tt ops (⟨some d, .call { callee := .builtin .len, args := #[x], argTypes := #[t] }, ty, pos, af, none⟩ :: r) fr h lg K :=
  rl_len hx hs hk (T := [(id, (g, .row rty sz xs))]) (by simp [lenA, hh]) (fun s hs => by cases hs) hn k

theorem map_snoc {α : Type} (f : α → List AV) (l : List α) (a : α) : l.map f ++ [f a] = (l ++ [a]).map f := by simp
theorem map_app {α : Type} (f : α → List AV) (l l' : List α) : l.map f ++ l'.map f = (l ++ l').map f := by simp
theorem noow_map {α : Type} {f : α → List AV} (hf : ∀ a, ((f a).all fun c => !c.isOw) = true) (l : List α) : ((l.map f).flatten.all fun c => !c.isOw) = true := by
  induction l with
  | nil => rfl
  | cons a l ih => rw [List.map_cons, List.flatten_cons, List.all_append, hf a, ih]; rfl

/-- A list's image, given up. -/
theorem Le.ow_map {α : Type} {f : α → List AV} {k c : Bool} {ty sz : Nat} (l : List α) (hc : c = true → k = true) (hf : ∀ a, ((f a).all AV.cl) = true) : Le k (.row .ow ty sz (l.map f)) (.row (.rd c) ty sz (l.map f)) := by
  refine .ow hc rfl (fun j x x' h h' => ?_) (fun j i x x' y y' h h' hy hy' => ?_)
  · rw [h] at h'; cases h'; rfl
  · rw [h] at h'
    cases h'
    rw [hy] at hy'
    cases hy'
    rw [List.getElem?_map] at h
    cases hl : l[j]? with
    | none => rw [hl] at h; cases h
    | some a =>
      rw [hl] at h
      have : f a = x := by simpa using h
      have h2 := hf a
      rw [this, List.all_eq_true] at h2
      exact .cl (h2 y (List.mem_of_getElem? hy))

theorem Le.ow_map2 {α : Type} {f f' : α → List AV} {k c : Bool} {ty sz : Nat} (l : List α) (hc : c = true → k = true) (hf : ∀ a, LeL k (f a) (f' a)) : Le k (.row .ow ty sz (l.map f)) (.row (.rd c) ty sz (l.map f')) := by
  have get : ∀ (j : Nat) (x x' : List AV), (l.map f)[j]? = some x → (l.map f')[j]? = some x' → ∃ a, f a = x ∧ f' a = x' := by
    intro j x x' h h'
    rw [List.getElem?_map] at h h'
    cases hl : l[j]? with
    | none => rw [hl] at h; cases h
    | some a =>
      rw [hl] at h h'
      exact ⟨a, by simpa using h, by simpa using h'⟩
  refine .ow hc (by simp) (fun j x x' h h' => ?_) (fun j i x x' y y' h h' hy hy' => ?_)
  · obtain ⟨a, rfl, rfl⟩ := get j x x' h h'; exact (hf a).len
  · obtain ⟨a, rfl, rfl⟩ := get j x x' h h'; exact (hf a).le i y y' hy hy'
theorem LeL.nil {k : Bool} : LeL k [] [] := ⟨rfl, fun i y y' h => by simp at h⟩
theorem LeL.cons {k : Bool} {a b : AV} {as bs : List AV} (h : Le k a b) (t : LeL k as bs) : LeL k (a :: as) (b :: bs) :=
  ⟨by simp [t.len], fun i y y' hy hy' => by
    cases i with
    | zero => simp at hy hy'; subst hy hy'; exact h
    | succ i => exact t.le i y y' (by simpa using hy) (by simpa using hy')⟩
theorem ret_row2 {α : Type} {f f' : α → List AV} {fr : Fr} {h : Hp} {rs : List ResultVar} {id g ty sz : Nat} {l l' : List α} (h1 : resA tt fr h rs = some [.ref id g]) (hh : wfind h id = some (g, .row ty sz (l.map f))) (hf : ∀ a, LeL true (f a) (f' a)) (he : l = l') : ∃ l h', resA tt fr h rs = some l ∧ FinL h l [.row (.rd true) ty sz (l'.map f')] h' := by
  subst he
  exact ⟨_, _, h1, .ref hh (Le.ow_map2 l (fun _ => rfl) hf) .nil⟩

/-- One row of one's own handed back. -/
theorem ret_row {α : Type} {f : α → List AV} {fr : Fr} {h : Hp} {rs : List ResultVar} {id g ty sz : Nat} {l l' : List α} (h1 : resA tt fr h rs = some [.ref id g]) (hh : wfind h id = some (g, .row ty sz (l.map f))) (hf : ∀ a, ((f a).all AV.cl) = true) (he : l = l') : ∃ l h', resA tt fr h rs = some l ∧ FinL h l [.row (.rd true) ty sz (l'.map f)] h' := by
  subst he
  exact ⟨_, _, h1, .ref hh (Le.ow_map l (fun _ => rfl) hf) .nil⟩

theorem HE.row {h : Hp} {id g ty sz : Nat} {xs xs' : List (List AV)} {r : Hp} (he : wfind h id = some (g, .row ty sz xs)) (e : xs = xs') (t : HE h r) : HE h ((id, (g, .row ty sz xs')) :: r) := by subst e; exact .same he t
theorem HE.box {h : Hp} {id g ty : Nat} {xs xs' : List AV} {r : Hp} (he : wfind h id = some (g, .box ty xs)) (e : xs = xs') (t : HE h r) : HE h ((id, (g, .box ty xs')) :: r) := by subst e; exact .same he t

theorem rl_slice {α : Type} {f : α → List AV} {l : List α} {t e rty sz : Nat} {x : Operand} {lo hi : Option Operand} {S E : TS} {m : Bool} {a b : Int} (hx : evO fr x = some (.row (.rd m) rty sz (l.map f))) (hs : tt t = some S) (hk : S.kind = .sl e) (he : tt e = some E) (hz : sz = E.size) (ha : bndO fr 0 lo = some a) (hb : bndO fr ((l.map f).length : Int) hi = some b) (h0 : 0 ≤ a) (h1 : a ≤ b) (h2 : b ≤ l.length)
    (k : RunL P tt ops r ((d, .row (.rd m) rty sz (((l.take b.toNat).drop a.toNat).map f)) :: fr) h (([], []) :: lg) K) : RunL P tt ops (⟨some d, .slice t x lo hi none, ty, pos, af, none⟩ :: r) fr h lg K := by
  refine rl_inl ?_; simp only [StepK, Opt, hx, hs, hk, he, ha, hb]
  refine ⟨hz, h0, h1, by simpa using h2, ?_⟩
  rw [← List.map_take, ← List.map_drop]
  exact k

/-- An operation's number, said otherwise. -/
theorem rl_binE {op : BinOp} {t t' : Nat} {x y : Operand} {u v w : Value} (w' : Value) (hx : evO fr x = some (.pv u)) (hy : evO fr y = some (.pv v)) (hv : binV op u v = some w) (e : w = w') (k : RunL P tt ops r ((d, .pv w') :: fr) h (([], []) :: lg) K) : RunL P tt ops (⟨some d, .binOp op t x y t', ty, pos, af, none⟩ :: r) fr h lg K := by
  subst e; exact rl_bin hx hy hv k
theorem rl_convE {s t : Nat} {x : Operand} {S D : TS} {kd k0 k' : IntKind} {n : Int} (w' : Int) (hx : evO fr x = some (.pv (.int kd n))) (hs : tt s = some S) (ht : tt t = some D) (h0 : S.kind = .int k0) (h1 : D.kind = .int k') (e : k'.wrap n = w') (k : RunL P tt ops r ((d, .pv (.int k' w')) :: fr) h (([], []) :: lg) K) :
    RunL P tt ops (⟨some d, .convert s t x, ty, pos, af, none⟩ :: r) fr h lg K := by
  subst e; exact rl_conv hx hs ht h0 h1 k
theorem wrapE {k : IntKind} {n m : Int} (hk : k = .i64) (e : n = m) (h0 : -9223372036854775808 ≤ n) (h1 : n < 9223372036854775808) : Value.int k (k.wrap n) = .int k m := by
  subst hk e; rw [wrap_small h0 h1]

/-! whole numbers -/
theorem rl_addN {t t' : Nat} {x y : Operand} {a b : Nat} (hx : evO fr x = some (.pv (.int .i64 (a : Int)))) (hy : evO fr y = some (.pv (.int .i64 (b : Int)))) (hb : a + b < 9223372036854775808) (k : RunL P tt ops r ((d, .pv (.int .i64 ((a + b : Nat) : Int))) :: fr) h (([], []) :: lg) K) : RunL P tt ops (⟨some d, .binOp .add t x y t', ty, pos, af, none⟩ :: r) fr h lg K :=
  rl_binE _ hx hy rfl (wrapE rfl (by omega) (by omega) (by omega)) k
theorem rl_subN {t t' : Nat} {x y : Operand} {a b : Nat} (hx : evO fr x = some (.pv (.int .i64 (a : Int)))) (hy : evO fr y = some (.pv (.int .i64 (b : Int)))) (hb : b ≤ a) (ha : a < 9223372036854775808) (k : RunL P tt ops r ((d, .pv (.int .i64 ((a - b : Nat) : Int))) :: fr) h (([], []) :: lg) K) : RunL P tt ops (⟨some d, .binOp .sub t x y t', ty, pos, af, none⟩ :: r) fr h lg K :=
  rl_binE _ hx hy rfl (wrapE rfl (by omega) (by omega) (by omega)) k
theorem rl_mulN {t t' : Nat} {x y : Operand} {a b : Nat} (hx : evO fr x = some (.pv (.int .i64 (a : Int)))) (hy : evO fr y = some (.pv (.int .i64 (b : Int)))) (hb : a * b < 9223372036854775808) (k : RunL P tt ops r ((d, .pv (.int .i64 ((a * b : Nat) : Int))) :: fr) h (([], []) :: lg) K) : RunL P tt ops (⟨some d, .binOp .mul t x y t', ty, pos, af, none⟩ :: r) fr h lg K := by
  have e : (a : Int) * (b : Int) = ((a * b : Nat) : Int) := by simp
  exact rl_binE _ hx hy rfl (wrapE rfl e (by omega) (by omega)) k
theorem rl_remN {t t' : Nat} {x y : Operand} {a b : Nat} (hx : evO fr x = some (.pv (.int .i64 (a : Int)))) (hy : evO fr y = some (.pv (.int .i64 (b : Int)))) (hb : b ≠ 0) (k : RunL P tt ops r ((d, .pv (.int .i64 ((a % b : Nat) : Int))) :: fr) h (([], []) :: lg) K) : RunL P tt ops (⟨some d, .binOp .rem t x y t', ty, pos, af, none⟩ :: r) fr h lg K := by
  have hb' : ¬ (b : Int) = 0 := by omega
  have e : ((a % b : Nat) : Int) = (a : Int).tmod (b : Int) := (IntWalk.up_tmod rfl rfl).symm
  exact rl_bin hx hy (by simp only [binV, if_true, hb', if_false]; rw [e]) k
theorem rl_quoN {t t' : Nat} {x y : Operand} {a b : Nat} (hx : evO fr x = some (.pv (.int .i64 (a : Int)))) (hy : evO fr y = some (.pv (.int .i64 (b : Int)))) (hb : b ≠ 0) (ha : a < 9223372036854775808) (k : RunL P tt ops r ((d, .pv (.int .i64 ((a / b : Nat) : Int))) :: fr) h (([], []) :: lg) K) : RunL P tt ops (⟨some d, .binOp .quo t x y t', ty, pos, af, none⟩ :: r) fr h lg K := by
  have hb' : ¬ (b : Int) = 0 := by omega
  have e : (a : Int).tdiv (b : Int) = ((a / b : Nat) : Int) := IntWalk.up_tdiv rfl rfl
  have h2 := Nat.div_le_self a b
  refine rl_bin hx hy (w := .int .i64 ((a / b : Nat) : Int)) ?_ k
  simp only [binV, if_true, hb', if_false]
  rw [e]
  generalize a / b = q at h2 ⊢
  rw [wrap_small (by omega) (by omega)]
theorem rl_xorN {t t' : Nat} {x y : Operand} {a b : Nat} (hx : evO fr x = some (.pv (.int .i64 (a : Int)))) (hy : evO fr y = some (.pv (.int .i64 (b : Int)))) (ha : a < 9223372036854775808) (hb : b < 9223372036854775808) (k : RunL P tt ops r ((d, .pv (.int .i64 ((a ^^^ b : Nat) : Int))) :: fr) h (([], []) :: lg) K) : RunL P tt ops (⟨some d, .binOp .xor t x y t', ty, pos, af, none⟩ :: r) fr h lg K := by
  have h2 : a ^^^ b < 2 ^ 63 := Nat.xor_lt_two_pow (by omega) (by omega)
  have e : (BitVec.ofInt IntKind.i64.bits (a : Int) ^^^ BitVec.ofInt IntKind.i64.bits (b : Int)).toNat = a ^^^ b := by
    have e1 : IntKind.i64.bits = 64 := rfl
    rw [BitVec.toNat_xor, BitVec.toNat_ofInt, BitVec.toNat_ofInt, e1]
    have p : (2 : Int) ^ 64 = 18446744073709551616 := by decide
    congr 1
    · have : ((a : Int) % ((2 ^ 64 : Nat) : Int)).toNat = a := by omega
      exact this
    · have : ((b : Int) % ((2 ^ 64 : Nat) : Int)).toNat = b := by omega
      exact this
  refine rl_bin hx hy (w := .int .i64 ((a ^^^ b : Nat) : Int)) ?_ k
  simp only [binV, if_true, e]
  rw [wrap_small (by omega) (by omega)]
theorem rl_convN {s t : Nat} {x : Operand} {S D : TS} {kd k0 : IntKind} {a : Nat} (hx : evO fr x = some (.pv (.int kd (a : Int)))) (hs : tt s = some S) (ht : tt t = some D) (h0 : S.kind = .int k0) (h1 : D.kind = .int .i64) (ha : a < 9223372036854775808) (k : RunL P tt ops r ((d, .pv (.int .i64 (a : Int))) :: fr) h (([], []) :: lg) K) :
    RunL P tt ops (⟨some d, .convert s t x, ty, pos, af, none⟩ :: r) fr h lg K :=
  rl_convE _ hx hs ht h0 h1 (wrap_small (by omega) (by omega)) k

/-- One struct of closed cells handed back. -/
theorem ret_agg {tt : TT} {fr : Fr} {h : Hp} {rs : List ResultVar} {cs cs' : List AV} (h1 : resA tt fr h rs = some [.agg cs]) (he : cs = cs') (hc : (cs'.all AV.cl) = true) (ho : (cs'.all AV.one) = true) : ∃ l h', resA tt fr h rs = some l ∧ FinL h l [.agg cs'] h' := by
  subst he
  exact ⟨_, _, h1, .agg ho (FinL.pvs hc) .nil⟩
end Go.Proofs.Ytcleiaibcfocdaa.Am
