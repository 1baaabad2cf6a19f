/- The abstract machine, part 6: indexes, lengths, cuts, structs made. -/
import Derived.Test.YtcleiaibcfocdaaAm5
set_option linter.unusedVariables false
set_option linter.unusedSimpArgs false
namespace Go.Proofs.Ytcleiaibcfocdaa.Am
open Go Go.RowKit

variable {P : Program} {ev : Operand → Option AV}

theorem idx_run {tt : TT} (htt : TTOk P tt) {t e : Nat} {S E : TS} (hs : tt t = some S) (hk : S.kind = .sl e) (he : tt e = some E) (w : World) (ad : Addr) (n c : Nat) (k : IntKind) (i : Int) (h0 : 0 ≤ i) (h1 : i < n) :
    (Instr.indexAt t (.slice (some ad) n c) (.int k i)).run P w = .ok (.pointer (some (ad.add (i.toNat * E.size)))) w := by
  obtain ⟨d, h2, h3⟩ := (htt _ _ hs).desc
  rw [hk] at h3
  simp only [KOk] at h3
  subst h3
  simp [Instr.indexAt, asIntOf, run_underlying h2, h0, h1, (htt _ _ he).sizeOf]

theorem ops_idx_row {o : Oper} {tt : TT} (htt : TTOk P tt) {t e : Nat} {x ix : Operand} {S E : TS} {m : Bool} {ty sz : Nat} {xs : List (List AV)} {k : IntKind} {i : Int} (ho : o.op = .indexAddr t x ix) (hx : ev x = some (.row (.rd m) ty sz xs))
    (hi : ev ix = some (.pv (.int k i))) (hs : tt t = some S) (hk : S.kind = .sl e) (he : tt e = some E) (hz : sz = E.size) (h0 : 0 ≤ i) (h1 : i < xs.length) : OpS P o ev [] [] (.iel (xs.getD i.toNat [])) :=
  .quiet fun X B hF a w hS hop hT => by
    obtain ⟨A, c, u, e1, h2, h3, h4, h5, h6, h7, h8⟩ := (hop x (by simp [ho, Op.operands]) _ hx).row_inv
    have e2 := (hop ix (by simp [ho, Op.operands]) _ hi).pv_inv
    obtain ⟨ad, rfl, hok⟩ := h6 (by omega)
    have hin : xs[i.toNat]? = some (xs.getD i.toNat []) := by
      rw [List.getD_eq_getElem?_getD, List.getElem?_eq_getElem (show i.toNat < xs.length by omega)]; rfl
    refine ⟨.pointer (some (ad.add (i.toNat * E.size))), ?_, .iel _ (fun m => u i.toNat m) (by rw [add_block']; exact hok.ok2 hS.ok12) (fun m y hy => h5 _ m _ y hin hy) (fun m y hy => ?_) (fun m y hy => h8 _ m _ y hin hy)⟩
    · simp [execOp, ho, e1, e2, idx_run htt hs hk he w ad xs.length c k i h0 h1]
    · rw [add_add, ← hz]
      exact h7 ad _ m _ y rfl hin hy

theorem ops_idx_ref {o : Oper} {tt : TT} (htt : TTOk P tt) {t e : Nat} {x ix : Operand} {S E : TS} {id g ty sz : Nat} {xs : List (List AV)} {k : IntKind} {i : Int} (ho : o.op = .indexAddr t x ix) (hx : ev x = some (.ref id g))
    (hi : ev ix = some (.pv (.int k i))) (hs : tt t = some S) (hk : S.kind = .sl e) (he : tt e = some E) (hz : sz = E.size) (h0 : 0 ≤ i) (h1 : i < xs.length) : OpS P o ev [(id, (g, .row ty sz xs))] [] (.elt id g i.toNat 0) :=
  .quiet fun X B hF a w hS hop hT => by
    obtain ⟨A, n, c, sz', e1, h2⟩ := (hop x (by simp [ho, Op.operands]) _ hx).ref_inv
    have e2 := (hop ix (by simp [ho, Op.operands]) _ hi).pv_inv
    obtain ⟨v, us, h3, h4, h5, h6⟩ := hS.row (hT id _ (List.mem_singleton.2 rfl))
    rw [h2] at h3
    cases h3
    have hn : n = xs.length ∧ ∃ ad, A = some ad := by
      rcases h4.2 with ⟨h7, h8⟩ | ⟨b, cap, cur, h7, _⟩
      · omega
      · cases h7; exact ⟨rfl, _, rfl⟩
    obtain ⟨rfl, ad, rfl⟩ := hn
    refine ⟨.pointer (some (ad.add (i.toNat * E.size))), by simp [execOp, ho, e1, e2, idx_run htt hs hk he w ad xs.length c k i h0 h1], ?_⟩
    have := VR.elt (w := w) (i := i.toNat) (off := 0) h2
    rwa [Nat.add_zero, hz] at this

theorem ops_idx_cut {o : Oper} {tt : TT} (htt : TTOk P tt) {t e : Nat} {x ix : Operand} {S E : TS} {id g ty sz lo hi : Nat} {xs : List (List AV)} {k : IntKind} {i : Int} (ho : o.op = .indexAddr t x ix) (hx : ev x = some (.cut id g lo hi))
    (hi' : ev ix = some (.pv (.int k i))) (hs : tt t = some S) (hk : S.kind = .sl e) (he : tt e = some E) (hz : sz = E.size) (h0 : 0 ≤ i) (h1 : i < ((hi - lo : Nat) : Int)) : OpS P o ev [(id, (g, .row ty sz xs))] [] (.elt id g (lo + i.toNat) 0) :=
  .quiet fun X B hF a w hS hop hT => by
    obtain ⟨A, A', n, c, c', sz', e1, h2, h3, h4, h5, h6, h7⟩ := (hop x (by simp [ho, Op.operands]) _ hx).cut_inv
    have e2 := (hop ix (by simp [ho, Op.operands]) _ hi').pv_inv
    obtain ⟨v, us, h8, _⟩ := hS.row (hT id _ (List.mem_singleton.2 rfl))
    rw [h2] at h8
    cases h8
    obtain ⟨ad, rfl, rfl⟩ := h7 (by omega)
    refine ⟨.pointer (some ((ad.add (lo * sz)).add (i.toNat * E.size))), by simp [execOp, ho, e1, e2, idx_run htt hs hk he w _ (hi - lo) c' k i h0 h1], ?_⟩
    have := VR.elt (w := w) (i := lo + i.toNat) (off := 0) h2
    rw [add_add, ← hz]
    rwa [Nat.add_zero, Nat.add_mul] at this

theorem ops_idx_bsl {o : Oper} {tt : TT} (htt : TTOk P tt) {t e : Nat} {x ix : Operand} {S E : TS} {id g off len : Nat} {k : IntKind} {i : Int} (ho : o.op = .indexAddr t x ix) (hx : ev x = some (.bsl id g off len))
    (hi : ev ix = some (.pv (.int k i))) (hs : tt t = some S) (hk : S.kind = .sl e) (he : tt e = some E) (hz : E.size = 1) (h0 : 0 ≤ i) (h1 : i < len) : OpS P o ev [] [] (.ptr id g (off + i.toNat)) :=
  .quiet fun X B hF a w hS hop hT => by
    obtain ⟨b, c, e1, h2, h3, h4⟩ := (hop x (by simp [ho, Op.operands]) _ hx).bsl_inv
    have e2 := (hop ix (by simp [ho, Op.operands]) _ hi).pv_inv
    refine ⟨.pointer (some ((⟨b, off, none⟩ : Addr).add (i.toNat * E.size))), by simp [execOp, ho, e1, e2, idx_run htt hs hk he w _ len c k i h0 h1], ?_⟩
    rw [hz, Nat.mul_one, Addr.add_mid]
    exact .ptr h2

theorem ops_idx_arr {o : Oper} {tt : TT} (htt : TTOk P tt) {t n e : Nat} {x ix : Operand} {S E : TS} {av out : AV} {k : IntKind} {i : Int} (ho : o.op = .indexAddr t x ix) (hx : ev x = some av)
    (hi : ev ix = some (.pv (.int k i))) (hs : tt t = some S) (hk : S.kind = .arr n e) (he : tt e = some E) (h0 : 0 ≤ i) (h1 : i < n) (hsh : shift (i.toNat * E.size) av = some out) : OpS P o ev [] [] out :=
  .quiet fun X B hF a w hS hop hT => by
    obtain ⟨ad, e1, hv⟩ := shift_rel hsh (hop x (by simp [ho, Op.operands]) _ hx)
    have e2 := (hop ix (by simp [ho, Op.operands]) _ hi).pv_inv
    obtain ⟨d, h2, h3⟩ := (htt _ _ hs).desc
    rw [hk] at h3
    simp only [KOk] at h3
    subst h3
    exact ⟨_, by simp [execOp, ho, e1, e2, Instr.indexAt, asIntOf, run_underlying h2, h0, h1, (htt _ _ he).sizeOf, Instr.sureAddr], hv⟩

def bt (s : ByteArray) (i : Nat) : Int := if h : i < s.size then ((s[i]'h).toNat : Int) else 0

theorem ops_idx_str {o : Oper} {tt : TT} (htt : TTOk P tt) {t : Nat} {x ix : Operand} {S : TS} {s : ByteArray} {k : IntKind} {i : Int} (ho : o.op = .index t x ix) (hx : ev x = some (.pv (.string s)))
    (hi : ev ix = some (.pv (.int k i))) (hs : tt t = some S) (hk : S.kind = .str) (h0 : 0 ≤ i) (h1 : i < s.size) : OpS P o ev [] [] (.pv (.int .u8 (bt s i.toNat))) :=
  ops_plain fun a w hop => by
    have e1 := hop x (by simp [ho, Op.operands]) _ hx
    have e2 := hop ix (by simp [ho, Op.operands]) _ hi
    obtain ⟨d, h2, h3⟩ := (htt _ _ hs).desc
    rw [hk] at h3
    simp only [KOk] at h3
    subst h3
    have hl : i.toNat < s.size := by omega
    have hg : s[i.toNat]? = some s[i.toNat] := by simp [hl]
    simp [execOp, ho, e1, e2, Instr.index, asIntOf, run_underlying h2, h0, hg, bt, hl]

/-- How long something is. -/
def lenA (h : Hp) : AV → Option (Nat × TL)
  | .row (.rd _) _ _ xs => some (xs.length, [])
  | .cut _ _ lo hi => some (hi - lo, [])
  | .bsl _ _ _ n => some (n, [])
  | .pv (.slice _ n _) => some (n, [])
  | .pv (.string s) => some (s.size, [])
  | .ref id g => match wfind h id with
    | some (g', .row ty sz xs) => if g' = g then some (xs.length, [(id, (g', .row ty sz xs))]) else none
    | _ => none
  | _ => none

theorem own_n {w : World} {e : TypeId} {size n m c : Nat} {A : Option Addr} {xs : List Value} (h : Own w e size (.slice A m c) n xs) : m = n := h.n0.1

theorem ops_len {o : Oper} {tt : TT} (htt : TTOk P tt) {h : Hp} {t : Nat} {x : Operand} {S : TS} {av : AV} {n : Nat} {T : TL} (ho : o.op = .call { callee := .builtin .len, args := #[x], argTypes := #[t] }) (hx : ev x = some av) (hs : tt t = some S)
    (hk : S.kind = .str ∨ ∃ e, S.kind = .sl e) (hl : lenA h av = some (n, T)) (hk2 : (∃ s, av = .pv (.string s)) ↔ S.kind = .str) : OpS P o ev T [] (.pv (.int .i64 n)) :=
  .quiet fun X B hF a w hS hop hT => by
    have hv := hop x (by simp [ho, Op.operands, Call.operands]) _ hx
    obtain ⟨d, h2, h3⟩ := (htt _ _ hs).desc
    have fin : ∀ A m c, a.eval x = .slice A m c → m = n → (¬ ∃ s, av = .pv (.string s)) → (execOp a.eval o).run P w = .ok (.value (.int .i64 n)) w := by
      intro A m c e1 hm hns
      rcases hk with hk | ⟨e, hk⟩
      · exact absurd (hk2.2 hk) hns
      · rw [hk] at h3
        simp only [KOk] at h3
        subst h3
        simp [execOp, ho, resolve, invoke, builtin, Builtin.len_, e1, run_underlying h2, hm, goInt]
    refine ⟨_, ?_, .pv _⟩
    unfold lenA at hl
    split at hl
    · cases hl
      obtain ⟨A, c, u, e1, _⟩ := hv.row_inv
      exact fin _ _ _ e1 rfl (by rintro ⟨s, h⟩; cases h)
    · cases hl
      obtain ⟨_, A', _, _, c', _, e1, _⟩ := hv.cut_inv
      exact fin _ _ _ e1 rfl (by rintro ⟨s, h⟩; cases h)
    · cases hl
      obtain ⟨_, _, e1, _⟩ := hv.bsl_inv
      exact fin _ _ _ e1 rfl (by rintro ⟨s, h⟩; cases h)
    · cases hl
      exact fin _ _ _ hv.pv_inv rfl (by rintro ⟨s, h⟩; cases h)
    · cases hl
      rename_i s
      have hkk := hk2.1 ⟨s, rfl⟩
      rw [hkk] at h3
      simp only [KOk] at h3
      subst h3
      simp [execOp, ho, resolve, invoke, builtin, Builtin.len_, hv.pv_inv, run_underlying h2, goInt]
    · split at hl
      · split at hl
        · rename_i e
          subst e
          cases hl
          obtain ⟨A, m, c, sz, e1, h4⟩ := hv.ref_inv
          obtain ⟨v, us, h5, h6, _⟩ := hS.row (hT _ _ (List.mem_singleton.2 rfl))
          rw [h4] at h5
          cases h5
          exact fin _ _ _ e1 (own_n h6) (by rintro ⟨s, h⟩; cases h)
        · cases hl
      · cases hl
    · cases hl

/-! ### cuts that are read -/
def bnd (v : Option AV) (d : Nat) : Option Int := match v with
  | none => some d
  | some (.pv (.int _ i)) => some i
  | _ => none

theorem ops_slice_str {o : Oper} {tt : TT} (htt : TTOk P tt) {t : Nat} {x : Operand} {lo hi : Option Operand} {S : TS} {s : ByteArray} {l u : Int} (ho : o.op = .slice t x lo hi none) (hx : ev x = some (.pv (.string s))) (hs : tt t = some S) (hk : S.kind = .str)
    (hlo : (lo = none ∧ l = 0) ∨ ∃ y k, lo = some y ∧ ev y = some (.pv (.int k l))) (hhi : (hi = none ∧ u = s.size) ∨ ∃ y k, hi = some y ∧ ev y = some (.pv (.int k u))) (h0 : 0 ≤ l) (h1 : l ≤ u) (h2 : u ≤ s.size) : OpS P o ev [] [] (.pv (.string (s.extract l.toNat u.toNat))) :=
  ops_plain fun a w hop => by
    have e1 := hop x (by simp [ho, Op.operands]) _ hx
    obtain ⟨d, h3, h4⟩ := (htt _ _ hs).desc
    rw [hk] at h4
    simp only [KOk] at h4
    subst h4
    have hb : (Instr.sliceBounds false s.size s.size (lo.map a.eval) (hi.map a.eval) none).run P w = .ok (l.toNat, u.toNat, s.size) w := by
      rcases hlo with ⟨rfl, rfl⟩ | ⟨y, k, rfl, hy⟩ <;> rcases hhi with ⟨rfl, rfl⟩ | ⟨z, k', rfl, hz⟩
      · simp [Instr.sliceBounds]
      · have e2 := hop z (by simp [ho, Op.operands]) _ hz
        simp [Instr.sliceBounds, Instr.sliceBound, e2, asIntOf, h1, h2]
      · have e2 := hop y (by simp [ho, Op.operands]) _ hy
        simp [Instr.sliceBounds, Instr.sliceBound, e2, asIntOf, h0, h1]
      · have e2 := hop y (by simp [ho, Op.operands]) _ hy
        have e3 := hop z (by simp [ho, Op.operands]) _ hz
        have h5 : 0 ≤ u := by omega
        have h6 : l ≤ ((u.toNat : Nat) : Int) := by omega
        simp [Instr.sliceBounds, Instr.sliceBound, e2, e3, asIntOf, h0, h1, h2, h5, h6]
        omega
    simp [execOp, ho, Instr.sliceAt, Instr.slice, run_underlying h3, e1, hb]

theorem slice_run {tt : TT} (htt : TTOk P tt) {t e : Nat} {S E : TS} (hs : tt t = some S) (hk : S.kind = .sl e) (he : tt e = some E) (w : World) (A : Option Addr) (n c : Nat) (hn : n ≤ c) {a : Act} {lo hi : Option Operand} {l u : Int}
    (hlo : (lo = none ∧ l = 0) ∨ ∃ y k, lo = some y ∧ a.eval y = .int k l) (hhi : (hi = none ∧ u = n) ∨ ∃ y k, hi = some y ∧ a.eval y = .int k u) (h0 : 0 ≤ l) (h1 : l ≤ u) (h2 : u ≤ n) :
    (Instr.sliceAt t (.slice A n c) (lo.map a.eval) (hi.map a.eval) none).run P w = .ok (.slice (if c = l.toNat then A else A.map (·.add (l.toNat * E.size))) (u.toNat - l.toNat) (c - l.toNat)) w := by
  obtain ⟨d, h3, h4⟩ := (htt _ _ hs).desc
  rw [hk] at h4
  simp only [KOk] at h4
  subst h4
  have hb : (Instr.sliceBounds true n c (lo.map a.eval) (hi.map a.eval) none).run P w = .ok (l.toNat, u.toNat, c) w := by
    have h7 : u ≤ c := by omega
    rcases hlo with ⟨rfl, rfl⟩ | ⟨y, k, rfl, hy⟩ <;> rcases hhi with ⟨rfl, rfl⟩ | ⟨z, k', rfl, hz⟩
    · simp [Instr.sliceBounds]
    · simp [Instr.sliceBounds, Instr.sliceBound, hz, asIntOf, h1, h7]
    · simp [Instr.sliceBounds, Instr.sliceBound, hy, asIntOf, h0, h1]
    · have h5 : 0 ≤ u := by omega
      have h6 : l ≤ ((u.toNat : Nat) : Int) := by omega
      simp [Instr.sliceBounds, Instr.sliceBound, hy, hz, asIntOf, h0, h7, h5, h6]
      omega
  simp [Instr.sliceAt, Instr.slice, run_underlying h3, hb, (htt _ _ he).sizeOf]

theorem bnd_ev {o : Oper} {a : Act} {X : Cx} {w : World} {lo : Option Operand} {l d : Int} (hmem : ∀ y, lo = some y → y ∈ o.op.operands) (hop : ∀ x ∈ o.op.operands, ∀ av, ev x = some av → VR X w av (a.eval x))
    (hlo : (lo = none ∧ l = d) ∨ ∃ y k, lo = some y ∧ ev y = some (.pv (.int k l))) : (lo = none ∧ l = d) ∨ ∃ y k, lo = some y ∧ a.eval y = .int k l := by
  rcases hlo with h | ⟨y, k, h1, h2⟩
  · exact .inl h
  · exact .inr ⟨y, k, h1, (hop y (hmem y h1) _ h2).pv_inv⟩

theorem ops_slice_row {o : Oper} {tt : TT} (htt : TTOk P tt) {t e : Nat} {x : Operand} {lo hi : Option Operand} {S E : TS} {m : Bool} {ty sz : Nat} {xs : List (List AV)} {l u : Int} (ho : o.op = .slice t x lo hi none) (hx : ev x = some (.row (.rd m) ty sz xs)) (hs : tt t = some S) (hk : S.kind = .sl e) (he : tt e = some E) (hz : sz = E.size)
    (hlo : (lo = none ∧ l = 0) ∨ ∃ y k, lo = some y ∧ ev y = some (.pv (.int k l))) (hhi : (hi = none ∧ u = xs.length) ∨ ∃ y k, hi = some y ∧ ev y = some (.pv (.int k u))) (h0 : 0 ≤ l) (h1 : l ≤ u) (h2 : u ≤ xs.length) :
    OpS P o ev [] [] (.row (.rd m) ty sz ((xs.take u.toNat).drop l.toNat)) :=
  .quiet fun X B hF a w hS hop hT => by
    have hv := hop x (by simp [ho, Op.operands]) _ hx
    have hlo' := bnd_ev (ev := ev) (fun y hy => by simp [ho, Op.operands, hy]) hop hlo
    have hhi' := bnd_ev (ev := ev) (fun y hy => by simp [ho, Op.operands, hy]) hop hhi
    obtain ⟨A, c, U, e1, g1, g2, g3, g4, g5, g6, g7⟩ := hv.row_inv
    have hrun := slice_run htt hs hk he w A xs.length c g1 hlo' hhi' h0 h1 h2
    have hlen : ((xs.take u.toNat).drop l.toNat).length = u.toNat - l.toNat := by simp; omega
    have hget : ∀ (j : Nat) (y : List AV), ((xs.take u.toNat).drop l.toNat)[j]? = some y → xs[l.toNat + j]? = some y := fun j y hy => by
      rw [List.getElem?_drop, List.getElem?_take] at hy
      split at hy
      · exact hy
      · cases hy
    refine ⟨.slice (if c = l.toNat then A else A.map (·.add (l.toNat * E.size))) (u.toNat - l.toNat) (c - l.toNat), by simp only [execOp, ho, e1, Option.map_none, Sem.run_bind, hrun, Result.andThen_ok, Sem.run_pure], ?_⟩
    have had : ∀ (ok : Nat → Prop), (0 < xs.length → ∃ ad, A = some ad ∧ ok ad.block) → 0 < ((xs.take u.toNat).drop l.toNat).length → ∃ ad, (if c = l.toNat then A else A.map (·.add (l.toNat * E.size))) = some ad ∧ ok ad.block := by
      intro ok h hp
      rw [hlen] at hp
      obtain ⟨ad, rfl, hb⟩ := h (by omega)
      rw [if_neg (by omega)]
      exact ⟨_, rfl, by rw [add_block']; exact hb⟩
    have hcell : ∀ (ad : Addr) (j i : Nat) (x : List AV) (y : AV), (if c = l.toNat then A else A.map (·.add (l.toNat * E.size))) = some ad → ((xs.take u.toNat).drop l.toNat)[j]? = some x → x[i]? = some y → w.cell? (ad.add (j * sz + i)) = some (U (l.toNat + j) i) := by
      intro ad j i x y hA hx hy
      have hp := (List.getElem?_eq_some_iff.1 hx).1
      rw [hlen] at hp
      rw [if_neg (by omega)] at hA
      cases A with
      | none => cases hA
      | some ad0 =>
        cases hA
        rw [add_add, hz, ← Nat.add_assoc, ← Nat.add_mul, ← hz]
        exact g6 ad0 _ i x y rfl (hget j x hx) hy
    rw [← hlen]
    exact .cl (.row _ _ (fun j i => U (l.toNat + j) i) (by rw [hlen]; omega) (by omega) (fun j y hy => g3 _ y (hget j y hy)) (fun j i y z hy hz' => g4 _ i y z (hget j y hy) hz') (had _ g5) hcell (fun j i y z hy hz' => g7 _ i y z (hget j y hy) hz'))
end Go.Proofs.Ytcleiaibcfocdaa.Am
