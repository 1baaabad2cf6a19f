/- The abstract machine, part 29: arrays made and indexed; elements of rows of one's own that are images of lists. -/
import Derived.Test.YtcleiaibcfocdaaAm28
set_option linter.unusedVariables false
set_option linter.unusedSimpArgs false
namespace Go.Proofs.Ytcleiaibcfocdaa.Am
open Go Go.RowKit
variable {P : Program} {ev : Operand → Option AV}

def arrFlds (n e sz : Nat) : List (Nat × Nat) := (List.range n).map fun i => (i * sz, e)
theorem ops_buildArr {o : Oper} {tt : TT} (htt : TTOk P tt) {t n e : Nat} {parts : Array (Nat × Operand)} {S E : TS} {l : List (Nat × AV)} {cs : List AV} (ho : o.op = .build t parts) (hs : tt t = some S) (hk : S.kind = .arr n e) (he : tt e = some E)
    (hp : evParts ev parts.toList = some l) (hf : fillA tt (arrFlds n e E.size) (S.zero.map .pv) l = some cs) : OpS P o ev [] [] (.agg cs) :=
  .quiet fun X B hF a w hS hop hT => by
    have T := htt _ _ hs
    have TE := htt _ _ he
    obtain ⟨i, h1, h2, h3, h4⟩ := T.info
    obtain ⟨d, h5, h6⟩ := T.desc
    rw [hk] at h6
    simp only [KOk] at h6
    subst h6
    obtain ⟨k1, k2⟩ := evParts_rel (X := X) (w := w) (a := a) parts.toList l hp (fun x hx => hop x (by
      simp only [ho, Op.operands]
      simpa using hx))
    obtain ⟨us', g3, g4⟩ := fillA_sound htt (place := fun j => some (j * E.size, E.size)) (fun i off ft s h h' => by
      simp only [arrFlds, List.getElem?_map] at h
      cases hr : (List.range n)[i]? with
      | none => rw [hr] at h; cases h
      | some j =>
        rw [hr] at h
        have hj : j = i := by
          have := List.getElem?_eq_some_iff.1 hr
          obtain ⟨q, q2⟩ := this
          simpa using q2.symm
        simp only [Option.map_some, Option.some.injEq, Prod.mk.injEq] at h
        obtain ⟨rfl, rfl⟩ := h
        rw [he] at h'; cases h'
        rw [hj]) l _ _ cs S.zero hf (VRs.pvs (X := X) (w := w) T.z1) k1 k2
    have hag : S.agg = true := by simp [TS.agg, hk]
    have hz := T.zeroValue w
    rw [hag] at hz
    simp only [if_true] at hz
    refine ⟨.agg us'.toArray, ?_, g4.agg⟩
    have g3' : Instr.fill (fun j => some (j * E.size, E.size)) S.zero.toArray (parts.map fun (i, x) => (i, a.eval x)).toList = some us'.toArray := by
      rw [Array.toList_map]; exact g3
    simp only [execOp, ho, Sem.run_bind, Instr.build, hz, Result.andThen_ok, run_underlying h5, TE.sizeOf, Value.cells, g3', Sem.run_pure]

section
variable {tt : TT} {ops : Array Oper} {r : List Oper} {fr : Fr} {h : Hp} {lg : Log} {K : Fr → Hp → Log → Prop} {d : Nat} {ty : TypeId} {pos : String} {af : Array Edge}
theorem rl_buildArr (htt : TTOk P tt) {t n e : Nat} {parts : Array (Nat × Operand)} {S E : TS} {zs : List AV} {l : List (Nat × AV)} {cs : List AV} (hs : tt t = some S) (hk : S.kind = .arr n e) (he : tt e = some E) (hz : S.zero.map .pv = zs) (hp : evParts (evO fr) parts.toList = some l) (hf : fillA tt (arrFlds n e E.size) zs l = some cs)
    (k : RunL P tt ops r ((d, .agg cs) :: fr) h (([], []) :: lg) K) : RunL P tt ops (⟨some d, .build t parts, ty, pos, af, none⟩ :: r) fr h lg K := by
  subst hz
  exact rl_ops (ops_buildArr htt rfl hs hk he hp hf) .nil .nil k
theorem rl_idxa (htt : TTOk P tt) {t n e : Nat} {x ix : Operand} {S E : TS} {a out : AV} {kd : IntKind} {j : Nat} (hx : evO fr x = some a) (hi : evO fr ix = some (.pv (.int kd (j : Int)))) (hs : tt t = some S) (hk : S.kind = .arr n e) (he : tt e = some E) (h1 : j < n) (ho : shift (j * E.size) a = some out)
    (k : RunL P tt ops r ((d, out) :: fr) h (([], []) :: lg) K) : RunL P tt ops (⟨some d, .indexAddr t x ix, ty, pos, af, none⟩ :: r) fr h lg K :=
  rl_ops (ops_idx_arr htt rfl hx hi hs hk he (by omega) (by omega) (by rw [Int.toNat_natCast]; exact ho)) .nil .nil k
theorem getD_map {α : Type} {f : α → List AV} {l : List α} {j : Nat} {el : α} (hj : l[j]? = some el) : (l.map f).getD j [] = f el := by
  rw [List.getD_eq_getElem?_getD, List.getElem?_map, hj]; rfl
theorem lt_of_get {α : Type} {l : List α} {j : Nat} {el : α} (hj : l[j]? = some el) : j < l.length := (List.getElem?_eq_some_iff.1 hj).1
theorem rl_loadE {α : Type} {f : α → List AV} {l : List α} {el : α} {t : Nat} {x : Operand} {S : TS} {id g j off rty sz : Nat} {out : AV} (hx : evO fr x = some (.elt id g j off)) (hs : tt t = some S) (hh : wfind h id = some (g, .row rty sz (l.map f))) (hj : l[j]? = some el) (hl : ldv S ((f el).drop off) = some out)
    (k : RunL P tt ops r ((d, out) :: fr) h (([id], []) :: lg) K) : RunL P tt ops (⟨some d, .load t x, ty, pos, af, none⟩ :: r) fr h lg K :=
  rl_load_elt hx hs hh (by rw [List.length_map]; exact lt_of_get hj) (getD_map hj) hl k
theorem rl_loadEA {α : Type} {f : α → List AV} {l : List α} {el : α} {t : Nat} {x : Operand} {S : TS} {id g j rty sz : Nat} (hx : evO fr x = some (.elt id g j 0)) (hs : tt t = some S) (hh : wfind h id = some (g, .row rty sz (l.map f))) (hj : l[j]? = some el) (ha : S.agg = true) (hn : S.size = (f el).length)
    (k : RunL P tt ops r ((d, .agg (f el)) :: fr) h (([id], []) :: lg) K) : RunL P tt ops (⟨some d, .load t x, ty, pos, af, none⟩ :: r) fr h lg K :=
  rl_loadE hx hs hh hj (by rw [List.drop_zero]; exact ldv_all ha hn) k
/-- An index of a row of one's own that is an image. -/
theorem rl_idxR {α : Type} {f : α → List AV} {l : List α} {t e rty id g sz : Nat} {x ix : Operand} {S E : TS} {kd : IntKind} {j : Nat} (hx : evO fr x = some (.ref id g)) (hi : evO fr ix = some (.pv (.int kd (j : Int)))) (hs : tt t = some S) (hk : S.kind = .sl e) (he : tt e = some E) (hh : wfind h id = some (g, .row rty sz (l.map f))) (hz : sz = E.size) (h1 : j < l.length)
    (k : RunL P tt ops r ((d, .elt id g j 0) :: fr) h (([id], []) :: lg) K) : RunL P tt ops (⟨some d, .indexAddr t x ix, ty, pos, af, none⟩ :: r) fr h lg K :=
  rl_idxr hx hi hs hk he hh hz (by rw [List.length_map]; exact h1) k
theorem rl_store_elt {t : Nat} {x y : Operand} {S : TS} {b : AV} {id g i off rty sz : Nat} {xs : List (List AV)} {cs' : List AV} {T W : TL} (hx : evO fr x = some (.elt id g i off)) (hy : evO fr y = some b) (hs : tt t = some S) (hb : b.okc = true) (hn : (cellsA b).length = S.size) (hh : wfind h id = some (g, .row rty sz xs)) (hi : i < xs.length) (hl : off + S.size ≤ sz)
    (hab : Abs (cellsA b) h cs' T W) (hT : (T.any (·.1 == id)) = false) (k : RunL P tt ops r fr (((id, (g, .row rty sz (xs.set i ((xs.getD i []).take off ++ cs' ++ (xs.getD i []).drop (off + S.size))))) :: W) ++ h) ((id :: ids T, id :: ids W) :: lg) K) : RunL P tt ops (⟨none, .store t x y, ty, pos, af, none⟩ :: r) fr h lg K := by
  refine rl_inl ?_; simp only [StepK, Opt, hx, hy, hs]
  exact ⟨hb, hn, by simp only [hh, true_and]; exact ⟨hi, hl, (cs', T, W), hab, hT, k⟩⟩
theorem Abs.len {cs cs' : List AV} {h : Hp} {T W : TL} (k : Abs cs h cs' T W) : cs'.length = cs.length := by
  induction k with
  | nil => rfl
  | ref _ _ _ _ _ ih => simp [ih]
  | val _ _ _ ih => simp [ih]
/-- A whole element is stored. -/
theorem rl_storeEA {α : Type} {f : α → List AV} {l : List α} {el : α} {t : Nat} {x y : Operand} {S : TS} {bs cs' : List AV} {id g j rty sz : Nat} {T W : TL} (el' : α) (hx : evO fr x = some (.elt id g j 0)) (hy : evO fr y = some (.agg bs)) (hs : tt t = some S) (hn : bs.length = S.size) (hz : S.size = sz) (hh : wfind h id = some (g, .row rty sz (l.map f))) (hj : l[j]? = some el) (hf : (f el).length = sz)
    (hab : Abs bs h cs' T W) (he : cs' = f el') (hT : (T.any (·.1 == id)) = false) (k : RunL P tt ops r fr (((id, (g, .row rty sz ((l.set j el').map f))) :: W) ++ h) ((id :: ids T, id :: ids W) :: lg) K) : RunL P tt ops (⟨none, .store t x y, ty, pos, af, none⟩ :: r) fr h lg K := by
  have hj' := lt_of_get hj
  refine rl_store_elt hx hy hs rfl hn hh (by rw [List.length_map]; exact hj') (by omega) hab hT ?_
  have : (l.map f).set j (((l.map f).getD j []).take 0 ++ cs' ++ ((l.map f).getD j []).drop (0 + S.size)) = (l.set j el').map f := by
    rw [getD_map hj, List.take_zero, List.nil_append, Nat.zero_add, List.drop_of_length_le (by omega), List.append_nil, he, List.map_set]
  rw [this]; exact k
/-- A scalar element is stored. -/
theorem rl_storeE1 {α : Type} {f : α → List AV} {l : List α} {el : α} {t : Nat} {x y : Operand} {S : TS} {b : AV} {cs' : List AV} {id g j off rty sz : Nat} {T W : TL} (el' : α) (hx : evO fr x = some (.elt id g j off)) (hy : evO fr y = some b) (hs : tt t = some S) (hb : b.one = true) (hn : S.size = 1) (hh : wfind h id = some (g, .row rty sz (l.map f))) (hj : l[j]? = some el) (hf : (f el).length = sz) (ho : off < sz)
    (hab : Abs [b] h cs' T W) (he : (f el).take off ++ cs' ++ (f el).drop (off + 1) = f el') (hT : (T.any (·.1 == id)) = false) (k : RunL P tt ops r fr (((id, (g, .row rty sz ((l.set j el').map f))) :: W) ++ h) ((id :: ids T, id :: ids W) :: lg) K) : RunL P tt ops (⟨none, .store t x y, ty, pos, af, none⟩ :: r) fr h lg K := by
  have hj' := lt_of_get hj
  refine rl_store_elt hx hy hs (okc_one hb) (by rw [cellsA_one hb, hn]; rfl) hh (by rw [List.length_map]; exact hj') (by omega) (by rw [cellsA_one hb]; exact hab) hT ?_
  have : (l.map f).set j (((l.map f).getD j []).take off ++ cs' ++ ((l.map f).getD j []).drop (off + S.size)) = (l.set j el').map f := by
    rw [getD_map hj, hn, he, List.map_set]
  rw [this]; exact k
end
theorem HE.map {h : Hp} {id g : Nat} {xs xs' : List (Value × AV)} {r : Hp} (he : wfind h id = some (g, .map xs)) (e : xs = xs') (t : HE h r) : HE h ((id, (g, .map xs')) :: r) := by
  subst e; exact .same he t
end Go.Proofs.Ytcleiaibcfocdaa.Am
