/- The abstract machine, part 33: one element of a row of one's own, in the open. -/
import Derived.Test.YtcleiaibcfocdaaAm32
set_option linter.unusedVariables false
set_option linter.unusedSimpArgs false
namespace Go.Proofs.Ytcleiaibcfocdaa.Am
open Go Go.RowKit
variable {P : Program}

theorem getD_mid {A B : List (List AV)} {cs : List AV} {j : Nat} (hA : A.length = j) : (A ++ cs :: B).getD j [] = cs := by
  subst hA; simp
theorem set_mid {A B : List (List AV)} {cs cs' : List AV} {j : Nat} (hA : A.length = j) : (A ++ cs :: B).set j cs' = A ++ cs' :: B := by
  subst hA; simp
theorem lt_mid {A B : List (List AV)} {cs : List AV} {j : Nat} (hA : A.length = j) : j < (A ++ cs :: B).length := by
  rw [List.length_append, List.length_cons]; omega
section
variable {tt : TT} {ops : Array Oper} {r : List Oper} {fr : Fr} {h : Hp} {lg : Log} {K : Fr → Hp → Log → Prop} {d : Nat} {ty : TypeId} {pos : String} {af : Array Edge}
theorem rl_idxM {t e rty id g sz : Nat} {x ix : Operand} {S E : TS} {kd : IntKind} {j : Nat} {A B : List (List AV)} {cs : List AV} (hx : evO fr x = some (.ref id g)) (hi : evO fr ix = some (.pv (.int kd (j : Int)))) (hs : tt t = some S) (hk : S.kind = .sl e) (he : tt e = some E) (hh : wfind h id = some (g, .row rty sz (A ++ cs :: B))) (hz : sz = E.size) (hA : A.length = j)
    (k : RunL P tt ops r ((d, .elt id g j 0) :: fr) h (([id], []) :: lg) K) : RunL P tt ops (⟨some d, .indexAddr t x ix, ty, pos, af, none⟩ :: r) fr h lg K :=
  rl_idxr hx hi hs hk he hh hz (lt_mid hA) k
theorem rl_loadM {t : Nat} {x : Operand} {S : TS} {id g j off rty sz : Nat} {out : AV} {A B : List (List AV)} {cs : List AV} (hA : A.length = j) (hx : evO fr x = some (.elt id g j off)) (hs : tt t = some S) (hh : wfind h id = some (g, .row rty sz (A ++ cs :: B))) (hl : ldv S (cs.drop off) = some out)
    (k : RunL P tt ops r ((d, out) :: fr) h (([id], []) :: lg) K) : RunL P tt ops (⟨some d, .load t x, ty, pos, af, none⟩ :: r) fr h lg K :=
  rl_load_elt hx hs hh (lt_mid hA) (getD_mid hA) hl k
theorem rl_storeM {t : Nat} {x y : Operand} {S : TS} {b : AV} {id g j off rty sz : Nat} {A B : List (List AV)} {cs cs' : List AV} (hA : A.length = j) (hx : evO fr x = some (.elt id g j off)) (hy : evO fr y = some b) (hs : tt t = some S) (hb : b.one = true) (hw : b.isOw = false) (hr : (match b with | .ref _ _ => false | _ => true) = true) (hn : S.size = 1) (hh : wfind h id = some (g, .row rty sz (A ++ cs :: B))) (hl : Nat.blt off cs.length = true) (hz : cs.length = sz) (he : cs.set off b = cs')
    (k : RunL P tt ops r fr ((id, (g, .row rty sz (A ++ cs' :: B))) :: h) (([id], [id]) :: lg) K) : RunL P tt ops (⟨none, .store t x y, ty, pos, af, none⟩ :: r) fr h lg K := by
  subst he
  have hl' : off < cs.length := Nat.le_of_ble_eq_true hl
  refine rl_store_elt (T := []) (W := []) (cs' := [b]) hx hy hs (okc_one hb) (by rw [cellsA_one hb, hn]; rfl) hh (lt_mid hA) (by omega) (by rw [cellsA_one hb]; exact .val hb hw .nil) rfl ?_
  have : (A ++ cs :: B).set j (((A ++ cs :: B).getD j []).take off ++ [b] ++ ((A ++ cs :: B).getD j []).drop (off + S.size)) = A ++ cs.set off b :: B := by
    rw [getD_mid hA, hn, set_mid hA, List.append_assoc, List.singleton_append, List.set_eq_take_append_cons_drop, if_pos hl']
  rw [this]; exact k
end
variable {n : Nat} {fr : Fr} {h : Hp} {Q : Exit → Fr → Hp → Prop}
theorem ex_splitM {c : Code} (id off id' : Nat) {j g g' ty sz ty2 sz2 : Nat} {ys A B : List (List AV)} {cs cs' : List AV} (hA : A.length = j) (hh : wfind h id = some (g, .row ty sz (A ++ cs :: B))) (hc : cs[off]? = some (.row .ow ty2 sz2 ys)) (hd : wfind h id' = some (g', .dead)) (hne : Nat.beq id id' = false) (hcs : cs.set off (.ref id' (g' + 1)) = cs')
    (k : Ex P n c fr ((id, (g, .row ty sz (A ++ cs' :: B))) :: (id', (g' + 1, .row ty2 sz2 ys)) :: h) Q) : Ex P n c fr h Q := by
  subst hcs
  refine ex_splitR id j off id' hh (by rw [← hA]; simp) hc hd hne ?_
  rw [set_mid hA]; exact k
theorem ex_joinM {c : Code} (id off id' : Nat) {j g g' ty sz ty2 sz2 : Nat} {ys A B : List (List AV)} {cs cs' : List AV} (hA : A.length = j) (hh : wfind h id = some (g, .row ty sz (A ++ cs :: B))) (hc : cs[off]? = some (.ref id' g')) (hd : wfind h id' = some (g', .row ty2 sz2 ys)) (hfl : FlatR ys) (hne : Nat.beq id id' = false) (hcs : cs.set off (.row .ow ty2 sz2 ys) = cs')
    (k : Ex P n c fr ((id, (g, .row ty sz (A ++ cs' :: B))) :: (id', (g', .dead)) :: h) Q) : Ex P n c fr h Q := by
  subst hcs
  refine ex_joinR id j off id' hh (by rw [← hA]; simp) hc hd hfl hne ?_
  rw [set_mid hA]; exact k
end Go.Proofs.Ytcleiaibcfocdaa.Am
