/- The abstract machine, part 10: 'append'. -/
import Derived.Test.YtcleiaibcfocdaaAm9
set_option linter.unusedVariables false
set_option linter.unusedSimpArgs false
namespace Go.Proofs.Ytcleiaibcfocdaa.Am
open Go Go.RowKit

variable {P : Program} {ev : Operand → Option AV}

theorem flat_inv {α : Type} {sz : Nat} : ∀ (xs : List (List α)) (k : Nat) (y : α), (∀ (j : Nat) (x : List α), xs[j]? = some x → x.length = sz) → xs.flatten[k]? = some y → ∃ j i x, xs[j]? = some x ∧ x[i]? = some y ∧ k = j * sz + i
  | [], k, y, _, h => by simp at h
  | x :: r, k, y, hl, h => by
    rw [List.flatten_cons, List.getElem?_append] at h
    split at h
    · exact ⟨0, k, x, rfl, h, by omega⟩
    · rename_i hk
      obtain ⟨j, i, z, h1, h2, h3⟩ := flat_inv r _ y (fun j z hz => hl (j + 1) z (by simpa using hz)) h
      have := hl 0 x rfl
      exact ⟨j + 1, i, z, by simpa using h1, h2, by rw [Nat.add_mul]; omega⟩

/-- What is appended: its elements' cells. -/
def src (h : Hp) : AV → Option (Nat × List (List AV) × TL)
  | .row (.rd _) _ sz ys => some (sz, ys, [])
  | .ref id g => match wfind h id with
    | some (g', .row ty sz ys) => if g' = g then some (sz, ys, [(id, (g', .row ty sz ys))]) else none
    | _ => none
  | .cut id g lo hi => match wfind h id with
    | some (g', .row ty sz ys) => if g' = g then some (sz, (ys.take hi).drop lo, [(id, (g', .row ty sz ys))]) else none
    | _ => none
  | .pv (.slice none 0 0) => some (0, [], [])
  | _ => none

theorem Lens.part {sz : Nat} {xs : List (List AV)} (h : Lens sz xs) (lo hi : Nat) : Lens sz ((xs.take hi).drop lo) := fun j x hx => by
  rw [List.getElem?_drop, List.getElem?_take] at hx
  split at hx
  · exact h _ x hx
  · cases hx

theorem VRs.sub {X : Cx} {w : World} {sz : Nat} {xs : List (List AV)} {us : List Value} (hl : Lens sz xs) (h : VRs X w xs.flatten us) (lo hi : Nat) (hlo : lo ≤ hi) (hhi : hi ≤ xs.length) : VRs X w ((xs.take hi).drop lo).flatten ((us.take (hi * sz)).drop (lo * sz)) := by
  have e : ((xs.take hi).drop lo).flatten = (xs.flatten.take (hi * sz)).drop (lo * sz) := by
    have h1 : xs.flatten = (xs.take hi).flatten ++ (xs.drop hi).flatten := by rw [← List.flatten_append, List.take_append_drop]
    have h2 : (xs.take hi).flatten.length = hi * sz := by
      rw [flat_len (sz := sz) (xs.take hi) (fun j x hx => by
        rw [List.getElem?_take] at hx
        split at hx
        · exact hl j x hx
        · cases hx), List.length_take, Nat.min_eq_left hhi]
    have h3 : xs.flatten.take (hi * sz) = (xs.take hi).flatten := by rw [h1, List.take_append_of_le_length (by omega), List.take_of_length_le (by omega)]
    have h4 : (xs.take hi).flatten = ((xs.take hi).take lo).flatten ++ ((xs.take hi).drop lo).flatten := by rw [← List.flatten_append, List.take_append_drop]
    have h5 : ((xs.take hi).take lo).flatten.length = lo * sz := by
      rw [flat_len (sz := sz) ((xs.take hi).take lo) (fun j x hx => by
        rw [List.getElem?_take, List.getElem?_take] at hx
        split at hx
        · split at hx
          · exact hl j x hx
          · cases hx
        · cases hx), List.length_take, List.length_take]
      congr 1; omega
    rw [h3]
    conv => rhs; rw [h4]
    rw [List.drop_append_of_le_length (by omega), show List.drop (lo * sz) ((xs.take hi).take lo).flatten = [] from List.drop_of_length_le (by omega), List.nil_append]
  rw [e]
  exact (h.take _).drop _

theorem src_sound {X : Cx} {B : Base} {h : Hp} {hF : HF} {w : World} {av : AV} {v : Value} {sz : Nat} {ys : List (List AV)} {T : TL} (hs : src h av = some (sz, ys, T)) (hS : SRh X B hF w) (hT : ∀ id ge, (id, ge) ∈ T → hF id = some ge) (hv : VR X w av v) :
    ∃ A c news, v = .slice A ys.length c ∧ Lens sz ys ∧ VRs X w ys.flatten news ∧ (ys = [] ∨ ∃ ad, A = some ad ∧ ∀ j u, news[j]? = some u → w.cell? (ad.add j) = some u) := by
  unfold src at hs
  split at hs
  · cases hs
    obtain ⟨A, c, u, rfl, h1, h2, h3, h4, h5, h6, h7⟩ := hv.row_inv
    cases ys with
    | nil => exact ⟨A, c, [], rfl, h3, .nil, .inl rfl⟩
    | cons y0 yr =>
      obtain ⟨ad, rfl, _⟩ := h5 (by simp)
      have hc : Cells X w ad (y0 :: yr).flatten := ⟨fun k y hy => by
        obtain ⟨j, i, x, g1, g2, rfl⟩ := flat_inv _ k y h3 hy
        exact ⟨h4 j i x y g1 g2, u j i, h6 ad j i x y rfl g1 g2, .cl (h7 j i x y g1 g2)⟩⟩
      obtain ⟨news, k1, k2⟩ := hc.list
      exact ⟨_, c, news, rfl, h3, k1, .inr ⟨ad, rfl, k2⟩⟩
  · split at hs
    · split at hs
      · rename_i id g _ g' ty sz0 ys0 _ e
        subst e
        cases hs
        obtain ⟨A, n, c, sz', rfl, hr⟩ := hv.ref_inv
        obtain ⟨v', us, h1, h2, h3, h4⟩ := hS.row (hT _ _ (List.mem_singleton.2 rfl))
        rw [hr] at h1
        cases h1
        have hn := own_n h2
        subst hn
        refine ⟨A, c, us, rfl, h3, h4, ?_⟩
        rcases h2.2 with ⟨A', e1, e2⟩ | ⟨b, cap, cur, e1, _⟩
        · exact .inl (List.eq_nil_of_length_eq_zero e2)
        · cases e1
          refine .inr ⟨_, rfl, fun j u hu => ?_⟩
          obtain ⟨b', c', e, _, h8⟩ := h2.cells hu
          cases e; exact h8
      · cases hs
    · cases hs
  · split at hs
    · split at hs
      · rename_i id g lo hi _ g' ty sz0 ys0 _ e
        subst e
        cases hs
        obtain ⟨A, A', n, c, c', sz', rfl, hr, k1, k2, k3, k4, k5⟩ := hv.cut_inv
        obtain ⟨v', us, h1, h2, h3, h4⟩ := hS.row (hT _ _ (List.mem_singleton.2 rfl))
        rw [hr] at h1
        cases h1
        have hn := own_n h2
        subst hn
        have hlen : ((ys0.take hi).drop lo).length = hi - lo := by simp; omega
        refine ⟨A', c', _, by rw [hlen], h3.part lo hi, h4.sub h3 lo hi k1 k2, ?_⟩
        by_cases hlt : lo < hi
        · obtain ⟨ad, rfl, rfl⟩ := k5 hlt
          refine .inr ⟨_, rfl, fun j u hu => ?_⟩
          rw [List.getElem?_drop, List.getElem?_take] at hu
          split at hu
          · rw [add_add]
            obtain ⟨b', c2, e, _, h8⟩ := h2.cells hu
            cases e
            exact h8
          · cases hu
        · exact .inl (List.eq_nil_of_length_eq_zero (by omega))
      · cases hs
    · cases hs
  · cases hs
    have := hv.pv_inv
    subst this
    exact ⟨none, 0, [], rfl, fun j x hx => by simp at hx, .nil, .inl rfl⟩
  · cases hs

theorem run_append_zero (t ty e : TypeId) (i : TypeInfo) (ht : P.underlying t = some (.slice e)) (hi : P.info? e = some i) (w : World) (A : Option Addr) (n c : Nat) (hn : n ≤ c) (A' : Option Addr) (c' : Nat) :
    (Builtin.append_ #[t, t] ty #[.slice A n c, .slice A' 0 c']).run P w = .ok (.slice A n c) w := by
  have hf : (Builtin.firstCells i.size 0 (.slice A' 0 c')).run P w = .ok #[] w := by
    cases A' with
    | none => simp [Builtin.firstCells]
    | some ad => exact run_firstCells_some (P := P) w i.size 0 ad 0 c' [] (by simp) (by simp)
  cases A with
  | none => simp [Builtin.append_, run_underlying ht, sizeOf, typeInfo, hi, Builtin.lenOf, hn, hf]
  | some ad => simp [Builtin.append_, run_underlying ht, sizeOf, typeInfo, hi, Builtin.lenOf, hn, hf, storeCells]

/-- A slice without room is, for 'append', as good as nil. -/
theorem append_base0 {t ty e : TypeId} {i : TypeInfo} (ht : P.underlying t = some (.slice e)) (hi : P.info? e = some i) (w : World) (ad : Addr) (A : Option Addr) (m c : Nat) (hm : 0 < m) (hb : m * i.bytes ≤ 281474976710656) (hml : m ≤ maxLen) :
    (Builtin.append_ #[t, t] ty #[.slice (some ad) 0 0, .slice A m c]).run P w = (Builtin.append_ #[t, t] ty #[.slice none 0 0, .slice A m c]).run P w := by
  have h1 : (Builtin.firstCells i.size 0 (.slice (some ad) 0 0)).run P w = .ok #[] w := run_firstCells_some (P := P) w i.size 0 ad 0 0 [] (by simp) (by simp)
  have h2 : (Builtin.firstCells i.size 0 (.slice none 0 0)).run P w = .ok #[] w := by simp [Builtin.firstCells]
  have hn : Builtin.nextslicecap m 0 = m := by unfold Builtin.nextslicecap; rw [if_pos (by omega)]
  have h3 : ∀ w : World, (Builtin.firstCells i.size 0 (.slice (some ad) 0 0)).run P w = .ok #[] w := fun w => run_firstCells_some (P := P) w i.size 0 ad 0 0 [] (by simp) (by simp)
  have h4 : ∀ w : World, (Builtin.firstCells i.size 0 (.slice none 0 0)).run P w = .ok #[] w := fun w => by simp [Builtin.firstCells]
  have hm' : ¬ m ≤ 0 := by omega
  have hb' : ¬ m * i.bytes > 2 ^ 48 := by omega
  simp [Builtin.append_, run_underlying ht, sizeOf, typeInfo, hi, Builtin.lenOf, hm', hn, hb', h3, h4]
  have hz : ¬ m = 0 := by omega
  simp only [hz, if_false]

/-- What 'append' leaves, onto a row of one's own. -/
theorem append_run {tt : TT} (htt : TTOk P tt) {t e : Nat} {S E : TS} (hs : tt t = some S) (hk : S.kind = .sl e) (he : tt e = some E) (ty : Nat) {w : World} {v : Value} {n : Nat} {us : List Value} (hown : Own w e E.size v n us) {A : Option Addr} {m c : Nat} {news : List Value} (hn : news.length = m * E.size)
    (hsrc : m = 0 ∨ ∃ ad, A = some ad ∧ ∀ j u, news[j]? = some u → w.cell? (ad.add j) = some u) (h1 : ∀ u ∈ news, u.oneCell' = true) (hsz : 0 < E.size) (hb1 : 0 < E.bytes) (hb : (n + m) * E.bytes ≤ 140737488355328) :
    ∃ v' w', (Builtin.append_ #[t, t] ty #[v, .slice A m c]).run P w = .ok v' w' ∧ Own w' e E.size v' (n + m) (us ++ news) ∧ w.grownBy w' (ownB v) ∧ (∀ b, ownB v' = some b → ownB v = some b ∨ b = w.heap.size) := by
  have T := htt _ _ he
  obtain ⟨i, k1, k2, k3, k4⟩ := T.info
  obtain ⟨d, k5, k6⟩ := (htt _ _ hs).desc
  rw [hk] at k6
  simp only [KOk] at k6
  subst k6
  by_cases hm : m = 0
  · subst hm
    have : news = [] := List.eq_nil_of_length_eq_zero (by simpa using hn)
    subst this
    obtain ⟨A0, n0, c0, rfl, hle⟩ : ∃ A0 n0 c0, v = .slice A0 n0 c0 ∧ n0 ≤ c0 := by
      rcases hown.2 with ⟨A', e1, _⟩ | ⟨b, cap, cur, e1, _, _, h6, _⟩
      · exact ⟨_, _, _, e1, Nat.le_refl _⟩
      · exact ⟨_, _, _, e1, h6⟩
    exact ⟨_, w, run_append_zero t ty e i k5 k1 w A0 n0 c0 hle A c, by simpa using hown, ⟨rfl, rfl, rfl, Nat.le_refl _, fun _ _ _ => rfl⟩, fun b hb => .inl hb⟩
  · obtain ⟨ad, rfl, hc⟩ := hsrc.resolve_left hm
    have hml : n + m ≤ maxLen := by
      have : n + m ≤ (n + m) * E.bytes := Nat.le_mul_of_pos_right _ hb1
      unfold maxLen; omega
    have main : ∀ v, w.ownsRow 0 e E.size v n us → ∃ v' w', (Builtin.append_ #[t, t] ty #[v, .slice (some ad) m c]).run P w = .ok v' w' ∧ w'.ownsRow 0 e E.size v' (n + m) (us ++ news) ∧ w.grownBy w' v.ownBlock ∧ (v'.ownBlock = v.ownBlock ∨ v'.ownBlock = some w.heap.size) := fun v hown => by
      obtain ⟨v', w', g1, g2, g3, _, g4⟩ := run_append_own_at (P := P) w 0 t ty e i _ E.size E.bytes k5 k1 k4 k2 k3 (by rw [T.zeroCells]; simp [T.zl]) hsz v n us hown ad m c news hn hc h1 hml hb (Nat.zero_le _)
      exact ⟨v', w', g1, g2, g3, g4⟩
    have own' : ∀ (v : Value) b, ownB v = some b → v.ownBlock = some b := fun v b hb => by
      cases v with
      | slice A n c =>
        cases A with
        | none => cases hb
        | some a => cases c with
          | zero => cases hb
          | succ c => exact hb
      | _ => cases hb
    rcases hown.split with ⟨A0, e1, e2, e3⟩ | ⟨h2, h3⟩
    · subst e1 e2 e3
      obtain ⟨v', w', g1, g2, g3, g4⟩ := main (.slice none 0 0) ⟨by simp, .inl ⟨rfl, rfl⟩⟩
      refine ⟨v', w', ?_, .of g2, ⟨g3.os, g3.tape, g3.output, g3.size, fun k hk hne => g3.block k hk (by simp [Value.ownBlock])⟩, fun b hb => ?_⟩
      · cases A0 with
        | none => exact g1
        | some ad0 =>
          rw [append_base0 k5 k1 w ad0 (some ad) m c (by omega) (by rw [k3]; rw [Nat.zero_add] at hb; omega) (by omega)]
          exact g1
      · rcases g4 with g4 | g4
        · rw [own' _ _ hb] at g4; simp [Value.ownBlock] at g4
        · rw [own' _ _ hb] at g4; cases g4; exact .inr rfl
    · obtain ⟨v', w', g1, g2, g3, g4⟩ := main v h2
      refine ⟨v', w', g1, .of g2, by rw [h3]; exact g3, fun b hb => ?_⟩
      rcases g4 with g4 | g4
      · rw [own' _ _ hb] at g4; rw [h3]; exact .inl g4.symm
      · rw [own' _ _ hb] at g4; cases g4; exact .inr rfl

/-- 'append' onto a row of one's own; what is appended stays where it is. -/
theorem ops_append {o : Oper} {tt : TT} (htt : TTOk P tt) {h : Hp} {t e id g : Nat} {x y : Operand} {S E : TS} {xs ys : List (List AV)} {av : AV} {T : TL} (ho : o.op = .call { callee := .builtin .append, args := #[x, y], argTypes := #[t, t] }) (hs : tt t = some S) (hk : S.kind = .sl e) (he : tt e = some E)
    (hx : ev x = some (.ref id g)) (hy : ev y = some av) (hsrc : src h av = some (E.size, ys, T) ∨ (ys = [] ∧ T = [] ∧ ∃ z, src h av = some (z, [], []))) (how : (ys.flatten.all fun c => !c.isOw) = true) (hsz : 0 < E.size) (hb1 : 0 < E.bytes) (hb : (xs.length + ys.length) * E.bytes ≤ 140737488355328) :
    OpS P o ev ((id, (g, .row e E.size xs)) :: T) [(id, (g + 1, .row e E.size (xs ++ ys)))] (.ref id (g + 1)) := by
  rintro X B hF a w Q K hS0 hop hT hK
  have hid := hT id _ (List.mem_cons_self ..)
  have hv := hop y (by simp [ho, Op.operands, Call.operands]) _ hy
  obtain ⟨A0, n0, c0, sz0, e1, hr0⟩ := (hop x (by simp [ho, Op.operands, Call.operands]) _ hx).ref_inv
  obtain ⟨A, c, news, e2, hl, hvs, hcl⟩ : ∃ A c news, a.eval y = .slice A ys.length c ∧ Lens E.size ys ∧ VRs X w ys.flatten news ∧ (ys = [] ∨ ∃ ad, A = some ad ∧ ∀ j u, news[j]? = some u → w.cell? (ad.add j) = some u) := by
    rcases hsrc with hsrc | ⟨rfl, rfl, z, hsrc⟩
    · exact src_sound hsrc hS0 (fun i ge hm => hT i ge (List.mem_cons_of_mem _ hm)) hv
    · obtain ⟨A, c, news, k1, _, k3, k4⟩ := src_sound hsrc hS0 (by simp) hv
      exact ⟨A, c, news, k1, fun j x hx => by simp at hx, k3, k4⟩
  obtain ⟨F, hS⟩ := hS0
  obtain ⟨v0, us, S0, h1, h2, h3, h4, h5, h6⟩ := hS.ent _ _ _ hid
  rw [hr0] at h1
  cases h1
  have hnl : news.length = ys.length * E.size := by rw [hvs.len, flat_len ys hl]
  obtain ⟨v', w', g1, g2, g3, g4⟩ := append_run htt hs hk he o.type h2 (c := c) hnl (hcl.imp (fun h => by simp [h]) (fun h => h)) hvs.oneCells hsz hb1 hb
  rw [List.nodup_append] at h5
  obtain ⟨hX, hS', hok⟩ := hS.newRow hid (ty := e) (sz := E.size) (xs := xs ++ ys) (us := us ++ news) (v := v') (w' := w') (L := (ownB (Value.slice A0 n0 c0)).toList) (S := S0 ++ []) (.of g3 _ (fun b hb => by simp [hb])) (fun b hb => ⟨h6 b (List.mem_append_left _ hb), fun hb2 => h5.2.2 b hb b (by simpa using hb2) rfl⟩)
    (fun b hb => h6 b (List.mem_append_right _ (by simpa using hb))) (by simpa using h5.2.1) (by rw [List.length_append]; exact g2) (fun b hb => by
      rcases g4 b hb with g4 | g4
      · exact .inl ⟨h6 b (by simp [g4]), fun hb2 => h5.2.2 b (by simp [g4]) b (by simpa using hb2) rfl⟩
      · exact .inr (by omega))
    (fun j z hz => by
      rw [List.getElem?_append] at hz
      split at hz
      · exact h3 j z hz
      · exact hl _ z hz) (by rw [List.flatten_append]; exact h4.append (hvs.trs how))
  unfold Oper.wp
  have hx2 : (execOp a.eval o).run P w = .ok (.value v') w' := by
    simp only [execOp, ho, resolve, invoke, builtin, Sem.run_bind, Sem.run_pure, Result.andThen_ok, List.map_toArray, List.map_cons, List.map_nil, e1, e2, g1]
  rw [hx2, Oper.upon_value]
  obtain ⟨A', n', c', rfl⟩ : ∃ A' n' c', v' = .slice A' n' c' := by
    rcases g2.2 with ⟨A2, e1, _⟩ | ⟨b, cap, cur, e1, _⟩ <;> exact ⟨_, _, _, e1⟩
  exact hK _ _ _ hX (by rw [upds_one]; exact hS') hok .setR

/-- 'append' onto nil. -/
theorem ops_append_nil {o : Oper} {tt : TT} (htt : TTOk P tt) {h : Hp} {t e id g : Nat} {x y : Operand} {S E : TS} {ys : List (List AV)} {av : AV} {T : TL} (ho : o.op = .call { callee := .builtin .append, args := #[x, y], argTypes := #[t, t] }) (hs : tt t = some S) (hk : S.kind = .sl e) (he : tt e = some E)
    (hx : ev x = some (.pv (.slice none 0 0))) (hy : ev y = some av) (hsrc : src h av = some (E.size, ys, T) ∨ (ys = [] ∧ T = [] ∧ ∃ z, src h av = some (z, [], []))) (how : (ys.flatten.all fun c => !c.isOw) = true) (hsz : 0 < E.size) (hb1 : 0 < E.bytes) (hb : ys.length * E.bytes ≤ 140737488355328) :
    OpS P o ev ((id, (g, .dead)) :: T) [(id, (g + 1, .row e E.size ys))] (.ref id (g + 1)) := by
  rintro X B hF a w Q K hS0 hop hT hK
  have hid := hT id _ (List.mem_cons_self ..)
  have hv := hop y (by simp [ho, Op.operands, Call.operands]) _ hy
  have e1 := evok hop (by simp [ho, Op.operands, Call.operands]) hx
  obtain ⟨A, c, news, e2, hl, hvs, hcl⟩ : ∃ A c news, a.eval y = .slice A ys.length c ∧ Lens E.size ys ∧ VRs X w ys.flatten news ∧ (ys = [] ∨ ∃ ad, A = some ad ∧ ∀ j u, news[j]? = some u → w.cell? (ad.add j) = some u) := by
    rcases hsrc with hsrc | ⟨rfl, rfl, z, hsrc⟩
    · exact src_sound hsrc hS0 (fun i ge hm => hT i ge (List.mem_cons_of_mem _ hm)) hv
    · obtain ⟨A, c, news, k1, _, k3, k4⟩ := src_sound hsrc hS0 (by simp) hv
      exact ⟨A, c, news, k1, fun j x hx => by simp at hx, k3, k4⟩
  obtain ⟨F, hS⟩ := hS0
  have h2 : Own w e E.size (.slice none 0 0) 0 [] := ⟨by simp, .inl ⟨none, rfl, rfl⟩⟩
  have hnl : news.length = ys.length * E.size := by rw [hvs.len, flat_len ys hl]
  obtain ⟨v', w', g1, g2, g3, g4⟩ := append_run htt hs hk he o.type h2 (c := c) hnl (hcl.imp (fun h => by simp [h]) (fun h => h)) hvs.oneCells hsz hb1 (by simpa using hb)
  obtain ⟨hX, hS', hok⟩ := hS.newRow hid (ty := e) (sz := E.size) (xs := ys) (us := news) (v := v') (w' := w') (L := []) (S := []) (.of g3 _ (fun b hb => by simp [ownB] at hb)) (by simp)
    (by simp) List.nodup_nil (by simpa using g2) (fun b hb => by
      rcases g4 b hb with g4 | g4
      · simp [ownB] at g4
      · exact .inr (by omega))
    hl (hvs.trs how)
  unfold Oper.wp
  have hx2 : (execOp a.eval o).run P w = .ok (.value v') w' := by
    simp only [execOp, ho, resolve, invoke, builtin, Sem.run_bind, Sem.run_pure, Result.andThen_ok, List.map_toArray, List.map_cons, List.map_nil, e1, e2, g1]
  rw [hx2, Oper.upon_value]
  obtain ⟨A', n', c', rfl⟩ : ∃ A' n' c', v' = .slice A' n' c' := by
    rcases g2.2 with ⟨A2, e1, _⟩ | ⟨b, cap, cur, e1, _⟩ <;> exact ⟨_, _, _, e1⟩
  exact hK _ _ _ hX (by rw [upds_one]; exact hS') hok .setR

/-- 'append' of a row of one's own that goes over, with what it owns. -/
theorem ops_append_move {o : Oper} {tt : TT} (htt : TTOk P tt) {t e id g id2 g2 ty2 : Nat} {x y : Operand} {S E : TS} {xs ys : List (List AV)} (ho : o.op = .call { callee := .builtin .append, args := #[x, y], argTypes := #[t, t] }) (hs : tt t = some S) (hk : S.kind = .sl e) (he : tt e = some E)
    (hx : ev x = some (.ref id g)) (hy : ev y = some (.ref id2 g2)) (hne : id ≠ id2) (hsz : 0 < E.size) (hb1 : 0 < E.bytes) (hb : (xs.length + ys.length) * E.bytes ≤ 140737488355328) :
    OpS P o ev [(id, (g, .row e E.size xs)), (id2, (g2, .row ty2 E.size ys))] [(id, (g + 1, .row e E.size (xs ++ ys))), (id2, (g2, .dead))] (.ref id (g + 1)) := by
  rintro X B hF a w Q K ⟨F0, hS0⟩ hop hT hK
  have hid0 := hT id _ (List.mem_cons_self ..)
  have hid2 := hT id2 _ (List.mem_cons_of_mem _ (List.mem_singleton.2 rfl))
  obtain ⟨A0, n0, c0, sz0, e1, hr0⟩ := (hop x (by simp [ho, Op.operands, Call.operands]) _ hx).ref_inv
  have hv := hop y (by simp [ho, Op.operands, Call.operands]) _ hy
  obtain ⟨A2, n2, c2, sz2, e2, hr2⟩ := hv.ref_inv
  obtain ⟨v2, news, S2, k1, k2, k3, k4, k5, k6⟩ := hS0.ent _ _ _ hid2
  rw [hr2] at k1
  cases k1
  have hn2 := own_n k2
  subst hn2
  obtain ⟨v0, us, S0, h1, h2, h3, h4, h5, h6⟩ := hS0.ent _ _ _ hid0
  rw [hr0] at h1
  cases h1
  have hS1 := hS0.kill hid2
  have hid : upd hF id2 (g2, .dead) id = some (g, .row e E.size xs) := by rw [upd_other _ hne]; exact hid0
  have hS := hS1.merge (upd_same _ _ _) hid hne
  have fid : updF (updF F0 id2 []) id (F0 id ++ F0 id2) id = F0 id ++ F0 id2 := by simp [updF]
  have hnl : news.length = ys.length * E.size := by rw [k4.len, flat_len ys k3]
  have hcl : ys.length = 0 ∨ ∃ ad, A2 = some ad ∧ ∀ j u, news[j]? = some u → w.cell? (ad.add j) = some u := by
    rcases k2.2 with ⟨A', q1, q2⟩ | ⟨b, cap, cur, q1, _⟩
    · exact .inl q2
    · cases q1
      refine .inr ⟨_, rfl, fun j u hu => ?_⟩
      obtain ⟨b', c', e, _, h8⟩ := k2.cells hu
      cases e; exact h8
  obtain ⟨v', w', g1, g2', g3, g4⟩ := append_run htt hs hk he o.type h2 (c := c2) hnl hcl k4.vrs.oneCells hsz hb1 hb
  rw [List.nodup_append] at h5 k5
  have hdis : ∀ b ∈ F0 id, b ∉ F0 id2 := fun b hb hb2 => hne (hS0.sep id id2 _ _ b hid0 hid2 hb hb2)
  have hb0 : ∀ b ∈ (ownB (Value.slice A0 n0 c0)).toList, b ∈ F0 id ∧ b ∉ S0 ++ S2 := fun b hb => ⟨h6 b (List.mem_append_left _ hb), fun hm => by
    rcases List.mem_append.1 hm with hm | hm
    · exact h5.2.2 b hb b hm rfl
    · exact hdis b (h6 b (List.mem_append_left _ hb)) (k6 b (List.mem_append_right _ hm))⟩
  obtain ⟨hX, hS', hok⟩ := hS.newRow hid (ty := e) (sz := E.size) (xs := xs ++ ys) (us := us ++ news) (v := v') (w' := w') (L := (ownB (Value.slice A0 n0 c0)).toList) (S := S0 ++ S2) (.of g3 _ (fun b hb => by simp [hb])) (fun b hb => by rw [fid]; exact ⟨List.mem_append_left _ (hb0 b hb).1, (hb0 b hb).2⟩)
    (fun b hb => by
      rw [fid]
      rcases List.mem_append.1 hb with hb | hb
      · exact List.mem_append_left _ (h6 b (List.mem_append_right _ hb))
      · exact List.mem_append_right _ (k6 b (List.mem_append_right _ hb))) (List.nodup_append.2 ⟨h5.2.1, k5.2.1, fun a ha b hb => by rintro rfl; exact hdis a (h6 a (List.mem_append_right _ ha)) (k6 a (List.mem_append_right _ hb))⟩) (by rw [List.length_append]; exact g2') (fun b hb => by
      rcases g4 b hb with g4 | g4
      · have := hb0 b (by simp [g4])
        rw [fid]
        exact .inl ⟨List.mem_append_left _ this.1, this.2⟩
      · exact .inr (by omega))
    (fun j z hz => by
      rw [List.getElem?_append] at hz
      split at hz
      · exact h3 j z hz
      · exact k3 _ z hz) (by rw [List.flatten_append]; exact h4.append k4)
  unfold Oper.wp
  have hx2 : (execOp a.eval o).run P w = .ok (.value v') w' := by
    simp only [execOp, ho, resolve, invoke, builtin, Sem.run_bind, Sem.run_pure, Result.andThen_ok, List.map_toArray, List.map_cons, List.map_nil, e1, e2, g1]
  rw [hx2, Oper.upon_value]
  obtain ⟨A', n', c', rfl⟩ : ∃ A' n' c', v' = .slice A' n' c' := by
    rcases g2'.2 with ⟨A2, e1, _⟩ | ⟨b, cap, cur, e1, _⟩ <;> exact ⟨_, _, _, e1⟩
  exact hK _ _ _ hX (by rw [upds_cons, upds_one]; exact hS') hok .setR
end Go.Proofs.Ytcleiaibcfocdaa.Am
