/- Part 2 of the texts that the proof of LawFnNodeTend leans on, merged by program. -/
import Derived.Test.YtlgknoapdbpojaaGreatKw1
set_option linter.unusedVariables false
set_option linter.unusedSimpArgs false
set_option maxHeartbeats 4000000
set_option autoImplicit true
set_option relaxedAutoImplicit true
namespace Go.Proofs.YtlgknoapdbpojaaGreat.Am
open Go Go.RowKit
section
variable {P : Program} {tt : TT} {ops : Array Oper} {r : List Oper} {fr : Fr} {h : Hp} {lg : Log} {K : Fr → Hp → Log → Prop} {d : Nat} {ty : TypeId} {pos : String} {af : Array Edge}
theorem d8t (k : K fr h lg) : u4u P tt ops [] fr h lg K := k
theorem a1b (k : a0x P tt fr h op fun out T W => u4u P tt ops r (e4c fr dst out) (d7s h W) ((ids T, ids W) :: lg) K) : u4u P tt ops (⟨dst, op, ty, pos, af, none⟩ :: r) fr h lg K := .inl k

theorem a5q (ho : OpS P ⟨some d, op, ty, pos, af, none⟩ (evO fr) T W out) (hT : InH h T) (hW : Sub W T) (k : u4u P tt ops r ((d, out) :: fr) (W ++ h) ((ids T, ids W) :: lg) K) : u4u P tt ops (⟨some d, op, ty, pos, af, none⟩ :: r) fr h lg K := .inr ⟨out, T, W, ho, hT, hW, k⟩
theorem c5z (ho : OpS P ⟨none, op, ty, pos, af, none⟩ (evO fr) T W out) (hT : InH h T) (hW : Sub W T) (k : u4u P tt ops r fr (W ++ h) ((ids T, ids W) :: lg) K) : u4u P tt ops (⟨none, op, ty, pos, af, none⟩ :: r) fr h lg K := .inr ⟨out, T, W, ho, hT, hW, k⟩
theorem s5s (hx : evO fr x = some a) (k : u4u P tt ops r ((d, a) :: fr) h (([], []) :: lg) K) : u4u P tt ops (⟨some d, .move x, ty, pos, af, none⟩ :: r) fr h lg K := by
 refine a1b ?_; simp only [a0x, Opt, hx]; exact k
theorem p9p (hx : evO fr x = some a) (k : u4u P tt ops r ((d, a) :: fr) h (([], []) :: lg) K) : u4u P tt ops (⟨some d, .assign x, ty, pos, af, none⟩ :: r) fr h lg K := by
 refine a1b ?_; simp only [a0x, Opt, hx]; exact k
theorem d3v (hc : evO fr c = some (.pv (.bool true))) (hx : evO fr x = some a) (k : u4u P tt ops r ((d, a) :: fr) h (([], []) :: lg) K) : u4u P tt ops (⟨some d, .pick c x y, ty, pos, af, none⟩ :: r) fr h lg K := by
 refine a1b ?_; simp only [a0x, Opt, hc, hx]; exact ⟨fun _ => k, fun e => nomatch e⟩
theorem e8v (hc : evO fr c = some (.pv (.bool b))) (hx : evO fr x = some a) (hy : evO fr y = some a') (k1 : b = true → u4u P tt ops r ((d, a) :: fr) h (([], []) :: lg) K) (k2 : b = false → u4u P tt ops r ((d, a') :: fr) h (([], []) :: lg) K) :
  u4u P tt ops (⟨some d, .pick c x y, ty, pos, af, none⟩ :: r) fr h lg K := by
 refine a1b ?_; simp only [a0x, Opt, hc, hx, hy]; exact ⟨k1, k2⟩
variable {id : Nat}
theorem x3x (hs : tt t = some S) (hz : S.zero.map .pv = zs) (hd : y4y h id = some (g, .dead)) (k : u4u P tt ops r ((d, .ptr id (g + 1) 0) :: fr) ((id, (g + 1, .box t zs)) :: h) (([id], [id]) :: lg) K) :
  u4u P tt ops (⟨some d, .alloc t, ty, pos, af, none⟩ :: r) fr h lg K := by
 subst hz
 refine a1b ?_; simp only [a0x, Opt, hs]; exact ⟨(id, g), hd, k⟩
theorem y3y (hx : evO fr x = some (.agg cs)) (hw : (cs.all fun c => !c.isOw) = true) (hd : y4y h id = some (g, .dead)) (k : u4u P tt ops r ((d, .ptr id (g + 1) 0) :: fr) ((id, (g + 1, .box t cs)) :: h) (([id], [id]) :: lg) K) :
  u4u P tt ops (⟨some d, .box t x, ty, pos, af, none⟩ :: r) fr h lg K := by
 refine a1b ?_; simp only [a0x, Opt, hx]; exact ⟨(id, g), hd, rfl, hw, k⟩
theorem a2r (h1 : a.one = true) : a0i a = [a] := by cases a <;> first | rfl | simp [AV.one] at h1
theorem c1f {a : AV} (h1 : a.one = true) : a.okc = true := by cases a <;> first | rfl | exact h1
theorem d1u (hx : evO fr x = some a) (h1 : a.one = true) (hw : a.isOw = false) (hd : y4y h id = some (g, .dead)) (k : u4u P tt ops r ((d, .ptr id (g + 1) 0) :: fr) ((id, (g + 1, .box t [a])) :: h) (([id], [id]) :: lg) K) :
  u4u P tt ops (⟨some d, .box t x, ty, pos, af, none⟩ :: r) fr h lg K := by
 refine a1b ?_; simp only [a0x, Opt, hx]; exact ⟨(id, g), hd, c1f h1, by rw [a2r h1]; simp [hw], by rw [a2r h1]; exact k⟩
theorem e4h (hs : tt t = some S) (hk : S.kind = .st flds) (hz : S.zero.map .pv = zs) (hp : b0k (evO fr) parts.toList = some l) (hf : b8e tt flds zs l = some cs)
  (k : u4u P tt ops r ((d, .agg cs) :: fr) h (([], []) :: lg) K) : u4u P tt ops (⟨some d, .build t parts, ty, pos, af, none⟩ :: r) fr h lg K := by
 subst hz
 refine a1b ?_; simp only [a0x, Opt, hs, hk, hp, hf]; exact k
theorem w8w (hs : tt t = some S) (hk : S.kind = .sl e) (he : tt e = some E) (hw : d6b 0 parts.toList = some xs) (hev : evL (evO fr) xs = some avs) (hpc : a6c E.size avs = some cs)
  (hd : y4y h id = some (g, .dead)) (hab : Abs cs h cs' T W) (h1 : len = xs.length) (h2 : 0 < E.size) (h3 : 0 < len) (h4 : len * E.size ≤ 16777216) (h5 : (T.any (·.1 == id)) = false) (hr : b4x E.size len cs' = rows)
  (k : u4u P tt ops r ((d, .ref id (g + 1)) :: fr) (((id, (g + 1, .row e E.size rows)) :: W) ++ h) ((id :: ids T, id :: ids W) :: lg) K) : u4u P tt ops (⟨some d, .buildSlice t len parts, ty, pos, af, none⟩ :: r) fr h lg K := by
 subst hr
 refine a1b ?_; simp only [a0x, Opt, hs, hk, he, hw, hev, hpc]; exact .inr ⟨(id, g), hd, ⟨(cs', T, W), hab, h1, h2, h3, h4, h5, k⟩⟩
theorem y1y (hs : tt t = some S) (hk : S.kind = .sl e) (he : tt e = some E) (hd : y4y h id = some (g, .dead)) (k : u4u P tt ops r ((d, .ref id (g + 1)) :: fr) ((id, (g + 1, .row e E.size [])) :: h) (([id], [id]) :: lg) K) :
  u4u P tt ops (⟨some d, .buildSlice t 0 #[], ty, pos, af, none⟩ :: r) fr h lg K := by
 refine a1b ?_; simp only [a0x, Opt, hs, hk, he]; exact .inl ⟨trivial, trivial, (id, g), hd, k⟩

theorem q7q : ∀ {cs : List AV} {h : Hp}, (cs.all fun c => match c with | .ref _ _ => false | c => c.one && !c.isOw) = true → Abs cs h cs [] []
 | [], _, _ => .nil
 | c :: cs, h, hc => by
  rw [List.all_cons, Bool.and_eq_true] at hc
  have ih := q7q (h := h) hc.2
  refine .val ?_ ?_ ih
  ·cases c <;> simp_all
  ·cases c <;> simp_all
theorem y5y (hs : tt t = some S) (hk : S.kind = .sl e) (he : tt e = some E) (hx : evO fr x = some (.agg cs)) (hn : cs.length = E.size) (hd : y4y h id = some (g, .dead)) (hp : (cs.all fun c => match c with | .ref _ _ => false | c => c.one && !c.isOw) = true) (h2 : Nat.ble 1 E.size = true) (h4 : Nat.ble E.size 16777216 = true)
  (k : u4u P tt ops r ((d, .ref id (g + 1)) :: fr) ((id, (g + 1, .row e E.size [cs])) :: h) (([id], [id]) :: lg) K) : u4u P tt ops (⟨some d, .buildSlice t 1 #[(0, x)], ty, pos, af, none⟩ :: r) fr h lg K := by
 have h4' := Nat.le_of_ble_eq_true h4
 refine w8w (xs := [x]) (avs := [.agg cs]) (cs := cs) (cs' := cs) (T := []) (W := []) hs hk he rfl (by simp [evL, hx]) (by simp [a6c, AV.okc, a0i, hn]) hd (q7q hp) rfl (Nat.le_of_ble_eq_true h2) (by decide) (by omega) rfl (rows := [cs]) ?_ k
 simp [b4x, ← hn]
variable {t e g : Nat}
theorem a9o (hs : tt t = some S) (hk : S.kind = .sl e) (he : tt e = some E) (hx : evO fr x = some a) (h1 : a.one = true) (hn : E.size = 1) (hd : y4y h id = some (g, .dead)) (hp : ([a].all fun c => match c with | .ref _ _ => false | c => c.one && !c.isOw) = true)
  (k : u4u P tt ops r ((d, .ref id (g + 1)) :: fr) ((id, (g + 1, .row e E.size [[a]])) :: h) (([id], [id]) :: lg) K) : u4u P tt ops (⟨some d, .buildSlice t 1 #[(0, x)], ty, pos, af, none⟩ :: r) fr h lg K := by
 refine w8w (xs := [x]) (avs := [a]) (cs := [a]) (cs' := [a]) (T := []) (W := []) hs hk he rfl (by simp [evL, hx]) (by simp [a6c, c1f h1, a2r h1, hn]) hd (q7q hp) rfl (by omega) (by decide) (by omega) rfl (rows := [[a]]) ?_ k
 simp [b4x, hn]
theorem y9y (hx : evO fr x = some (.ptr id g off)) (hs : tt t = some S) (hh : y4y h id = some (g, .box bty cs)) (hl : ldv S (cs.drop off) = some out) (k : u4u P tt ops r ((d, out) :: fr) h (([id], []) :: lg) K) :
  u4u P tt ops (⟨some d, .load t x, ty, pos, af, none⟩ :: r) fr h lg K := by
 refine a1b ?_; simp only [a0x, Opt, hx, hs, d5y, hh, if_true, hl]; exact k
theorem d1v (ha : S.agg = true) (hn : S.size = cs.length) : ldv S cs = some (.agg cs) := by
 unfold ldv
 rw [if_pos ha, if_pos (by omega), List.take_of_length_le (by omega)]
theorem c8v (hx : evO fr x = some (.ptr id g 0)) (hs : tt t = some S) (hh : y4y h id = some (g, .box bty cs)) (ha : S.agg = true) (hn : S.size = cs.length) (k : u4u P tt ops r ((d, .agg cs) :: fr) h (([id], []) :: lg) K) :
  u4u P tt ops (⟨some d, .load t x, ty, pos, af, none⟩ :: r) fr h lg K := y9y hx hs hh (d1v ha hn) k
theorem c1g (hx : evO fr x = some (.elt id g i off)) (hs : tt t = some S) (hh : y4y h id = some (g, .row rty sz xs)) (hi : i < xs.length) (hc : xs.getD i [] = cs) (hl : ldv S (cs.drop off) = some out) (k : u4u P tt ops r ((d, out) :: fr) h (([id], []) :: lg) K) :
  u4u P tt ops (⟨some d, .load t x, ty, pos, af, none⟩ :: r) fr h lg K := by
 subst hc
 refine a1b ?_; simp only [a0x, Opt, hx, hs, d5y, hh, hi, and_self, if_true, hl]; exact k
theorem v0v (hx : evO fr x = some (.iel cs)) (hs : tt t = some S) (hl : ldv S cs = some out) (k : u4u P tt ops r ((d, out) :: fr) h (([], []) :: lg) K) :
  u4u P tt ops (⟨some d, .load t x, ty, pos, af, none⟩ :: r) fr h lg K := by
 refine a1b ?_; simp only [a0x, Opt, hx, hs, d5y, hl]; exact k
theorem b1y (hx : evO fr x = some (.iel cs)) (hs : tt t = some S) (ha : S.agg = true) (hn : S.size = cs.length) (k : u4u P tt ops r ((d, .agg cs) :: fr) h (([], []) :: lg) K) :
  u4u P tt ops (⟨some d, .load t x, ty, pos, af, none⟩ :: r) fr h lg K := v0v hx hs (d1v ha hn) k
theorem a0n (hx : evO fr x = some (.ptr id g off)) (hy : evO fr y = some b) (hs : tt t = some S) (hb : b.okc = true) (hn : (a0i b).length = S.size) (hw : ((a0i b).all fun c => !c.isOw) = true) (hh : y4y h id = some (g, .box bty cs)) (hl : off + S.size ≤ cs.length)
  (hc : cs.take off ++ a0i b ++ cs.drop (off + S.size) = cs') (k : u4u P tt ops r fr ((id, (g, .box bty cs')) :: h) (([id], [id]) :: lg) K) : u4u P tt ops (⟨none, .store t x y, ty, pos, af, none⟩ :: r) fr h lg K := by
 subst hc
 refine a1b ?_; simp only [a0x, Opt, hx, hy, hs, hh]; exact ⟨hb, hn, hw, trivial, hl, k⟩
theorem c1h (hx : evO fr x = some (.ptr id g 0)) (hy : evO fr y = some (.agg bs)) (hs : tt t = some S) (hn : bs.length = S.size) (hw : (bs.all fun c => !c.isOw) = true) (hh : y4y h id = some (g, .box bty cs)) (hl : S.size = cs.length)
  (k : u4u P tt ops r fr ((id, (g, .box bty bs)) :: h) (([id], [id]) :: lg) K) : u4u P tt ops (⟨none, .store t x y, ty, pos, af, none⟩ :: r) fr h lg K :=
 a0n hx hy hs rfl hn hw hh (by omega) (by simp [a0i, hl]) k
theorem c8w (hx : evO fr x = some (.ptr id g off)) (hy : evO fr y = some b) (hs : tt t = some S) (hb : b.one = true) (hn : S.size = 1) (hw : b.isOw = false) (hh : y4y h id = some (g, .box bty cs)) (hl : Nat.blt off cs.length = true)
  (hc : cs.set off b = cs') (k : u4u P tt ops r fr ((id, (g, .box bty cs')) :: h) (([id], [id]) :: lg) K) : u4u P tt ops (⟨none, .store t x y, ty, pos, af, none⟩ :: r) fr h lg K := by
 have hl' : off < cs.length := Nat.le_of_ble_eq_true hl
 refine a0n hx hy hs (c1f hb) (by rw [a2r hb, hn]; rfl) (by rw [a2r hb]; simp [hw]) hh (by omega) ?_ k
 rw [a2r hb, hn, ← hc, List.set_eq_take_append_cons_drop, if_pos hl']
 simp
theorem e7j (hx : evO fr x = some a) (hn : nck a = true) (k : u4u P tt ops r ((d, a) :: fr) h (([], []) :: lg) K) : u4u P tt ops (⟨some d, .nilCheck x, ty, pos, af, none⟩ :: r) fr h lg K := by
 refine a1b ?_; simp only [a0x, Opt, hx]; exact ⟨hn, k⟩
theorem u7u (hx : evO fr x = some (.pv u)) (hy : evO fr y = some (.pv v)) (hv : d7r op u v = some w) (k : u4u P tt ops r ((d, .pv w) :: fr) h (([], []) :: lg) K) : u4u P tt ops (⟨some d, .binOp op t x y t', ty, pos, af, none⟩ :: r) fr h lg K := by
 refine a1b ?_; simp only [a0x, Opt, hx, hy, hv]; exact k
theorem b8k (hx : evO fr x = some u) (hy : evO fr y = some v) (hv : ∀ a c, u = .pv a → v = .pv c → d7r op a c = none) (hop : op = .eql ∨ op = .neq) (he : EqA P t x y u v b) (k : u4u P tt ops r ((d, .pv (a6u op b)) :: fr) h (([], []) :: lg) K) :
  u4u P tt ops (⟨some d, .binOp op t x y t', ty, pos, af, none⟩ :: r) fr h lg K := by
 refine a1b ?_; simp only [a0x, Opt, hx, hy]
 split
 ·rw [hv _ _ rfl rfl]; exact ⟨hop, b, he, k⟩
 ·exact ⟨hop, b, he, k⟩
theorem e8w (hx : evO fr x = some (.pv (.int kd n))) (hs : tt s = some S) (ht : tt t = some D) (h0 : S.kind = .int k0) (h1 : D.kind = .int k') (k : u4u P tt ops r ((d, .pv (.int k' (k'.wrap n))) :: fr) h (([], []) :: lg) K) :
  u4u P tt ops (⟨some d, .convert s t x, ty, pos, af, none⟩ :: r) fr h lg K := by
 refine a1b ?_; simp only [a0x, Opt, hx, hs, ht, h0, h1]; exact k
variable {S E : TS}
theorem d8u {x y : Operand} {k1 k2 : IntKind} {n id g : Nat} {zs : List AV} (hs : tt t = some S) (hk : S.kind = .sl e) (he : tt e = some E) (hz : E.zero.map .pv = zs) (hx : evO fr x = some (.pv (.int k1 (n : Int)))) (hy : evO fr y = some (.pv (.int k2 (n : Int)))) (h2 : Nat.ble 1 E.size = true) (h3 : Nat.ble 1 E.bytes = true) (h4 : E.bytes * n ≤ 281474976710656) (hd : y4y h id = some (g, .dead))
  (k : u4u P tt ops r ((d, .ref id (g + 1)) :: fr) ((id, (g + 1, .row e E.size (List.replicate n zs))) :: h) (([id], [id]) :: lg) K) : u4u P tt ops (⟨some d, .makeSlice t x y, ty, pos, af, none⟩ :: r) fr h lg K := by
 subst hz
 refine a1b ?_; simp only [a0x, Opt, hs, hk, he, hx, hy]
 exact ⟨(id, g), hd, trivial, by omega, Nat.le_of_ble_eq_true h2, Nat.le_of_ble_eq_true h3, by rw [Int.toNat_natCast]; exact h4, by rw [Int.toNat_natCast]; exact k⟩
theorem p6p (hx : evO fr x = some a) (hs : tt t = some S) (hk : S.kind = .st flds) (hf : flds[f]? = some p) (hft : tt p.2 = some sf) (hne : Nat.beq sf.size 0 = false) (ho : shift p.1 a = some out) (k : u4u P tt ops r ((d, out) :: fr) h (([], []) :: lg) K) :
  u4u P tt ops (⟨some d, .fieldAddr t x f, ty, pos, af, none⟩ :: r) fr h lg K := by
 refine a1b ?_; simp only [a0x, Opt, hx, hs, hk, hf, hft, ho]
 exact ⟨fun e => (by rw [e] at hne; cases hne), k⟩
theorem f3c (hx : evO fr x = some (.row (.rd m) rty sz xs)) (hi : evO fr ix = some (.pv (.int kd i))) (hs : tt t = some S) (hk : S.kind = .sl e) (he : tt e = some E) (hz : sz = E.size) (h0 : 0 ≤ i) (h1 : i < xs.length) (hc : xs.getD i.toNat [] = cs)
  (k : u4u P tt ops r ((d, .iel cs) :: fr) h (([], []) :: lg) K) : u4u P tt ops (⟨some d, .indexAddr t x ix, ty, pos, af, none⟩ :: r) fr h lg K := by
 subst hc
 refine a1b ?_; simp only [a0x, Opt, hx, hi, hs, hk, he, f2j]; exact ⟨hz, h0, h1, k⟩
variable {α : Type} {j rty sz : Nat} {x ix : Operand} {m : Bool} {kd : IntKind}

theorem b1z {f : α → List AV} {l : List α} {el : α} (hx : evO fr x = some (.row (.rd m) rty sz (l.map f))) (hi : evO fr ix = some (.pv (.int kd (j : Int)))) (hs : tt t = some S) (hk : S.kind = .sl e) (he : tt e = some E) (hz : sz = E.size) (hj : l[j]? = some el)
  (k : u4u P tt ops r ((d, .iel (f el)) :: fr) h (([], []) :: lg) K) : u4u P tt ops (⟨some d, .indexAddr t x ix, ty, pos, af, none⟩ :: r) fr h lg K := by
 have hlt := (List.getElem?_eq_some_iff.1 hj).1
 refine f3c hx hi hs hk he hz (by omega) (by simp; omega) ?_ k
 simp [List.getD_eq_getElem?_getD, hj]
theorem d8v {xs : List (List AV)} (hx : evO fr x = some (.ref id g)) (hi : evO fr ix = some (.pv (.int kd (j : Int)))) (hs : tt t = some S) (hk : S.kind = .sl e) (he : tt e = some E) (hh : y4y h id = some (g, .row rty sz xs)) (hz : sz = E.size) (h1 : j < xs.length)
  (k : u4u P tt ops r ((d, .elt id g j 0) :: fr) h (([id], []) :: lg) K) : u4u P tt ops (⟨some d, .indexAddr t x ix, ty, pos, af, none⟩ :: r) fr h lg K := by
 refine a1b ?_; simp only [a0x, Opt, hx, hi, hs, hk, he, f2j, hh]; exact ⟨trivial, hz, by omega, by omega, by rw [Int.toNat_natCast]; exact k⟩
theorem c6a {f : α → List AV} {l : List α} (hx : evO fr x = some (.row (.rd m) rty sz (l.map f))) (hs : tt t = some S) (hk : S.kind = .sl e) (k : u4u P tt ops r ((d, .pv (.int .i64 (l.length : Int))) :: fr) h (([], []) :: lg) K) :
  u4u P tt ops (⟨some d, .call { callee := .builtin .len, args := #[x], argTypes := #[t] }, ty, pos, af, none⟩ :: r) fr h lg K := by
 refine a1b ?_; simp only [a0x, Opt, hx, hs, e6x, hk]; exact ⟨trivial, by rw [List.length_map]; exact k⟩
theorem c8x (hx : evO fr x = some a) (hs : tt t = some S) (hk : S.kind = .sl e) (hl : e6x h a = some (n, T)) (hns : ∀ s, a ≠ .pv (.string s)) (hn : n = n') (k : u4u P tt ops r ((d, .pv (.int .i64 (n' : Int))) :: fr) h ((ids T, []) :: lg) K) :
  u4u P tt ops (⟨some d, .call { callee := .builtin .len, args := #[x], argTypes := #[t] }, ty, pos, af, none⟩ :: r) fr h lg K := by
 subst hn
 refine a1b ?_; simp only [a0x, Opt, hx, hs, hl, hk]
 refine ⟨?_, k⟩
 cases a with
 | pv v => cases v <;> first | trivial | exact (hns _ rfl).elim
 | _ => trivial
theorem d8w (hx : evO fr x = some (.ref id g)) (hy : evO fr y = some b) (hs : tt t = some S) (hk : S.kind = .sl e) (he : tt e = some E) (h2 : Nat.ble 1 E.size = true) (h3 : Nat.ble 1 E.bytes = true) (hh : y4y h id = some (g, .row e E.size xs)) (hsrc : src h b = some (E.size, ys, T))
  (how : (ys.flatten.all fun c => !c.isOw) = true) (hz : xs ++ ys = zs) (h4 : zs.length * E.bytes ≤ 140737488355328) (k : u4u P tt ops r ((d, .ref id (g + 1)) :: fr) ((id, (g + 1, .row e E.size zs)) :: h) ((id :: ids T, [id]) :: lg) K) :
  u4u P tt ops (⟨some d, .call { callee := .builtin .append, args := #[x, y], argTypes := #[t, t] }, ty, pos, af, none⟩ :: r) fr h lg K := by
 subst hz
 refine a1b ?_; simp only [a0x, Opt, hx, hy, hs, hk, he, f4u, hh, hsrc, how, if_true]
 exact ⟨trivial, Nat.le_of_ble_eq_true h2, Nat.le_of_ble_eq_true h3, trivial, trivial, trivial, .inl trivial, by simpa using h4, k⟩
theorem x0x (hf : evO fr x = some (.fn (.func f) fi cap)) (ha : evL (evO fr) args.toList = some avs) (he : fi ++ avs ++ cap = az) (hC : a0j P f az out) (k : u4u P tt ops r ((d, out) :: fr) h (([], []) :: lg) K) :
  u4u P tt ops (⟨some d, .call { callee := .value x, args := args, argTypes := at' }, ty, pos, af, none⟩ :: r) fr h lg K := by
 subst he
 refine a1b ?_; simp only [a0x, Opt, hf, ha]
 exact ⟨out, [], [], hC, InH.nil, Sub.nil, k⟩
theorem b9v (hj : w4w ops j = some t) (hg : fr.get t = some (.pv (.bool w))) (k : u4u P tt ops (⟨dst, op, ty, pos, af, none⟩ :: r) ((t, .pv (.bool w)) :: fr) h lg K) : u4u P tt ops (⟨dst, op, ty, pos, af, some (j, w)⟩ :: r) fr h lg K := by
 unfold u4u at k ⊢
 simp only [Opt, hj, hg] at k ⊢
 exact ⟨fun _ => k, fun e => (by cases w <;> cases e)⟩

theorem f4w (hj : w4w ops j = some t) (hg : fr.get t = some (.pv (.bool b))) (k1 : b = w → u4u P tt ops (⟨some d, op, ty, pos, af, none⟩ :: r) ((t, .pv (.bool w)) :: fr) h lg K) (k2 : b = (!w) → u4u P tt ops r ((d, .pv undef) :: (t, .pv (.bool (!w))) :: fr) h (([], []) :: lg) K) :
  u4u P tt ops (⟨some d, op, ty, pos, af, some (j, w)⟩ :: r) fr h lg K := by
 unfold u4u
 simp only [Opt, hj, hg]
 refine ⟨fun e => ?_, k2⟩
 have := k1 e
 unfold u4u at this
 exact this
end
section
variable {P : Program}
theorem FinL.pvs : ∀ {l : List AV}, (l.all AV.cl) = true → FinL h l l h
 | [], _ => .nil
 | a :: l, hc => by
  rw [List.all_cons, Bool.and_eq_true] at hc
  exact .cl hc.1 (FinL.pvs hc.2)
theorem x2x {tt : TT} (h1 : c4u tt fr h rs = some vs) (he : vs = outs) (hc : (outs.all AV.cl) = true) : ∃ l h', c4u tt fr h rs = some l ∧ FinL h l outs h' :=
 ⟨vs, h, h1, by subst he; exact FinL.pvs hc⟩

theorem a3h {n : Nat} {c : Code} {fr : Fr} {h : Hp} {Q : Exit → Fr → Hp → Prop} (t id e sz : Nat) {g : Nat} (ht : fr.get t = some (.pv (.slice none 0 0))) (hd : y4y h id = some (g, .dead)) (hx : Ex P n c ((t, .ref id (g + 1)) :: fr) ((id, (g + 1, .row e sz [])) :: h) Q) : Ex P n c fr h Q := by
 rintro X B a w ⟨F, hS⟩ hF hdf
 have hown : Own w e sz (.slice none 0 0) 0 [] := ⟨by simp, .inl ⟨none, rfl, rfl⟩⟩
 obtain ⟨hX, hS', hok⟩ := hS.newRow (id := id) hd (ty := e) (sz := sz) (xs := []) (us := []) (v := .slice none 0 0) (w' := w) (L := []) (S := []) (Grew.refl w _) (by simp) (by simp) List.nodup_nil hown (fun b hb => by simp [a9h] at hb) (fun j x hx => by simp at hx) .nil
 rw [← a3g] at hS'
 have hF' : FrOK (X.setR id (g + 1) (.slice none 0 0, sz)) w n (Fr.get ((t, .ref id (g + 1)) :: fr)) a := by
  refine ⟨hF.size, fun k av hk => ?_⟩
  rw [Fr.get_cons] at hk
  split at hk
  ·rename_i e
   subst e
   cases hk
   obtain ⟨v, h1, h2⟩ := hF.slot t _ ht
   have := h2.pv_inv
   subst this
   exact ⟨_, h1, .setR⟩
  ·exact (hF.mono hX hS.ok12 hok).slot k av hk
 refine wp_mono (hx _ B a w hS' hF' hdf) fun e a' w' hh => ?_
 obtain ⟨fr', h', X', k1, k2, k3, k4, k5, k6⟩ := hh
 exact ⟨fr', h', X', k1, hX.trans k2, k3, k4, k5, fun b hb => k6 b (hX.ok2 b hb)⟩
theorem x9x (h0 : -9223372036854775808 ≤ n) (h1 : n < 9223372036854775808) : IntKind.i64.wrap n = n := by
 rw [IntKind.wrap_i64]; omega
theorem Cov.cons' (h : F.get t = some av') (e : av' = av) (k : Cov f F) : Cov ((t, av) :: f) F := .cons (h.trans (by rw [e])) k
end
section
variable {P : Program}
abbrev Gn := Nat → Nat
def gl (L : List Nat) : Gn := fun i => L.getD i 0
def idf : Gn := fun i => i
def inB (ρ c : Gn) : AV → AV
 | .ref i _ => .ref (ρ i) (c i)
 | .bsl i _ a b => .bsl (ρ i) (c i) a b
 | .cut i _ a b => .cut (ρ i) (c i) a b
 | .ptr i _ a => .ptr (ρ i) (c i) a
 | .elt i _ a b => .elt (ρ i) (c i) a b
 | .mp i _ => .mp (ρ i) (c i)
 | a => a
def d8x (m : Nat) : AV → Bool
 | .ref i _ => Nat.blt i m
 | .bsl i _ _ _ => Nat.blt i m
 | .cut i _ _ _ => Nat.blt i m
 | .ptr i _ _ => Nat.blt i m
 | .elt i _ _ _ => Nat.blt i m
 | .mp i _ => Nat.blt i m
 | .any => true
 | .pv _ => true
 | .row _ _ _ _ => true
 | .iel _ => true
 | _ => false
def inD (ρ c : Gn) : AV → AV
 | .agg cs => .agg (cs.map (inB ρ c))
 | a => inB ρ c a
def f6q (m : Nat) : AV → Bool
 | .agg cs => cs.all (d8x m)
 | a => d8x m a
def inC (ρ c : Gn) : AV → AV
 | .fn f a b => .fn f (a.map (inB ρ c)) (b.map (inB ρ c))
 | .ifc t a => .ifc t (inD ρ c a)
 | a => inB ρ c a
def d8y (m : Nat) : AV → Bool
 | .fn _ a b => a.all (d8x m) && b.all (d8x m)
 | .ifc _ a => f6q m a
 | a => d8x m a
def inA (ρ c : Gn) : AV → AV
 | .agg cs => .agg (cs.map (inC ρ c))
 | a => inC ρ c a
def e4i (m : Nat) : AV → Bool
 | .agg cs => cs.all (d8y m)
 | a => d8y m a
def inT (ρ c : Gn) : AV → AV
 | .tup cs => .tup (cs.map (inA ρ c))
 | a => inA ρ c a
def e7k (m : Nat) : AV → Bool
 | .tup cs => cs.all (e4i m)
 | a => e4i m a

structure Sim (m : Nat) (ρ c ρ' c' : Gn) (X Y : Cx) : Prop where
 ok1 : ∀ b, X.ok1 b → Y.ok1 b
 ok2 : ∀ b, X.ok2 b → Y.ok2 b
 bx : ∀ i, i < m → Y.bx (ρ' i) (c' i) = X.bx (ρ i) (c i)
 rw : ∀ i, i < m → Y.rw (ρ' i) (c' i) = X.rw (ρ i) (c i)
variable {a : AV} {v : Value}
theorem CR.wid {X Y : Cx} {w : World} (h1 : ∀ b, X.ok1 b → Y.ok1 b) (h2 : ∀ b, X.ok2 b → Y.ok2 b) (h12 : ∀ b, X.ok1 b → X.ok2 b) (h : CR X.ok1 X.ok2 w a v) : CR Y.ok1 Y.ok2 w a v :=
 h.mono h1 h2 h12 (fun _ _ => rfl)
theorem a7r (h : Nat.blt i m = true) : i < m := Nat.le_of_ble_eq_true h
theorem VR.ifc_inv (h : VR X w (.ifc t a) v) : ∃ u, v = .iface t u ∧ VR X w a u := by
 cases h with
 | cl h => cases h with
  | ifc _ _ u h => exact ⟨u, rfl, .cl h⟩
 | ifc _ _ u h => exact ⟨u, rfl, h⟩
variable {cs : List AV} {us : List Value}
theorem c1i {R R' : AV → Value → Prop} {f f' : AV → AV} (hf : ∀ a v, a ∈ cs → R (f a) v → R' (f' a) v) (h : ∀ (i : Nat) (y : AV) (u : Value), (cs.map f)[i]? = some y → us[i]? = some u → R y u) :
  ∀ (i : Nat) (y : AV) (u : Value), (cs.map f')[i]? = some y → us[i]? = some u → R' y u := by
 intro i y u hy hu
 rw [List.getElem?_map] at hy
 cases hc : cs[i]? with
 | none => rw [hc] at hy; cases hy
 | some c =>
  rw [hc] at hy
  have : f' c = y := by simpa using hy
  rw [← this]
  exact hf c u (List.mem_of_getElem? hc) (h i (f c) u (by rw [List.getElem?_map, hc]; rfl) hu)
theorem d8z (a : AV) : (inB ρ c a).one = a.one := by cases a <;> rfl
theorem d1w (a : AV) : (inC ρ c a).one = a.one := by cases a <;> rfl
theorem f3d (a : AV) : (inC ρ c a).isOw = a.isOw := by
 cases a with
 | row m _ _ _ => cases m <;> rfl
 | _ => rfl
section
variable {m : Nat} {ρ c ρ' c' : Gn} {X Y : Cx} {w : World} (S : Sim m ρ c ρ' c' X Y) (h12 : ∀ b, X.ok1 b → X.ok2 b)
include S h12
theorem c8y (hb : d8x m a = true) (h : VR X w (inB ρ c a) v) : VR Y w (inB ρ' c' a) v := by
 cases a <;> simp only [d8x, Bool.false_eq_true] at hb <;> simp only [inB] at h ⊢
 case any => exact .any v
 case pv u => rw [h.pv_inv]; exact .pv u
 case row md ty sz xs =>
  cases h with
  | owd v h => exact .owd v h
  | cl h => exact .cl (h.wid S.ok1 S.ok2 h12)
 case ref => obtain ⟨A, n, c, sz, rfl, hr⟩ := h.ref_inv; exact .ref ((S.rw _ (a7r hb)).trans hr)
 case bsl => obtain ⟨b, c, rfl, h1, h2, h3⟩ := h.bsl_inv; exact .bsl ((S.bx _ (a7r hb)).trans h1) h2 h3
 case cut => obtain ⟨A, A', n, c, c', sz, rfl, h1, h2, h3, h4, h5, h6⟩ := h.cut_inv; exact .cut ((S.rw _ (a7r hb)).trans h1) h2 h3 h4 h5 h6
 case ptr => obtain ⟨b, rfl, h1⟩ := h.ptr_inv; exact .ptr ((S.bx _ (a7r hb)).trans h1)
 case elt => obtain ⟨ad, n, c, sz, rfl, h1⟩ := h.elt_inv; exact .elt ((S.rw _ (a7r hb)).trans h1)
 case iel =>
  obtain ⟨ad, u, rfl, h1, h2, h3, h4⟩ := h.iel_inv
  exact .iel ad u (S.ok2 _ h1) h2 h3 (fun i y hy => (h4 i y hy).wid S.ok1 S.ok2 h12)
 case mp =>
  cases h with
  | cl h => cases h
  | mp h => exact .mp ((S.bx _ (a7r hb)).trans h)
theorem e8x (hb : (cs.all (d8x m)) = true) (h : VRs X w (cs.map (inB ρ c)) us) : VRs Y w (cs.map (inB ρ' c')) us := by
 rw [List.all_eq_true] at hb
 refine ⟨by simpa using h.len, fun i y hy => ?_, c1i (fun a v ha hr => c8y S h12 (hb a ha) hr) h.rel⟩
 rw [List.getElem?_map] at hy
 cases hc : cs[i]? with
 | none => rw [hc] at hy; cases hy
 | some a =>
  rw [hc] at hy
  have : inB ρ' c' a = y := by simpa using hy
  rw [← this, d8z]
  have := h.one i (inB ρ c a) (by rw [List.getElem?_map, hc]; rfl)
  rwa [d8z] at this
theorem f3e (hb : f6q m a = true) (h : VR X w (inD ρ c a) v) : VR Y w (inD ρ' c' a) v := by
 have base : d8x m a = true → inD ρ c a = inB ρ c a → inD ρ' c' a = inB ρ' c' a → VR Y w (inD ρ' c' a) v := fun h1 h2 h3 => by rw [h3]; rw [h2] at h; exact c8y S h12 h1 h
 cases a with
 | agg cs =>
  obtain ⟨us, rfl, hu⟩ := h.agg_inv
  exact (e8x S h12 hb hu).agg
 | _ => exact base hb rfl rfl
theorem d9a (hb : d8y m a = true) (h : VR X w (inC ρ c a) v) : VR Y w (inC ρ' c' a) v := by
 have base : d8x m a = true → inC ρ c a = inB ρ c a → inC ρ' c' a = inB ρ' c' a → VR Y w (inC ρ' c' a) v := fun h1 h2 h3 => by rw [h3]; rw [h2] at h; exact c8y S h12 h1 h
 cases a with
 | fn f fi cap =>
  simp only [d8y, Bool.and_eq_true, List.all_eq_true] at hb
  obtain ⟨us, vs, rfl, h1, h2, h3, h4⟩ := h.fn_inv
  exact .fn us vs (by simpa using h1) (by simpa using h2) (c1i (fun a v ha hr => c8y S h12 (hb.1 a ha) hr) h3) (c1i (fun a v ha hr => c8y S h12 (hb.2 a ha) hr) h4)
 | ifc t b =>
  obtain ⟨u, rfl, h1⟩ := h.ifc_inv
  exact .ifc t _ u (f3e S h12 hb h1)
 | _ => exact base hb rfl rfl
theorem e8y (hb : (cs.all (d8y m)) = true) (h : VRs X w (cs.map (inC ρ c)) us) : VRs Y w (cs.map (inC ρ' c')) us := by
 rw [List.all_eq_true] at hb
 refine ⟨by simpa using h.len, fun i y hy => ?_, c1i (fun a v ha hr => d9a S h12 (hb a ha) hr) h.rel⟩
 rw [List.getElem?_map] at hy
 cases hc : cs[i]? with
 | none => rw [hc] at hy; cases hy
 | some a =>
  rw [hc] at hy
  have : inC ρ' c' a = y := by simpa using hy
  rw [← this, d1w]
  have := h.one i (inC ρ c a) (by rw [List.getElem?_map, hc]; rfl)
  rwa [d1w] at this
theorem d9b (hb : e4i m a = true) (h : VR X w (inA ρ c a) v) : VR Y w (inA ρ' c' a) v := by
 have base : d8y m a = true → inA ρ c a = inC ρ c a → inA ρ' c' a = inC ρ' c' a → VR Y w (inA ρ' c' a) v := fun h1 h2 h3 => by rw [h3]; rw [h2] at h; exact d9a S h12 h1 h
 cases a with
 | agg cs =>
  obtain ⟨us, rfl, hu⟩ := h.agg_inv
  exact (e8y S h12 hb hu).agg
 | _ => exact base hb rfl rfl
theorem e7l (hb : e7k m a = true) (h : VR X w (inT ρ c a) v) : VR Y w (inT ρ' c' a) v := by
 have base : e4i m a = true → inT ρ c a = inA ρ c a → inT ρ' c' a = inA ρ' c' a → VR Y w (inT ρ' c' a) v := fun h1 h2 h3 => by rw [h3]; rw [h2] at h; exact d9b S h12 h1 h
 cases a with
 | tup cs =>
  simp only [e7k, List.all_eq_true] at hb
  obtain ⟨us, rfl, g1, g2⟩ := h.tup_inv
  exact .tup us (by simpa using g1) (c1i (fun a v ha hr => d9b S h12 (hb a ha) hr) g2)
 | _ => exact base hb rfl rfl

theorem TRs.tr : ∀ {cs : List AV} {us : List Value} {T : List Nat}, (cs.all (d8y m)) = true → TRs X w (cs.map (inC ρ c)) us T → TRs Y w (cs.map (inC ρ' c')) us T
 | [], us, T, _, h => by
  generalize hl : ([] : List AV).map (inC ρ c) = l at h
  cases h with
  | nil => exact .nil
  | vr => cases hl
  | own => cases hl
 | a :: cs, us, T, hb, h => by
  rw [List.all_cons, Bool.and_eq_true] at hb
  generalize hl : (a :: cs).map (inC ρ c) = l at h
  cases h with
  | nil => cases hl
  | vr h1 h2 h t =>
   rw [List.map_cons] at hl
   injection hl with e1 e2
   subst e1 e2
   exact .vr (by rw [d1w] at h1 ⊢; exact h1) (by rw [f3d] at h2 ⊢; exact h2) (d9a S h12 hb.1 h) (TRs.tr hb.2 t)
  | @own _ _ ty sz xs v ws S' _ us' S2 ho hlen hi t =>
   rw [List.map_cons] at hl
   injection hl with e1 e2
   subst e2
   have ha : a = .row .ow ty sz xs := by
    cases a <;> simp only [inC, inB] at e1 <;> first | exact e1 | cases e1
   subst ha
   exact .own ho hlen (hi.mono ⟨S.ok1, S.ok2, fun _ _ _ h => (by cases h), fun _ _ _ h => (by cases h)⟩ h12 (fun _ _ => rfl) (fun _ _ => rfl)) (TRs.tr hb.2 t)
end
def inE (ρ c : Gn) : Ent → Ent
 | .box ty cs => .box ty (cs.map (inC ρ c))
 | e => e
def AV.flatA : AV → Bool
 | .agg cs => cs.all AV.flat
 | a => a.flat

def e8z (m : Nat) : Ent → Prop
 | .dead => True
 | .box _ cs => (cs.all (d8y m)) = true
 | .row _ _ xs => d6a xs
 | .map es => ∀ p ∈ es, p.2.flatA = true
 | .chn _ _ _ => True
 | .blk _ => True
theorem VR.flatA (h : VR X w a v) (hf : a.flatA = true) (h1 : ∀ b, X.ok1 b → Y.ok1 b) (h2 : ∀ b, X.ok2 b → Y.ok2 b) (h12 : ∀ b, X.ok1 b → X.ok2 b) : VR Y w a v := by
 have base : a.flat = true → VR Y w a v := fun h' => h.flat h' h1 h2 h12
 cases a with
 | agg cs =>
  simp only [AV.flatA, List.all_eq_true] at hf
  obtain ⟨us, rfl, hu⟩ := h.agg_inv
  exact VRs.agg ⟨hu.len, hu.one, fun i y u hy hu' => (hu.rel i y u hy hu').flat (hf y (List.mem_of_getElem? hy)) h1 h2 h12⟩
 | _ => exact base hf
theorem EntOK.tr (S : Sim m ρ c ρ' c' X Y) (h12 : ∀ b, X.ok1 b → X.ok2 b) (hi : i < m) (hb : e8z m e) (h : EntOK X w (ρ i) (c i) F (inE ρ c e)) : EntOK Y w (ρ' i) (c' i) F (inE ρ' c' e) := by
 cases e with
 | dead => trivial
 | box ty cs =>
  obtain ⟨b, us, T, h1, h2, h3, h4, h5⟩ := h
  exact ⟨b, us, T, (S.bx _ hi).trans h1, h2, h3.tr S h12 hb, h4, h5⟩
 | row ty sz xs =>
  obtain ⟨v, us, T, h1, h2, h3, h4, h5, h6⟩ := h
  refine ⟨v, us, T, (S.rw _ hi).trans h1, h2, h3, h4.flat S.ok1 S.ok2 h12 (fun a ha => ?_), h5, h6⟩
  obtain ⟨x, hx, hax⟩ := List.mem_flatten.1 ha
  exact hb x hx a hax
 | map es =>
  obtain ⟨b, en, h1, h2, h3, h4, h5⟩ := h
  refine ⟨b, en, (S.bx _ hi).trans h1, h2, h3, h4, fun j k a e hj he => ?_⟩
  obtain ⟨g1, g2, g3⟩ := h5 j k a e hj he
  exact ⟨g1, g2.flatA (hb (k, a) (List.mem_of_getElem? hj)) S.ok1 S.ok2 h12, g3⟩
 | chn ty lty xs =>
  obtain ⟨b, bs, h1, h2⟩ := h
  exact ⟨b, bs, h1, h2.imp (fun _ h => (S.bx _ hi).trans h) (fun _ h => h) (fun _ _ => rfl) fun p _ us hu => hu.mono S.ok1 S.ok2 h12 (fun _ _ => rfl)⟩
 | blk l => exact BlkOK.imp h (fun _ h => (S.bx _ hi).trans h) (fun _ h => h) (fun _ _ => rfl) fun p _ us hu => hu.mono S.ok1 S.ok2 h12 (fun _ _ => rfl)
def a3f (ρ c : Gn) (p : Nat × (Nat × Ent)) : Nat × (Nat × Ent) := (ρ p.1, (c p.1, inE ρ c p.2.2))
theorem f3g (h : L.Nodup) (hi : i < L.length) (hk : k < L.length) (e : gl L i = gl L k) : i = k := by
 simp only [gl, List.getD_eq_getElem?_getD, List.getElem?_eq_getElem hi, List.getElem?_eq_getElem hk, Option.getD_some] at e
 have hp := List.pairwise_iff_getElem.1 h
 rcases Nat.lt_trichotomy i k with h2 | h2 | h2
 ·exact absurd e (hp i k hi hk h2)
 ·exact h2
 ·exact absurd e.symm (hp k i hk hi h2)
theorem a2k (hρ : ∀ i k, i < m → k < m → ρ i = ρ k → i = k) : ∀ {H : Hp}, (∀ p ∈ H, p.1 < m) → ∀ i, i < m → y4y (H.map (a3f ρ c)) (ρ i) = (y4y H i).map fun ge => (c i, inE ρ c ge.2)
 | [], _, i, _ => rfl
 | (k, ge) :: H, hH, i, hi => by
  rw [List.map_cons]
  show y4y ((ρ k, (c k, inE ρ c ge.2)) :: H.map (a3f ρ c)) (ρ i) = _
  rw [u8u, u8u]
  have hk : k < m := hH (k, ge) (by simp)
  by_cases e : k = i
  ·subst e; rw [if_pos rfl, if_pos rfl]; rfl
  ·rw [if_neg e, if_neg (fun h => e (hρ k i hk hi h))]
   exact a2k hρ (fun p hp => hH p (by simp [hp])) i hi
theorem a3w : ∀ {H : Hp}, (∀ p ∈ H, p.1 < m) → ∀ j, (∀ i, i < m → ρ i ≠ j) → y4y (H.map (a3f ρ c)) j = none
 | [], _, j, _ => rfl
 | (k, ge) :: H, hH, j, hj => by
  rw [List.map_cons]
  show y4y ((ρ k, (c k, inE ρ c ge.2)) :: H.map (a3f ρ c)) j = _
  rw [u8u, if_neg (hj k (hH (k, ge) (by simp)))]
  exact a3w (fun p hp => hH p (by simp [hp])) j hj
theorem a5d : y4y H i = some ge → (i, ge) ∈ H := by
 induction H with
 | nil => intro h; cases h
 | cons p H ih =>
  obtain ⟨k, g⟩ := p
  rw [u8u]
  split
  ·rename_i e; intro h; cases h; subst e; simp
  ·intro h; exact List.mem_cons_of_mem _ (ih h)
theorem a4o (a b : Hp) (id : Nat) : y4y (a ++ b) id = match y4y a id with
  | some ge => some ge
  | none => y4y b id := by
 induction a with
 | nil => rfl
 | cons p a ih =>
  obtain ⟨k, g⟩ := p
  rw [List.cons_append, u8u, u8u]
  split
  ·rfl
  ·exact ih
def d6i : Hp → Nat → Bool
 | [], _ => false
 | (i, _) :: r, k => Nat.beq i k || d6i r k
theorem a8o : d6i U k = (y4y U k).isSome := by
 induction U with
 | nil => rfl
 | cons p U ih =>
  obtain ⟨i, ge⟩ := p
  rw [u8u]
  simp only [d6i, ih]
  by_cases e : i = k
  ·subst e; simp
  ·rw [if_neg e]
   have : Nat.beq i k = false := by
    cases hb : Nat.beq i k
    ·rfl
    ·exact absurd (Nat.eq_of_beq_eq_true hb) e
   simp [this]

def a8h (U : Hp) : Hp → Hp
 | [] => []
 | p :: I => match d6i U p.1 with
  | true => a8h U I
  | false => p :: a8h U I
theorem b3o : ∀ {I : Hp} {k : Nat}, y4y (a8h U I) k = if d6i U k then none else y4y I k
 | [], k => by simp [a8h, c0q]
 | (i, ge) :: I, k => by
  rw [a8h]
  have ih := b3o (U := U) (I := I) (k := k)
  split
  ·rename_i h
   simp only at h
   rw [ih, u8u]
   by_cases e : i = k
   ·subst e; simp [h]
   ·rw [if_neg e]
  ·rename_i h
   simp only at h
   rw [u8u, u8u, ih]
   by_cases e : i = k
   ·subst e; simp [h]
   ·rw [if_neg e, if_neg e]
theorem b6v : ∀ {I : Hp} {p : Nat × (Nat × Ent)}, p ∈ a8h U I → p ∈ I
 | [], p, h => h
 | q :: I, p, h => by
  rw [a8h] at h
  split at h
  ·exact List.mem_cons_of_mem _ (b6v h)
  ·rcases List.mem_cons.1 h with e | h
   ·subst e; simp
   ·exact List.mem_cons_of_mem _ (b6v h)
end
section
variable {P : Program}

def f5v (P : Program) (f : FuncId) (kp : List Nat) (A0 : List AV) (I0 : Hp) (O0 : AV) (U0 : Hp) : Prop :=
 (∃ fn c, P.funcs[f]? = some fn ∧ (fn.name == "runtime.NumGoroutine") = false ∧ fn.body = some c) ∧
 ∀ (X : Cx) (B : Base) (w : World) (vs : List Value) (γ : Gn), SRh X B (hf (I0.map (a3f idf γ))) w → vs.length = A0.length → (∀ (i : Nat) (a : AV) (v : Value), (A0.map (inT idf γ))[i]? = some a → vs[i]? = some v → VR X w a v) →
  Calls P f vs.toArray w fun e w' => ∃ v, e = .returned v ∧ ∃ γ' : Gn, (∀ i ∈ kp, γ' i = γ i) ∧ ∃ X', X.le X' ∧ SRh X' B (hf (U0.map (a3f idf γ') ++ (a8h U0 I0).map (a3f idf γ))) w' ∧ (∀ b, X.ok2 b → w'.heap[b]? = w.heap[b]?) ∧ VR X' w' (inT idf γ' O0) v
inductive BndH (m : Nat) : Hp → Prop
 | nil : BndH m []
 | dead {i g : Nat} {r : Hp} (t : BndH m r) : BndH m ((i, (g, .dead)) :: r)
 | box {i g ty : Nat} {cs : List AV} {r : Hp} (h : (cs.all (d8y m)) = true) (t : BndH m r) : BndH m ((i, (g, .box ty cs)) :: r)
 | row {i g ty sz : Nat} {xs : List (List AV)} {r : Hp} (h : d6a xs) (t : BndH m r) : BndH m ((i, (g, .row ty sz xs)) :: r)
 | map {i g : Nat} {es : List (Value × AV)} {r : Hp} (h : ∀ p ∈ es, p.2.flatA = true) (t : BndH m r) : BndH m ((i, (g, .map es)) :: r)
 | chn {i g ty lty : Nat} {xs : List (List AV)} {r : Hp} (t : BndH m r) : BndH m ((i, (g, .chn ty lty xs)) :: r)
theorem BndH.all (k : BndH m H) : ∀ p ∈ H, e8z m p.2.2 := by
 have cons : ∀ {q : Nat × (Nat × Ent)} {r : Hp}, e8z m q.2.2 → (∀ p ∈ r, e8z m p.2.2) → ∀ p ∈ q :: r, e8z m p.2.2 := fun h1 h2 p hp => by
  rcases List.mem_cons.1 hp with rfl | hp
  ·exact h1
  ·exact h2 p hp
 induction k with
 | nil => intro p h; cases h
 | dead _ ih => exact cons trivial ih
 | box h0 _ ih => exact cons h0 ih
 | row h0 _ ih => exact cons h0 ih
 | map h0 _ ih => exact cons h0 ih
 | chn _ ih => exact cons trivial ih
theorem q0q {α : Type} {f : α → List AV} {l : List α} (h : ∀ a, ((f a).all AV.flat) = true) : d6a (l.map f) := fun x hx c hc => by
 obtain ⟨a, _, rfl⟩ := List.mem_map.1 hx
 exact List.all_eq_true.1 (h a) c hc
theorem b6w : d6a [] := fun x hx => by cases hx
def a7k : List Nat → Nat → Bool
 | [], _ => false
 | a :: l, k => Nat.beq a k || a7k l k
theorem b6x : a7k l k = true ↔ k ∈ l := by
 induction l with
 | nil => simp [a7k]
 | cons a l ih =>
  simp only [a7k, Bool.or_eq_true, ih, List.mem_cons]
  constructor
  ·rintro (h | h)
   ·exact .inl (Nat.eq_of_beq_eq_true h).symm
   ·exact .inr h
  ·rintro (h | h)
   ·subst h; exact .inl (Nat.beq_refl k)
   ·exact .inr h

def nx (kp : List Nat) (c : Gn) : Gn := fun i => match a7k kp i with
 | true => c i
 | false => c i + 1
def c3s : Nat → List Nat
 | 0 => []
 | n + 1 => n :: c3s n
theorem b2a : i ∈ c3s n ↔ i < n := by
 induction n with
 | zero => simp [c3s]
 | succ n ih => simp only [c3s, List.mem_cons, ih]; omega
def d7t (m : Nat) (kp : List Nat) (A0 : List AV) (I0 : Hp) (O0 : AV) (U0 : Hp) : Bool :=
 (I0.all fun p => Nat.blt p.1 m) && ((c3s m).all fun i => d6i I0 i) && (U0.all fun p => Nat.blt p.1 m) && ((c3s m).all fun i => d6i U0 i || a7k kp i) && A0.all (e7k m) && e7k m O0

structure Meth (P : Program) (f : FuncId) (m : Nat) (kp : List Nat) (A0 : List AV) (I0 : Hp) (O0 : AV) (U0 : Hp) : Prop where
 run : f5v P f kp A0 I0 O0 U0
 ok : d7t m kp A0 I0 O0 U0 = true
 ib : BndH m I0
 ub : BndH m U0

structure MethE (P : Program) (f : FuncId) (m : Nat) (A0 : List AV) (I0 : Hp) {ι : Type} (okι : ι → Prop) (kpF : ι → List Nat) (OF : ι → AV) (UF : ι → Hp) : Prop where
 fn : ∃ fn c, P.funcs[f]? = some fn ∧ (fn.name == "runtime.NumGoroutine") = false ∧ fn.body = some c
 run : ∀ (X : Cx) (B : Base) (w : World) (vs : List Value) (γ : Gn), SRh X B (hf (I0.map (a3f idf γ))) w → vs.length = A0.length → (∀ (i : Nat) (a : AV) (v : Value), (A0.map (inT idf γ))[i]? = some a → vs[i]? = some v → VR X w a v) →
  Calls P f vs.toArray w fun e w' => ∃ i, okι i ∧ ∃ v, e = .returned v ∧ ∃ γ' : Gn, (∀ k ∈ kpF i, γ' k = γ k) ∧ ∃ X', X.le X' ∧ SRh X' B (hf ((UF i).map (a3f idf γ') ++ (a8h (UF i) I0).map (a3f idf γ))) w' ∧ (∀ b, X.ok2 b → w'.heap[b]? = w.heap[b]?) ∧ VR X' w' (inT idf γ' (OF i)) v
 ok0 : ((I0.all fun p => Nat.blt p.1 m) && ((c3s m).all fun i => d6i I0 i) && A0.all (e7k m)) = true
 ok : ∀ i, okι i → d7t m (kpF i) A0 I0 (OF i) (UF i) = true
 ib : BndH m I0
 ub : ∀ i, okι i → BndH m (UF i)
theorem f6r (h : d7t m kp A0 I0 O0 U0 = true) : ((I0.all fun p => Nat.blt p.1 m) && ((c3s m).all fun i => d6i I0 i) && A0.all (e7k m)) = true := by
 simp only [d7t, Bool.and_eq_true] at h ⊢
 exact ⟨h.1.1.1.1, h.1.2⟩
theorem Meth.toE (hM : Meth P f m kp A0 I0 O0 U0) : MethE P f m A0 I0 (ι := Unit) (fun _ => True) (fun _ => kp) (fun _ => O0) (fun _ => U0) :=
 ⟨hM.run.1, fun X B w vs γ h1 h2 h3 => (hM.run.2 X B w vs γ h1 h2 h3).mono fun e w' h => ⟨(), trivial, h⟩, f6r hM.ok, fun _ _ => hM.ok, hM.ib, fun _ _ => hM.ub⟩

def f5w (P : Program) (f : FuncId) (avs : List AV) (T : TL) (R : AV → TL → Prop) : Prop :=
 (∃ fn c, P.funcs[f]? = some fn ∧ (fn.name == "runtime.NumGoroutine") = false ∧ fn.body = some c) ∧
 ∀ (X : Cx) (B : Base) (hF : HF) (w : World) (vs : List Value), SRh X B hF w → vs.length = avs.length → (∀ (i : Nat) (a : AV) (v : Value), avs[i]? = some a → vs[i]? = some v → VR X w a v) → (∀ id ge, (id, ge) ∈ T → hF id = some ge) →
  Calls P f vs.toArray w fun e w' => ∃ out W, R out W ∧ ∃ v, e = .returned v ∧ ∃ X', X.le X' ∧ SRh X' B (b1s hF W) w' ∧ (∀ b, X.ok2 b → w'.heap[b]? = w.heap[b]?) ∧ VR X' w' out v
theorem b8l (hM : MethE P f m A0 I0 okι kpF OF UF) (L : List Nat) (c : Gn) (hn : L.Nodup) (hL : L.length = m) :
  f5w P f (A0.map (inT (gl L) c)) (I0.map (a3f (gl L) c)) (fun out W => ∃ i, okι i ∧ out = inT (gl L) (nx (kpF i) c) (OF i) ∧ W = (UF i).map (a3f (gl L) (nx (kpF i) c))) := by
 have hok0 := hM.ok0
 simp only [Bool.and_eq_true] at hok0
 obtain ⟨⟨o1, o2⟩, o5⟩ := hok0
 have hi1 : ∀ p ∈ I0, p.1 < m := fun p hp => a7r (List.all_eq_true.1 o1 p hp)
 have hi2 : ∀ i, i < m → ∃ ge, y4y I0 i = some ge := fun i hi => by
  have := List.all_eq_true.1 o2 i (b2a.2 hi)
  rw [a8o] at this
  exact Option.isSome_iff_exists.1 this
 refine ⟨hM.fn, fun X B hF w vs hS hl hr hT => ?_⟩
 obtain ⟨F, hS⟩ := hS
 let ρ := gl L
 have hinj : ∀ i k, i < m → k < m → ρ i = ρ k → i = k := fun i k hi hk e => f3g hn (hL ▸ hi) (hL ▸ hk) e
 have hcal : ∀ i ge, y4y I0 i = some ge → hF (ρ i) = some (c i, inE ρ c ge.2) := fun i ge h => hT _ _ (List.mem_map.2 ⟨(i, ge), a5d h, rfl⟩)
 have hlt : ∀ {i ge}, y4y I0 i = some ge → i < m := fun h => hi1 _ (a5d h)
 -- the callee's context
 let Xc : Cx := ⟨X.ok1, X.ok2, fun i g => if i < m then X.bx (ρ i) g else none, fun i g => if i < m then X.rw (ρ i) g else none⟩
 let Fc : Nat → List Nat := fun i => if i < m then F (ρ i) else []
 let Bc : Base := ⟨w, fun b => ∃ i, i < m ∧ b ∈ F (ρ i), X.ok1, X.ok2⟩
 have S : Sim m ρ c idf c X Xc := ⟨fun _ h => h, fun _ h => h, fun i hi => by simp [Xc, hi, idf], fun i hi => by simp [Xc, hi, idf]⟩
 have wI : ∀ {H : Hp} (c : Gn) (i : Nat) (ge : Nat × Ent), (∀ p ∈ H, p.1 < m) → y4y (H.map (a3f idf c)) i = some ge → ∃ ge0, y4y H i = some ge0 ∧ ge = (c i, inE idf c ge0.2) ∧ i < m := fun {H} c i ge hH h => by
  by_cases him : i < m
  ·have := a2k (ρ := idf) (c := c) (m := m) (fun _ _ _ _ e => e) hH i him
   rw [show y4y (H.map (a3f idf c)) (idf i) = some ge from h] at this
   cases hw : y4y H i with
   | none => rw [hw] at this; cases this
   | some ge0 => rw [hw] at this; simp only [Option.map_some, Option.some.injEq] at this; exact ⟨ge0, rfl, this, him⟩
  ·rw [a3w (m := m) hH i (fun k hk e => him (by simp only [idf] at e; omega))] at h
   cases h
 have hSc : SRf Xc Bc (hf (I0.map (a3f idf c))) Fc w := by
  refine ⟨?_, ?_, ?_, ?_, hS.ok12, fun b hb => .inl hb, fun b hb => .inl hb, ?_, ?_, rfl, rfl, rfl, Nat.le_refl _, fun _ _ _ => rfl⟩
  ·intro i g e he
   obtain ⟨ge0, h1, h2, h3⟩ := wI c i _ hi1 he
   cases h2
   have := hS.ent _ _ _ (hcal i _ h1)
   simp only [Fc, h3, if_true]
   exact this.tr S hS.ok12 h3 (hM.ib.all _ (a5d h1))
  ·intro i ge b he hb
   obtain ⟨ge0, h1, h2, h3⟩ := wI c i _ hi1 he
   simp only [Fc, h3, if_true] at hb
   exact hS.blk _ _ b (hcal i _ h1) hb
  ·intro i k ge ge' b he he' hb hb'
   obtain ⟨ge0, h1, h2, h3⟩ := wI c i _ hi1 he
   obtain ⟨ge1, k1, k2, k3⟩ := wI c k _ hi1 he'
   simp only [Fc, h3, k3, if_true] at hb hb'
   exact hinj i k h3 k3 (hS.sep _ _ _ _ b (hcal i _ h1) (hcal k _ k1) hb hb')
  ·refine fun b hb => ⟨(hS.ok2 b hb).1, fun i ge he hm => ?_⟩
   obtain ⟨ge0, h1, h2, h3⟩ := wI c i _ hi1 he
   simp only [Fc, h3, if_true] at hm
   exact (hS.ok2 b hb).2 _ _ (hcal i _ h1) hm
  ·intro i ge b he hb
   obtain ⟨ge0, h1, h2, h3⟩ := wI c i _ hi1 he
   simp only [Fc, h3, if_true] at hb
   exact .inl ⟨i, h3, hb⟩
  ·intro i g hg
   by_cases hm : i < m
   ·obtain ⟨ge, h1⟩ := hi2 i hm
    have hlt' : c i < g := hg (c i) (inE idf c ge.2) (by
     have := a2k (ρ := idf) (c := c) (m := m) (fun _ _ _ _ e => e) hi1 i hm
     rw [h1] at this; exact this)
    have h2 := hS.hist (ρ i) g (fun g' e h => by
     rw [hcal i _ h1] at h
     cases h
     exact hlt')
    simp only [Xc, hm, if_true]
    exact h2
   ·simp [Xc, hm]
 have hrc : ∀ (i : Nat) (a : AV) (v : Value), (A0.map (inT idf c))[i]? = some a → vs[i]? = some v → VR Xc w a v :=
  c1i (R := VR X w) (R' := VR Xc w) (f := inT ρ c) (fun a v ha h => e7l S hS.ok12 (List.all_eq_true.1 o5 a ha) h) hr
 refine (hM.run Xc Bc w vs c ⟨Fc, hSc⟩ (by simpa using hl) hrc).mono fun e w' hh => ?_
 obtain ⟨iι, hiι, v, rfl, γ', hγ, Xc', g1, ⟨Fc', g2⟩, g3, g4⟩ := hh
 refine ⟨_, _, ⟨iι, hiι, rfl, rfl⟩, v, rfl, ?_⟩
 have hok := hM.ok iι hiι
 have hub := (hM.ub iι hiι).all
 generalize kpF iι = kp at hok hγ ⊢
 generalize OF iι = O0 at hok g4 ⊢
 generalize UF iι = U0 at hok hub g2 ⊢
 simp only [d7t, Bool.and_eq_true] at hok
 obtain ⟨⟨⟨⟨_, o3⟩, o4⟩, _⟩, o6⟩ := hok
 have hu1 : ∀ p ∈ U0, p.1 < m := fun p hp => a7r (List.all_eq_true.1 o3 p hp)
 have hkp : ∀ i, i < m → d6i U0 i = false → i ∈ kp := fun i hi h => by
  have := List.all_eq_true.1 o4 i (b2a.2 hi)
  rw [h, Bool.false_or] at this
  exact b6x.1 this
 classical
 -- the caller's context behind the call
 let t := nx kp c
 have tk : ∀ i, i ∈ kp → t i = c i := fun i hi => by simp only [t, nx, b6x.2 hi]
 have tn : ∀ i, i ∉ kp → t i = c i + 1 := fun i hi => by
  have : a7k kp i = false := by
   cases h : a7k kp i
   ·rfl
   ·exact absurd (b6x.1 h) hi
  simp only [t, nx, this]
 have hfut : ∀ i g, i < m → c i < g → X.bx (ρ i) g = none ∧ X.rw (ρ i) g = none := fun i g hi hg => by
  obtain ⟨ge, h1⟩ := hi2 i hi
  exact hS.hist (ρ i) g (fun g' e h => by rw [hcal i _ h1] at h; cases h; exact hg)
 let inv : Nat → Option Nat := fun j => (List.range m).find? fun i => ρ i == j
 have inv_rho : ∀ i, i < m → inv (ρ i) = some i := fun i him => by
  cases hv : inv (ρ i) with
  | none =>
   have := List.find?_eq_none.1 hv i (List.mem_range.2 him)
   simp at this
  | some k =>
   have h1 := List.find?_some hv
   have h2 := List.mem_of_find?_eq_some hv
   rw [List.mem_range] at h2
   rw [hinj k i h2 him (by simpa using h1)]
 have inv_some : ∀ j i, inv j = some i → i < m ∧ ρ i = j := fun j i hv => by
  have h1 := List.find?_some hv
  have h2 := List.mem_of_find?_eq_some hv
  rw [List.mem_range] at h2
  exact ⟨h2, by simpa using h1⟩
 let X' : Cx := ⟨Xc'.ok1, Xc'.ok2, fun j g => match inv j with
  | some i => if g = t i then Xc'.bx i (γ' i) else if g = c i then Xc'.bx i (c i) else X.bx j g
  | none => X.bx j g, fun j g => match inv j with
  | some i => if g = t i then Xc'.rw i (γ' i) else if g = c i then Xc'.rw i (c i) else X.rw j g
  | none => X.rw j g⟩
 have hX : X.le X' := by
  refine ⟨g1.ok1, g1.ok2, fun j g b h => ?_, fun j g b h => ?_⟩
  ·show (match inv j with
    | some i => if g = t i then Xc'.bx i (γ' i) else if g = c i then Xc'.bx i (c i) else X.bx j g
    | none => X.bx j g) = some b
   cases hv : inv j with
   | none => exact h
   | some i =>
    obtain ⟨him, rfl⟩ := inv_some j i hv
    simp only
    by_cases hk : i ∈ kp
    ·by_cases e : g = t i
     ·rw [if_pos e, hγ i hk]
      refine g1.bx i _ b ?_
      simp only [Xc, him, if_true]
      rw [← tk i hk, ← e]; exact h
     ·rw [if_neg e]
      by_cases e2 : g = c i
      ·rw [if_pos e2]
       refine g1.bx i _ b ?_
       simp only [Xc, him, if_true]
       rw [← e2]; exact h
      ·rw [if_neg e2]; exact h
    ·by_cases e : g = t i
     ·rw [(hfut i g him (by rw [e, tn i hk]; omega)).1] at h; cases h
     ·rw [if_neg e]
      by_cases e2 : g = c i
      ·rw [if_pos e2]
       refine g1.bx i _ b ?_
       simp only [Xc, him, if_true]
       rw [← e2]; exact h
      ·rw [if_neg e2]; exact h
  ·show (match inv j with
    | some i => if g = t i then Xc'.rw i (γ' i) else if g = c i then Xc'.rw i (c i) else X.rw j g
    | none => X.rw j g) = some b
   cases hv : inv j with
   | none => exact h
   | some i =>
    obtain ⟨him, rfl⟩ := inv_some j i hv
    simp only
    by_cases hk : i ∈ kp
    ·by_cases e : g = t i
     ·rw [if_pos e, hγ i hk]
      refine g1.rw i _ b ?_
      simp only [Xc, him, if_true]
      rw [← tk i hk, ← e]; exact h
     ·rw [if_neg e]
      by_cases e2 : g = c i
      ·rw [if_pos e2]
       refine g1.rw i _ b ?_
       simp only [Xc, him, if_true]
       rw [← e2]; exact h
      ·rw [if_neg e2]; exact h
    ·by_cases e : g = t i
     ·rw [(hfut i g him (by rw [e, tn i hk]; omega)).2] at h; cases h
     ·rw [if_neg e]
      by_cases e2 : g = c i
      ·rw [if_pos e2]
       refine g1.rw i _ b ?_
       simp only [Xc, him, if_true]
       rw [← e2]; exact h
      ·rw [if_neg e2]; exact h
 have S1 : Sim m idf γ' ρ t Xc' X' := ⟨fun _ h => h, fun _ h => h, fun i hi => by simp [X', inv_rho i hi, idf], fun i hi => by simp [X', inv_rho i hi, idf]⟩
 have S2 : Sim m idf c ρ c Xc' X' := by
  refine ⟨fun _ h => h, fun _ h => h, fun i hi => ?_, fun i hi => ?_⟩
  ·simp only [X', inv_rho i hi, idf]
   by_cases e : c i = t i
   ·rw [if_pos e]
    by_cases hk : i ∈ kp
    ·rw [hγ i hk]
    ·rw [tn i hk] at e; omega
   ·rw [if_neg e]; simp
  ·simp only [X', inv_rho i hi, idf]
   by_cases e : c i = t i
   ·rw [if_pos e]
    by_cases hk : i ∈ kp
    ·rw [hγ i hk]
    ·rw [tn i hk] at e; omega
   ·rw [if_neg e]; simp
 let F' : Nat → List Nat := fun j => match inv j with
  | some i => Fc' i
  | none => F j
 let Hc : Hp := U0.map (a3f idf γ') ++ (a8h U0 I0).map (a3f idf c)
 have hr1 : ∀ p ∈ a8h U0 I0, p.1 < m := fun p hp => hi1 p (b6v hp)
 -- what stands where
 have upU : ∀ i ge0, i < m → y4y U0 i = some ge0 → b1s hF (U0.map (a3f ρ t)) (ρ i) = some (t i, inE ρ t ge0.2) ∧ y4y Hc i = some (γ' i, inE idf γ' ge0.2) := fun i ge0 hi h => by
  have e1 := a2k (ρ := ρ) (c := t) hinj hu1 i hi
  have e2 := a2k (ρ := idf) (c := γ') (m := m) (fun _ _ _ _ e => e) hu1 i hi
  rw [h] at e1 e2
  refine ⟨by simp only [b1s, e1, Option.map_some], ?_⟩
  rw [a4o, show y4y (U0.map (a3f idf γ')) i = _ from e2]; rfl
 have upI : ∀ i ge0, i < m → y4y U0 i = none → y4y I0 i = some ge0 → b1s hF (U0.map (a3f ρ t)) (ρ i) = some (c i, inE ρ c ge0.2) ∧ y4y Hc i = some (c i, inE idf c ge0.2) := fun i ge0 hi h hI => by
  have e1 := a2k (ρ := ρ) (c := t) hinj hu1 i hi
  have e2 := a2k (ρ := idf) (c := γ') (m := m) (fun _ _ _ _ e => e) hu1 i hi
  have e3 := a2k (ρ := idf) (c := c) (m := m) (fun _ _ _ _ e => e) hr1 i hi
  have hb : d6i U0 i = false := by rw [a8o, h]; rfl
  rw [b3o, hb] at e3
  simp only [Bool.false_eq_true, if_false, hI, Option.map_some] at e3
  rw [h] at e1 e2
  refine ⟨by simp only [b1s, e1, Option.map_none]; exact hcal i _ hI, ?_⟩
  rw [a4o, show y4y (U0.map (a3f idf γ')) i = _ from e2]; exact e3
 have un : ∀ j, inv j = none → b1s hF (U0.map (a3f ρ t)) j = hF j := fun j hj => by
  have e' : y4y (U0.map (a3f ρ t)) j = none := a3w (m := m) hu1 j (fun i him e => by rw [← e, inv_rho i him] at hj; cases hj)
  simp only [b1s, e']
 have fin : ∀ {j ge}, b1s hF (U0.map (a3f ρ t)) j = some ge → (inv j = none ∧ hF j = some ge ∧ F' j = F j) ∨
   ∃ i ge1, inv j = some i ∧ i < m ∧ ρ i = j ∧ y4y Hc i = some ge1 ∧ F' j = Fc' i ∧ EntOK X' w' j ge.1 (Fc' i) ge.2 := by
  intro j ge he
  cases hv : inv j with
  | none => rw [un j hv] at he; exact .inl ⟨rfl, he, by simp [F', hv]⟩
  | some i =>
   obtain ⟨h1, rfl⟩ := inv_some j i hv
   cases hu : y4y U0 i with
   | some ge0 =>
    obtain ⟨q1, q2⟩ := upU i ge0 h1 hu
    rw [he] at q1; cases q1
    exact .inr ⟨i, _, rfl, h1, rfl, q2, by simp [F', hv], (g2.ent i _ _ q2).tr S1 g2.ok12 h1 (hub _ (a5d hu))⟩
   | none =>
    obtain ⟨ge0, hI⟩ := hi2 i h1
    obtain ⟨q1, q2⟩ := upI i ge0 h1 hu hI
    rw [he] at q1; cases q1
    exact .inr ⟨i, _, rfl, h1, rfl, q2, by simp [F', hv], (g2.ent i _ _ q2).tr S2 g2.ok12 h1 (hM.ib.all _ (a5d hI))⟩
 have old : ∀ j ge b, inv j = none → hF j = some ge → b ∈ F j → b < w.heap.size ∧ ¬ ∃ i, i < m ∧ b ∈ F (ρ i) := fun j ge b hj he hb => by
  refine ⟨hS.blk j ge b he hb, fun ⟨i, him, hbi⟩ => ?_⟩
  obtain ⟨ge', h1⟩ := hi2 i him
  have := hS.sep j (ρ i) ge _ b he (hcal i _ h1) hb hbi
  rw [this, inv_rho i him] at hj
  cases hj
 have newc : ∀ i ge b, y4y Hc i = some ge → b ∈ Fc' i → (∃ k, k < m ∧ b ∈ F (ρ k)) ∨ w.heap.size ≤ b := fun i ge b he hb => g2.own i ge b he hb
 have S0B : ∀ b, (∃ i, i < m ∧ b ∈ F (ρ i)) → B.S0 b ∨ B.w0.heap.size ≤ b := fun b ⟨i, him, hb⟩ => by
  obtain ⟨ge, h1⟩ := hi2 i him
  exact hS.own _ _ b (hcal i _ h1) hb
 have hsz := g2.size
 refine ⟨X', hX, ⟨F', ?_, ?_, ?_, ?_, g2.ok12, ?_, ?_, ?_, ?_, g2.os.trans hS.os, g2.tape.trans hS.tape, g2.output.trans hS.output, Nat.le_trans hS.size g2.size, ?_⟩, g3, e7l S1 g2.ok12 o6 g4⟩
 ·intro j g e he
  rcases fin he with ⟨h1, h2, h3⟩ | ⟨i, ge1, h1, h2, h3, h4, h5, h6⟩
  ·rw [h3]
   refine (hS.ent j g e h2).mono hX hS.ok12 g3 (fun b hb => ?_)
   obtain ⟨q1, q2⟩ := old j _ b h1 h2 hb
   exact g2.keep b q1 q2
  ·rw [h5]; exact h6
 ·intro j ge b he hb
  rcases fin he with ⟨h1, h2, h3⟩ | ⟨i, ge1, h1, h2, h3, h4, h5, h6⟩
  ·rw [h3] at hb
   exact Nat.lt_of_lt_of_le (hS.blk j ge b h2 hb) hsz
  ·rw [h5] at hb
   exact g2.blk i _ b h4 hb
 ·intro j k ge ge' b he he' hb hb'
  rcases fin he with ⟨h1, h2, h3⟩ | ⟨i, ge1, h1, h2, h3, h4, h5, h6⟩ <;> rcases fin he' with ⟨k1, k2, k3⟩ | ⟨i', ge2, k1, k2, k3, k4, k5, k6⟩
  ·rw [h3] at hb
   rw [k3] at hb'
   exact hS.sep j k ge ge' b h2 k2 hb hb'
  ·rw [h3] at hb
   rw [k5] at hb'
   obtain ⟨q1, q2⟩ := old j _ b h1 h2 hb
   rcases newc i' _ b k4 hb' with h | h
   ·exact absurd h q2
   ·exact absurd q1 (Nat.not_lt.2 h)
  ·rw [h5] at hb
   rw [k3] at hb'
   obtain ⟨q1, q2⟩ := old k _ b k1 k2 hb'
   rcases newc i _ b h4 hb with h | h
   ·exact absurd h q2
   ·exact absurd q1 (Nat.not_lt.2 h)
  ·rw [h5] at hb
   rw [k5] at hb'
   have := g2.sep i i' _ _ b h4 k4 hb hb'
   rw [← h3, ← k3, this]
 ·refine fun b hb => ⟨(g2.ok2 b hb).1, fun j ge he hm => ?_⟩
  rcases fin he with ⟨h1, h2, h3⟩ | ⟨i, ge1, h1, h2, h3, h4, h5, h6⟩
  ·rw [h3] at hm
   obtain ⟨q1, q2⟩ := old j _ b h1 h2 hm
   rcases g2.in2 b hb with h | h | h
   ·exact (hS.ok2 b h).2 j _ h2 hm
   ·exact q2 h
   ·exact absurd q1 (Nat.not_lt.2 h)
  ·rw [h5] at hm
   exact (g2.ok2 b hb).2 i _ h4 hm
 ·intro b hb
  rcases g2.in1 b hb with h | h | h
  ·exact hS.in1 b h
  ·exact .inr (S0B b h)
  ·exact .inr (.inr (Nat.le_trans hS.size h))
 ·intro b hb
  rcases g2.in2 b hb with h | h | h
  ·exact hS.in2 b h
  ·exact .inr (S0B b h)
  ·exact .inr (.inr (Nat.le_trans hS.size h))
 ·intro j ge b he hb
  rcases fin he with ⟨h1, h2, h3⟩ | ⟨i, ge1, h1, h2, h3, h4, h5, h6⟩
  ·rw [h3] at hb
   exact hS.own j ge b h2 hb
  ·rw [h5] at hb
   rcases newc i _ b h4 hb with h | h
   ·exact S0B b h
   ·exact .inr (Nat.le_trans hS.size h)
 ·intro j g hg
  cases hv : inv j with
  | none =>
   have h1 := hS.hist j g (fun g' e h => hg g' e (by rw [un j hv]; exact h))
   refine ⟨?_, ?_⟩
   ·simp only [X', hv, h1.1]
   ·simp only [X', hv, h1.2]
  | some i =>
   obtain ⟨him, rfl⟩ := inv_some j i hv
   obtain ⟨ge0, hI⟩ := hi2 i him
   have hcg : c i < g ∧ g ≠ t i := by
    cases hu : y4y U0 i with
    | some ge1 =>
     have := hg _ _ (upU i ge1 him hu).1
     by_cases hk : i ∈ kp
     ·rw [tk i hk] at this ⊢; omega
     ·rw [tn i hk] at this ⊢; omega
    | none =>
     have := hg _ _ (upI i ge0 him hu hI).1
     have hk := hkp i him (by rw [a8o, hu]; rfl)
     rw [tk i hk]; omega
   have := hfut i g him hcg.1
   refine ⟨?_, ?_⟩
   ·simp only [X', hv]; rw [if_neg hcg.2, if_neg (by omega)]; exact this.1
   ·simp only [X', hv]; rw [if_neg hcg.2, if_neg (by omega)]; exact this.2
 ·intro b hb hs
  rw [← hS.keep b hb hs]
  refine g2.keep b (Nat.lt_of_lt_of_le hb hS.size) (fun h => ?_)
  rcases S0B b h with h | h
  ·exact hs h
  ·exact absurd hb (Nat.not_lt.2 h)
theorem d9c (hM : Meth P f m kp A0 I0 O0 U0) (L : List Nat) (c : Gn) (hn : L.Nodup) (hL : L.length = m) :
  d8f P f (A0.map (inT (gl L) c)) (I0.map (a3f (gl L) c)) (U0.map (a3f (gl L) (nx kp c))) (inT (gl L) (nx kp c) O0) := by
 have h := b8l hM.toE L c hn hL
 exact ⟨h.1, fun X B hF w vs a1 a2 a3 a4 => (h.2 X B hF w vs a1 a2 a3 a4).mono fun e w' ⟨out, W, ⟨_, _, h1, h2⟩, h3⟩ => by subst h1 h2; exact h3⟩
end
section
variable {P : Program}
def a3x (m : Nat) : Nat → Hp
 | 0 => []
 | k + 1 => (m + k, (0, .dead)) :: a3x m k
theorem b6y {id : Nat} : ∀ {k : Nat}, y4y (a3x m k) id = some ge → ge = (0, .dead) ∧ m ≤ id
 | 0, h => by cases h
 | k + 1, h => by
  rw [a3x, u8u] at h
  split at h
  ·rename_i e; cases h; exact ⟨rfl, by omega⟩
  ·exact b6y h

theorem SRh.more (H : SRh X B (hf h) w) (m k : Nat) (hm : ∀ p ∈ h, p.1 < m) : SRh X B (hf (h ++ a3x m k)) w := by
 obtain ⟨F, H⟩ := H
 have hlt : ∀ id ge, y4y h id = some ge → id < m := fun id ge hg => hm _ (a5d hg)
 have get : ∀ id ge, hf (h ++ a3x m k) id = some ge → hf h id = some ge ∨ (y4y h id = none ∧ ge = (0, .dead) ∧ m ≤ id) := fun id ge hg => by
  simp only [hf, a4o] at hg ⊢
  cases hw : y4y h id with
  | some g => rw [hw] at hg; exact .inl hg
  | none => rw [hw] at hg; exact .inr ⟨rfl, b6y hg⟩
 let F' : Nat → List Nat := fun i => if i < m then F i else []
 have mem : ∀ id ge b, hf (h ++ a3x m k) id = some ge → b ∈ F' id → hf h id = some ge ∧ b ∈ F id := fun id ge b hg hb => by
  rcases get id ge hg with h1 | ⟨_, _, h1⟩
  ·simp only [F', hlt id ge h1, if_true] at hb
   exact ⟨h1, hb⟩
  ·simp only [F', Nat.not_lt.2 h1, if_false] at hb
   cases hb
 refine ⟨F', { H with ent := fun id g e he => ?_, blk := fun id ge b he hb => ?_, sep := fun id id' ge ge' b he he' hb hb' => ?_, ok2 := fun b hb => ⟨(H.ok2 b hb).1, fun id ge he hm => ?_⟩, own := fun id ge b he hb => ?_, hist := fun id g hg => ?_ }⟩
 ·rcases get id _ he with h1 | ⟨_, h1, _⟩
  ·have := H.ent id g e h1
   simpa only [F', hlt id _ h1, if_true] using this
  ·cases h1; trivial
 ·obtain ⟨h1, h2⟩ := mem id ge b he hb; exact H.blk id ge b h1 h2
 ·obtain ⟨h1, h2⟩ := mem id ge b he hb
  obtain ⟨h3, h4⟩ := mem id' ge' b he' hb'
  exact H.sep id id' ge ge' b h1 h3 h2 h4
 ·obtain ⟨h1, h2⟩ := mem id ge b he hm
  exact (H.ok2 b hb).2 id ge h1 h2
 ·obtain ⟨h1, h2⟩ := mem id ge b he hb; exact H.own id ge b h1 h2
 ·refine H.hist id g (fun g' e hh => hg g' e ?_)
  simp only [hf] at hh ⊢
  rw [a4o, hh]

theorem SRh.trunc (H : SRh X B (hf h) w) (hi1 : ∀ p ∈ I0, p.1 < m) (hi2 : ∀ i, i < m → ∃ ge, y4y I0 i = some ge) (hu1 : ∀ p ∈ U0, p.1 < m) (ib : ∀ p ∈ I0, e8z m p.2.2) (ub : ∀ p ∈ U0, e8z m p.2.2)
  (k : HE h (U0.map (a3f idf γ') ++ (a8h U0 I0).map (a3f idf γ))) :
  ∃ Y : Cx, Sim m idf γ' idf γ' X Y ∧ Y.ok1 = X.ok1 ∧ Y.ok2 = X.ok2 ∧ (∀ i g, i < m → Y.bx i g = X.bx i g ∧ Y.rw i g = X.rw i g) ∧ (∀ i g, m ≤ i → Y.bx i g = none ∧ Y.rw i g = none) ∧ SRh Y B (hf (U0.map (a3f idf γ') ++ (a8h U0 I0).map (a3f idf γ))) w := by
 obtain ⟨F, H⟩ := H
 let Y : Cx := ⟨X.ok1, X.ok2, fun i g => if i < m then X.bx i g else none, fun i g => if i < m then X.rw i g else none⟩
 have S : ∀ c : Gn, Sim m idf c idf c X Y := fun c => ⟨fun _ h => h, fun _ h => h, fun i hi => by simp [Y, hi, idf], fun i hi => by simp [Y, hi, idf]⟩
 let Hc : Hp := U0.map (a3f idf γ') ++ (a8h U0 I0).map (a3f idf γ)
 have get : ∀ id ge, y4y Hc id = some ge → ∃ e, hf h id = some (ge.1, e) ∧ (ge.2 = e ∨ ge.2 = .dead) := fun id ge hg => k.ent id ge hg
 have hr1 : ∀ p ∈ a8h U0 I0, p.1 < m := fun p hp => hi1 p (b6v hp)
 have cas : ∀ id ge, y4y Hc id = some ge → id < m ∧ ((∃ ge0, y4y U0 id = some ge0 ∧ ge = (γ' id, inE idf γ' ge0.2)) ∨ ∃ ge0, y4y I0 id = some ge0 ∧ ge = (γ id, inE idf γ ge0.2)) := fun id ge hg => by
  rw [a4o] at hg
  by_cases him : id < m
  ·refine ⟨him, ?_⟩
   have e1 := a2k (ρ := idf) (c := γ') (m := m) (fun _ _ _ _ e => e) hu1 id him
   have e2 := a2k (ρ := idf) (c := γ) (m := m) (fun _ _ _ _ e => e) hr1 id him
   rw [show y4y (U0.map (a3f idf γ')) id = _ from e1, show y4y ((a8h U0 I0).map (a3f idf γ)) id = _ from e2] at hg
   cases hw : y4y U0 id with
   | some ge0 => rw [hw] at hg; cases hg; exact .inl ⟨ge0, rfl, rfl⟩
   | none =>
    rw [hw, b3o, a8o, hw] at hg
    simp only [Option.map_none, Option.isSome_none, Bool.false_eq_true, if_false] at hg
    cases hI : y4y I0 id with
    | none => rw [hI] at hg; cases hg
    | some ge0 => rw [hI] at hg; cases hg; exact .inr ⟨ge0, rfl, rfl⟩
  ·rw [a3w (m := m) hu1 id (fun k hk e => him (by simp only [idf] at e; omega)), a3w (m := m) hr1 id (fun k hk e => him (by simp only [idf] at e; omega))] at hg
   cases hg
 refine ⟨Y, S γ', rfl, rfl, fun i g hi => ⟨by simp [Y, hi], by simp [Y, hi]⟩, fun i g hi => ⟨by simp [Y, Nat.not_lt.2 hi], by simp [Y, Nat.not_lt.2 hi]⟩, F, ?_, ?_, ?_, ?_, H.ok12, H.in1, H.in2, ?_, ?_, H.os, H.tape, H.output, H.size, H.keep⟩
 ·intro id g e he
  obtain ⟨e', h1, h2⟩ := get id _ he
  rcases h2 with h2 | h2
  ·simp only at h2; subst h2
   have he' := H.ent id g e h1
   obtain ⟨him, hc⟩ := cas id _ he
   rcases hc with ⟨ge0, q1, q2⟩ | ⟨ge0, q1, q2⟩
   ·cases q2
    exact EntOK.tr (S γ') H.ok12 him (ub _ (a5d q1)) he'
   ·cases q2
    exact EntOK.tr (S γ) H.ok12 him (ib _ (a5d q1)) he'
  ·simp only at h2; subst h2; trivial
 ·intro id ge b he hb
  obtain ⟨e', h1, _⟩ := get id _ he
  exact H.blk id _ b h1 hb
 ·intro id id' ge ge' b he he' hb hb'
  obtain ⟨e1, h1, _⟩ := get id _ he
  obtain ⟨e2, h2, _⟩ := get id' _ he'
  exact H.sep id id' _ _ b h1 h2 hb hb'
 ·refine fun b hb => ⟨(H.ok2 b hb).1, fun id ge he hm => ?_⟩
  obtain ⟨e', h1, _⟩ := get id _ he
  exact (H.ok2 b hb).2 id _ h1 hm
 ·intro id ge b he hb
  obtain ⟨e', h1, _⟩ := get id _ he
  exact H.own id _ b h1 hb
 ·intro id g hg
  by_cases hm : id < m
  ·obtain ⟨ge, h1⟩ : ∃ ge, y4y Hc id = some ge := by
    rw [a4o]
    have e1 := a2k (ρ := idf) (c := γ') (m := m) (fun _ _ _ _ e => e) hu1 id hm
    have e2 := a2k (ρ := idf) (c := γ) (m := m) (fun _ _ _ _ e => e) hr1 id hm
    rw [show y4y (U0.map (a3f idf γ')) id = _ from e1, show y4y ((a8h U0 I0).map (a3f idf γ)) id = _ from e2]
    cases hw : y4y U0 id with
    | some ge0 => exact ⟨_, rfl⟩
    | none =>
     rw [b3o, a8o, hw]
     obtain ⟨ge0, hI⟩ := hi2 id hm
     exact ⟨_, by simp only [Option.map_none, Option.isSome_none, Bool.false_eq_true, if_false, hI, Option.map_some]; rfl⟩
   obtain ⟨e', h4, _⟩ := get id _ h1
   have := H.hist id g (fun g' e hh => by
    rw [h4] at hh
    cases hh
    exact hg _ _ h1)
   simpa [Y, hm] using this
  ·simp [Y, hm]
variable {tt : TT} {f : FuncId} {fn : Func} {c : Code} {A0 : List AV} {I0 : Hp}

theorem b5g (htt : a1z P tt) (hfn : P.funcs[f]? = some fn) (hname : (fn.name == "runtime.NumGoroutine") = false) (hb : fn.body = some c) {ι : Type} {okι : ι → Prop} {kpF : ι → List Nat} {OF : ι → List AV} {UF : ι → Hp} (m k : Nat) (hn : A0.length ≤ fn.ntmps)
  (hok0 : ((I0.all fun p => Nat.blt p.1 m) && ((c3s m).all fun i => d6i I0 i) && A0.all (e7k m)) = true) (hok' : ∀ i, okι i → d7t m (kpF i) A0 I0 (one1 (OF i)) (UF i) = true) (ib : BndH m I0) (ub' : ∀ i, okι i → BndH m (UF i)) (hbo' : ∀ i, okι i → ((OF i).all (e4i m)) = true)
  (hx : ∀ γ : Gn, Ex P fn.ntmps c (b6s (A0.map (inT idf γ))) (I0.map (a3f idf γ) ++ a3x m k) fun e fr h => (e = .normal ∨ e = .ret) ∧ ∃ i, okι i ∧ ∃ g' : List Nat, (kpF i).map (gl g') = (kpF i).map γ ∧ c4u tt fr h fn.results.toList = some ((OF i).map (inA idf (gl g'))) ∧ HE h ((UF i).map (a3f idf (gl g')) ++ (a8h (UF i) I0).map (a3f idf γ))) :
  MethE P f m A0 I0 okι kpF (fun i => one1 (OF i)) UF := by
 have hok0' := hok0
 simp only [Bool.and_eq_true] at hok0'
 obtain ⟨⟨o1, o2⟩, o5⟩ := hok0'
 have hi1 : ∀ p ∈ I0, p.1 < m := fun p hp => a7r (List.all_eq_true.1 o1 p hp)
 have hi2 : ∀ i, i < m → ∃ ge, y4y I0 i = some ge := fun i hi => by
  have := List.all_eq_true.1 o2 i (b2a.2 hi)
  rw [a8o] at this
  exact Option.isSome_iff_exists.1 this
 refine ⟨⟨fn, c, hfn, hname, hb⟩, fun X B w vs γ hS hl hr => ?_, hok0, hok', ib, ub'⟩
 have hin : ∀ p ∈ I0.map (a3f idf γ), p.1 < m := fun p hp => by
  obtain ⟨q, hq, rfl⟩ := List.mem_map.1 hp
  exact hi1 q hq
 refine calls_of_wp hfn hb (wp_mono (hx γ X _ _ w (hS.more m k hin) (c8t (by rw [List.length_map]; exact hl) (by rw [List.length_map]; exact hn) hr) rfl) fun e a' w' hh => ?_)
 obtain ⟨fr', h', X', ⟨he, iι, hiι, g', hkp, hres, hw⟩, k2, k3, k4, k5, k6⟩ := hh
 have post0 : ∀ {kp : List Nat} {O0 : List AV} {U0 : Hp}, kpF iι = kp → OF iι = O0 → UF iι = U0 → ∃ kp O0 U0, kpF iι = kp ∧ OF iι = O0 ∧ UF iι = U0 := fun h1 h2 h3 => ⟨_, _, _, h1, h2, h3⟩
 obtain ⟨kp, O0, U0, ekp, eO, eU⟩ := post0 rfl rfl rfl
 have hok := hok' iι hiι
 have ub := ub' iι hiι
 have hbo := hbo' iι hiι
 rw [ekp] at hkp
 rw [ekp, eO, eU] at hok
 rw [eO] at hres hbo
 rw [eU] at hw ub
 simp only [d7t, Bool.and_eq_true] at hok
 have hu1 : ∀ p ∈ U0, p.1 < m := fun p hp => a7r (List.all_eq_true.1 hok.1.1.1.2 p hp)
 obtain ⟨us, g1, g2, g3⟩ := c1d htt k3 k4 hres
 obtain ⟨Y, S, q1, q2, q3, q4, q5⟩ := k3.trunc hi1 hi2 hu1 ib.all ub.all hw
 have hXY : X.le Y := by
  have out : ∀ i g, ¬ i < m → X.bx i g = none ∧ X.rw i g = none := fun i g hi => hS.hist i g (fun g' e h2 => by
   have := hin _ (a5d h2)
   exact absurd this hi)
  refine ⟨fun b h => by rw [q1]; exact k2.ok1 b h, fun b h => by rw [q2]; exact k2.ok2 b h, fun i g b h => ?_, fun i g b h => ?_⟩
  ·by_cases hi : i < m
   ·rw [(q3 i g hi).1]; exact k2.bx i g b h
   ·rw [(out i g hi).1] at h; cases h
  ·by_cases hi : i < m
   ·rw [(q3 i g hi).2]; exact k2.rw i g b h
   ·rw [(out i g hi).2] at h; cases h
 have g3' : ∀ (i : Nat) (b : AV) (v : Value), (O0.map (inA idf (gl g')))[i]? = some b → us[i]? = some v → VR Y w' b v :=
  c1i (fun a v ha h => d9b S k3.ok12 (List.all_eq_true.1 hbo a ha) h) g3
 have hkp' : ∀ i ∈ kp, gl g' i = γ i := fun i hi => by
  have := List.map_inj_left.1 hkp i hi
  exact this
 have post : a'.defers = [] ∧ ∃ v, (results fn a'.tmps).run P w' = .ok v w' ∧ ∃ i, okι i ∧ ∃ v', Ending.returned v = .returned v' ∧ ∃ γ' : Gn, (∀ k ∈ kpF i, γ' k = γ k) ∧ ∃ X', X.le X' ∧ SRh X' B (hf ((UF i).map (a3f idf γ') ++ (a8h (UF i) I0).map (a3f idf γ))) w' ∧ (∀ b, X.ok2 b → w'.heap[b]? = w.heap[b]?) ∧ VR X' w' (inT idf γ' (one1 (OF i))) v' := by
  refine ⟨k5, _, g1, iι, hiι, _, rfl, gl g', ?_⟩
  rw [ekp, eO, eU]
  refine ⟨hkp', Y, hXY, q5, k6, ?_⟩
  rw [List.length_map] at g2
  by_cases h1 : us.length = 1
  ·rw [dif_pos h1]
   obtain ⟨u, rfl⟩ := List.length_eq_one_iff.1 h1
   obtain ⟨b, rfl⟩ := List.length_eq_one_iff.1 (g2.symm.trans h1)
   have h0 := g3' 0 _ u rfl rfl
   have : inT idf (gl g') (one1 [b]) = inA idf (gl g') b := by
    have hbb := List.all_eq_true.1 hbo b (by simp)
    cases b with
    | tup cs => simp [e4i, d8y, d8x] at hbb
    | _ => rfl
   rw [this]; exact h0
  ·rw [dif_neg h1]
   have : one1 O0 = .tup O0 := by
    match O0, g2 with
    | [], _ => rfl
    | [b], hlo => exact absurd hlo h1
    | _ :: _ :: _, _ => rfl
   rw [this]
   exact .tup us (by rw [List.length_map]; exact g2) g3'
 rcases he with rfl | rfl
 ·exact post
 ·exact post
theorem a2s (htt : a1z P tt) (hfn : P.funcs[f]? = some fn) (hname : (fn.name == "runtime.NumGoroutine") = false) (hb : fn.body = some c) {kp : List Nat} {I0 U0 : Hp} {O0 : List AV} (m k : Nat) (hn : A0.length ≤ fn.ntmps)
  (hok : d7t m kp A0 I0 (one1 O0) U0 = true) (ib : BndH m I0) (ub : BndH m U0) (hbo : (O0.all (e4i m)) = true)
  (hx : ∀ γ : Gn, Ex P fn.ntmps c (b6s (A0.map (inT idf γ))) (I0.map (a3f idf γ) ++ a3x m k) fun e fr h => (e = .normal ∨ e = .ret) ∧ ∃ g' : List Nat, kp.map (gl g') = kp.map γ ∧ c4u tt fr h fn.results.toList = some (O0.map (inA idf (gl g'))) ∧ HE h (U0.map (a3f idf (gl g')) ++ (a8h U0 I0).map (a3f idf γ))) :
  Meth P f m kp A0 I0 (one1 O0) U0 := by
 have h := b5g (ι := Unit) (okι := fun _ => True) (kpF := fun _ => kp) (OF := fun _ => O0) (UF := fun _ => U0) htt hfn hname hb m k hn (f6r hok) (fun _ _ => hok) ib (fun _ _ => ub) (fun _ _ => hbo) (fun γ => (hx γ).mono fun e fr h ⟨h1, h2⟩ => ⟨h1, (), trivial, h2⟩)
 exact ⟨⟨h.fn, fun X B w vs γ a1 a2 a3 => (h.run X B w vs γ a1 a2 a3).mono fun e w' ⟨_, _, h4⟩ => h4⟩, hok, ib, ub⟩

theorem e9a
  (L gs : List Nat) (hM : Meth P f m kp A0 I0 O0 U0) (hf : evO fr x = some (.fn (.func f) fi cap)) (ha : evL (evO fr) args.toList = some avs) (he : fi ++ avs ++ cap = A0.map (inT (gl L) (gl gs))) (hn : L.Nodup) (hL : L.length = m)
  (hT : I0.map (a3f (gl L) (gl gs)) = T) (hi : InH h T) (ho : inT (gl L) (nx kp (gl gs)) O0 = out) (hw : U0.map (a3f (gl L) (nx kp (gl gs))) = W)
  (k : u4u P tt ops r ((d, out) :: fr) (W ++ h) ((ids T, ids W) :: lg) K) :
  u4u P tt ops (⟨some d, .call { callee := .value x, args := args, argTypes := at' }, ty, pos, af, none⟩ :: r) fr h lg K := by
 subst ho hw hT
 have hC := d9c hM L (gl gs) hn hL
 rw [← he] at hC
 refine a1b ?_; simp only [a0x, Opt, hf, ha]
 refine ⟨_, _, _, hC, hi, fun p hp => ?_, k⟩
 have hok := hM.ok
 simp only [d7t, Bool.and_eq_true] at hok
 obtain ⟨⟨⟨⟨⟨o1, o2⟩, o3⟩, o4⟩, o5⟩, o6⟩ := hok
 obtain ⟨q, hq, rfl⟩ := List.mem_map.1 hp
 have hq1 := a7r (List.all_eq_true.1 o3 q hq)
 have := List.all_eq_true.1 o2 q.1 (b2a.2 hq1)
 rw [a8o] at this
 obtain ⟨ge, hg⟩ := Option.isSome_iff_exists.1 this
 exact ⟨_, List.mem_map.2 ⟨(q.1, ge), a5d hg, rfl⟩⟩
end
section
variable {P : Program} {tt : TT} {ops : Array Oper} {r : List Oper} {fr : Fr} {h : Hp} {lg : Log} {K : Fr → Hp → Log → Prop} {d : Nat} {ty : TypeId} {pos : String} {af : Array Edge}
variable {id : Nat}
theorem e9b (hh : y4y h id = some (g, .row ty sz ys)) : src h (.ref id g) = some (sz, ys, [(id, (g, .row ty sz ys))]) := by simp [src, hh]
theorem y6y (hx : evO fr x = some (.ref id g)) (hy : evO fr y = some (.ref id2 g2)) (hs : tt t = some S) (hk : S.kind = .sl e) (he : tt e = some E) (h2 : Nat.ble 1 E.size = true) (h3 : Nat.ble 1 E.bytes = true) (hh : y4y h id = some (g, .row e E.size xs)) (hh2 : y4y h id2 = some (g2, .row ty2 E.size ys))
  (how : (ys.flatten.all fun c => !c.isOw) = true) (hz : xs ++ ys = zs) (h4 : zs.length * E.bytes ≤ 140737488355328) (k : u4u P tt ops r ((d, .ref id (g + 1)) :: fr) ((id, (g + 1, .row e E.size zs)) :: h) (([id, id2], [id]) :: lg) K) :
  u4u P tt ops (⟨some d, .call { callee := .builtin .append, args := #[x, y], argTypes := #[t, t] }, ty, pos, af, none⟩ :: r) fr h lg K :=
 d8w hx hy hs hk he h2 h3 hh (e9b hh2) how hz h4 k
theorem w6w (hx : evO fr x = some (.ref id g)) (hy : evO fr y = some (.row (.rd m) ty2 E.size ys)) (hs : tt t = some S) (hk : S.kind = .sl e) (he : tt e = some E) (h2 : Nat.ble 1 E.size = true) (h3 : Nat.ble 1 E.bytes = true) (hh : y4y h id = some (g, .row e E.size xs))
  (how : (ys.flatten.all fun c => !c.isOw) = true) (hz : xs ++ ys = zs) (h4 : zs.length * E.bytes ≤ 140737488355328) (k : u4u P tt ops r ((d, .ref id (g + 1)) :: fr) ((id, (g + 1, .row e E.size zs)) :: h) (([id], [id]) :: lg) K) :
  u4u P tt ops (⟨some d, .call { callee := .builtin .append, args := #[x, y], argTypes := #[t, t] }, ty, pos, af, none⟩ :: r) fr h lg K :=
 d8w hx hy hs hk he h2 h3 hh (T := []) rfl how hz h4 k
theorem a4i (hx : evO fr x = some (.ref id g)) (hs : tt t = some S) (hk : S.kind = .sl e) (hh : y4y h id = some (g, .row rty sz xs)) (hn : xs.length = n) (k : u4u P tt ops r ((d, .pv (.int .i64 (n : Int))) :: fr) h (([id], []) :: lg) K) :
  u4u P tt ops (⟨some d, .call { callee := .builtin .len, args := #[x], argTypes := #[t] }, ty, pos, af, none⟩ :: r) fr h lg K :=
 c8x hx hs hk (T := [(id, (g, .row rty sz xs))]) (by simp [e6x, hh]) (fun s hs => by cases hs) hn k
theorem u0u (f : α → List AV) (l : List α) (a : α) : l.map f ++ [f a] = (l ++ [a]).map f := by simp
theorem a7s (f : α → List AV) (l l' : List α) : l.map f ++ l'.map f = (l ++ l').map f := by simp
variable {α : Type}
theorem z8z {f : α → List AV} (hf : ∀ a, ((f a).all fun c => !c.isOw) = true) (l : List α) : ((l.map f).flatten.all fun c => !c.isOw) = true := by
 induction l with
 | nil => rfl
 | cons a l ih => rw [List.map_cons, List.flatten_cons, List.all_append, hf a, ih]; rfl

theorem Le.ow_map (l : List α) (hc : c = true → k = true) (hf : ∀ a, ((f a).all AV.cl) = true) : Le k (.row .ow ty sz (l.map f)) (.row (.rd c) ty sz (l.map f)) := by
 refine .ow hc rfl (fun j x x' h h' => ?_) (fun j i x x' y y' h h' hy hy' => ?_)
 ·rw [h] at h'; cases h'; rfl
 ·rw [h] at h'
  cases h'
  rw [hy] at hy'
  cases hy'
  rw [List.getElem?_map] at h
  cases hl : l[j]? with
  | none => rw [hl] at h; cases h
  | some a =>
   rw [hl] at h
   have : f a = x := by simpa using h
   have h2 := hf a
   rw [this, List.all_eq_true] at h2
   exact .cl (h2 y (List.mem_of_getElem? hy))
theorem Le.ow_map2 (l : List α) (hc : c = true → k = true) (hf : ∀ a, LeL k (f a) (f' a)) : Le k (.row .ow ty sz (l.map f)) (.row (.rd c) ty sz (l.map f')) := by
 have get : ∀ (j : Nat) (x x' : List AV), (l.map f)[j]? = some x → (l.map f')[j]? = some x' → ∃ a, f a = x ∧ f' a = x' := by
  intro j x x' h h'
  rw [List.getElem?_map] at h h'
  cases hl : l[j]? with
  | none => rw [hl] at h; cases h
  | some a =>
   rw [hl] at h h'
   exact ⟨a, by simpa using h, by simpa using h'⟩
 refine .ow hc (by simp) (fun j x x' h h' => ?_) (fun j i x x' y y' h h' hy hy' => ?_)
 ·obtain ⟨a, rfl, rfl⟩ := get j x x' h h'; exact (hf a).len
 ·obtain ⟨a, rfl, rfl⟩ := get j x x' h h'; exact (hf a).le i y y' hy hy'
theorem LeL.nil : LeL k [] [] := ⟨rfl, fun i y y' h => by simp at h⟩
theorem LeL.cons (h : Le k a b) (t : LeL k az bs) : LeL k (a :: az) (b :: bs) :=
 ⟨by simp [t.len], fun i y y' hy hy' => by
  cases i with
  | zero => simp at hy hy'; subst hy hy'; exact h
  | succ i => exact t.le i y y' (by simpa using hy) (by simpa using hy')⟩
variable {rs : List ResultVar} {g ty sz : Nat}
theorem e4j {f f' : α → List AV} {l l' : List α} (h1 : c4u tt fr h rs = some [.ref id g]) (hh : y4y h id = some (g, .row ty sz (l.map f))) (hf : ∀ a, LeL true (f a) (f' a)) (he : l = l') : ∃ l h', c4u tt fr h rs = some l ∧ FinL h l [.row (.rd true) ty sz (l'.map f')] h' := by
 subst he
 exact ⟨_, _, h1, .ref hh (Le.ow_map2 l (fun _ => rfl) hf) .nil⟩

theorem a4j {f : α → List AV} {l l' : List α} (h1 : c4u tt fr h rs = some [.ref id g]) (hh : y4y h id = some (g, .row ty sz (l.map f))) (hf : ∀ a, ((f a).all AV.cl) = true) (he : l = l') : ∃ l h', c4u tt fr h rs = some l ∧ FinL h l [.row (.rd true) ty sz (l'.map f)] h' := by
 subst he
 exact ⟨_, _, h1, .ref hh (Le.ow_map l (fun _ => rfl) hf) .nil⟩
theorem HE.row {h : Hp} {id g ty sz : Nat} {xs xs' : List (List AV)} {r : Hp} (he : y4y h id = some (g, .row ty sz xs)) (e : xs = xs') (t : HE h r) : HE h ((id, (g, .row ty sz xs')) :: r) := by subst e; exact .same he t
theorem HE.box {h : Hp} {id g ty : Nat} {xs xs' : List AV} {r : Hp} (he : y4y h id = some (g, .box ty xs)) (e : xs = xs') (t : HE h r) : HE h ((id, (g, .box ty xs')) :: r) := by subst e; exact .same he t
variable {x : Operand}
theorem c0i {f : α → List AV} {l : List α} {t e rty sz : Nat} {lo hi : Option Operand} {S E : TS} {m : Bool} {a b : Int} (hx : evO fr x = some (.row (.rd m) rty sz (l.map f))) (hs : tt t = some S) (hk : S.kind = .sl e) (he : tt e = some E) (hz : sz = E.size) (ha : e3q fr 0 lo = some a) (hb : e3q fr ((l.map f).length : Int) hi = some b) (h0 : 0 ≤ a) (h1 : a ≤ b) (h2 : b ≤ l.length)
  (k : u4u P tt ops r ((d, .row (.rd m) rty sz (((l.take b.toNat).drop a.toNat).map f)) :: fr) h (([], []) :: lg) K) : u4u P tt ops (⟨some d, .slice t x lo hi none, ty, pos, af, none⟩ :: r) fr h lg K := by
 refine a1b ?_; simp only [a0x, Opt, hx, hs, hk, he, ha, hb]
 refine ⟨hz, h0, h1, by simpa using h2, ?_⟩
 rw [← List.map_take, ← List.map_drop]
 exact k

theorem a0g (w' : Value) (hx : evO fr x = some (.pv u)) (hy : evO fr y = some (.pv v)) (hv : d7r op u v = some w) (e : w = w') (k : u4u P tt ops r ((d, .pv w') :: fr) h (([], []) :: lg) K) : u4u P tt ops (⟨some d, .binOp op t x y t', ty, pos, af, none⟩ :: r) fr h lg K := by
 subst e; exact u7u hx hy hv k
theorem e4k (w' : Int) (hx : evO fr x = some (.pv (.int kd n))) (hs : tt s = some S) (ht : tt t = some D) (h0 : S.kind = .int k0) (h1 : D.kind = .int k') (e : k'.wrap n = w') (k : u4u P tt ops r ((d, .pv (.int k' w')) :: fr) h (([], []) :: lg) K) :
  u4u P tt ops (⟨some d, .convert s t x, ty, pos, af, none⟩ :: r) fr h lg K := by
 subst e; exact e8w hx hs ht h0 h1 k
theorem a8v (hk : k = .i64) (e : n = m) (h0 : -9223372036854775808 ≤ n) (h1 : n < 9223372036854775808) : Value.int k (k.wrap n) = .int k m := by
 subst hk e; rw [x9x h0 h1]
variable {t t' : Nat} {y : Operand}
theorem x7x {a b : Nat} (hx : evO fr x = some (.pv (.int .i64 (a : Int)))) (hy : evO fr y = some (.pv (.int .i64 (b : Int)))) (hb : a + b < 9223372036854775808) (k : u4u P tt ops r ((d, .pv (.int .i64 ((a + b : Nat) : Int))) :: fr) h (([], []) :: lg) K) : u4u P tt ops (⟨some d, .binOp .add t x y t', ty, pos, af, none⟩ :: r) fr h lg K :=
 a0g _ hx hy rfl (a8v rfl (by omega) (by omega) (by omega)) k
theorem r1r {a b : Nat} (hx : evO fr x = some (.pv (.int .i64 (a : Int)))) (hy : evO fr y = some (.pv (.int .i64 (b : Int)))) (hb : b ≤ a) (ha : a < 9223372036854775808) (k : u4u P tt ops r ((d, .pv (.int .i64 ((a - b : Nat) : Int))) :: fr) h (([], []) :: lg) K) : u4u P tt ops (⟨some d, .binOp .sub t x y t', ty, pos, af, none⟩ :: r) fr h lg K :=
 a0g _ hx hy rfl (a8v rfl (by omega) (by omega) (by omega)) k
theorem b8m {a b : Nat} (hx : evO fr x = some (.pv (.int .i64 (a : Int)))) (hy : evO fr y = some (.pv (.int .i64 (b : Int)))) (hb : a * b < 9223372036854775808) (k : u4u P tt ops r ((d, .pv (.int .i64 ((a * b : Nat) : Int))) :: fr) h (([], []) :: lg) K) : u4u P tt ops (⟨some d, .binOp .mul t x y t', ty, pos, af, none⟩ :: r) fr h lg K := by
 have e : (a : Int) * (b : Int) = ((a * b : Nat) : Int) := by simp
 exact a0g _ hx hy rfl (a8v rfl e (by omega) (by omega)) k
theorem c6b {a b : Nat} (hx : evO fr x = some (.pv (.int .i64 (a : Int)))) (hy : evO fr y = some (.pv (.int .i64 (b : Int)))) (hb : b ≠ 0) (k : u4u P tt ops r ((d, .pv (.int .i64 ((a % b : Nat) : Int))) :: fr) h (([], []) :: lg) K) : u4u P tt ops (⟨some d, .binOp .rem t x y t', ty, pos, af, none⟩ :: r) fr h lg K := by
 have hb' : ¬ (b : Int) = 0 := by omega
 have e : ((a % b : Nat) : Int) = (a : Int).tmod (b : Int) := (IntWalk.up_tmod rfl rfl).symm
 exact u7u hx hy (by simp only [d7r, if_true, hb', if_false]; rw [e]) k
theorem d1x {a b : Nat} (hx : evO fr x = some (.pv (.int .i64 (a : Int)))) (hy : evO fr y = some (.pv (.int .i64 (b : Int)))) (hb : b ≠ 0) (ha : a < 9223372036854775808) (k : u4u P tt ops r ((d, .pv (.int .i64 ((a / b : Nat) : Int))) :: fr) h (([], []) :: lg) K) : u4u P tt ops (⟨some d, .binOp .quo t x y t', ty, pos, af, none⟩ :: r) fr h lg K := by
 have hb' : ¬ (b : Int) = 0 := by omega
 have e : (a : Int).tdiv (b : Int) = ((a / b : Nat) : Int) := IntWalk.up_tdiv rfl rfl
 have h2 := Nat.div_le_self a b
 refine u7u hx hy (w := .int .i64 ((a / b : Nat) : Int)) ?_ k
 simp only [d7r, if_true, hb', if_false]
 rw [e]
 generalize a / b = q at h2 ⊢
 rw [x9x (by omega) (by omega)]
theorem e9c {a b : Nat} (hx : evO fr x = some (.pv (.int .i64 (a : Int)))) (hy : evO fr y = some (.pv (.int .i64 (b : Int)))) (ha : a < 9223372036854775808) (hb : b < 9223372036854775808) (k : u4u P tt ops r ((d, .pv (.int .i64 ((a ^^^ b : Nat) : Int))) :: fr) h (([], []) :: lg) K) : u4u P tt ops (⟨some d, .binOp .xor t x y t', ty, pos, af, none⟩ :: r) fr h lg K := by
 have h2 : a ^^^ b < 2 ^ 63 := Nat.xor_lt_two_pow (by omega) (by omega)
 have e : (BitVec.ofInt IntKind.i64.bits (a : Int) ^^^ BitVec.ofInt IntKind.i64.bits (b : Int)).toNat = a ^^^ b := by
  have e1 : IntKind.i64.bits = 64 := rfl
  rw [BitVec.toNat_xor, BitVec.toNat_ofInt, BitVec.toNat_ofInt, e1]
  have p : (2 : Int) ^ 64 = 18446744073709551616 := by decide
  congr 1
  ·have : ((a : Int) % ((2 ^ 64 : Nat) : Int)).toNat = a := by omega
   exact this
  ·have : ((b : Int) % ((2 ^ 64 : Nat) : Int)).toNat = b := by omega
   exact this
 refine u7u hx hy (w := .int .i64 ((a ^^^ b : Nat) : Int)) ?_ k
 simp only [d7r, if_true, e]
 rw [x9x (by omega) (by omega)]
theorem c6d {s t : Nat} {a : Nat} (hx : evO fr x = some (.pv (.int kd (a : Int)))) (hs : tt s = some S) (ht : tt t = some D) (h0 : S.kind = .int k0) (h1 : D.kind = .int .i64) (ha : a < 9223372036854775808) (k : u4u P tt ops r ((d, .pv (.int .i64 (a : Int))) :: fr) h (([], []) :: lg) K) :
  u4u P tt ops (⟨some d, .convert s t x, ty, pos, af, none⟩ :: r) fr h lg K :=
 e4k _ hx hs ht h0 h1 (x9x (by omega) (by omega)) k

theorem a8w {tt : TT} (h1 : c4u tt fr h rs = some [.agg cs]) (he : cs = cs') (hc : (cs'.all AV.cl) = true) (ho : (cs'.all AV.one) = true) : ∃ l h', c4u tt fr h rs = some l ∧ FinL h l [.agg cs'] h' := by
 subst he
 exact ⟨_, _, h1, .agg ho (FinL.pvs hc) .nil⟩
end
section
variable {P : Program}
abbrev pI (n : Int) : AV := .pv (.int .i64 n)
def c4z (P : Program) (f : Field) (i : Nat) : Bool := f.name != "_" && f.offset == i && (match P.underlying f.type with
 | some (.int .i64) => true
 | _ => false)
theorem d3w {f : Field} {i : Nat} (hf : c4z P f i = true) (w : World) {xs : List Value} {v : Value} (hv : xs[i]? = some v) : (part f.type xs.toArray f.offset).run P w = .ok v w := by
 simp only [c4z, Bool.and_eq_true, beq_iff_eq] at hf
 obtain ⟨⟨h1, h2⟩, h3⟩ := hf
 split at h3
 ·rename_i hu
  have hag : (isAgg f.type).run P w = .ok false w := by
   unfold isAgg
   rw [Sem.run_bind, run_underlying hu w]
   simp [TypeDesc.isRow]
  subst h2
  simp [part, hag, hv]
 ·cases h3
theorem b6z (d : Nat) (w : World) : ∀ (fs : List Field) (i : Nat) (az bs : List Int), (fs.zipIdx i).all (fun p => c4z P p.1 p.2) = true → az.length = i + fs.length → bs.length = i + fs.length →
  (Op.eqFields (d + 1) (az.map (Value.int .i64)).toArray (bs.map (Value.int .i64)).toArray fs).run P w = .ok (az.drop i == bs.drop i) w
 | [], i, az, bs, _, h1, h2 => by
  rw [List.drop_of_length_le (by simp at h1; omega), List.drop_of_length_le (by simp at h2; omega)]
  simp [Op.eqFields]
 | f :: fs, i, az, bs, hf, h1, h2 => by
  rw [List.zipIdx_cons, List.all_cons, Bool.and_eq_true] at hf
  obtain ⟨hf0, hf⟩ := hf
  have la : i < az.length := by simp at h1; omega
  have lb : i < bs.length := by simp at h2; omega
  have ih := b6z d w fs (i + 1) az bs hf (by simp at h1 ⊢; omega) (by simp at h2 ⊢; omega)
  have pa := d3w hf0 w (xs := az.map (Value.int .i64)) (v := .int .i64 az[i]) (by simp [la])
  have pb := d3w hf0 w (xs := bs.map (Value.int .i64)) (v := .int .i64 bs[i]) (by simp [lb])
  have hn : f.name ≠ "_" := by
   simp only [c4z, Bool.and_eq_true] at hf0
   simpa using hf0.1.1
  have hu : P.underlying f.type = some (.int .i64) := by
   simp only [c4z, Bool.and_eq_true] at hf0
   have := hf0.2
   split at this
   ·assumption
   ·cases this
  rw [List.drop_eq_getElem_cons la, List.drop_eq_getElem_cons lb]
  simp only [Op.eqFields, if_pos hn, Sem.run_bind, pa, pb, Result.andThen_ok, run_equalIn_int w d f.type .i64 .i64 _ _ hu, List.cons_beq_cons]
  cases hc : (az[i] == bs[i])
  ·simp
  ·simpa using ih

theorem d3x (hu : P.underlying t = some (.struct fs)) (hp : P.stoodInHeld t = false) (hm : P.eqGuardType P.depth t = false) (hf : (fs.toList.zipIdx 0).all (fun p => c4z P p.1 p.2) = true) (x y : Operand) (az bs : List Int) (h1 : az.length = fs.size) (h2 : bs.length = fs.size) :
  EqA P t x y (.agg (az.map pI)) (.agg (bs.map pI)) (az == bs) := by
 intro X w u v h12 hu' hv' op hop
 have conv : ∀ (l : List Int) (us : List Value), VRs X w (l.map pI) us → us = l.map (Value.int .i64) := by
  intro l
  induction l with
  | nil => intro us h; exact List.eq_nil_of_length_eq_zero (by simpa using h.len)
  | cons a l ih =>
   intro us h
   cases us with
   | nil => have := h.len; simp at this
   | cons z zs =>
    have e1 : z = .int .i64 a := (h.rel 0 (pI a) z rfl rfl).pv_inv
    rw [List.map_cons, ← ih zs h.tail, e1]
 obtain ⟨us, rfl, hus⟩ := hu'.agg_inv
 obtain ⟨vs, rfl, hvs⟩ := hv'.agg_inv
 rw [conv _ _ hus, conv _ _ hvs]
 have e := b6z (P := P) 9998 w fs.toList 0 az bs hf (by simpa using h1) (by simpa using h2)
 have hfo : P.fieldsOf t = fs := by simp [Program.fieldsOf, hu]
 have he : (Op.equalIn 10000 t (.agg (az.map (Value.int .i64)).toArray) (.agg (bs.map (Value.int .i64)).toArray)).run P w = .ok (az == bs) w := by
  rw [run_equalIn_struct (P := P) w 9999 t _ _ (by rw [hfo]; exact hu) hp, hfo]
  simpa using e
 rw [Sem.run_bind, run_eqGuard_agg w op t x y _ _ hm, Result.andThen_ok]
 rcases hop with rfl | rfl
 ·rw [run_eql_struct, he]; rfl
 ·rw [run_neq_struct, he]; rfl

theorem d9e (t : Nat) (ht : fr.get t = some (.row (.rd m) ty sz xs)) (hx : xs.length ≤ 9223372036854775807 → Ex P n c fr h Q) : Ex P n c fr h Q := fun X B a w hS hF hd => by
 obtain ⟨v, h1, h2⟩ := hF.slot t _ ht
 obtain ⟨A, cp, u, e, g1, g2, _⟩ := h2.row_inv
 refine hx ?_ X B a w hS hF hd
 unfold maxLen at g2
 omega
theorem u9u {α : Type} {f : α → List AV} {l : List α} {n : Nat} {c : Code} {fr : Fr} {h : Hp} {Q : Exit → Fr → Hp → Prop} (t : Nat) {m : Bool} {ty sz : Nat} (ht : fr.get t = some (.row (.rd m) ty sz (l.map f))) (hx : l.length ≤ 9223372036854775807 → Ex P n c fr h Q) : Ex P n c fr h Q :=
 d9e t ht (fun hl => hx (by rwa [List.length_map] at hl))
end
section
variable {P : Program}
variable {n : Nat} {fr : Fr} {h : Hp} {Q : Exit → Fr → Hp → Prop}
theorem HE.app (ka : HE h a) (kb : HE h b) : HE h (a ++ b) := by
 induction ka with
 | nil => exact kb
 | same he _ ih => exact .same he ih
 | kill he _ ih => exact .kill he ih
theorem Fr.get_app (a b : Fr) (t : Nat) : Fr.get (a ++ b) t = match a.get t with
  | some v => some v
  | none => b.get t := by
 induction a with
 | nil => rfl
 | cons p a ih =>
  obtain ⟨k, v⟩ := p
  rw [List.cons_append, Fr.get_cons, Fr.get_cons]
  split
  ·rfl
  ·exact ih
theorem Cov.app (ka : Cov a f) (kb : Cov b f) : Cov (a ++ b) f := fun t av hg => by
 rw [Fr.get_app] at hg
 cases ha : a.get t with
 | some v => rw [ha] at hg; cases hg; exact ka t _ ha
 | none => rw [ha] at hg; exact kb t av hg

abbrev f6s {ι : Type} (uF : ι → Gn → Fr) (uH : ι → Gn → Hp) (ok : ι → Prop) (bs : Fr) (bh : Hp) (fr' : Fr) (h' : Hp) : Prop :=
 ∃ i, ok i ∧ ∃ g' : List Nat, Cov (uF i (gl g')) fr' ∧ Cov bs fr' ∧ HE h' (uH i (gl g')) ∧ HE h' bh ∧ f4v h' (uH i (gl g') ++ bh) = true
theorem x5x (uF : ι → Gn → Fr) (uH : ι → Gn → Hp) (ok : ι → Prop) (μ : ι → Nat) (kf : Cov bs fr) (kh : HE h bh) (i0 : ι) (h0 : ok i0) (g0 : List Nat) (cf : Cov (uF i0 (gl g0)) fr) (ch : HE h (uH i0 (gl g0))) (hd : f4v h (uH i0 (gl g0) ++ bh) = true)
  (step : ∀ i γ, ok i → Ex P n c (uF i γ ++ bs) (uH i γ ++ bh) (c1b (f6s uF uH (fun i' => ok i' ∧ μ i' < μ i) bs bh) Q)) : Ex P n (.loop c) fr h Q :=
 e8s (ι := ι × Gn) (fun p => uF p.1 p.2 ++ bs) (fun p => uH p.1 p.2 ++ bh) (fun p => ok p.1) (fun p => μ p.1) (i0, gl g0) h0 (cf.app kf) (HE.hw (ch.app kh) hd) fun p hp => (step p.1 p.2 hp).mono fun e fr' h' hq => by
  cases e with
  | normal =>
   obtain ⟨i', ⟨h1, h2⟩, g', h3, h4, h5, h6, h7⟩ := hq
   exact ⟨(i', gl g'), h1, h2, h3.app h4, HE.hw (h5.app h6) h7⟩
  | _ => exact hq
theorem q8q (uF : ι → Gn → Fr) (uH : ι → Gn → Hp) (ok : ι → Prop) (kf : Cov bs fr) (kh : HE h bh)
  (h1 : Ex P n c fr h (c1b (f6s uF uH ok bs bh) Q)) (h2 : ∀ i γ, ok i → Ex P n d (uF i γ ++ bs) (uH i γ ++ bh) Q) : Ex P n (.seq c d) fr h Q :=
 c4t _ h1 fun fr' h' ⟨i, k1, g', k2, k3, k4, k5, k6⟩ => e8r (k2.app k3) (HE.hw (k4.app k5) k6) (h2 i (gl g') k1)

theorem d3y (t : Nat) (ht : fr.get t = some a) (hf' : FinL h [a] [b] h') (hx : Ex P n c ((t, b) :: fr) h' Q) : Ex P n c fr h Q := fun X B A w hS hF hd => by
 obtain ⟨v, g1, g2⟩ := hF.slot t a ht
 obtain ⟨Y, k1, k2, k3⟩ := hf'.sound hS (vs := [v]) rfl (fun i a' v' ha hv => by
  cases i with
  | zero => simp only [List.getElem?_cons_zero, Option.some.injEq] at ha hv; subst ha hv; exact g2
  | succ i => simp at ha)
 have hF' : FrOK Y w n (Fr.get ((t, b) :: fr)) A := by
  refine ⟨hF.size, fun k av hk => ?_⟩
  rw [Fr.get_cons] at hk
  split at hk
  ·rename_i e; subst e; cases hk
   exact ⟨v, g1, .cl (k3 0 b v rfl rfl)⟩
  ·obtain ⟨u, q1, q2⟩ := hF.slot k av hk
   exact ⟨u, q1, q2.mono k1 hS.ok12 (fun _ _ => rfl)⟩
 refine wp_mono (hx Y B A w k2 hF' hd) fun e a' w' ⟨fr', h'', X', q1, q2, q3, q4, q5, q6⟩ => ⟨fr', h'', X', q1, k1.trans q2, q3, q4, q5, fun b hb => q6 b (k1.ok2 b hb)⟩
theorem TRs.mid (h : TRs X w (cs1 ++ c :: cs2) us S) : ∃ us1 v us2 S1 S0 S2, us = us1 ++ v :: us2 ∧ S = S1 ++ (S0 ++ S2) ∧ us1.length = cs1.length ∧ TRs X w cs1 us1 S1 ∧ TRs X w [c] [v] S0 ∧ TRs X w cs2 us2 S2 := by
 obtain ⟨us1, us', S1, S', rfl, rfl, k1, k2⟩ := h.split
 obtain ⟨us0, us2, S0, S2, rfl, rfl, k3, k4⟩ := TRs.split (cs := [c]) k2
 have := k3.len
 match us0, this with
 | [v], _ => exact ⟨us1, v, us2, S1, S0, S2, rfl, rfl, k1.len, k1, k3, k4⟩
theorem TRs.ow1 (h : TRs X w [.row .ow ty sz ys] [v] S) : ∃ ws S', S = (a9h v).toList ++ S' ∧ Own w ty sz v ys.length ws ∧ Lens sz ys ∧ TRs X.bare w ys.flatten ws S' := by
 generalize hl : [AV.row .ow ty sz ys] = l at h
 cases h with
 | vr h1 h2 => cases hl; simp [AV.isOw] at h2
 | own ho hlen hi t =>
  cases hl
  cases t
  exact ⟨_, _, by simp, ho, hlen, hi⟩
theorem d6j (hl : Lens sz xs) (hx : xs[i]? = some x) (hc : x[off]? = some c) :
  xs.flatten = xs.flatten.take (i * sz + off) ++ c :: xs.flatten.drop (i * sz + off + 1) ∧ ∀ c', (xs.set i (x.set off c')).flatten = xs.flatten.take (i * sz + off) ++ c' :: xs.flatten.drop (i * sz + off + 1) := by
 have hxl := hl i x hx
 have hi := (List.getElem?_eq_some_iff.1 hx).1
 have ho := (List.getElem?_eq_some_iff.1 hc).1
 have hf := b6k xs i off x c hl hx hc
 obtain ⟨hp, he⟩ := List.getElem?_eq_some_iff.1 hf
 refine ⟨?_, fun c' => ?_⟩
 ·rw [← he, List.getElem_cons_drop, List.take_append_drop]
 ·rw [b0j xs i _ hl hi]
  have h2 := b0j xs i x hl hi
  have h3 : xs.set i x = xs := by
   apply List.ext_getElem?
   intro k
   rw [List.getElem?_set]
   split
   ·rename_i e; subst e; first | rw [hx] | rw [if_pos hi, hx]
   ·rfl
  rw [h3] at h2
  have l1 : (xs.flatten.take (i * sz)).length = i * sz := by
   have := (List.getElem?_eq_some_iff.1 hf).1
   rw [List.length_take]; omega
  have e1 : xs.flatten.take (i * sz + off) = xs.flatten.take (i * sz) ++ x.take off := by
   conv => lhs; rw [h2]
   rw [List.append_assoc, List.take_append, l1, List.take_of_length_le (by omega), List.take_append_of_le_length (by omega)]
   congr 2; omega
  have e2 : xs.flatten.drop (i * sz + off + 1) = x.drop (off + 1) ++ xs.flatten.drop (i * sz + sz) := by
   conv => lhs; rw [h2]
   rw [List.append_assoc, List.drop_append, l1, List.drop_of_length_le (by omega), List.nil_append, List.drop_append_of_le_length (by omega)]
   congr 2; omega
  rw [e1, e2, List.set_eq_take_append_cons_drop, if_pos ho]
  simp
variable {ty2 sz2 : Nat} {ys : List (List AV)}

theorem SRf.splitCell {X : Cx} {B : Base} {h : HF} {F : Nat → List Nat} {w : World} (H : SRf X B h F w) {id g id' g' : Nat} {e : Ent} (he : h id = some (g, e)) (hd : h id' = some (g', .dead)) (hne : id ≠ id') {cs1 cs2 : List AV} {e' : Ent}
  (hin : ∀ f, EntOK X w id g f e → ∃ (us : List Value) (S S0 : List Nat), TRs X w (cs1 ++ .row .ow ty2 sz2 ys :: cs2) us S ∧ (S0 ++ S).Nodup ∧ (∀ c ∈ S0 ++ S, c ∈ f) ∧ ∀ (Y : Cx) S', X.le Y → TRs Y w (cs1 ++ .ref id' (g' + 1) :: cs2) us S' → (S0 ++ S').Nodup → EntOK Y w id g (S0 ++ S') e') :
  ∃ Y, X.le Y ∧ Y.ok2 = X.ok2 ∧ SRh Y B (upd (upd h id' (g' + 1, .row ty2 sz2 ys)) id (g, e')) w := by
 obtain ⟨us, S, S0, k1, k2, k3, k4⟩ := hin _ (H.ent id g e he)
 obtain ⟨us1, v, us2, S1, Sm, S2, rfl, rfl, l1, t1, tm, t2⟩ := k1.mid
 obtain ⟨ws, S', rfl, o1, o2, o3⟩ := tm.ow1
 have hfree := H.free hd
 let Y := X.setR id' (g' + 1) (v, sz2)
 have hX : X.le Y := Cx.le_setR hfree.2
 obtain ⟨A, nn, c, hv⟩ : ∃ A nn c, v = .slice A nn c := by
  rcases o1.2 with ⟨A, e1, _⟩ | ⟨b, cap, cur, e1, _⟩ <;> exact ⟨_, _, _, e1⟩
 have hnd := List.nodup_append.1 k2
 have hnd2 := List.nodup_append.1 hnd.2.1
 have hnd3 := List.nodup_append.1 hnd2.2.1
 have hS13 : (S0 ++ (S1 ++ S2)).Nodup := by
  refine List.nodup_append.2 ⟨hnd.1, List.nodup_append.2 ⟨hnd2.1, hnd3.2.1, fun a ha b hb => hnd2.2.2 a ha b (List.mem_append_right _ hb)⟩, fun a ha b hb => hnd.2.2 a ha b ?_⟩
  rcases List.mem_append.1 hb with hb | hb
  ·exact List.mem_append_left _ hb
  ·exact List.mem_append_right _ (List.mem_append_right _ hb)
 have tr : TRs Y w (cs1 ++ .ref id' (g' + 1) :: cs2) (us1 ++ v :: us2) (S1 ++ S2) := by
  have q1 := t1.mono hX H.ok12 (fun _ _ => rfl) (fun _ _ => rfl)
  have q2 := t2.mono hX H.ok12 (fun _ _ => rfl) (fun _ _ => rfl)
  subst hv
  exact q1.append (.vr rfl rfl VR.setR q2)
 have hE := k4 Y (S1 ++ S2) hX tr hS13
 have hown : ∀ c ∈ (a9h v).toList ++ S', c ∈ F id := fun c hc => k3 c (List.mem_append_right _ (List.mem_append_right _ (List.mem_append_left _ hc)))
 have b5m : ∀ c ∈ S0 ++ (S1 ++ S2), c ∈ F id := fun c hc => by
  rcases List.mem_append.1 hc with hc | hc
  ·exact k3 c (List.mem_append_left _ hc)
  ·rcases List.mem_append.1 hc with hc | hc
   ·exact k3 c (List.mem_append_right _ (List.mem_append_left _ hc))
   ·exact k3 c (List.mem_append_right _ (List.mem_append_right _ (List.mem_append_right _ hc)))
 have hdisj : ∀ c ∈ S0 ++ (S1 ++ S2), c ∉ (a9h v).toList ++ S' := fun c hc hc' => by
  rcases List.mem_append.1 hc with hc | hc
  ·exact hnd.2.2 c hc c (List.mem_append_right _ (List.mem_append_left _ hc')) rfl
  ·rcases List.mem_append.1 hc with hc | hc
   ·exact hnd2.2.2 c hc c (List.mem_append_left _ hc') rfl
   ·exact hnd3.2.2 c hc' c hc rfl
 let F' := b0f (b0f F id' ((a9h v).toList ++ S')) id (S0 ++ (S1 ++ S2))
 have f1 : F' id = S0 ++ (S1 ++ S2) := by simp [F', b0f]
 have f2 : F' id' = (a9h v).toList ++ S' := by simp [F', b0f, Ne.symm hne]
 have f3 : ∀ k, k ≠ id → k ≠ id' → F' k = F k := fun k h1 h2 => by simp [F', b0f, h1, h2]
 have u1 : (upd (upd h id' (g' + 1, .row ty2 sz2 ys)) id (g, e')) id = some (g, e') := a4x _ _ _
 have u2 : (upd (upd h id' (g' + 1, .row ty2 sz2 ys)) id (g, e')) id' = some (g' + 1, .row ty2 sz2 ys) := by rw [w1w _ (Ne.symm hne), a4x]
 have u3 : ∀ k, k ≠ id → k ≠ id' → (upd (upd h id' (g' + 1, .row ty2 sz2 ys)) id (g, e')) k = h k := fun k h1 h2 => by rw [w1w _ h1, w1w _ h2]
 have mem : ∀ k ge b, (upd (upd h id' (g' + 1, .row ty2 sz2 ys)) id (g, e')) k = some ge → b ∈ F' k → (k = id ∧ b ∈ S0 ++ (S1 ++ S2)) ∨ (k = id' ∧ b ∈ (a9h v).toList ++ S') ∨ (k ≠ id ∧ k ≠ id' ∧ h k = some ge ∧ b ∈ F k) := fun k ge b hk hb => by
  by_cases h1 : k = id
  ·subst h1; rw [f1] at hb; exact .inl ⟨rfl, hb⟩
  ·by_cases h2 : k = id'
   ·subst h2; rw [f2] at hb; exact .inr (.inl ⟨rfl, hb⟩)
   ·rw [u3 k h1 h2] at hk; rw [f3 k h1 h2] at hb; exact .inr (.inr ⟨h1, h2, hk, hb⟩)
 have inF : ∀ k ge b, (upd (upd h id' (g' + 1, .row ty2 sz2 ys)) id (g, e')) k = some ge → b ∈ F' k → ∃ j ge', h j = some ge' ∧ b ∈ F j := fun k ge b hk hb => by
  rcases mem k ge b hk hb with ⟨_, h1⟩ | ⟨_, h1⟩ | ⟨_, _, h1, h2⟩
  ·exact ⟨id, _, he, b5m b h1⟩
  ·exact ⟨id, _, he, hown b h1⟩
  ·exact ⟨k, ge, h1, h2⟩
 refine ⟨Y, hX, rfl, F', ?_, ?_, ?_, ?_, H.ok12, H.in1, H.in2, ?_, ?_, H.os, H.tape, H.output, H.size, H.keep⟩
 ·intro k gk ek hk
  by_cases h1 : k = id
  ·subst h1; rw [u1] at hk; cases hk; rw [f1]; exact hE
  ·by_cases h2 : k = id'
   ·subst h2; rw [u2] at hk; cases hk; rw [f2]
    refine ⟨v, ws, S', by simp [Y, Cx.setR], o1, o2, o3.mono ⟨fun _ h => h, fun _ h => h, fun _ _ _ h => (by cases h), fun _ _ _ h => (by cases h)⟩ H.ok12 (fun _ _ => rfl) (fun _ _ => rfl), hnd3.1, fun c hc => hc⟩
   ·rw [u3 k h1 h2] at hk; rw [f3 k h1 h2]
    exact (H.ent k gk ek hk).mono hX H.ok12 (fun _ _ => rfl) (fun _ _ => rfl)
 ·intro k ge b hk hb
  obtain ⟨j, ge', h1, h2⟩ := inF k ge b hk hb
  exact H.blk j ge' b h1 h2
 ·intro k j ge ge' b hk hj hb hb'
  rcases mem k ge b hk hb with ⟨q1, q2⟩ | ⟨q1, q2⟩ | ⟨q1, q2, q3, q4⟩ <;> rcases mem j ge' b hj hb' with ⟨r1, r2⟩ | ⟨r1, r2⟩ | ⟨r1, r2, r3, r4⟩
  ·rw [q1, r1]
  ·exact absurd r2 (hdisj b q2)
  ·exact absurd (H.sep _ _ _ _ b he r3 (b5m b q2) r4) (Ne.symm r1)
  ·exact absurd q2 (hdisj b r2)
  ·rw [q1, r1]
  ·exact absurd (H.sep _ _ _ _ b he r3 (hown b q2) r4) (Ne.symm r1)
  ·exact absurd (H.sep _ _ _ _ b q3 he q4 (b5m b r2)) q1
  ·exact absurd (H.sep _ _ _ _ b q3 he q4 (hown b r2)) q1
  ·exact H.sep _ _ _ _ b q3 r3 q4 r4
 ·refine fun b hb => ⟨(H.ok2 b hb).1, fun k ge hk hbk => ?_⟩
  obtain ⟨j, ge', h1, h2⟩ := inF k ge b hk hbk
  exact (H.ok2 b hb).2 j ge' h1 h2
 ·intro k ge b hk hb
  obtain ⟨j, ge', h1, h2⟩ := inF k ge b hk hb
  exact H.own j ge' b h1 h2
 ·intro k gk hk
  by_cases h2 : k = id'
  ·subst h2
   have hg : g' + 1 < gk := hk _ _ u2
   have := H.hist k gk (fun g2 e2 hh => by rw [hd] at hh; cases hh; omega)
   refine ⟨this.1, ?_⟩
   show (X.setR k (g' + 1) (v, sz2)).rw k gk = none
   simp only [Cx.setR]
   rw [if_neg (by omega)]
   exact this.2
  ·have := H.hist k gk (fun g2 e2 hh => by
    by_cases h1 : k = id
    ·subst h1; rw [he] at hh; cases hh; exact hk _ e' u1
    ·exact hk g2 e2 (by rw [u3 k h1 h2]; exact hh))
   refine ⟨this.1, ?_⟩
   show (X.setR id' (g' + 1) (v, sz2)).rw k gk = none
   simp only [Cx.setR]
   rw [if_neg (fun h => h2 h.1)]
   exact this.2
theorem hf2 (h : Hp) (i j : Nat) (p q : Nat × Ent) : hf ((i, p) :: (j, q) :: h) = upd (upd (hf h) j q) i p := by rw [a3g, a3g]
theorem a5e (hk : ∀ (X : Cx) (B : Base) (w : World), SRh X B (hf h) w → ∃ Y, X.le Y ∧ Y.ok2 = X.ok2 ∧ SRh Y B (hf h') w) (hx : Ex P n c fr h' Q) : Ex P n c fr h Q := fun X B a w hS hF hd => by
 obtain ⟨Y, k1, k2, k3⟩ := hk X B w hS
 refine wp_mono (hx Y B a w k3 (hF.mono k1 hS.ok12 (fun _ _ => rfl)) hd) fun e a' w' ⟨fr', h'', X', q1, q2, q3, q4, q5, q6⟩ => ⟨fr', h'', X', q1, k1.trans q2, q3, q4, q5, fun b hb => q6 b (by rw [k2]; exact hb)⟩
theorem d9f {c : Code} (id i off id' : Nat) {g g' ty sz ty2 sz2 : Nat} {xs ys : List (List AV)} {x : List AV} (hh : y4y h id = some (g, .row ty sz xs)) (hx : xs[i]? = some x) (hc : x[off]? = some (.row .ow ty2 sz2 ys)) (hd : y4y h id' = some (g', .dead)) (hne : Nat.beq id id' = false)
  (k : Ex P n c fr ((id, (g, .row ty sz (xs.set i (x.set off (.ref id' (g' + 1)))))) :: (id', (g' + 1, .row ty2 sz2 ys)) :: h) Q) : Ex P n c fr h Q := by
 have hne' : id ≠ id' := fun e => by subst e; rw [Nat.beq_refl] at hne; cases hne
 refine a5e (fun X B w hS => ?_) k
 obtain ⟨F, hS⟩ := hS
 rw [hf2]
 refine hS.splitCell (e := .row ty sz xs) (cs1 := xs.flatten.take (i * sz + off)) (cs2 := xs.flatten.drop (i * sz + off + 1)) hh hd hne' fun f hE => ?_
 obtain ⟨v, us, S, h1, h2, h3, h4, h5, h6⟩ := hE
 obtain ⟨p1, p2⟩ := d6j h3 hx hc
 refine ⟨us, S, (a9h v).toList, by rw [← p1]; exact h4, h5, h6, fun Y S' hX ht hn => ?_⟩
 have hl : (xs.set i (x.set off (.ref id' (g' + 1)))).length = xs.length := by simp
 refine ⟨v, us, S', hX.rw _ _ _ h1, by rw [hl]; exact h2, fun j y hj => ?_, by rw [p2]; exact ht, hn, fun c hc => hc⟩
 rw [List.getElem?_set] at hj
 split at hj
 ·split at hj
  ·cases hj; rw [List.length_set]; exact h3 i x hx
  ·cases hj
 ·exact h3 j y hj
theorem b5h (hc : cs[off]? = some c) : cs = cs.take off ++ c :: cs.drop (off + 1) ∧ ∀ c', cs.set off c' = cs.take off ++ c' :: cs.drop (off + 1) := by
 obtain ⟨hp, he⟩ := List.getElem?_eq_some_iff.1 hc
 refine ⟨by rw [← he, List.getElem_cons_drop, List.take_append_drop], fun c' => by rw [List.set_eq_take_append_cons_drop, if_pos hp]⟩
variable {g g' ty : Nat}
theorem d9g {c : Code} (id off id' : Nat) {cs cs' : List AV} (hh : y4y h id = some (g, .box ty cs)) (hc : cs[off]? = some (.row .ow ty2 sz2 ys)) (hd : y4y h id' = some (g', .dead)) (hne : Nat.beq id id' = false) (hcs : cs.set off (.ref id' (g' + 1)) = cs')
  (k : Ex P n c fr ((id, (g, .box ty cs')) :: (id', (g' + 1, .row ty2 sz2 ys)) :: h) Q) : Ex P n c fr h Q := by
 subst hcs
 have hne' : id ≠ id' := fun e => by subst e; rw [Nat.beq_refl] at hne; cases hne
 refine a5e (fun X B w hS => ?_) k
 obtain ⟨F, hS⟩ := hS
 rw [hf2]
 refine hS.splitCell (e := .box ty cs) (cs1 := cs.take off) (cs2 := cs.drop (off + 1)) hh hd hne' fun f hE => ?_
 obtain ⟨b, us, S, h1, h2, h3, h4, h5⟩ := hE
 obtain ⟨p1, p2⟩ := b5h hc
 refine ⟨us, S, [b], by rw [← p1]; exact h3, h4, h5, fun Y S' hX ht hn => ?_⟩
 exact ⟨b, us, S', hX.bx _ _ _ h1, h2, by rw [p2]; exact ht, hn, fun c hc => hc⟩
end
section
variable {P : Program}

inductive Strict : AV → Prop
 | pv (v : Value) : Strict (.pv v)
 | row {ty sz : Nat} {xs : List (List AV)} (h : ∀ x ∈ xs, ∀ y ∈ x, Strict y) : Strict (.row (.rd true) ty sz xs)
 | ifc {t : TypeId} {a : AV} (h : Strict a) : Strict (.ifc t a)
 | agg {cs : List AV} (h : ∀ y ∈ cs, Strict y) : Strict (.agg cs)
 | tup {cs : List AV} (h : ∀ y ∈ cs, Strict y) : Strict (.tup cs)
theorem Strict.cr (hs : Strict a) : ∀ {v : Value}, CR o1 o2 w a v → CR o1 o1 w a v := by
 induction hs with
 | pv u => intro v h; cases h; exact .pv u
 | row _ ih =>
  intro v h
  cases h with
  | row A c u hc hm hlen hone had hcell hrec => exact .row A c u hc hm hlen hone had hcell (fun j i x y hx hy => ih x (List.mem_of_getElem? hx) y (List.mem_of_getElem? hy) (hrec j i x y hx hy))
 | ifc _ ih => intro v h; cases h with | ifc _ _ u h => exact .ifc _ _ u (ih h)
 | agg _ ih => intro v h; cases h with | agg us hl hone h => exact .agg us hl hone (fun i y u hy hu => ih y (List.mem_of_getElem? hy) (h i y u hy hu))
 | tup => intro v h; cases h
theorem Strict.vr (hs : Strict a) (h1 : ∀ b, X.ok1 b → Y.ok1 b) (h2 : ∀ b, X.ok1 b → Y.ok2 b) : ∀ {v : Value}, VR X w a v → VR Y w a v := by
 have base : ∀ {a : AV} {v : Value}, Strict a → CR X.ok1 X.ok2 w a v → VR Y w a v := fun hs h => .cl ((hs.cr h).mono h1 h2 (fun _ h => h) (fun b hb => rfl))
 induction hs with
 | pv u => intro v h; rw [h.pv_inv]; exact .pv u
 | row h0 => intro v h; cases h with | cl h => exact base (.row h0) h
 | ifc h0 ih =>
  intro v h
  cases h with
  | cl h => exact base (.ifc h0) h
  | ifc _ _ u h => exact .ifc _ _ u (ih h)
 | agg h0 ih =>
  intro v h
  cases h with
  | cl h => exact base (.agg h0) h
  | agg us hl hone h => exact .agg us hl hone (fun i y u hy hu => ih y (List.mem_of_getElem? hy) (h i y u hy hu))
 | tup h0 ih =>
  intro v h
  cases h with
  | cl h => exact base (.tup h0) h
  | tup us hl h => exact .tup us hl (fun i y u hy hu => ih y (List.mem_of_getElem? hy) (h i y u hy hu))
theorem a7l {α : Type} {f : α → List AV} {ty sz : Nat} {l : List α} (h : ∀ a, ∀ y ∈ f a, Strict y) : Strict (.row (.rd true) ty sz (l.map f)) := .row fun x hx y hy => by
 obtain ⟨a, _, rfl⟩ := List.mem_map.1 hx
 exact h a y hy

inductive LendL (h : Hp) : List AV → List AV → TL → Prop
 | nil : LendL h [] [] []
 | cl {a : AV} {az bs : List AV} {T : TL} (hc : a.cl = true) (t : LendL h az bs T) : LendL h (a :: az) (a :: bs) T
 | le {a b : AV} {az bs : List AV} {T : TL} (hc : a.cl = true) (hl : Le false a b) (t : LendL h az bs T) : LendL h (a :: az) (b :: bs) T
 | ref {id g ty sz : Nat} {xs xs' : List (List AV)} {az bs : List AV} {T : TL} (hh : y4y h id = some (g, .row ty sz xs)) (hl : Le false (.row .ow ty sz xs) (.row (.rd false) ty sz xs')) (t : LendL h az bs T) :
   LendL h (.ref id g :: az) (.row (.rd false) ty sz xs' :: bs) ((id, (g, .row ty sz xs)) :: T)
 | agg {cs ds az bs : List AV} {T1 T : TL} (h1 : (cs.all AV.one) = true) (hc : LendL h cs ds T1) (t : LendL h az bs T) : LendL h (.agg cs :: az) (.agg ds :: bs) (T1 ++ T)
theorem LendL.one (k : LendL h az bs T) : (az.all AV.one) = true → (bs.all AV.one) = true := by
 induction k with
 | nil => exact fun h => h
 | cl hc t ih => intro ha; rw [List.all_cons, Bool.and_eq_true] at ha ⊢; exact ⟨ha.1, ih ha.2⟩
 | le hc hl t ih => intro ha; rw [List.all_cons, Bool.and_eq_true] at ha ⊢; exact ⟨hl.one ha.1, ih ha.2⟩
 | ref hh hl t ih => intro ha; rw [List.all_cons, Bool.and_eq_true] at ha ⊢; exact ⟨rfl, ih ha.2⟩
 | agg => intro ha; simp [AV.one] at ha
theorem LendL.len (k : LendL h az bs T) : bs.length = az.length := by
 induction k with
 | nil => rfl
 | cl _ _ ih => simp [ih]
 | le _ _ _ ih => simp [ih]
 | ref _ _ _ ih => simp [ih]
 | agg _ _ _ _ ih => simp [ih]
theorem LendL.inH (k : LendL h az bs T) : InH h T := by
 induction k with
 | nil => exact .nil
 | cl _ _ ih => exact ih
 | le _ _ _ ih => exact ih
 | ref hh _ _ ih => exact .cons hh ih
 | agg _ _ _ ih1 ih2 =>
  intro p hp
  rcases List.mem_append.1 hp with hp | hp
  ·exact ih1 p hp
  ·exact ih2 p hp
theorem LendL.sound (k : LendL h az bs T) : ∀ {X : Cx} {B : Base} {hF : HF} {F : Nat → List Nat} {w : World} {o2 : Nat → Prop} {vs : List Value}, SRf X B hF F w → (∀ b, X.ok2 b → o2 b) → (∀ id ge, (id, ge) ∈ T → hF id = some ge) → (∀ id ge, (id, ge) ∈ T → ∀ b ∈ F id, o2 b) →
  vs.length = az.length → (∀ (i : Nat) (a : AV) (v : Value), az[i]? = some a → vs[i]? = some v → VR X w a v) → ∀ (i : Nat) (b : AV) (v : Value), bs[i]? = some b → vs[i]? = some v → CR X.ok1 o2 w b v := by
 have glue : ∀ {o1 o2 : Nat → Prop} {w : World} {b : AV} {bs : List AV} {v : Value} {vs : List Value}, CR o1 o2 w b v → (∀ (i : Nat) (c : AV) (u : Value), bs[i]? = some c → vs[i]? = some u → CR o1 o2 w c u) → ∀ (i : Nat) (c : AV) (u : Value), (b :: bs)[i]? = some c → (v :: vs)[i]? = some u → CR o1 o2 w c u := by
  intro o1 o2 w b bs v vs h1 h2 i c u hc hu
  cases i with
  | zero =>
   simp only [List.getElem?_cons_zero, Option.some.injEq] at hc hu
   rw [← hc, ← hu]; exact h1
  | succ i => exact h2 i c u (by simpa using hc) (by simpa using hu)
 induction k with
 | nil => intro X B hF F w o2 vs _ _ _ _ _ _ i b v hb; simp at hb
 | cl hc t ih =>
  intro X B hF F w o2 vs hS h2 hT hb hl hr
  cases vs with
  | nil => simp at hl
  | cons v vs =>
   exact glue (((hr 0 _ v rfl rfl).closed hc).1.mono (fun _ h => h) h2 hS.ok12 (fun _ _ => rfl)) (ih hS h2 hT hb (by simpa using hl) (fun i c u hc hu => hr (i + 1) c u (by simpa using hc) (by simpa using hu)))
 | le hc hle t ih =>
  intro X B hF F w o2 vs hS h2 hT hb hl hr
  cases vs with
  | nil => simp at hl
  | cons v vs =>
   exact glue ((((hr 0 _ v rfl rfl).closed hc).1.mono (fun _ h => h) h2 hS.ok12 (fun _ _ => rfl)).le (fun b hb => h2 b (hS.ok12 b hb)) hle) (ih hS h2 hT hb (by simpa using hl) (fun i c u hc hu => hr (i + 1) c u (by simpa using hc) (by simpa using hu)))
 | @ref id g ty sz xs xs' az bs T hh hle t ih =>
  intro X B hF F w o2 vs hS h2 hT hb hl hr
  cases vs with
  | nil => simp at hl
  | cons v vs =>
   refine glue ?_ (ih hS h2 (fun i ge hm => hT i ge (List.mem_cons_of_mem _ hm)) (fun i ge hm => hb i ge (List.mem_cons_of_mem _ hm)) (by simpa using hl) (fun i c u hc hu => hr (i + 1) c u (by simpa using hc) (by simpa using hu)))
   obtain ⟨v0, us, S, q1, q2, q3, q4, q5, q6⟩ := hS.ent _ _ _ (hT id _ (List.mem_cons_self ..))
   obtain ⟨A, nn, c, s0, e1, e2⟩ := (hr 0 _ v rfl rfl).ref_inv
   rw [q1] at e2
   cases e2
   have hF' := hb id _ (List.mem_cons_self ..)
   cases hle with
   | ow hc hl1 h1 h =>
    have hfl : LeL false xs.flatten xs'.flatten := LeL.flat xs xs' hl1 (fun j x x' hx hx' => ⟨h1 j x x' hx hx', fun i y y' hy hy' => h j i x x' y y' hx hx' hy hy'⟩)
    have hcr := q4.le (k := false) (o1 := X.ok1) (o2 := o2) (fun b hb => h2 b (hS.ok12 b hb)) (fun _ h => h) h2 hS.ok12 hfl (fun b hb => ⟨hF' b (q6 b (List.mem_append_right _ hb)), fun h => (by cases h)⟩)
    rw [e1]
    refine b8d (by rw [hl1]; exact q2) (fun j x' hx' => ?_) hcr (fun b hb => hF' b (q6 b (by simp [hb])))
    have hlt := (List.getElem?_eq_some_iff.1 hx').1
    have hx0 : xs[j]? = some (xs[j]'(by omega)) := List.getElem?_eq_getElem _
    rw [h1 j _ x' hx0 hx']
    exact q3 j _ hx0
 | @agg cs ds az bs T1 T h1 hc t ih1 ih2 =>
  intro X B hF F w o2 vs hS h2 hT hb hl hr
  cases vs with
  | nil => simp at hl
  | cons v vs =>
   refine glue ?_ (ih2 hS h2 (fun i ge hm => hT i ge (List.mem_append_right _ hm)) (fun i ge hm => hb i ge (List.mem_append_right _ hm)) (by simpa using hl) (fun i c u hc hu => hr (i + 1) c u (by simpa using hc) (by simpa using hu)))
   obtain ⟨us, rfl, hu⟩ := (hr 0 _ v rfl rfl).agg_inv
   have h1' := hc.one h1
   exact .agg us (by rw [hu.len, hc.len]) (fun i y hy => List.all_eq_true.1 h1' y (List.mem_of_getElem? hy)) (ih1 hS h2 (fun i ge hm => hT i ge (List.mem_append_left _ hm)) (fun i ge hm => hb i ge (List.mem_append_left _ hm)) hu.len hu.rel)

theorem d9h (hP : a0j P f bs out) (hl : LendL h az bs T) (hs : Strict out) : d8f P f az T [] out := by
 refine ⟨hP.1, fun X B hF w vs hS hlen hr hT => ?_⟩
 obtain ⟨F, hS⟩ := hS
 let lent : Nat → Prop := fun b => ∃ id ge, (id, ge) ∈ T ∧ b ∈ F id
 let X0 : Cx := ⟨X.ok1, fun b => X.ok2 b ∨ lent b, fun _ _ => none, fun _ _ => none⟩
 let B0 : Base := ⟨w, fun _ => False, X0.ok1, X0.ok2⟩
 have lt : ∀ b, lent b → b < w.heap.size := fun b ⟨id, ge, h1, h2⟩ => hS.blk id ge b (hT id ge h1) h2
 have lno : ∀ b, lent b → ¬ X.ok2 b := fun b ⟨id, ge, h1, h2⟩ h3 => (hS.ok2 b h3).2 id ge (hT id ge h1) h2
 have hcr := hl.sound (o2 := X0.ok2) hS (fun b hb => .inl hb) hT (fun id ge hm b hb => .inr ⟨id, ge, hm, hb⟩) hlen hr
 have hS0 : SRh X0 B0 (hf []) w := by
  refine ⟨fun _ => [], ?_, ?_, ?_, ?_, fun b hb => .inl (hS.ok12 b hb), fun b hb => .inl hb, fun b hb => .inl hb, ?_, fun _ _ _ => ⟨rfl, rfl⟩, rfl, rfl, rfl, Nat.le_refl _, fun _ _ _ => rfl⟩
  ·intro id g e he; cases he
  ·intro id ge b he; cases he
  ·intro id id' ge ge' b he; cases he
  ·refine fun b hb => ⟨?_, fun id ge he => by cases he⟩
   rcases hb with hb | hb
   ·exact (hS.ok2 b hb).1
   ·exact lt b hb
  ·intro id ge b he; cases he
 refine (hP.2 X0 B0 (hf []) w vs hS0 (by rw [hl.len]; exact hlen) (fun i a v ha hv => .cl (hcr i a v ha hv)) (fun _ _ h => by cases h)).mono fun e w' hh => ?_
 obtain ⟨v, rfl, X', k1, ⟨F', k2⟩, k3, k4⟩ := hh
 have hkeep : ∀ b, b < w.heap.size → w'.heap[b]? = w.heap[b]? := fun b hb => k2.keep b hb (fun h => h)
 have in1 : ∀ b, X'.ok1 b → X.ok1 b ∨ w.heap.size ≤ b := fun b hb => by
  rcases k2.in1 b hb with h | h | h
  ·exact .inl h
  ·exact h.elim
  ·exact .inr h
 have nol : ∀ b, X'.ok1 b → ¬ lent b := fun b hb hlb => by
  rcases in1 b hb with h | h
  ·exact lno b hlb (hS.ok12 b h)
  ·exact absurd (lt b hlb) (Nat.not_lt.2 h)
 let Z : Cx := ⟨X'.ok1, fun b => X'.ok2 b ∧ ¬ lent b, X.bx, X.rw⟩
 have hX : X.le Z := ⟨k1.ok1, fun b hb => ⟨k1.ok2 b (.inl hb), fun h => lno b h hb⟩, fun _ _ _ h => h, fun _ _ _ h => h⟩
 refine ⟨v, rfl, Z, hX, ⟨F, ?_, ?_, ?_, ?_, fun b hb => ⟨k2.ok12 b hb, nol b hb⟩, ?_, ?_, ?_, ?_, k2.os.trans hS.os, k2.tape.trans hS.tape, k2.output.trans hS.output, Nat.le_trans hS.size k2.size, fun b hb hs' => (hkeep b (Nat.lt_of_lt_of_le hb hS.size)).trans (hS.keep b hb hs')⟩, fun b hb => hkeep b (hS.ok2 b hb).1, hs.vr (X := X') (Y := Z) (fun _ h => h) (fun b hb => ⟨k2.ok12 b hb, nol b hb⟩) k4⟩
 ·intro id g e he
  rw [b0g] at he
  exact (hS.ent id g e he).mono hX hS.ok12 (fun b hb => hkeep b (hS.ok2 b hb).1) (fun b hb => hkeep b (hS.blk id _ b he hb))
 ·intro id ge b he hb
  rw [b0g] at he
  exact Nat.lt_of_lt_of_le (hS.blk id ge b he hb) k2.size
 ·intro id id' ge ge' b he he' hb hb'
  rw [b0g] at he he'
  exact hS.sep id id' ge ge' b he he' hb hb'
 ·refine fun b hb => ⟨(k2.ok2 b hb.1).1, fun id ge he hm => ?_⟩
  rw [b0g] at he
  rcases k2.in2 b hb.1 with h | h | h
  ·rcases h with h | h
   ·exact (hS.ok2 b h).2 id ge he hm
   ·exact hb.2 h
  ·exact h.elim
  ·exact absurd (hS.blk id ge b he hm) (Nat.not_lt.2 h)
 ·intro b hb
  rcases in1 b hb with h | h
  ·exact hS.in1 b h
  ·exact .inr (.inr (Nat.le_trans hS.size h))
 ·intro b hb
  rcases k2.in2 b hb.1 with h | h | h
  ·rcases h with h | h
   ·exact hS.in2 b h
   ·exact absurd h hb.2
  ·exact h.elim
  ·exact .inr (.inr (Nat.le_trans hS.size h))
 ·intro id ge b he hb
  rw [b0g] at he
  exact hS.own id ge b he hb
 ·intro id g hg
  refine hS.hist id g (fun g' e hh => hg g' e ?_)
  rw [b0g]; exact hh
theorem b5i {tt : TT}
  (hf : evO fr x = some (.fn (.func f) fi cap)) (ha : evL (evO fr) args.toList = some avs) (he : fi ++ avs ++ cap = az) (hl : LendL h az bs T) (hC : a0j P f bs out) (hs : Strict out) (k : u4u P tt ops r ((d, out) :: fr) h ((ids T, []) :: lg) K) :
  u4u P tt ops (⟨some d, .call { callee := .value x, args := args, argTypes := at' }, ty, pos, af, none⟩ :: r) fr h lg K := by
 subst he
 refine a1b ?_; simp only [a0x, Opt, hf, ha]
 exact ⟨out, T, [], d9h hC hl hs, hl.inH, Sub.nil, k⟩
end
section
variable {P : Program} {ev : Operand → Option AV}
def a6o {κ : Type} [DecidableEq κ] : List κ → κ → Option Nat
 | [], _ => none
 | a :: r, k => if a = k then some 0 else (a6o r k).map (· + 1)
structure FindK (P : Program) (kt : TypeId) {κ : Type} [DecidableEq κ] (enc : κ → Value) : Prop where
 check : ∀ (w : World) (em : Bool) (k : κ), (Instr.checkKey em 10000 kt (enc k)).run P w = .ok () w
 find : ∀ (w : World) (k : κ) (es : List MapEntry) (ks : List κ), es.map (·.key) = ks.map enc → (Instr.findKey kt (enc k) es).run P w = .ok ((a6o ks k).bind fun j => (es[j]?).map fun e => (j, e.val)) w
 stays : ∀ (w : World) (k : κ), (Instr.keyThatStays (enc k) (enc k)).run P w = .ok (enc k) w
theorem c8z (hu : P.underlying kt = some (.int .i64)) : FindK P kt (fun n : Int => .int .i64 n) := by
 refine ⟨fun w em k => ?_, fun w k es ks h => ?_, fun w k => ?_⟩
 ·exact MapKept.run_checkKey hu (by simp [MapKept.IsKey]) em 9999
 ·refine MapKept.run_findKey hu ?_
  have : ∀ (es : List MapEntry) (ks : List Int) (i : Nat), es.map (·.key) = ks.map (fun n : Int => Value.int .i64 n) → Instr.findNow (.int .i64) (.int .i64 k) es i = some ((a6o ks k).bind fun j => (es[j]?).map fun e => (i + j, e.val)) := by
   intro es
   induction es with
   | nil =>
    intro ks i h
    cases ks with
    | nil => rfl
    | cons => simp at h
   | cons e es ih =>
    intro ks i h
    cases ks with
    | nil => simp at h
    | cons a ks =>
     simp only [List.map_cons, List.cons.injEq] at h
     simp only [Instr.findNow, h.1, Instr.sameNow, if_true, a6o]
     by_cases e0 : a = k
     ·subst e0; simp
     ·rw [if_neg e0]
      have : (k == a) = false := by simpa using Ne.symm e0
      rw [this]
      simp only
      rw [ih ks (i + 1) h.2]
      cases hx : a6o ks k with
      | none => rfl
      | some j =>
       simp only [Option.bind_some, Option.map_some, List.getElem?_cons_succ]
       cases es[j]? with
       | none => rfl
       | some e => simp; omega
  have := this es ks 0 h
  simpa using this
 ·have h0 : Instr.sameBits (9999 + 1) (.int .i64 k) (.int .i64 k) = true := by simp [Instr.sameBits]
  simp only [Instr.keyThatStays, h0, if_true, Sem.run_pure]
def c3k (l : List Int) : Value := .agg (l.map (Value.int .i64)).toArray
variable {e : TypeId}
theorem c1j (he : P.underlying e = some (.int .i64)) (w : World) {xs : List Value} {i : Nat} {v : Value} (hv : xs[i]? = some v) : (part e xs.toArray i).run P w = .ok v w := by
 have hag : (isAgg e).run P w = .ok false w := by
  unfold isAgg
  rw [Sem.run_bind, run_underlying he w]
  simp [TypeDesc.isRow]
 simp [part, hag, hv]
theorem b9r (d : Nat) {e : TypeId} (he : P.underlying e = some (.int .i64)) (w : World) (az bs : List Int) : ∀ (m i : Nat), i + m = az.length → i + m = bs.length → (Op.eqItems (d + 1) e 1 (az.map (Value.int .i64)).toArray (bs.map (Value.int .i64)).toArray (List.range' i m)).run P w = .ok (az.drop i == bs.drop i) w
 | 0, i, h1, h2 => by
  rw [List.drop_of_length_le (by omega), List.drop_of_length_le (by omega)]
  simp [Op.eqItems]
 | m + 1, i, h1, h2 => by
  have la : i < az.length := by omega
  have lb : i < bs.length := by omega
  have pa := c1j he w (xs := az.map (Value.int .i64)) (i := i) (v := .int .i64 az[i]) (by simp [la])
  have pb := c1j he w (xs := bs.map (Value.int .i64)) (i := i) (v := .int .i64 bs[i]) (by simp [lb])
  have ih := b9r d he w az bs m (i + 1) (by omega) (by omega)
  rw [List.drop_eq_getElem_cons la, List.drop_eq_getElem_cons lb, List.range'_succ]
  simp only [Op.eqItems, Nat.mul_one, Sem.run_bind, pa, pb, Result.andThen_ok, run_equalIn_int w d e .i64 .i64 _ _ he, List.cons_beq_cons]
  cases hc : (az[i] == bs[i])
  ·simp
  ·simpa using ih
variable {κ : Type}
theorem d6k {kt e : TypeId} {n : Nat} {i : TypeInfo} [DecidableEq κ] {f : κ → List Int} (hu : P.underlying kt = some (.array n e)) (hi : P.info? e = some i) (hc : P.cellsOf e = 1) (he : P.underlying e = some (.int .i64)) (hl : ∀ k, (f k).length = n) (hf : ∀ a b, f a = f b → a = b) :
  FindK P kt (fun k => c3k (f k)) := by
 have heq : ∀ (w : World) (a b : κ), (Op.equal kt (c3k (f a)) (c3k (f b))).run P w = .ok (decide (a = b)) w := fun w a b => by
  show (Op.equalIn (9999 + 1) kt _ _).run P w = _
  unfold c3k
  rw [run_equalIn_array w 9999 _ _ hu hi, hc, List.range_eq_range', b9r 9998 he w (f a) (f b) n 0 (by rw [hl]; omega) (by rw [hl]; omega)]
  congr 1
  simp only [List.drop_zero]
  by_cases e0 : a = b
  ·subst e0; simp
  ·have : f a ≠ f b := fun h => e0 (hf a b h)
   simp [e0, this]
 refine ⟨fun w em k => ?_, fun w k es ks h => ?_, fun w k => ?_⟩
 ·have hsz : (sizeOf e).run P w = .ok 1 w := by rw [run_sizeOf w hi, hc]
  have gen : ∀ d : Nat, (Instr.checkKey em (d + 2) kt (c3k (f k))).run P w = .ok () w := fun d => by
   have : ∀ (m j : Nat), j + m = (f k).length → (forIn (List.range' j m) PUnit.unit fun i r => do
     Instr.checkKey em (d + 1) e (← part e ((f k).map (Value.int .i64)).toArray (i * (← sizeOf e)))
     pure (ForInStep.yield PUnit.unit) : Sem PUnit).run P w = .ok PUnit.unit w := by
    intro m
    induction m with
    | zero => intro j _; simp
    | succ m ih =>
     intro j hj
     have pa := c1j he w (xs := (f k).map (Value.int .i64)) (i := j) (v := .int .i64 ((f k)[j]'(by omega))) (by simp)
     have ck : ∀ n : Int, (Instr.checkKey em (d + 1) e (.int .i64 n)).run P w = .ok () w := fun n => MapKept.run_checkKey he (by simp [MapKept.IsKey]) em d
     rw [List.range'_succ]
     simp only [List.forIn_cons, Sem.run_bind, hsz, Result.andThen_ok, Nat.mul_one, pa, ck, Sem.run_pure]
     exact ih (j + 1) (by omega)
   have h0 := this n 0 (by rw [hl]; omega)
   rw [show d + 2 = (d + 1) + 1 from rfl]
   unfold c3k Instr.checkKey
   simp only [Sem.run_bind, run_underlying hu, Result.andThen_ok, Std.Legacy.Range.forIn_eq_forIn_range', Std.Legacy.Range.size, Nat.sub_zero, Nat.add_one_sub_one, Nat.div_one]
   rw [h0]
   simp only [Result.andThen_ok, Sem.run_pure]
  exact gen 9998
 ·rw [run_findKey_eq w (by rw [hu])]
  have : ∀ (es : List MapEntry) (ks : List κ) (i : Nat), es.map (·.key) = ks.map (fun k => c3k (f k)) → (Instr.findAsking kt (c3k (f k)) es i).run P w = .ok ((a6o ks k).bind fun j => (es[j]?).map fun e => (i + j, e.val)) w := by
   intro es
   induction es with
   | nil =>
    intro ks i h
    cases ks with
    | nil => simp [Instr.findAsking, a6o]
    | cons => simp at h
   | cons e es ih =>
    intro ks i h
    cases ks with
    | nil => simp at h
    | cons a ks =>
     simp only [List.map_cons, List.cons.injEq] at h
     simp only [Instr.findAsking, h.1, Sem.run_bind, heq, Result.andThen_ok, a6o]
     by_cases e0 : k = a
     ·subst e0; simp
     ·rw [if_neg (Ne.symm e0)]
      simp only [e0, decide_false, Bool.false_eq_true, if_false]
      rw [ih ks (i + 1) h.2]
      cases hx : a6o ks k with
      | none => rfl
      | some j =>
       simp only [Option.bind_some, Option.map_some, List.getElem?_cons_succ]
       cases es[j]? with
       | none => rfl
       | some e => simp; omega
  have := this es ks 0 h
  simpa using this
 ·have : ∀ l : List Int, ((l.map (Value.int .i64)).zip (l.map (Value.int .i64))).all (fun p => Instr.sameBits 9999 p.1 p.2) = true := by
   intro l
   induction l with
   | nil => rfl
   | cons a l ih => simp only [List.map_cons, List.zip_cons_cons, List.all_cons, ih, Bool.and_true]; simp [Instr.sameBits]
  have h0 : Instr.sameBits (9999 + 1) (c3k (f k)) (c3k (f k)) = true := by
   simp only [c3k, Instr.sameBits, beq_self_eq_true, Bool.true_and]
   exact this (f k)
  simp only [Instr.keyThatStays, h0, if_true, Sem.run_pure]
theorem b5j [DecidableEq κ] : ∀ {ks : List κ} {j : Nat}, a6o ks k = some j → ks[j]? = some k
 | [], j, h => by cases h
 | a :: r, j, h => by
  simp only [a6o] at h
  split at h
  ·rename_i e; cases h; simp [e]
  ·cases hx : a6o r k with
   | none => rw [hx] at h; cases h
   | some j' => rw [hx] at h; cases h; simpa using b5j hx
theorem b2c [DecidableEq κ] : ∀ {ks : List κ}, a6o ks k = none ↔ k ∉ ks
 | [] => by simp [a6o]
 | a :: r => by
  simp only [a6o, List.mem_cons, not_or]
  split
  ·rename_i e; simp [e]
  ·rename_i e
   rw [Option.map_eq_none_iff, b2c]
   exact ⟨fun h => ⟨Ne.symm e, h⟩, fun h => h.2⟩
theorem c9a [DecidableEq κ] {k : κ} {ks : List κ} (h : k ∈ ks) : ∃ j, a6o ks k = some j := by
 cases hx : a6o ks k with
 | none => exact absurd h (b2c.1 hx)
 | some j => exact ⟨j, rfl⟩
def b8n (S : TS) : AV := if S.agg then .agg (S.zero.map .pv) else .pv (S.zero.getD 0 undef)
theorem c1k (h : TSOk P t S) : VR X w (b8n S) (if S.agg then .agg S.zero.toArray else S.zero.getD 0 undef) := by
 unfold b8n
 split
 ·exact (VRs.pvs h.z1).agg
 ·exact .pv _
variable {id : Nat}

theorem SRf.setMap (H : SRf X B h F w) (he : h id = some (g, .map es)) (hb : X.bx id g = some b) (hbF : b ∈ F id) (hs : en.size = es'.length)
  (hr : ∀ (i : Nat) (k : Value) (a : AV) (e : MapEntry), es'[i]? = some (k, a) → en[i]? = some e → e.key = k ∧ VR X w a e.val ∧ e.born = i) (hw : b < w.heap.size) :
  let w' : World := { w with heap := w.heap.setIfInBounds b (.map en es'.length) }
  SRh X B (upd h id (g, .map es')) w' ∧ (∀ b, X.ok2 b → w'.heap[b]? = w.heap[b]?) := by
 intro w'
 have hg : Grew w w' [b] := ⟨rfl, rfl, rfl, by simp [w'], fun k hk hne => by
  have : k ≠ b := fun e => hne (by simp [e])
  simp [w', Ne.symm this]⟩
 have hok : ∀ c, X.ok2 c → w'.heap[c]? = w.heap[c]? := fun c hc => hg.block c (H.ok2 c hc).1 (fun e' => by
  rw [List.mem_singleton] at e'; subst e'; exact (H.ok2 c hc).2 id _ he hbF)
 refine ⟨⟨_, H.turn he (Cx.le.refl X) rfl rfl (fun i k hik => ⟨rfl, rfl⟩) (Nat.le_refl g) (hg.mono (fun c hc => by rw [List.mem_singleton] at hc; subst hc; exact hbF)) (f := F id) ⟨b, en, hb, hbF, by simp [w', hw], hs, fun i k a e hi hen => ?_⟩ (fun c hc => ⟨.inl hc, Nat.lt_of_lt_of_le (H.blk id _ c he hc) hg.size⟩)⟩, hok⟩
 obtain ⟨q1, q2, q3⟩ := hr i k a e hi hen
 exact ⟨q1, q2.mono (Cx.le.refl X) H.ok12 hok, q3⟩
theorem VR.mp_inv (h : VR X w (.mp id g) v) : ∃ b, v = .map (some b) ∧ X.bx id g = some b := by
 cases h with
 | cl h => cases h
 | mp h => exact ⟨_, rfl, h⟩
theorem d1y (ho : o.op = .makeMap t none) : OpS P o ev [(id, (g, .dead))] [(id, (g + 1, .map []))] (.mp id (g + 1)) := by
 rintro X B hF a w Q K ⟨F, hS⟩ hop hT hK
 have hid := hT id _ (List.mem_singleton.2 rfl)
 have hr := run_makeMap_plain (P := P) w t
 have hfree := hS.free hid
 have hX : X.le (X.setB id (g + 1) w.heap.size) := Cx.le_setB hfree.1
 have hg := b0i w (.map #[] 0) (F id)
 have hh := MapKept.heap_alloc w (.map #[] 0)
 have hS' := hS.turn (Y := X.setB id (g + 1) w.heap.size) (e' := .map []) (g' := g + 1) (f := [w.heap.size]) hid hX rfl rfl (fun i k hik => ⟨by simp only [Cx.setB]; rw [if_neg (by rintro ⟨rfl, rfl⟩; rcases hik with h | h <;> exact h rfl)], rfl⟩) (Nat.le_succ g) hg
  ⟨w.heap.size, #[], by simp [Cx.setB], by simp, hh.1, rfl, fun i k a e hi => by simp at hi⟩ (fun b hb => by rw [List.mem_singleton] at hb; subst hb; exact ⟨.inr (Nat.le_refl _), by rw [show (w.alloc (.map #[] 0)).heap = w.heap.push (.map #[] 0) from rfl]; simp⟩)
 unfold Oper.wp
 have hx2 : (execOp a.eval o).run P w = .ok (.value (.map (some w.heap.size))) (w.alloc (.map #[] 0)) := by
  simp only [execOp, ho, Option.map_none, Sem.run_bind, hr, Result.andThen_ok, Sem.run_pure]
 rw [hx2, Oper.upon_value]
 exact hK _ _ _ hX (by rw [s2s]; exact ⟨_, hS'⟩) (fun b hb => hh.2 b (hS.ok2 b hb).1) (.mp (by simp [Cx.setB]))
section
variable {κ : Type} [DecidableEq κ] {enc : κ → Value} {kt : TypeId}
variable {tt : TT}
theorem d6l (htt : a1z P tt) (ho : o.op = .lookup t x ix false) (hu : P.underlying t = some (.map kt et)) (hF : FindK P kt enc) (hx : ev x = some (.mp id g)) (hi : ev ix = some ka)
  (hka : ∀ X w v, VR X w ka v → v = enc k) (hes : es.map (·.1) = ks.map enc) (hout : (∃ j kv, a6o ks k = some j ∧ es[j]? = some (kv, out)) ∨ (a6o ks k = none ∧ ∃ S, tt et = some S ∧ out = b8n S)) : OpS P o ev [(id, (g, .map es))] [] out :=
 .quiet fun X B hF' a w hS hop hT => by
  obtain ⟨F, hS⟩ := hS
  obtain ⟨b, e1, hb⟩ := (hop x (by simp [ho, Op.operands]) _ hx).mp_inv
  have e2 := hka X w _ (hop ix (by simp [ho, Op.operands]) _ hi)
  obtain ⟨b', en, h1, h2, h3, h4, h5⟩ := hS.ent _ _ _ (hT id _ (List.mem_singleton.2 rfl))
  rw [hb] at h1; cases h1
  have hkeys : en.toList.map (·.key) = ks.map enc := by
   rw [← hes]
   apply List.ext_getElem?
   intro i
   rw [List.getElem?_map, List.getElem?_map]
   cases hi : es[i]? with
   | none =>
    have : en.toList[i]? = none := by
     rw [List.getElem?_eq_none_iff] at hi ⊢; simp; omega
    rw [this]; rfl
   | some p =>
    have hlt := (List.getElem?_eq_some_iff.1 hi).1
    have : en.toList[i]? = some (en[i]'(by omega)) := by first | (simp; done) | (simp; omega)
    rw [this]
    obtain ⟨q1, _⟩ := h5 i p.1 p.2 _ hi (by first | (simp; done) | (simp; omega) : en[i]? = some (en[i]'(by omega)))
    simp [q1]
  have hf := hF.find w k en.toList ks hkeys
  have hck := fun em => hF.check w em k
  rcases hout with ⟨j, kv, hj, hej⟩ | ⟨hj, S, hs, rfl⟩
  ·have hlt := (List.getElem?_eq_some_iff.1 hej).1
   have hen : en.toList[j]? = some (en[j]'(by omega)) := by first | (simp; done) | (simp; omega)
   rw [hj] at hf
   simp only [Option.bind_some, hen, Option.map_some] at hf
   obtain ⟨_, q2, _⟩ := h5 j kv out _ hej (by first | (simp; done) | (simp; omega) : en[j]? = some (en[j]'(by omega)))
   exact ⟨_, by simp only [execOp, ho, Instr.lookup, e1, e2, Sem.run_bind, run_underlying hu, MapKept.run_getObj_map h3, hck, hf, Result.andThen_ok, Sem.run_pure]; rfl, q2⟩
  ·rw [hj] at hf
   simp only [Option.bind_none] at hf
   have T := htt _ _ hs
   exact ⟨_, by simp only [execOp, ho, Instr.lookup, e1, e2, Sem.run_bind, run_underlying hu, MapKept.run_getObj_map h3, hck, hf, T.zeroValue, Result.andThen_ok, Sem.run_pure]; rfl, c1k T⟩
variable {es : List (Value × AV)}
omit [DecidableEq κ] in
theorem d9i {en : Array MapEntry} {ks : List κ} (h4 : en.size = es.length) (hes : es.map (·.1) = ks.map enc) (h5 : ∀ (i : Nat) (k : Value) (a : AV) (e : MapEntry), es[i]? = some (k, a) → en[i]? = some e → e.key = k) : en.toList.map (·.key) = ks.map enc := by
 rw [← hes]
 apply List.ext_getElem?
 intro i
 rw [List.getElem?_map, List.getElem?_map]
 cases hi : es[i]? with
 | none =>
  have : en.toList[i]? = none := by
   rw [List.getElem?_eq_none_iff] at hi ⊢; simp; omega
  rw [this]; rfl
 | some p =>
  have hlt := (List.getElem?_eq_some_iff.1 hi).1
  have : en.toList[i]? = some (en[i]'(by omega)) := by first | (simp; done) | (simp; omega)
  rw [this]
  have q1 := h5 i p.1 p.2 _ hi (by first | (simp; done) | (simp; omega) : en[i]? = some (en[i]'(by omega)))
  simp [q1]
variable {o : Oper} {x ix y : Operand} {g : Nat} {es' : List (Value × AV)} {ka av : AV}

theorem c6e {t et : TypeId} {ks : List κ} {k : κ} (ho : o.op = .mapUpdate t x ix y) (hu : P.underlying t = some (.map kt et)) (hF : FindK P kt enc) (hx : ev x = some (.mp id g)) (hi : ev ix = some ka) (hy : ev y = some av)
  (hka : ∀ X w v, VR X w ka v → v = enc k) (hes : es.map (·.1) = ks.map enc) (hout : (∃ j, a6o ks k = some j ∧ es' = es.set j (enc k, av)) ∨ (a6o ks k = none ∧ es' = es ++ [(enc k, av)])) : OpS P o ev [(id, (g, .map es))] [(id, (g, .map es'))] (.pv undef) := by
 rintro X B hF' a w Q K ⟨F, hS⟩ hop hT hK
 have hid := hT id _ (List.mem_singleton.2 rfl)
 obtain ⟨b, e1, hb⟩ := (hop x (by simp [ho, Op.operands]) _ hx).mp_inv
 have e2 := hka X w _ (hop ix (by simp [ho, Op.operands]) _ hi)
 have hv := hop y (by simp [ho, Op.operands]) _ hy
 obtain ⟨b', en, h1, h2, h3, h4, h5⟩ := hS.ent _ _ _ hid
 rw [hb] at h1; cases h1
 have hkeys := d9i h4 hes (fun i k a e hi he => (h5 i k a e hi he).1)
 have hf := hF.find w k en.toList ks hkeys
 have hck := hF.check w false k
 have hbl := hS.blk id _ b hid h2
 unfold Oper.wp
 rcases hout with ⟨j, hj, rfl⟩ | ⟨hj, rfl⟩
 ·have hkl := b5j hj
  have hjl : j < en.size := by
   have := (List.getElem?_eq_some_iff.1 hkl).1
   have := congrArg List.length hes
   simp at this; omega
  have hen : en.toList[j]? = some (en[j]) := by simp
  have hen' : en[j]? = some en[j] := by simp
  have hkey : en[j].key = enc k := by
   have := congrArg (fun l => l[j]?) hkeys
   simp only [List.getElem?_map, hen, hkl, Option.map_some] at this
   exact Option.some.inj this
  rw [hj] at hf
  simp only [Option.bind_some, hen, Option.map_some] at hf
  have hx2 : (execOp a.eval o).run P w = .ok .skip { w with heap := w.heap.setIfInBounds b (.map (en.modify j fun e => { e with key := enc k, val := a.eval y }) es.length) } := by
   simp only [execOp, ho, Instr.mapUpdate, e1, e2, Sem.run_bind, run_underlying hu, MapKept.run_getObj_map h3, hck, hf, Result.andThen_ok, Sem.run_pure, hen', Option.map_some, Option.getD_some, hkey, hF.stays, MapKept.run_setObj_map _ h3]
  rw [hx2, Oper.upon_skip]
  have hm : ∀ i e, (en.modify j fun e => { e with key := enc k, val := a.eval y })[i]? = some e → (i = j ∧ e = { en[j] with key := enc k, val := a.eval y }) ∨ (i ≠ j ∧ en[i]? = some e) := fun i e he => by
   rw [Array.getElem?_modify] at he
   by_cases hij : j = i
   ·subst hij
    rw [if_pos rfl, hen'] at he
    simp only [Option.map_some, Option.some.injEq] at he
    exact .inl ⟨rfl, he.symm⟩
   ·rw [if_neg hij] at he; exact .inr ⟨Ne.symm hij, he⟩
  obtain ⟨q1, q2⟩ := hS.setMap (es' := es.set j (enc k, a.eval y |> fun _ => av)) (en := en.modify j fun e => { e with key := enc k, val := a.eval y }) hid hb h2 (by simp [h4]) (fun i kv av' e hie hee => by
   rcases hm i e hee with ⟨rfl, rfl⟩ | ⟨hne, hee'⟩
   ·rw [List.getElem?_set, if_pos rfl] at hie
    split at hie
    ·cases hie; exact ⟨rfl, hv, (h5 i _ _ _ (List.getElem?_eq_getElem (by omega)) hen').2.2⟩
    ·cases hie
   ·rw [List.getElem?_set, if_neg (Ne.symm hne)] at hie
    exact h5 i kv av' e hie hee') hbl
  rw [List.length_set] at q1 q2
  exact hK X _ undef (Cx.le.refl X) (by rw [s2s]; exact q1) q2 (.pv undef)
 ·rw [hj] at hf
  simp only [Option.bind_none] at hf
  have hx2 : (execOp a.eval o).run P w = .ok .skip { w with heap := w.heap.setIfInBounds b (.map (en.push { key := enc k, val := a.eval y, born := es.length }) (es.length + 1)) } := by
   simp only [execOp, ho, Instr.mapUpdate, e1, e2, Sem.run_bind, run_underlying hu, MapKept.run_getObj_map h3, hck, hf, Result.andThen_ok, Sem.run_pure, MapKept.run_setObj_map _ h3]
  rw [hx2, Oper.upon_skip]
  obtain ⟨q1, q2⟩ := hS.setMap (es' := es ++ [(enc k, av)]) (en := en.push { key := enc k, val := a.eval y, born := es.length }) hid hb h2 (by simp [h4]) (fun i kv av' e hie hee => by
   rw [Array.getElem?_push] at hee
   rw [List.getElem?_append] at hie
   by_cases hi : i = en.size
   ·rw [if_pos hi] at hee
    rw [if_neg (by omega)] at hie
    have : i - es.length = 0 := by omega
    rw [this] at hie
    simp only [List.getElem?_cons_zero, Option.some.injEq] at hie
    cases hie; cases hee
    exact ⟨rfl, hv, by first | (simp; done) | (simp; omega)⟩
   ·rw [if_neg hi] at hee
    have hlt := (Array.getElem?_eq_some_iff.1 hee).1
    rw [if_pos (by omega)] at hie
    exact h5 i kv av' e hie hee) hbl
  rw [List.length_append] at q1 q2
  exact hK X _ undef (Cx.le.refl X) (by rw [s2s]; exact q1) q2 (.pv undef)
variable {j : Nat}

theorem c9b (htt : a1z P tt) {t et : TypeId} {ks : List κ} {k : κ} {ka out : AV} (ho : o.op = .mapEntry t x ix) (hu : P.underlying t = some (.map kt et)) (hF : FindK P kt enc) (hx : ev x = some (.mp id g)) (hi : ev ix = some ka)
  (hka : ∀ X w v, VR X w ka v → v = enc k) (hes : es.map (·.1) = ks.map enc) (hout : (a6o ks k = some j ∧ es[j]? = some (enc k, out) ∧ es' = es) ∨ (a6o ks k = none ∧ j = es.length ∧ es' = es ++ [(enc k, out)] ∧ ∃ S, tt et = some S ∧ out = b8n S)) :
  OpS P o ev [(id, (g, .map es))] [(id, (g, .map es'))] (.tup [out, .pv (.int .i64 (j : Int))]) := by
 rintro X B hF' a w Q K ⟨F, hS⟩ hop hT hK
 have hid := hT id _ (List.mem_singleton.2 rfl)
 obtain ⟨b, e1, hb⟩ := (hop x (by simp [ho, Op.operands]) _ hx).mp_inv
 have e2 := hka X w _ (hop ix (by simp [ho, Op.operands]) _ hi)
 obtain ⟨b', en, h1, h2, h3, h4, h5⟩ := hS.ent _ _ _ hid
 rw [hb] at h1; cases h1
 have hkeys := d9i h4 hes (fun i k a e hi he => (h5 i k a e hi he).1)
 have hf := hF.find w k en.toList ks hkeys
 have hck := hF.check w false k
 have hbl := hS.blk id _ b hid h2
 have two : ∀ {X : Cx} {w : World} {v : Value} {n : Int}, VR X w out v → VR X w (.tup [out, .pv (.int .i64 n)]) (.tuple #[v, .int .i64 n]) := fun {X w v n} hv => .tup [v, .int .i64 n] rfl (fun i y u hy hu => by
  match i with
  | 0 => simp at hy hu; subst hy hu; exact hv
  | 1 => simp at hy hu; subst hy hu; exact .pv _
  | i + 2 => simp at hy)
 unfold Oper.wp
 rcases hout with ⟨hj, hej, rfl⟩ | ⟨hj, rfl, rfl, S, hs, rfl⟩
 ·have hjl : j < en.size := by have := (List.getElem?_eq_some_iff.1 hej).1; omega
  have hen : en.toList[j]? = some (en[j]) := by simp
  have hen' : en[j]? = some en[j] := by simp
  obtain ⟨r1, r2, r3⟩ := h5 j _ _ _ hej hen'
  rw [hj] at hf
  simp only [Option.bind_some, hen, Option.map_some] at hf
  have hsame : (en.modify j fun e => { e with key := enc k }) = en := by
   apply Array.ext_getElem?
   intro i
   rw [Array.getElem?_modify]
   split
   ·rename_i e; subst e; rw [hen']; simp only [Option.map_some, Option.some.injEq]; rw [← r1]
   ·rfl
  have hx2 : (execOp a.eval o).run P w = .ok (.value (.tuple #[en[j].val, goInt (en[j].born : Int)])) { w with heap := w.heap.setIfInBounds b (.map en es'.length) } := by
   simp only [execOp, ho, Instr.mapEntry, e1, e2, Sem.run_bind, run_underlying hu, MapKept.run_getObj_map h3, hck, hf, Result.andThen_ok, Sem.run_pure, hen', Option.map_some, Option.getD_some, r1, hF.stays, hsame, MapKept.run_setObj_map _ h3]
  rw [hx2, Oper.upon_value, r3]
  obtain ⟨q1, q2⟩ := hS.setMap (es' := es') (en := en) hid hb h2 h4 h5 hbl
  exact hK X _ _ (Cx.le.refl X) (by rw [s2s]; exact q1) q2 (two (r2.mono (Cx.le.refl X) hS.ok12 q2))
 ·rw [hj] at hf
  simp only [Option.bind_none] at hf
  have T := htt _ _ hs
  have hx2 : (execOp a.eval o).run P w = .ok (.value (.tuple #[(if S.agg then .agg S.zero.toArray else S.zero.getD 0 undef), goInt (es.length : Int)])) { w with heap := w.heap.setIfInBounds b (.map (en.push { key := enc k, val := (if S.agg then .agg S.zero.toArray else S.zero.getD 0 undef), born := es.length }) (es.length + 1)) } := by
   simp only [execOp, ho, Instr.mapEntry, e1, e2, Sem.run_bind, run_underlying hu, MapKept.run_getObj_map h3, hck, hf, Result.andThen_ok, Sem.run_pure, T.zeroValue, MapKept.run_setObj_map _ h3]
  rw [hx2, Oper.upon_value]
  obtain ⟨q1, q2⟩ := hS.setMap (es' := es ++ [(enc k, b8n S)]) (en := en.push { key := enc k, val := (if S.agg then .agg S.zero.toArray else S.zero.getD 0 undef), born := es.length }) hid hb h2 (by simp [h4]) (fun i kv av' e hie hee => by
   rw [Array.getElem?_push] at hee
   rw [List.getElem?_append] at hie
   by_cases hi : i = en.size
   ·rw [if_pos hi] at hee
    rw [if_neg (by omega)] at hie
    have : i - es.length = 0 := by omega
    rw [this] at hie
    simp only [List.getElem?_cons_zero, Option.some.injEq] at hie
    cases hie; cases hee
    exact ⟨rfl, c1k T, by first | (simp; done) | (simp; omega)⟩
   ·rw [if_neg hi] at hee
    have hlt := (Array.getElem?_eq_some_iff.1 hee).1
    rw [if_pos (by omega)] at hie
    exact h5 i kv av' e hie hee) hbl
  rw [List.length_append] at q1 q2
  exact hK X _ _ (Cx.le.refl X) (by rw [s2s]; exact q1) q2 (two (c1k T))
theorem c3t {t : TypeId} {x s y : Operand} {kv : Value} {old : AV} {ik : IntKind} (ho : o.op = .entryStore t x s y) (hx : ev x = some (.mp id g)) (hs : ev s = some (.pv (.int ik (j : Int)))) (hy : ev y = some av) (hj : es[j]? = some (kv, old)) :
  OpS P o ev [(id, (g, .map es))] [(id, (g, .map (es.set j (kv, av))))] (.pv undef) := by
 rintro X B hF' a w Q K ⟨F, hS⟩ hop hT hK
 have hid := hT id _ (List.mem_singleton.2 rfl)
 obtain ⟨b, e1, hb⟩ := (hop x (by simp [ho, Op.operands]) _ hx).mp_inv
 have e2 := (hop s (by simp [ho, Op.operands]) _ hs).pv_inv
 have hv := hop y (by simp [ho, Op.operands]) _ hy
 obtain ⟨b', en, h1, h2, h3, h4, h5⟩ := hS.ent _ _ _ hid
 rw [hb] at h1; cases h1
 have hbl := hS.blk id _ b hid h2
 have hjl : j < en.size := by have := (List.getElem?_eq_some_iff.1 hj).1; omega
 have hen' : en[j]? = some en[j] := by simp
 have born : ∀ i (hi : i < en.size), en[i].born = i := fun i hi => (h5 i _ _ _ (List.getElem?_eq_getElem (by omega)) (by simp : en[i]? = some en[i])).2.2
 have hfi : en.findIdx? (fun e => (e.born : Int) == (j : Int)) = some j := by
  rw [Array.findIdx?_eq_some_iff_getElem]
  refine ⟨hjl, by simp [born j hjl], fun i hi => ?_⟩
  rw [born i (by omega)]
  simp; omega
 have hx2 : (execOp a.eval o).run P w = .ok .skip { w with heap := w.heap.setIfInBounds b (.map (en.modify j fun e => { e with val := a.eval y }) es.length) } := by
  simp only [execOp, ho, Instr.entryStore, e1, e2, asInt, asIntOf, Sem.run_bind, MapKept.run_getObj_map h3, Result.andThen_ok, Sem.run_pure, hfi, MapKept.run_setObj_map _ h3]
 unfold Oper.wp
 rw [hx2, Oper.upon_skip]
 have hm : ∀ i e, (en.modify j fun e => { e with val := a.eval y })[i]? = some e → (i = j ∧ e = { en[j] with val := a.eval y }) ∨ (i ≠ j ∧ en[i]? = some e) := fun i e he => by
  rw [Array.getElem?_modify] at he
  by_cases hij : j = i
  ·subst hij
   rw [if_pos rfl, hen'] at he
   simp only [Option.map_some, Option.some.injEq] at he
   exact .inl ⟨rfl, he.symm⟩
  ·rw [if_neg hij] at he; exact .inr ⟨Ne.symm hij, he⟩
 obtain ⟨q1, q2⟩ := hS.setMap (es' := es.set j (kv, av)) (en := en.modify j fun e => { e with val := a.eval y }) hid hb h2 (by simp [h4]) (fun i kv' av' e hie hee => by
  rcases hm i e hee with ⟨rfl, rfl⟩ | ⟨hne, hee'⟩
  ·rw [List.getElem?_set, if_pos rfl] at hie
   obtain ⟨r1, r2, r3⟩ := h5 i _ _ _ hj hen'
   split at hie
   ·cases hie; exact ⟨r1, hv, r3⟩
   ·cases hie
  ·rw [List.getElem?_set, if_neg (Ne.symm hne)] at hie
   exact h5 i kv' av' e hie hee') hbl
 rw [List.length_set] at q1 q2
 exact hK X _ undef (Cx.le.refl X) (by rw [s2s]; exact q1) q2 (.pv undef)
end
end
section
variable {P : Program} {ev : Operand → Option AV}
variable {o : Oper} {tt : TT} {x y : Operand} {n : Nat}
theorem d9j (htt : a1z P tt) {t e id g : Nat} {S E : TS} {k k' : IntKind} (ho : o.op = .makeSlice t x y) (hs : tt t = some S) (hk : S.kind = .sl e) (he : tt e = some E) (hx : ev x = some (.pv (.int k 0))) (hy : ev y = some (.pv (.int k' (n : Int)))) (hb : E.bytes * n ≤ 281474976710656) (hm : n ≤ maxLen) :
  OpS P o ev [(id, (g, .dead))] [(id, (g + 1, .row e E.size []))] (.ref id (g + 1)) := by
 rintro X B hF a w Q K ⟨F, hS⟩ hop hT hK
 have hid := hT id _ (List.mem_singleton.2 rfl)
 have T := htt _ _ he
 obtain ⟨i, h1, h2, h3, h4⟩ := T.info
 obtain ⟨d, h5, h6⟩ := (htt _ _ hs).desc
 rw [hk] at h6
 simp only [KOk] at h6
 subst h6
 have e1 := f2i hop (by simp [ho, Op.operands]) hx
 have e2 := f2i hop (by simp [ho, Op.operands]) hy
 obtain ⟨w', hr, hown, hgr⟩ := run_make_own (P := P) w 0 t e i _ E.size h5 h1 h4 h2 k k' n (by rw [h3]; exact hb) hm (Nat.zero_le _)
 obtain ⟨hX, hS', hok⟩ := hS.newRow hid (ty := e) (sz := E.size) (xs := []) (us := []) (L := []) (S := []) (.of hgr [] (by simp)) (by simp) (by simp) List.nodup_nil (.of hown) (fun b hb => .inr (by rw [b6h hb]; exact Nat.le_refl _)) (fun j x hx => by simp at hx) .nil
 unfold Oper.wp
 have hx2 : (execOp a.eval o).run P w = .ok (.value (.slice (some ⟨w.heap.size, 0, none⟩) 0 n)) w' := by
  simp only [execOp, ho, e1, e2, Sem.run_bind, hr, Result.andThen_ok, Sem.run_pure]
 rw [hx2, Oper.upon_value]
 exact hK _ _ _ hX (by rw [s2s]; exact hS') hok .setR
theorem TRs.takeFlat (hl : Lens sz xs) (h : TRs X w xs.flatten us S) (hn : n ≤ xs.length) : ∃ S1 S2, S = S1 ++ S2 ∧ TRs X w (xs.take n).flatten (us.take (n * sz)) S1 := by
 have e : xs.flatten = (xs.take n).flatten ++ (xs.drop n).flatten := by rw [← List.flatten_append, List.take_append_drop]
 rw [e] at h
 obtain ⟨us1, us2, S1, S2, rfl, rfl, k1, k2⟩ := h.split
 refine ⟨S1, S2, rfl, ?_⟩
 have hl1 : us1.length = n * sz := by
  rw [k1.len, a8l _ (fun j x hx => by
   rw [List.getElem?_take] at hx
   split at hx
   ·exact hl j x hx
   ·cases hx), List.length_take, Nat.min_eq_left hn]
 rw [← hl1, List.take_left']
 ·exact k1
 ·rfl

theorem d9k (htt : a1z P tt) {t e id g ty sz : Nat} {x hi : Operand} {S E : TS} {xs : List (List AV)} {k : IntKind} {u : Nat} (ho : o.op = .slice t x none (some hi) none) (hx : ev x = some (.ref id g)) (hs : tt t = some S) (hk : S.kind = .sl e) (he : tt e = some E) (hz : sz = E.size) (hu : ev hi = some (.pv (.int k (u : Int)))) (h2 : u ≤ xs.length) :
  OpS P o ev [(id, (g, .row ty sz xs))] [(id, (g + 1, .row ty sz (xs.take u)))] (.ref id (g + 1)) := by
 rintro X B hF a w Q K ⟨F, hS⟩ hop hT hK
 have hid := hT id _ (List.mem_singleton.2 rfl)
 obtain ⟨A, n, c, sz0, e1, hr0⟩ := (hop x (by simp [ho, Op.operands]) _ hx).ref_inv
 have e2 := (hop hi (by simp [ho, Op.operands]) _ hu).pv_inv
 obtain ⟨v, us, S0, q1, q2, q3, q4, q5, q6⟩ := hS.ent _ _ _ hid
 rw [hr0] at q1
 cases q1
 obtain ⟨n1, n2, n3⟩ := q2.n0
 subst n1
 have hr := c0u (P := P) htt hs hk he w A xs.length c n2 (a := a) (lo := none) (hi := some hi) (l := 0) (u := (u : Int)) (.inl ⟨rfl, rfl⟩) (.inr ⟨hi, k, rfl, e2⟩) (Int.le_refl _) (by omega) (by omega)
 have hval : (.slice (if c = (0 : Int).toNat then A else A.map (·.add ((0 : Int).toNat * E.size))) ((u : Int).toNat - (0 : Int).toNat) (c - (0 : Int).toNat) : Value) = .slice A u c := by
  have : (A.map fun x => x.add 0) = A := by cases A <;> simp [Addr.add]
  simp [this]
 rw [hval] at hr
 obtain ⟨S1, S2, rfl, t1⟩ := q4.takeFlat q3 h2
 have hl : (xs.take u).length = u := by rw [List.length_take]; omega
 have hown : Own w ty sz (.slice A u c) (xs.take u).length (us.take (u * sz)) := by
  rw [hl]
  refine ⟨by
   have := q2.1
   have : u * sz ≤ xs.length * sz := Nat.mul_le_mul_right _ h2
   rw [List.length_take]; omega, ?_⟩
  rcases q2.2 with ⟨A', r1, r2⟩ | ⟨b, cap, cur, r1, r0, r3, r4, r5, r6, r7⟩
  ·have : u = 0 := by omega
   subst this
   injection r1 with _ _ r3
   rw [r3]
   exact .inl ⟨A, rfl, rfl⟩
  ·cases r1
   refine .inr ⟨b, _, cur, rfl, r0, r3, by omega, r5, r6, ?_⟩
   rw [← r7, List.take_take, Nat.min_eq_left (Nat.mul_le_mul_right _ h2)]
 have hB : a9h (.slice A u c) = a9h (.slice A xs.length c) := by
  cases A with
  | none => rfl
  | some ad => cases c <;> rfl
 have hnd := List.nodup_append.1 q5
 obtain ⟨hX, hS', hok⟩ := hS.newRow hid (w' := w) (ty := ty) (sz := sz) (xs := xs.take u) (us := us.take (u * sz)) (v := .slice A u c) (L := []) (S := S1) (Grew.refl w _) (by simp) (fun b hb => q6 b (by simp [hb])) (List.nodup_append.1 hnd.2.1).1 hown (fun b hb => .inl ⟨q6 b (by rw [hB] at hb; simp [hb]), fun hb1 => hnd.2.2 b (by rw [hB] at hb; simp [hb]) b (by simp [hb1]) rfl⟩)
  (fun j z hj => by
   rw [List.getElem?_take] at hj
   split at hj
   ·exact q3 j z hj
   ·cases hj) t1
 unfold Oper.wp
 have hx2 : (execOp a.eval o).run P w = .ok (.value (.slice A u c)) w := by
  simp only [execOp, ho, Sem.run_bind, e1]
  rw [show (Option.map a.eval (none : Option Operand)) = none from rfl] at hr ⊢
  simp only [Option.map_none, hr, Result.andThen_ok, Sem.run_pure]
 rw [hx2, Oper.upon_value]
 exact hK _ _ _ hX (by rw [s2s]; exact hS') hok .setR
variable {id : Nat}

theorem e9d (htt : a1z P tt) (ho : o.op = .slice t x lo hi none) (hx : ev x = some (.ref id g)) (hs : tt t = some S) (hk : S.kind = .sl e) (he : tt e = some E) (hz : sz = E.size)
  (hlo : (lo = none ∧ l = 0) ∨ ∃ y k, lo = some y ∧ ev y = some (.pv (.int k l))) (hhi : (hi = none ∧ u = xs.length) ∨ ∃ y k, hi = some y ∧ ev y = some (.pv (.int k u))) (h0 : 0 ≤ l) (h1 : l ≤ u) (h2 : u ≤ xs.length) :
  OpS P o ev [(id, (g, .row ty sz xs))] [] (.cut id g l.toNat u.toNat) :=
 .quiet fun X B hF a w hS hop hT => by
  obtain ⟨F, hS⟩ := hS
  have hid := hT id _ (List.mem_singleton.2 rfl)
  obtain ⟨A, n, c, sz0, e1, hr0⟩ := (hop x (by simp [ho, Op.operands]) _ hx).ref_inv
  obtain ⟨v, us, S0, q1, q2, q3, q4, q5, q6⟩ := hS.ent _ _ _ hid
  rw [hr0] at q1
  cases q1
  obtain ⟨n1, n2, n3⟩ := q2.n0
  subst n1
  have hr := c0u (P := P) htt hs hk he w A xs.length c n2 (a := a) (lo := lo) (hi := hi) (l := l) (u := u) (d3j (o := o) (fun y hy => by subst hy; simp [ho, Op.operands]) hop hlo) (d3j (o := o) (fun y hy => by subst hy; simp [ho, Op.operands]) hop hhi) h0 h1 h2
  refine ⟨_, by simp only [execOp, ho, Sem.run_bind, e1, Option.map_none]; rw [hr]; simp only [Result.andThen_ok, Sem.run_pure]; rfl, ?_⟩
  refine .cut hr0 (by omega) (by omega) (by omega) (by omega) (fun hlt => ?_)
  have hne : ¬ c = l.toNat := by omega
  rcases q2.2 with ⟨A', r1, r2⟩ | ⟨b, cap, cur, r1, _⟩
  ·omega
  ·cases r1
   exact ⟨_, rfl, by rw [if_neg hne, hz]; rfl⟩

theorem e9f (htt : a1z P tt) (ho : o.op = .slice t x none none none) (hx : ev x = some (.ptr id g off)) (hs : tt t = some S) (hk : S.kind = .arr n e) (hi : P.info? e = some i) (hm : n ≤ maxLen) :
  OpS P o ev [] [] (.bsl id g off n) :=
 .quiet fun X B hF a w hS hop hT => by
  obtain ⟨b, e1, hb⟩ := (hop x (by simp [ho, Op.operands]) _ hx).ptr_inv
  refine ⟨.slice (some ⟨b, off, none⟩) n n, ?_, .bsl hb (Nat.le_refl _) hm⟩
  obtain ⟨d, h5, h6⟩ := (htt _ _ hs).desc
  rw [hk] at h6
  simp only [KOk] at h6
  subst h6
  have hA : P.arrayLen t = n := by simp [Program.arrayLen, h5]
  have hE : P.elem t = e := by simp [Program.elem, h5]
  have h0 : (⟨b, off, none⟩ : Addr).add 0 = ⟨b, off, none⟩ := by simp [Addr.add]
  have := run_sliceAt_array_all (P := P) w t ⟨b, off, none⟩ (by rw [hA, hE]; exact h5)
  rw [hA, hE, run_sizeOf w hi] at this
  rw [Result.andThen_ok] at this
  simp only [execOp, ho, e1, Option.map_none, Sem.run_bind]
  rw [this]
  simp [slicedAt, h0]
section
variable {tt : TT} {ops : Array Oper} {r : List Oper} {fr : Fr} {h : Hp} {lg : Log} {K : Fr → Hp → Log → Prop} {d : Nat} {ty : TypeId} {pos : String} {af : Array Edge}
variable {g : Nat}
theorem d3z (htt : a1z P tt) {t e : Nat} (hs : tt t = some S) (hk : S.kind = .sl e) (he : tt e = some E) (hx : evO fr x = some (.pv (.int k1 0))) (hy : evO fr y = some (.pv (.int k2 (n : Int)))) (hb : E.bytes * n ≤ 281474976710656) (hm : n ≤ maxLen) (hd : y4y h id = some (g, .dead))
  (k : u4u P tt ops r ((d, .ref id (g + 1)) :: fr) ((id, (g + 1, .row e E.size [])) :: h) (([id], [id]) :: lg) K) : u4u P tt ops (⟨some d, .makeSlice t x y, ty, pos, af, none⟩ :: r) fr h lg K :=
 a5q (d9j htt rfl hs hk he hx hy hb hm) (.one hd) (.one (List.mem_singleton.2 rfl)) k
theorem e4l (htt : a1z P tt) {t e rty sz : Nat} {u id g : Nat} (hx : evO fr x = some (.ref id g)) (hs : tt t = some S) (hk : S.kind = .sl e) (he : tt e = some E) (hz : sz = E.size) (hu : evO fr hi = some (.pv (.int k1 (u : Int)))) (hh : y4y h id = some (g, .row rty sz xs)) (h2 : u ≤ xs.length) (hy : xs.take u = ys)
  (k : u4u P tt ops r ((d, .ref id (g + 1)) :: fr) ((id, (g + 1, .row rty sz ys)) :: h) (([id], [id]) :: lg) K) : u4u P tt ops (⟨some d, .slice t x none (some hi) none, ty, pos, af, none⟩ :: r) fr h lg K := by
 subst hy
 exact a5q (d9k htt rfl hx hs hk he hz hu h2) (.one hh) (.one (List.mem_singleton.2 rfl)) k
theorem d4a (htt : a1z P tt) (hx : evO fr x = some (.ref id g)) (hs : tt t = some S) (hk : S.kind = .sl e) (he : tt e = some E) (hz : sz = E.size) (hh : y4y h id = some (g, .row rty sz xs)) (ha : e3q fr 0 lo = some l) (hb : e3q fr (xs.length : Int) hi = some u) (h0 : 0 ≤ l) (h1 : l ≤ u) (h2 : u ≤ xs.length)
  (k : u4u P tt ops r ((d, .cut id g l.toNat u.toNat) :: fr) h (([id], []) :: lg) K) : u4u P tt ops (⟨some d, .slice t x lo hi none, ty, pos, af, none⟩ :: r) fr h lg K :=
 a5q (e9d htt rfl hx hs hk he hz (b8h ha) (b8h hb) h0 h1 h2) (.one hh) .nil k
theorem d4b (htt : a1z P tt) (hx : evO fr x = some (.ptr id g off)) (hs : tt t = some S) (hk : S.kind = .arr n e) (he : tt e = some E) (hm : Nat.ble n 1000000 = true)
  (k : u4u P tt ops r ((d, .bsl id g off n) :: fr) h (([], []) :: lg) K) : u4u P tt ops (⟨some d, .slice t x none none none, ty, pos, af, none⟩ :: r) fr h lg K := by
 obtain ⟨i, h1, _⟩ := (htt _ _ he).info
 exact a5q (e9f htt rfl hx hs hk h1 (by have := Nat.le_of_ble_eq_true hm; unfold maxLen; omega)) .nil .nil k
theorem d9l {t e : Nat} {x ix : Operand} {S E : TS} {id g off len j : Nat} {kd : IntKind} (htt : a1z P tt) (hx : evO fr x = some (.bsl id g off len)) (hi : evO fr ix = some (.pv (.int kd (j : Int)))) (hs : tt t = some S) (hk : S.kind = .sl e) (he : tt e = some E) (hz : E.size = 1) (hj : j < len) (k : u4u P tt ops r ((d, .ptr id g (off + j)) :: fr) h (([], []) :: lg) K) :
  u4u P tt ops (⟨some d, .indexAddr t x ix, ty, pos, af, none⟩ :: r) fr h lg K :=
 a5q (c0s htt rfl hx hi hs hk he hz (by omega) (by omega)) .nil .nil (by rw [Int.toNat_natCast]; exact k)
theorem c5a (hd : y4y h id = some (g, .dead)) (k : u4u P tt ops r ((d, .mp id (g + 1)) :: fr) ((id, (g + 1, .map [])) :: h) (([id], [id]) :: lg) K) : u4u P tt ops (⟨some d, .makeMap t none, ty, pos, af, none⟩ :: r) fr h lg K :=
 a5q (d1y rfl) (.one hd) (.one (List.mem_singleton.2 rfl)) k
variable {κ : Type} [DecidableEq κ] {enc : κ → Value} {kt : TypeId}
theorem a6e (htt : a1z P tt) (hu : P.underlying t = some (.map kt et)) (hF : FindK P kt enc) (hx : evO fr x = some (.mp id g)) (hi : evO fr ix = some ka) (hka : ∀ X w v, VR X w ka v → v = enc k) (hh : y4y h id = some (g, .map es)) (hes : es.map (·.1) = ks.map enc)
  (hout : (∃ j kv, a6o ks k = some j ∧ es[j]? = some (kv, out)) ∨ (a6o ks k = none ∧ ∃ S, tt et = some S ∧ out = b8n S)) (kk : u4u P tt ops r ((d, out) :: fr) h (([id], []) :: lg) K) : u4u P tt ops (⟨some d, .lookup t x ix false, ty, pos, af, none⟩ :: r) fr h lg K :=
 a5q (d6l htt rfl hu hF hx hi hka hes hout) (.one hh) .nil kk
theorem c9d (hu : P.underlying t = some (.map kt et)) (hF : FindK P kt enc) (hx : evO fr x = some (.mp id g)) (hi : evO fr ix = some ka) (hy : evO fr y = some av) (hka : ∀ X w v, VR X w ka v → v = enc k) (hh : y4y h id = some (g, .map es)) (hes : es.map (·.1) = ks.map enc)
  (hout : (∃ j, a6o ks k = some j ∧ es' = es.set j (enc k, av)) ∨ (a6o ks k = none ∧ es' = es ++ [(enc k, av)])) (kk : u4u P tt ops r fr ((id, (g, .map es')) :: h) (([id], [id]) :: lg) K) : u4u P tt ops (⟨none, .mapUpdate t x ix y, ty, pos, af, none⟩ :: r) fr h lg K :=
 c5z (c6e rfl hu hF hx hi hy hka hes hout) (.one hh) (.one (List.mem_singleton.2 rfl)) kk
theorem a5s (htt : a1z P tt) (hu : P.underlying t = some (.map kt et)) (hF : FindK P kt enc) (hx : evO fr x = some (.mp id g)) (hi : evO fr ix = some ka) (hka : ∀ X w v, VR X w ka v → v = enc k) (hh : y4y h id = some (g, .map es)) (hes : es.map (·.1) = ks.map enc)
  (hout : (a6o ks k = some j ∧ es[j]? = some (enc k, out) ∧ es' = es) ∨ (a6o ks k = none ∧ j = es.length ∧ es' = es ++ [(enc k, out)] ∧ ∃ S, tt et = some S ∧ out = b8n S)) (kk : u4u P tt ops r ((d, .tup [out, .pv (.int .i64 (j : Int))]) :: fr) ((id, (g, .map es')) :: h) (([id], [id]) :: lg) K) : u4u P tt ops (⟨some d, .mapEntry t x ix, ty, pos, af, none⟩ :: r) fr h lg K :=
 a5q (c9b htt rfl hu hF hx hi hka hes hout) (.one hh) (.one (List.mem_singleton.2 rfl)) kk
variable {j : Nat}
theorem q9q {t : TypeId} {x s y : Operand} {es es' : List (Value × AV)} {av : AV} {kv : Value} {old : AV} {ik : IntKind} (hx : evO fr x = some (.mp id g)) (hs : evO fr s = some (.pv (.int ik (j : Int)))) (hy : evO fr y = some av) (hh : y4y h id = some (g, .map es)) (hj : es[j]? = some (kv, old)) (he : es.set j (kv, av) = es') (kk : u4u P tt ops r fr ((id, (g, .map es')) :: h) (([id], [id]) :: lg) K) :
  u4u P tt ops (⟨none, .entryStore t x s y, ty, pos, af, none⟩ :: r) fr h lg K := by
 subst he
 exact c5z (c3t rfl hx hs hy hj) (.one hh) (.one (List.mem_singleton.2 rfl)) kk
end
theorem f3h (h : VR X w (.pv u) v) : v = u := h.pv_inv
theorem a5t (h : VR X w (.agg (l.map pI)) v) : v = c3k l := by
 obtain ⟨us, rfl, hu⟩ := h.agg_inv
 have : ∀ (l : List Int) (us : List Value), VRs X w (l.map pI) us → us = l.map (Value.int .i64) := by
  intro l
  induction l with
  | nil => intro us h; exact List.eq_nil_of_length_eq_zero (by simpa using h.len)
  | cons a l ih =>
   intro us h
   cases us with
   | nil => have := h.len; simp at this
   | cons z zs =>
    have h0 := (h.rel 0 _ z rfl rfl).pv_inv
    rw [h0, ih zs h.tail, List.map_cons]
 rw [this l us hu]; rfl
end
section
variable {P : Program} {ev : Operand → Option AV}
def b8o (n e sz : Nat) : List (Nat × Nat) := (List.range n).map fun i => (i * sz, e)
theorem c9e {tt : TT} (htt : a1z P tt) (ho : o.op = .build t parts) (hs : tt t = some S) (hk : S.kind = .arr n e) (he : tt e = some E)
  (hp : b0k ev parts.toList = some l) (hf : b8e tt (b8o n e E.size) (S.zero.map .pv) l = some cs) : OpS P o ev [] [] (.agg cs) :=
 .quiet fun X B hF a w hS hop hT => by
  have T := htt _ _ hs
  have TE := htt _ _ he
  obtain ⟨i, h1, h2, h3, h4⟩ := T.info
  obtain ⟨d, h5, h6⟩ := T.desc
  rw [hk] at h6
  simp only [KOk] at h6
  subst h6
  obtain ⟨k1, k2⟩ := b4w (X := X) (w := w) (a := a) parts.toList l hp (fun x hx => hop x (by
   simp only [ho, Op.operands]
   simpa using hx))
  obtain ⟨us', g3, g4⟩ := b4v htt (place := fun j => some (j * E.size, E.size)) (fun i off ft s h h' => by
   simp only [b8o, List.getElem?_map] at h
   cases hr : (List.range n)[i]? with
   | none => rw [hr] at h; cases h
   | some j =>
    rw [hr] at h
    have hj : j = i := by
     have := List.getElem?_eq_some_iff.1 hr
     obtain ⟨q, q2⟩ := this
     simpa using q2.symm
    simp only [Option.map_some, Option.some.injEq, Prod.mk.injEq] at h
    obtain ⟨rfl, rfl⟩ := h
    rw [he] at h'; cases h'
    rw [hj]) l _ _ cs S.zero hf (VRs.pvs (X := X) (w := w) T.z1) k1 k2
  have hag : S.agg = true := by simp [TS.agg, hk]
  have hz := T.zeroValue w
  rw [hag] at hz
  simp only [if_true] at hz
  refine ⟨.agg us'.toArray, ?_, g4.agg⟩
  have g3' : Instr.fill (fun j => some (j * E.size, E.size)) S.zero.toArray (parts.map fun (i, x) => (i, a.eval x)).toList = some us'.toArray := by
   rw [Array.toList_map]; exact g3
  simp only [execOp, ho, Sem.run_bind, Instr.build, hz, Result.andThen_ok, run_underlying h5, TE.sizeOf, Value.cells, g3', Sem.run_pure]
section
variable {tt : TT} {ops : Array Oper} {r : List Oper} {fr : Fr} {h : Hp} {lg : Log} {K : Fr → Hp → Log → Prop} {d : Nat} {ty : TypeId} {pos : String} {af : Array Edge}
theorem b5k (htt : a1z P tt) (hs : tt t = some S) (hk : S.kind = .arr n e) (he : tt e = some E) (hz : S.zero.map .pv = zs) (hp : b0k (evO fr) parts.toList = some l) (hf : b8e tt (b8o n e E.size) zs l = some cs)
  (k : u4u P tt ops r ((d, .agg cs) :: fr) h (([], []) :: lg) K) : u4u P tt ops (⟨some d, .build t parts, ty, pos, af, none⟩ :: r) fr h lg K := by
 subst hz
 exact a5q (c9e htt rfl hs hk he hp hf) .nil .nil k
variable {x ix : Operand} {S E : TS} {kd : IntKind} {j : Nat}
theorem b5l (htt : a1z P tt) {t n e : Nat} {a out : AV} (hx : evO fr x = some a) (hi : evO fr ix = some (.pv (.int kd (j : Int)))) (hs : tt t = some S) (hk : S.kind = .arr n e) (he : tt e = some E) (h1 : j < n) (ho : shift (j * E.size) a = some out)
  (k : u4u P tt ops r ((d, out) :: fr) h (([], []) :: lg) K) : u4u P tt ops (⟨some d, .indexAddr t x ix, ty, pos, af, none⟩ :: r) fr h lg K :=
 a5q (c0t htt rfl hx hi hs hk he (by omega) (by omega) (by rw [Int.toNat_natCast]; exact ho)) .nil .nil k
variable {α : Type}
theorem c6f {f : α → List AV} {l : List α} {el : α} (hj : l[j]? = some el) : (l.map f).getD j [] = f el := by
 rw [List.getD_eq_getElem?_getD, List.getElem?_map, hj]; rfl
theorem z2z {l : List α} {el : α} (hj : l[j]? = some el) : j < l.length := (List.getElem?_eq_some_iff.1 hj).1
variable {t id g off rty sz : Nat} {out : AV}
theorem a5f {f : α → List AV} {l : List α} {el : α} (hx : evO fr x = some (.elt id g j off)) (hs : tt t = some S) (hh : y4y h id = some (g, .row rty sz (l.map f))) (hj : l[j]? = some el) (hl : ldv S ((f el).drop off) = some out)
  (k : u4u P tt ops r ((d, out) :: fr) h (([id], []) :: lg) K) : u4u P tt ops (⟨some d, .load t x, ty, pos, af, none⟩ :: r) fr h lg K :=
 c1g hx hs hh (by rw [List.length_map]; exact z2z hj) (c6f hj) hl k
theorem s6s {f : α → List AV} {l : List α} {el : α} (hx : evO fr x = some (.elt id g j 0)) (hs : tt t = some S) (hh : y4y h id = some (g, .row rty sz (l.map f))) (hj : l[j]? = some el) (ha : S.agg = true) (hn : S.size = (f el).length)
  (k : u4u P tt ops r ((d, .agg (f el)) :: fr) h (([id], []) :: lg) K) : u4u P tt ops (⟨some d, .load t x, ty, pos, af, none⟩ :: r) fr h lg K :=
 a5f hx hs hh hj (by rw [List.drop_zero]; exact d1v ha hn) k
variable {e : Nat}

theorem z0z {f : α → List AV} {l : List α} (hx : evO fr x = some (.ref id g)) (hi : evO fr ix = some (.pv (.int kd (j : Int)))) (hs : tt t = some S) (hk : S.kind = .sl e) (he : tt e = some E) (hh : y4y h id = some (g, .row rty sz (l.map f))) (hz : sz = E.size) (h1 : j < l.length)
  (k : u4u P tt ops r ((d, .elt id g j 0) :: fr) h (([id], []) :: lg) K) : u4u P tt ops (⟨some d, .indexAddr t x ix, ty, pos, af, none⟩ :: r) fr h lg K :=
 d8v hx hi hs hk he hh hz (by rw [List.length_map]; exact h1) k
theorem a6f (hx : evO fr x = some (.elt id g i off)) (hy : evO fr y = some b) (hs : tt t = some S) (hb : b.okc = true) (hn : (a0i b).length = S.size) (hh : y4y h id = some (g, .row rty sz xs)) (hi : i < xs.length) (hl : off + S.size ≤ sz)
  (hab : Abs (a0i b) h cs' T W) (hT : (T.any (·.1 == id)) = false) (k : u4u P tt ops r fr (((id, (g, .row rty sz (xs.set i ((xs.getD i []).take off ++ cs' ++ (xs.getD i []).drop (off + S.size))))) :: W) ++ h) ((id :: ids T, id :: ids W) :: lg) K) : u4u P tt ops (⟨none, .store t x y, ty, pos, af, none⟩ :: r) fr h lg K := by
 refine a1b ?_; simp only [a0x, Opt, hx, hy, hs]
 exact ⟨hb, hn, by simp only [hh, true_and]; exact ⟨hi, hl, (cs', T, W), hab, hT, k⟩⟩
theorem Abs.len (k : Abs cs h cs' T W) : cs'.length = cs.length := by
 induction k with
 | nil => rfl
 | ref _ _ _ _ _ ih => simp [ih]
 | val _ _ _ ih => simp [ih]
variable {y : Operand} {T W : TL}

theorem v5v {f : α → List AV} {l : List α} {el : α} {bs cs' : List AV} (el' : α) (hx : evO fr x = some (.elt id g j 0)) (hy : evO fr y = some (.agg bs)) (hs : tt t = some S) (hn : bs.length = S.size) (hz : S.size = sz) (hh : y4y h id = some (g, .row rty sz (l.map f))) (hj : l[j]? = some el) (hf : (f el).length = sz)
  (hab : Abs bs h cs' T W) (he : cs' = f el') (hT : (T.any (·.1 == id)) = false) (k : u4u P tt ops r fr (((id, (g, .row rty sz ((l.set j el').map f))) :: W) ++ h) ((id :: ids T, id :: ids W) :: lg) K) : u4u P tt ops (⟨none, .store t x y, ty, pos, af, none⟩ :: r) fr h lg K := by
 have hj' := z2z hj
 refine a6f hx hy hs rfl hn hh (by rw [List.length_map]; exact hj') (by omega) hab hT ?_
 have : (l.map f).set j (((l.map f).getD j []).take 0 ++ cs' ++ ((l.map f).getD j []).drop (0 + S.size)) = (l.set j el').map f := by
  rw [c6f hj, List.take_zero, List.nil_append, Nat.zero_add, List.drop_of_length_le (by omega), List.append_nil, he, List.map_set]
 rw [this]; exact k
variable {cs' : List AV}

theorem b3p {f : α → List AV} {l : List α} {el : α} {b : AV} (el' : α) (hx : evO fr x = some (.elt id g j off)) (hy : evO fr y = some b) (hs : tt t = some S) (hb : b.one = true) (hn : S.size = 1) (hh : y4y h id = some (g, .row rty sz (l.map f))) (hj : l[j]? = some el) (hf : (f el).length = sz) (ho : off < sz)
  (hab : Abs [b] h cs' T W) (he : (f el).take off ++ cs' ++ (f el).drop (off + 1) = f el') (hT : (T.any (·.1 == id)) = false) (k : u4u P tt ops r fr (((id, (g, .row rty sz ((l.set j el').map f))) :: W) ++ h) ((id :: ids T, id :: ids W) :: lg) K) : u4u P tt ops (⟨none, .store t x y, ty, pos, af, none⟩ :: r) fr h lg K := by
 have hj' := z2z hj
 refine a6f hx hy hs (c1f hb) (by rw [a2r hb, hn]; rfl) hh (by rw [List.length_map]; exact hj') (by omega) (by rw [a2r hb]; exact hab) hT ?_
 have : (l.map f).set j (((l.map f).getD j []).take off ++ cs' ++ ((l.map f).getD j []).drop (off + S.size)) = (l.set j el').map f := by
  rw [c6f hj, hn, he, List.map_set]
 rw [this]; exact k
end
theorem HE.map {id : Nat} (he : y4y h id = some (g, .map xs)) (e : xs = xs') (t : HE h r) : HE h ((id, (g, .map xs')) :: r) := by
 subst e; exact .same he t
end
section
variable {P : Program} {n : Nat} {fr : Fr} {h : Hp} {Q : Exit → Fr → Hp → Prop}
theorem TRs.toOw (h : TRs X w (cs1 ++ .pv (.slice none 0 0) :: cs2) us S) (ty sz : Nat) : TRs X w (cs1 ++ .row .ow ty sz [] :: cs2) us S := by
 obtain ⟨us1, v, us2, S1, S0, S2, rfl, rfl, l1, t1, tm, t2⟩ := h.mid
 have h0 : v = .slice none 0 0 ∧ S0 = [] := by
  generalize hl : [AV.pv (.slice none 0 0)] = l at tm
  cases tm with
  | vr _ _ k t => cases hl; cases t; exact ⟨k.pv_inv, rfl⟩
  | own => cases hl
 obtain ⟨rfl, rfl⟩ := h0
 exact t1.append (.own (X := X) (w := w) (xs := []) (ws := []) (S' := []) (v := .slice none 0 0) ⟨by simp, .inl ⟨none, rfl, rfl⟩⟩ (fun j x hx => by simp at hx) .nil t2)
variable {id g : Nat}
theorem SRf.re {X : Cx} {B : Base} {h : HF} {F : Nat → List Nat} {w : World} (H : SRf X B h F w) {e e' : Ent} (he : h id = some (g, e)) (hin : EntOK X w id g (F id) e → EntOK X w id g (F id) e') : SRh X B (upd h id (g, e')) w :=
 ⟨_, H.turn (f := F id) he (Cx.le.refl X) rfl rfl (fun _ _ _ => ⟨rfl, rfl⟩) (Nat.le_refl g) (Grew.refl w _) (hin (H.ent id g e he)) (fun b hb => ⟨.inl hb, H.blk _ _ b he hb⟩)⟩
theorem e9g (id off e sz : Nat) (hh : y4y h id = some (g, .box ty cs)) (hc : cs[off]? = some (.pv (.slice none 0 0))) (hcs : cs.set off (.row .ow e sz []) = cs')
  (k : Ex P n c fr ((id, (g, .box ty cs')) :: h) Q) : Ex P n c fr h Q := by
 subst hcs
 refine a5e (fun X B w hS => ⟨X, Cx.le.refl X, rfl, ?_⟩) k
 obtain ⟨F, hS⟩ := hS
 rw [a3g]
 refine hS.re hh fun hE => ?_
 obtain ⟨b, us, S, h1, h2, h3, h4, h5⟩ := hE
 obtain ⟨p1, p2⟩ := b5h hc
 rw [p1] at h3
 exact ⟨b, us, S, h1, h2, by rw [p2]; exact h3.toOw e sz, h4, h5⟩
theorem e4m (he : hf h = hf h') (k : Ex P n c fr h' Q) : Ex P n c fr h Q := fun X B a w hS hF hd => k X B a w (he ▸ hS) hF hd

theorem a1d (id off id' e sz : Nat) (hh : y4y h id = some (g, .box ty cs)) (hc : cs[off]? = some (.pv (.slice none 0 0))) (hd : y4y h id' = some (g', .dead)) (hne : Nat.beq id id' = false) (hcs : cs.set off (.ref id' (g' + 1)) = cs')
  (k : Ex P n c fr ((id, (g, .box ty cs')) :: (id', (g' + 1, .row e sz [])) :: h) Q) : Ex P n c fr h Q := by
 subst hcs
 have hne' : id ≠ id' := fun e => by subst e; rw [Nat.beq_refl] at hne; cases hne
 have hlt := (List.getElem?_eq_some_iff.1 hc).1
 refine e9g id off e sz hh hc rfl ?_
 refine d9g (ty2 := e) (sz2 := sz) (ys := []) (cs := cs.set off (.row .ow e sz [])) id off id' (by rw [u8u, if_pos rfl]) (by rw [List.getElem?_set, if_pos rfl, if_pos hlt]) (by rw [u8u, if_neg hne']; exact hd) hne (List.set_set ..) ?_
 refine e4m (funext fun q => ?_) k
 show y4y _ q = y4y _ q
 simp only [u8u]
 by_cases h1 : id = q
 ·simp [h1]
 ·by_cases h2 : id' = q <;> simp [h1, h2]
theorem e4n (u : List Int) : (u.map pI).map (inC ρ c) = u.map pI := by
 rw [List.map_map]; exact List.map_congr_left fun _ _ => rfl
theorem c9f (m : Nat) (u : List Int) : ((u.map pI).all (d8y m)) = true := by
 rw [List.all_map]; exact List.all_eq_true.2 fun _ _ => rfl
theorem HE.cast (e : a = b) (k : HE h b) : HE h a := e ▸ k
theorem d4c {S : TS} {u : List Int} {i : Nat} {a : Int} (hS : S.agg = false) (h : u[i]? = some a) : ldv S ((u.map pI).drop (0 + i)) = some (pI a) := by
 unfold ldv; rw [hS, Nat.zero_add, List.head?_drop, List.getElem?_map, h]; rfl
theorem a5w : ∀ u : List Int, Abs (u.map pI) h (u.map pI) [] []
 | [] => .nil
 | _ :: u => .val rfl rfl (a5w u)
theorem r6r {α : Type} {f : α → List AV} {l : List α} {c : Code} (t : Nat) {id g ty sz : Nat} (ht : fr.get t = some (.ref id g)) (hh : y4y h id = some (g, .row ty sz (l.map f))) (hf : ∀ a, ((f a).all AV.cl) = true)
  (k : Ex P n c ((t, .row (.rd true) ty sz (l.map f)) :: fr) ((id, (g, .dead)) :: h) Q) : Ex P n c fr h Q := d3y t ht (.ref hh (Le.ow_map l (fun _ => rfl) hf) .nil) k
end
section
variable {P : Program} {n : Nat} {fr : Fr} {h : Hp} {Q : Exit → Fr → Hp → Prop}
def e9h (n : Nat) (Q : Exit → Fr → Hp → Prop) (B : Base) (X0 : Cx) (w0 : World) : Exit → Act → World → Prop := fun e a' w' => ∃ fr' h' X', Q e fr' h' ∧ X0.le X' ∧ SRh X' B (hf h') w' ∧ FrOK X' w' n (Fr.get fr') a' ∧ a'.defers = [] ∧ ∀ b, X0.ok2 b → w'.heap[b]? = w0.heap[b]?

def f3i (P : Program) (n : Nat) (ops : Array Oper) (Q : Exit → Fr → Hp → Prop) (B : Base) (X0 : Cx) (w0 : World) (fuel : Nat) (listed : Array Bool) (fr : Fr) (h : Hp) : Prop :=
 ∀ (X : Cx) (a : Act) (w : World), X0.le X → (∀ b, X0.ok2 b → w.heap[b]? = w0.heap[b]?) → SRh X B (hf h) w → FrOK X w n fr.get a → a.defers = [] → wpAny P .any ops (e9h n Q B X0 w0) fuel listed a w
theorem c3u (hm : P.follows .mixedOrders = true) {id : Nat} (hs : ops.size = m) (hr : ∀ B X0 w0, f3i P n ops Q B X0 w0 m (Array.replicate m false) fr h) : Ex P n (.region id ops true) fr h Q := fun X B a w hS hF hd => by
 subst hs
 refine wp_region_any hm ?_
 exact hr B X w X a _ (Cx.le.refl X) (fun _ _ => rfl) (hS.drew rfl rfl rfl rfl) (hF.mono (Cx.le.refl X) hS.ok12 (fun _ _ => rfl)) hd
section
variable {tt : TT} {ops : Array Oper} {B : Base} {X0 : Cx} {w0 : World} {fuel : Nat} {listed : Array Bool}

inductive AnyL (P : Program) (n : Nat) (ops : Array Oper) (Q : Exit → Fr → Hp → Prop) (B : Base) (X0 : Cx) (w0 : World) (fuel : Nat) (listed : Array Bool) (tt : TT) (fr : Fr) (h : Hp) : List Nat → Prop
 | nil : AnyL P n ops Q B X0 w0 fuel listed tt fr h []
 | cons {i : Nat} {o : Oper} {r : List Nat} (ho : ops[i]? = some o) (hg : o.guard = none) (hd : (match o.dst with | some d => decide (d < n) | none => true) = true)
   (k : u4u P tt ops [o] fr h [] fun fr' h' _ => f3i P n ops Q B X0 w0 fuel (listed.setIfInBounds i true) fr' h') (t : AnyL P n ops Q B X0 w0 fuel listed tt fr h r) : AnyL P n ops Q B X0 w0 fuel listed tt fr h (i :: r)
theorem z7z (htt : a1z P tt) (hr : Region.ready .any ops listed = l) (hne : l ≠ []) (k : AnyL P n ops Q B X0 w0 fuel listed tt fr h l) : f3i P n ops Q B X0 w0 (fuel + 1) listed fr h := by
 intro X a w hX hw hS hF hdf
 refine ⟨fun he => absurd (hr.symm.trans he) hne, ?_⟩
 rw [hr]
 clear hr hne
 induction k with
 | nil => intro i hi; cases hi
 | @cons i o r ho hg hd k t ih =>
  intro j hj
  rcases List.mem_cons.1 hj with rfl | hj
  ·unfold u4u at k
   rw [hg] at k
   obtain ⟨out, T, W, h1, h2, h3, h4⟩ := b4z htt k
   have h4' : f3i P n ops Q B X0 w0 fuel (listed.setIfInBounds j true) (e4c fr o.dst out) (d7s h W) := h4
   refine c8r ho hg h1 X B (hf h) a w (e9h n Q B X0 w0) _ hS (fun s av hm => ?_) (fun id ge hm => h2 _ hm) (fun X' w' v hX' hS' hok hv => ?_)
   ·obtain ⟨v, q1, q2⟩ := hF.slot s av (a1s.1 hm).2
    rw [Array.getD_eq_getD_getElem?, q1]
    exact q2
   ·rw [← b4y] at hS'
    have hdo : w4w ops j = o.dst := by simp [w4w, ho]
    refine h4' X' _ w' (hX.trans hX') (fun b hb => (hok b (hX.ok2 b hb)).trans (hw b hb)) hS' ?_ ?_
    ·rw [a6v, hdo]
     refine (hF.mono hX' hS.ok12 hok).put _ hv (fun d hd' => ?_)
     rw [hd'] at hd
     simpa using hd
    ·rw [hdo]; cases o.dst <;> exact hdf
  ·exact ih j hj
theorem a2l (hr : Region.ready .any ops listed = []) (k : Q .normal fr h) : f3i P n ops Q B X0 w0 0 listed fr h := fun X a w hX hw hS hF hdf =>
 ⟨hr, fr, h, X, k, hX, hS, hF, hdf, hw⟩
end
end
section
variable {P : Program} {n : Nat} {fr : Fr} {h : Hp} {Q : Exit → Fr → Hp → Prop}
theorem TRs.swap (hl : us1.length = cs1.length) (h : TRs X w (cs1 ++ a :: cs2) (us1 ++ v :: us2) S) (ha : a.isOw = false) (hb1 : b.one = true) (hb2 : b.isOw = false) (hv : VR X w b v) : TRs X w (cs1 ++ b :: cs2) (us1 ++ v :: us2) S := by
 obtain ⟨us1', v', us2', S1, S0, S2, he, rfl, l1, t1, tm, t2⟩ := h.mid
 obtain ⟨e1, e2⟩ := List.append_inj he (by omega)
 cases e2
 subst e1
 have : S0 = [] := by
  generalize hl : [a] = l at tm
  cases tm with
  | vr _ _ _ t => cases hl; cases t; rfl
  | own => cases hl; cases ha
 subst this
 exact t1.append (.vr hb1 hb2 hv t2)
theorem v4v (id off : Nat) (hh : y4y h id = some (g, .box ty cs)) (hc : cs[off]? = some a) (ha : a.isOw = false) (hf' : FinL h [a] [b] h') (hh' : y4y h' id = some (g, .box ty cs)) (hb1 : b.one = true) (hb2 : b.isOw = false) (hcs : cs.set off b = cs')
  (k : Ex P n c fr ((id, (g, .box ty cs')) :: h') Q) : Ex P n c fr h Q := fun X B A w hS hF hd => by
 subst hcs
 obtain ⟨F, hS0⟩ := hS
 obtain ⟨p1, p2⟩ := b5h hc
 obtain ⟨b0, us, S, h1, h2, h3, h4, h5⟩ := hS0.ent id g _ hh
 rw [p1] at h3
 obtain ⟨us1, v, us2, S1, S0, S2, rfl, rfl, l1, t1, tm, t2⟩ := h3.mid
 have hv : VR X w a v := by
  have := tm.vrs
  exact this.rel 0 _ _ rfl rfl
 obtain ⟨Y, k1, k2, k3⟩ := hf'.sound ⟨F, hS0⟩ (vs := [v]) rfl (fun i a' v' ha hv' => by
  cases i with
  | zero => simp only [List.getElem?_cons_zero, Option.some.injEq] at ha hv'; subst ha hv'; exact hv
  | succ i => simp at ha)
 have hb := k3 0 b v rfl rfl
 obtain ⟨F', hS'⟩ := k2
 have hS2 : SRh Y B (upd (hf h') id (g, .box ty (cs.set off b))) w := hS'.re hh' fun hE => by
  obtain ⟨b1, us', S', g1, g2, g3, g4, g5⟩ := hE
  have e1 : b1 = b0 := by
   have := k1.bx _ _ _ h1
   rw [g1] at this; exact Option.some.inj this
  subst e1
  have e2 : us' = us1 ++ v :: us2 := by
   rw [h2] at g2
   have := Option.some.inj g2
   injection this with this
   exact (List.toArray_inj this).symm
  subst e2
  rw [p1] at g3
  exact ⟨b1, _, S', g1, g2, by rw [p2]; exact TRs.swap l1 g3 ha hb1 hb2 (.cl hb), g4, g5⟩
 rw [← a3g] at hS2
 refine wp_mono (k Y B A w hS2 (hF.mono k1 hS0.ok12 (fun _ _ => rfl)) hd) fun e a' w' ⟨fr', h'', X', q1, q2, q3, q4, q5, q6⟩ => ⟨fr', h'', X', q1, k1.trans q2, q3, q4, q5, fun b hb => q6 b (k1.ok2 b hb)⟩

inductive NilL : List AV → List AV → Prop
 | nil : NilL [] []
 | same {c : AV} {r r' : List AV} (t : NilL r r') : NilL (c :: r) (c :: r')
 | own {ty sz : Nat} {r r' : List AV} (t : NilL r r') : NilL (.pv (.slice none 0 0) :: r) (.row .ow ty sz [] :: r')
theorem NilL.len (k : NilL a b) : b.length = a.length := by
 induction k with
 | nil => rfl
 | same _ ih => simp [ih]
 | own _ ih => simp [ih]
theorem NilL.append (k : NilL a b) (m : NilL c d) : NilL (a ++ c) (b ++ d) := by
 induction k with
 | nil => exact m
 | same _ ih => exact .same ih
 | own _ ih => exact .own ih
theorem NilL.flatten {α : Type} {f f' : α → List AV} (hf : ∀ a, NilL (f a) (f' a)) : ∀ l : List α, NilL (l.map f).flatten (l.map f').flatten
 | [] => .nil
 | a :: l => by simp only [List.map_cons, List.flatten_cons]; exact (hf a).append (NilL.flatten hf l)
theorem TRs.nilL (k : NilL a b) : ∀ {X : Cx} {w : World} {us : List Value} {S : List Nat}, TRs X w a us S → TRs X w b us S := by
 induction k with
 | nil => exact fun h => h
 | same _ ih => intro X w us S h; cases h with
  | vr h1 h2 h t => exact .vr h1 h2 h (ih t)
  | own h1 h2 h t => exact .own h1 h2 h (ih t)
 | @own ty sz r r' _ ih => intro X w us S h; cases h with
  | vr h1 h2 h t =>
   rw [h.pv_inv]
   exact .own (X := X) (w := w) (xs := []) (ws := []) (S' := []) (v := .slice none 0 0) ⟨by simp, .inl ⟨none, rfl, rfl⟩⟩ (fun j x hx => by simp at hx) .nil (ih t)
end
section
variable {P : Program}
theorem c6g (hA : A.length = j) : (A ++ cs :: B).getD j [] = cs := by
 subst hA; simp
theorem d1z (hA : A.length = j) : (A ++ cs :: B).set j cs' = A ++ cs' :: B := by
 subst hA; simp
theorem d4e (hA : A.length = j) : j < (A ++ cs :: B).length := by
 rw [List.length_append, List.length_cons]; omega
section
variable {tt : TT} {ops : Array Oper} {r : List Oper} {fr : Fr} {h : Hp} {lg : Log} {K : Fr → Hp → Log → Prop} {d : Nat} {ty : TypeId} {pos : String} {af : Array Edge}
theorem c1l {t e rty id g sz : Nat} {x ix : Operand} {S E : TS} {kd : IntKind} {j : Nat} {A B : List (List AV)} {cs : List AV} (hx : evO fr x = some (.ref id g)) (hi : evO fr ix = some (.pv (.int kd (j : Int)))) (hs : tt t = some S) (hk : S.kind = .sl e) (he : tt e = some E) (hh : y4y h id = some (g, .row rty sz (A ++ cs :: B))) (hz : sz = E.size) (hA : A.length = j)
  (k : u4u P tt ops r ((d, .elt id g j 0) :: fr) h (([id], []) :: lg) K) : u4u P tt ops (⟨some d, .indexAddr t x ix, ty, pos, af, none⟩ :: r) fr h lg K :=
 d8v hx hi hs hk he hh hz (d4e hA) k
variable {id : Nat}
theorem e4o (hA : A.length = j) (hx : evO fr x = some (.elt id g j off)) (hs : tt t = some S) (hh : y4y h id = some (g, .row rty sz (A ++ cs :: B))) (hl : ldv S (cs.drop off) = some out)
  (k : u4u P tt ops r ((d, out) :: fr) h (([id], []) :: lg) K) : u4u P tt ops (⟨some d, .load t x, ty, pos, af, none⟩ :: r) fr h lg K :=
 c1g hx hs hh (d4e hA) (c6g hA) hl k
theorem d9m (hA : A.length = j) (hx : evO fr x = some (.elt id g j off)) (hy : evO fr y = some b) (hs : tt t = some S) (hb : b.one = true) (hw : b.isOw = false) (hr : (match b with | .ref _ _ => false | _ => true) = true) (hn : S.size = 1) (hh : y4y h id = some (g, .row rty sz (A ++ cs :: B))) (hl : Nat.blt off cs.length = true) (hz : cs.length = sz) (he : cs.set off b = cs')
  (k : u4u P tt ops r fr ((id, (g, .row rty sz (A ++ cs' :: B))) :: h) (([id], [id]) :: lg) K) : u4u P tt ops (⟨none, .store t x y, ty, pos, af, none⟩ :: r) fr h lg K := by
 subst he
 have hl' : off < cs.length := Nat.le_of_ble_eq_true hl
 refine a6f (T := []) (W := []) (cs' := [b]) hx hy hs (c1f hb) (by rw [a2r hb, hn]; rfl) hh (d4e hA) (by omega) (by rw [a2r hb]; exact .val hb hw .nil) rfl ?_
 have : (A ++ cs :: B).set j (((A ++ cs :: B).getD j []).take off ++ [b] ++ ((A ++ cs :: B).getD j []).drop (off + S.size)) = A ++ cs.set off b :: B := by
  rw [c6g hA, hn, d1z hA, List.append_assoc, List.singleton_append, List.set_eq_take_append_cons_drop, if_pos hl']
 rw [this]; exact k
end
variable {n : Nat} {fr : Fr} {h : Hp} {Q : Exit → Fr → Hp → Prop}
theorem d9n (id off id' : Nat) (hA : A.length = j) (hh : y4y h id = some (g, .row ty sz (A ++ cs :: B))) (hc : cs[off]? = some (.row .ow ty2 sz2 ys)) (hd : y4y h id' = some (g', .dead)) (hne : Nat.beq id id' = false) (hcs : cs.set off (.ref id' (g' + 1)) = cs')
  (k : Ex P n c fr ((id, (g, .row ty sz (A ++ cs' :: B))) :: (id', (g' + 1, .row ty2 sz2 ys)) :: h) Q) : Ex P n c fr h Q := by
 subst hcs
 refine d9f id j off id' hh (by rw [← hA]; simp) hc hd hne ?_
 rw [d1z hA]; exact k
end
section
variable {P : Program}

structure Trn (X Z : Cx) : Prop where
 ok1 : ∀ b, X.ok1 b → Z.ok1 b
 ok12 : ∀ b, X.ok1 b → Z.ok2 b
 bx : ∀ i g b, X.bx i g = some b → Z.bx i g = some b
 rw : ∀ i g v, X.rw i g = some v → Z.rw i g = some v
theorem Trn.bare (T : Trn X Z) : Trn X.bare Z.bare := ⟨T.ok1, T.ok12, fun _ _ _ h => (by cases h), fun _ _ _ h => (by cases h)⟩
inductive Str : AV → Prop
 | any : Str .any
 | st {a : AV} (h : Strict a) : Str a
 | ow {ty sz : Nat} {xs : List (List AV)} : Str (.row .ow ty sz xs)
 | ref (id g : Nat) : Str (.ref id g)
 | bsl (id g a b : Nat) : Str (.bsl id g a b)
 | cut (id g a b : Nat) : Str (.cut id g a b)
 | ptr (id g a : Nat) : Str (.ptr id g a)
 | elt (id g a b : Nat) : Str (.elt id g a b)
 | mp (id g : Nat) : Str (.mp id g)
 | agg {cs : List AV} (h : ∀ y ∈ cs, Str y) : Str (.agg cs)
 | tup {cs : List AV} (h : ∀ y ∈ cs, Str y) : Str (.tup cs)
 | fn {f : Fn} {fi cap : List AV} (h : ∀ y ∈ fi, Str y) (h' : ∀ y ∈ cap, Str y) : Str (.fn f fi cap)
 | ifc {t : TypeId} {a : AV} (h : Str a) : Str (.ifc t a)
theorem Str.pv (v : Value) : Str (.pv v) := .st (.pv v)

inductive StrC : List AV → Prop
 | nil : StrC []
 | cons {y : AV} {r : List AV} (h : Str y) (hn : y.isOw = false) (t : StrC r) : StrC (y :: r)
 | own {ty sz : Nat} {xs : List (List AV)} {r : List AV} (h : StrC xs.flatten) (t : StrC r) : StrC (.row .ow ty sz xs :: r)
theorem StrC.append (h : StrC a) (k : StrC b) : StrC (a ++ b) := by
 induction h with
 | nil => exact k
 | cons h hn _ ih => exact .cons h hn ih
 | own h _ _ ih => exact .own h ih
theorem StrC.map {α : Type} {f : α → List AV} (h : ∀ a, StrC (f a)) : ∀ l : List α, StrC (l.map f).flatten
 | [] => .nil
 | a :: l => by simp only [List.map_cons, List.flatten_cons]; exact (h a).append (StrC.map h l)
def f4x : Ent → Prop
 | .dead => True
 | .box _ cs => StrC cs
 | .row _ _ xs => StrC xs.flatten
 | .map es => ∀ p ∈ es, Str p.2
 | .chn _ _ xs => ∀ x ∈ xs, ∀ y ∈ x, Strict y
 | .blk l => ∀ p ∈ l, ∀ y ∈ p.2.2, Strict y

inductive LendM (h : Hp) : List AV → List AV → TL → List Nat → Prop
 | base {az bs : List AV} {T : TL} (hl : LendL h az bs T) : LendM h az bs T []
 | ptr {id g off : Nat} {az bs : List AV} {T : TL} {K : List Nat} (t : LendM h az bs T K) : LendM h (.ptr id g off :: az) (.ptr id g off :: bs) T (id :: K)
theorem LendM.inH (k : LendM h az bs T K) : InH h T := by
 induction k with
 | base hl => exact hl.inH
 | ptr _ ih => exact ih
theorem LendM.len (k : LendM h az bs T K) : bs.length = az.length := by
 induction k with
 | base hl => exact hl.len
 | ptr _ ih => simp [ih]
theorem LendM.sound (k : LendM h az bs T K) : ∀ {X X2 : Cx} {B : Base} {hF : HF} {F : Nat → List Nat} {w : World} {vs : List Value}, SRf X B hF F w → X2.ok1 = X.ok1 → (∀ b, X.ok2 b → X2.ok2 b) → (∀ id ge, (id, ge) ∈ T → hF id = some ge) → (∀ id ge, (id, ge) ∈ T → ∀ b ∈ F id, X2.ok2 b) → (∀ id g, id ∈ K → X2.bx id g = X.bx id g) →
  vs.length = az.length → (∀ (i : Nat) (a : AV) (v : Value), az[i]? = some a → vs[i]? = some v → VR X w a v) → ∀ (i : Nat) (b : AV) (v : Value), bs[i]? = some b → vs[i]? = some v → VR X2 w b v := by
 induction k with
 | base hl =>
  intro X X2 B hF F w vs hS e1 h2 hT hb hK hlen hr i b v hbi hvi
  have := hl.sound (o2 := X2.ok2) hS h2 hT hb hlen hr i b v hbi hvi
  rw [← e1] at this
  exact .cl this
 | ptr t ih =>
  intro X X2 B hF F w vs hS e1 h2 hT hb hK hlen hr i b v hbi hvi
  cases vs with
  | nil => simp at hlen
  | cons u vs =>
   cases i with
   | zero =>
    simp only [List.getElem?_cons_zero, Option.some.injEq] at hbi hvi
    subst hbi hvi
    obtain ⟨b, rfl, hb'⟩ := (hr 0 _ u rfl rfl).ptr_inv
    exact .ptr ((hK _ _ (List.mem_cons_self ..)).trans hb')
   | succ i => exact ih hS e1 h2 hT hb (fun id g hm => hK id g (List.mem_cons_of_mem _ hm)) (by simpa using hlen) (fun i c u hc hu => hr (i + 1) c u (by simpa using hc) (by simpa using hu)) i b v (by simpa using hbi) (by simpa using hvi)
inductive StrH : Hp → Prop
 | nil : StrH []
 | dead {i g : Nat} {r : Hp} (t : StrH r) : StrH ((i, (g, .dead)) :: r)
 | box {i g ty : Nat} {cs : List AV} {r : Hp} (h : StrC cs) (t : StrH r) : StrH ((i, (g, .box ty cs)) :: r)
 | row {i g ty sz : Nat} {xs : List (List AV)} {r : Hp} (h : StrC xs.flatten) (t : StrH r) : StrH ((i, (g, .row ty sz xs)) :: r)
 | map {i g : Nat} {es : List (Value × AV)} {r : Hp} (h : ∀ p ∈ es, Str p.2) (t : StrH r) : StrH ((i, (g, .map es)) :: r)
 | chn {i g ty lty : Nat} {xs : List (List AV)} {r : Hp} (h : ∀ x ∈ xs, ∀ y ∈ x, Strict y) (t : StrH r) : StrH ((i, (g, .chn ty lty xs)) :: r)
theorem StrH.all (k : StrH h) : ∀ p ∈ h, f4x p.2.2 := by
 have cons : ∀ {q : Nat × (Nat × Ent)} {r : Hp}, f4x q.2.2 → (∀ p ∈ r, f4x p.2.2) → ∀ p ∈ q :: r, f4x p.2.2 := fun h1 h2 p hp => by
  rcases List.mem_cons.1 hp with rfl | hp
  ·exact h1
  ·exact h2 p hp
 induction k with
 | nil => intro p h; cases h
 | dead _ ih => exact cons trivial ih
 | box h0 _ ih => exact cons h0 ih
 | row h0 _ ih => exact cons h0 ih
 | map h0 _ ih => exact cons h0 ih
 | chn h0 _ ih => exact cons h0 ih
end
section
variable {P : Program}
theorem c9g (hu : P.underlying t = some (.slice e)) (x y : Operand) (A : Option Addr) (n c : Nat) : EqA P t x y (.pv (.slice A n c)) (.pv (.slice none 0 0)) A.isNone := by
 intro X w u v h12 h1 h2 op hop
 have e1 := h1.pv_inv
 have e2 := h2.pv_inv
 subst e1 e2
 have he : (Op.equal t (.slice A n c) (.slice none 0 0)).run P w = .ok A.isNone w := run_equal_slice_nil w t e A n c hu
 rcases hop with rfl | rfl
 ·simp [eqGuard, binOp, he, a6u]
 ·simp [eqGuard, binOp, he, a6u]
theorem d9o (hu : P.underlying t = some (.slice e)) (x y : Operand) (hx : 0 < xs.length) : EqA P t x y (.row (.rd m) ty sz xs) (.pv (.slice none 0 0)) false := by
 intro X w u v h12 h1 h2 op hop
 have e2 := h2.pv_inv
 subst e2
 cases h1 with
 | cl h1 =>
  cases h1 with
  | row A c f hc hm hlen hone had hcell hrec =>
   obtain ⟨ad, rfl, _⟩ := had hx
   have he : (Op.equal t (.slice (some ad) xs.length c) (.slice none 0 0)).run P w = .ok false w := run_equal_slice_nil w t e (some ad) xs.length c hu
   rcases hop with rfl | rfl
   ·simp [eqGuard, binOp, he, a6u]
   ·simp [eqGuard, binOp, he, a6u]
variable {n : Nat} {fr : Fr} {h : Hp} {Q : Exit → Fr → Hp → Prop}

theorem d4f (t : Nat) (ht : fr.get t = some (.row (.rd m) ty sz [])) (k : ∀ A cap, cap ≤ maxLen → Ex P n c ((t, .pv (.slice A 0 cap)) :: fr) h Q) : Ex P n c fr h Q := fun X B a w hS hF hd => by
 obtain ⟨v, h1, h2⟩ := hF.slot t _ ht
 cases h2 with
 | cl h2 =>
  cases h2 with
  | row A cp f hc hm hlen hone had hcell hrec =>
   refine k A cp hm X B a w hS ⟨hF.size, fun s av hs => ?_⟩ hd
   rw [Fr.get_cons] at hs
   split at hs
   ·rename_i e; subst e; cases hs; exact ⟨_, h1, .pv _⟩
   ·exact hF.slot s av hs

theorem e7m (t : Nat) (ty sz : Nat) (ht : fr.get t = some (.pv (.slice A 0 cap))) (hm : cap ≤ maxLen) (k : Ex P n c ((t, .row (.rd true) ty sz []) :: fr) h Q) : Ex P n c fr h Q := fun X B a w hS hF hd => by
 obtain ⟨v, h1, h2⟩ := hF.slot t _ ht
 refine k X B a w hS ⟨hF.size, fun s av hs => ?_⟩ hd
 rw [Fr.get_cons] at hs
 split at hs
 ·rename_i e
  subst e; cases hs
  refine ⟨v, h1, ?_⟩
  rw [h2.pv_inv]
  exact .cl (.row (xs := []) A cap (fun _ _ => undef) (Nat.zero_le _) hm (fun j x hx => by simp at hx) (fun j i x y hx => by simp at hx) (fun h => by simp at h) (fun ad j i x y hA hx => by simp at hx) (fun j i x y hx => by simp at hx))
 ·exact hF.slot s av hs
section
variable {tt : TT} {ops : Array Oper} {r : List Oper} {fr : Fr} {h : Hp} {lg : Log} {K : Fr → Hp → Log → Prop} {d : Nat} {ty : TypeId} {pos : String} {af : Array Edge}

theorem c5b {id : Nat} (hA : A.length = j) (hx : evO fr x = some (.elt id g j 0)) (hy : evO fr y = some (.agg bs)) (hs : tt t = some S) (hn : bs.length = S.size) (hz : S.size = sz) (hh : y4y h id = some (g, .row rty sz (A ++ cs :: B))) (hc : cs.length = sz)
  (hab : Abs bs h cs' T W) (hT : (T.any (·.1 == id)) = false) (k : u4u P tt ops r fr (((id, (g, .row rty sz (A ++ cs' :: B))) :: W) ++ h) ((id :: ids T, id :: ids W) :: lg) K) : u4u P tt ops (⟨none, .store t x y, ty, pos, af, none⟩ :: r) fr h lg K := by
 refine a6f hx hy hs rfl hn hh (d4e hA) (by omega) hab hT ?_
 have : (A ++ cs :: B).set j (((A ++ cs :: B).getD j []).take 0 ++ cs' ++ ((A ++ cs :: B).getD j []).drop (0 + S.size)) = A ++ cs' :: B := by
  rw [c6g hA, List.take_zero, List.nil_append, Nat.zero_add, List.drop_of_length_le (by omega), List.append_nil, d1z hA]
 rw [this]; exact k
end
end
section
variable {P : Program} {ev : Operand → Option AV}
theorem c9h (ho : o.op = .makeFunc (.func f) first caps) (hf : evL ev first.toList = some fi) (hc : evL ev caps.toList = some cp) : OpS P o ev [] [] (.fn (.func f) fi cp) :=
 .quiet fun X B hF a w hS hop hT => by
  obtain ⟨k1, k2⟩ := b8g (X := X) (w := w) (a := a) first.toList fi hf (fun y hy => hop y (by
   simp only [ho, Op.operands, Array.mem_append]; exact .inl (by simpa using hy)))
  obtain ⟨k3, k4⟩ := b8g (X := X) (w := w) (a := a) caps.toList cp hc (fun y hy => hop y (by
   simp only [ho, Op.operands, Array.mem_append]; exact .inr (by simpa using hy)))
  refine ⟨.func (.func f) (first.toList.map a.eval).toArray (caps.toList.map a.eval).toArray, ?_, .fn (first.toList.map a.eval) (caps.toList.map a.eval) k1 k3 k2 k4⟩
  have e1 : first.map a.eval = (first.toList.map a.eval).toArray := by apply Array.ext'; simp
  have e2 : caps.map a.eval = (caps.toList.map a.eval).toArray := by apply Array.ext'; simp
  simp only [execOp, ho, Instr.makeFunc, e1, e2, Sem.run_bind, Sem.run_pure, Result.andThen_ok]
variable {x y : Operand} {S E : TS} {xs : List (List AV)} {l : List Int} {m : Bool}
theorem d9p {o : Oper} {tt : TT} (htt : a1z P tt) {t t' e id g ty ty2 : Nat} (ho : o.op = .call { callee := .builtin .copy, args := #[x, y], argTypes := #[t, t'] }) (hs : tt t = some S) (hk : S.kind = .sl e) (he : tt e = some E) (hE : E.size = 1)
  (hx : ev x = some (.ref id g)) (hy : ev y = some (.row (.rd m) ty2 1 (l.map fun n => [pI n]))) (hl : xs.length = l.length) :
  OpS P o ev [(id, (g, .row ty 1 xs))] [(id, (g, .row ty 1 (l.map fun n => [pI n])))] (.pv (.int .i64 (l.length : Int))) := by
 rintro X B hF a w Q K ⟨F, hS⟩ hop hT hK
 have hid := hT id _ (List.mem_singleton.2 rfl)
 obtain ⟨v, us, S0, h1, h2, h3, h4, h5, h6⟩ := hS.ent _ _ _ hid
 have hvx := hop x (by simp [ho, Op.operands, Call.operands]) _ hx
 have hvy := hop y (by simp [ho, Op.operands, Call.operands]) _ hy
 obtain ⟨A, nn, c, s0, e1, e2⟩ := hvx.ref_inv
 rw [h1] at e2
 cases e2
 obtain ⟨d, h7, h8⟩ := (htt _ _ hs).desc
 rw [hk] at h8
 simp only [KOk] at h8
 subst h8
 obtain ⟨i, q1, q2, _⟩ := (htt _ _ he).info
 have hsz : (P.info? e).map (·.size) = some 1 := by rw [q1, Option.map_some, q2, hE]
 cases hvy with
 | cl hvy =>
 cases hy2 : a.eval y with
 | slice A2 n2 c2 =>
  rw [hy2] at hvy
  cases hvy with
  | row A2 c2 u k1 k2 k3 k4 k5 k6 k7 =>
   have hnn := d5z h2
   have hlm : (l.map fun n => [pI n]).length = l.length := List.length_map _
   by_cases hz : l.length = 0
   ·have hxs : xs = [] := List.eq_nil_of_length_eq_zero (by omega)
    have hln : l = [] := List.eq_nil_of_length_eq_zero hz
    subst hxs hln
    have hr := run_copy_none (P := P) w t t' o.type e A A2 nn c ([] : List (List AV)).length c2 h7 hsz (by simp)
    unfold Oper.wp
    have hx2 : (execOp a.eval o).run P w = .ok (.value (goInt 0)) w := by
     simp only [execOp, ho, resolve, invoke, builtin, Sem.run_bind, Sem.run_pure, Result.andThen_ok, List.map_toArray, List.map_cons, List.map_nil, e1, hy2]
     rw [hr, Result.andThen_ok]
    rw [hx2, Oper.upon_value]
    refine hK X w _ (Cx.le.refl X) ?_ (fun _ _ => rfl) (.pv _)
    rw [s2s]
    have : upd hF id (g, .row ty 1 (([] : List Int).map fun n => [pI n])) = hF := by
     funext k
     by_cases hk : k = id
     ·subst hk; rw [a4x]; exact hid.symm
     ·rw [w1w _ hk]
    rw [this]; exact ⟨F, hS⟩
   ·have hpos : 0 < xs.length := by omega
    obtain ⟨ad2, rfl, hok2⟩ := k5 (by rw [hlm]; omega)
    obtain ⟨b, rfl⟩ : ∃ b, A = some ⟨b, 0, none⟩ := by
     rcases h2.2 with ⟨A', e, e0⟩ | ⟨b, cap, cur, e, _⟩
     ·omega
     ·cases e; exact ⟨b, rfl⟩
    subst hnn
    let vs : List Value := l.map (Value.int .i64)
    have hvl : vs.length = l.length := List.length_map _
    have hul : us.length = l.length := by rw [h2.1]; omega
    obtain ⟨cur, g1, g2, g3⟩ := b4f (off := 0) (vs := vs) h2 hpos (by omega)
    have hval : ∀ (j : Nat) (n : Int), l[j]? = some n → u j 0 = .int .i64 n := fun j n hj => by
     have := k7 j 0 [pI n] (pI n) (by rw [List.getElem?_map, hj]; rfl) rfl
     exact (VR.cl (X := X) this).pv_inv
    have hcs : ∀ j v, vs[j]? = some v → w.cell? (ad2.add j) = some v := fun j v hj => by
     rw [List.getElem?_map] at hj
     cases hn : l[j]? with
     | none => rw [hn] at hj; cases hj
     | some n =>
      rw [hn] at hj
      cases hj
      have := k6 ad2 j 0 [pI n] (pI n) rfl (by rw [List.getElem?_map, hn]; rfl) rfl
      rw [hval j n hn] at this
      simpa using this
    have hr := run_copy_row (P := P) w t t' o.type e b 0 xs.length c ad2 (l.map fun n => [pI n]).length c2 cur ty vs h7 hsz g1 (by rw [hvl, hlm, hl]; simp) hcs (by rw [hvl]; omega) (fun v hv => by
     obtain ⟨n, _, rfl⟩ := List.mem_map.1 hv; rfl)
    have hown : Own (w.setRow b (cur.toList.take 0 ++ vs ++ cur.toList.drop (0 + vs.length)).toArray) ty 1 (.slice (some ⟨b, 0, none⟩) xs.length c) (l.map fun n => [pI n]).length vs := by
     rw [List.take_zero, List.nil_append, List.drop_of_length_le (l := us) (by omega), List.append_nil] at g3
     rw [hlm, ← hl]; exact g3
    have hc0 : 0 < c := by
     rcases h2.2 with ⟨A', e, e0⟩ | ⟨b, cap, cur, e, q, _⟩
     ·omega
     ·cases e; exact q
    have hbo : (a9h (.slice (some ⟨b, 0, none⟩) xs.length c)).toList = [b] := by rw [b3l hc0]; rfl
    have hvr : ∀ l : List Int, TRs X w (l.map fun n => [pI n]).flatten (l.map (Value.int .i64)) [] := fun l => by
     induction l with
     | nil => exact .nil
     | cons n l ih => exact .vr rfl rfl (.pv _) ih
    have hfin := hS.setCells (w' := w.setRow b (cur.toList.take 0 ++ vs ++ cur.toList.drop (0 + vs.length)).toArray) (xs := l.map fun n => [pI n]) (us := vs) (S := []) hid h1 (by rw [hbo]; exact a8m w b _) (by rw [hbo]; simp) (fun q hq => h6 q (by
     rw [List.append_nil] at hq; exact List.mem_append_left _ hq)) hown (fun j z hz => by
      rw [List.getElem?_map] at hz
      cases hn : l[j]? with
      | none => rw [hn] at hz; cases hz
      | some n => rw [hn] at hz; cases hz; rfl) (hvr l)
    unfold Oper.wp
    have hx2 : (execOp a.eval o).run P w = .ok (.value (goInt (l.length : Nat))) (w.setRow b (cur.toList.take 0 ++ vs ++ cur.toList.drop (0 + vs.length)).toArray) := by
     simp only [execOp, ho, resolve, invoke, builtin, Sem.run_bind, Sem.run_pure, Result.andThen_ok, List.map_toArray, List.map_cons, List.map_nil, e1, hy2]
     rw [hr, hvl, Result.andThen_ok]
    rw [hx2, Oper.upon_value]
    exact hK X _ _ (Cx.le.refl X) (by rw [s2s]; exact hfin.1) hfin.2 (.pv _)
 | _ => rw [hy2] at hvy; cases hvy
section
variable {tt : TT} {ops : Array Oper} {r : List Oper} {fr : Fr} {h : Hp} {lg : Log} {K : Fr → Hp → Log → Prop} {d : Nat} {ty : TypeId} {pos : String} {af : Array Edge}
theorem c1m (hf : evL (evO fr) first.toList = some fi) (hc : evL (evO fr) caps.toList = some cp) (k : u4u P tt ops r ((d, .fn (.func f) fi cp) :: fr) h (([], []) :: lg) K) : u4u P tt ops (⟨some d, .makeFunc (.func f) first caps, ty, pos, af, none⟩ :: r) fr h lg K :=
 a5q (c9h rfl hf hc) .nil .nil k
theorem e4p (htt : a1z P tt) {t t' e id g rty ty2 : Nat} (hs : tt t = some S) (hk : S.kind = .sl e) (he : tt e = some E) (hE : E.size = 1) (hx : evO fr x = some (.ref id g)) (hy : evO fr y = some (.row (.rd m) ty2 1 (l.map fun n => [pI n]))) (hh : y4y h id = some (g, .row rty 1 xs)) (hl : xs.length = l.length)
  (k : u4u P tt ops r ((d, .pv (.int .i64 (l.length : Int))) :: fr) ((id, (g, .row rty 1 (l.map fun n => [pI n]))) :: h) (([id], [id]) :: lg) K) : u4u P tt ops (⟨some d, .call { callee := .builtin .copy, args := #[x, y], argTypes := #[t, t'] }, ty, pos, af, none⟩ :: r) fr h lg K :=
 a5q (d9p htt rfl hs hk he hE hx hy hl) (.one hh) (.one (List.mem_singleton.2 rfl)) k
end
end
section
variable {P : Program} {ev : Operand → Option AV}
abbrev Blk := List (Nat × TypeId × List AV)
abbrev PQ (b off : Nat) : AV := .pv (.pointer (some ⟨b, off, none⟩))
theorem d9q (hu : P.underlying t = some (.pointer (P.pointee t))) (x y : Operand) (A : Option Addr) : EqA P t x y (.pv (.pointer A)) (.pv (.pointer none)) A.isNone := by
 intro X w u v h12 h1 h2 op hop
 have e1 := h1.pv_inv
 have e2 := h2.pv_inv
 subst e1 e2
 have he : (Op.equal t (.pointer A) (.pointer none)).run P w = .ok A.isNone w := run_equal_pointer_nil w t A hu
 rcases hop with rfl | rfl
 ·simp [eqGuard, binOp, he, a6u]
 ·simp [eqGuard, binOp, he, a6u]
variable {tt : TT} {o : Oper} {cs : List AV}
theorem c5d (htt : a1z P tt) {a : Act} {X : Cx} {w : World} {t : Nat} {x : Operand} {s : TS} {out : AV} {ad : Addr} (ho : o.op = .load t x) (e : a.eval x = .pointer (some ad)) (hs : tt t = some s) (hc : Cells X w ad cs) (hl : ldv s cs = some out) :
  ∃ v, (execOp a.eval o).run P w = .ok (.value v) w ∧ VR X w out v := by
 have S := htt _ _ hs
 obtain ⟨us, hus, hcell⟩ := hc.list
 unfold ldv at hl
 split at hl
 ·rename_i hagg
  split at hl
  ·rename_i hn
   cases hl
   have hlen : (us.take s.size).length = s.size := by rw [List.length_take, hus.len]; omega
   have hld := run_loadCells_list (P := P) w ad (us.take s.size) (fun j v hv => by
    rw [List.getElem?_take] at hv
    split at hv
    ·exact hcell j v hv
    ·cases hv)
   rw [hlen] at hld
   refine ⟨.agg (us.take s.size).toArray, ?_, (hus.take _).agg⟩
   simp [execOp, ho, e, Instr.loadAt, Instr.sureAddr, loadVar, S.isAgg, S.sizeOf, hagg, hld]
  ·cases hl
 ·rename_i hagg
  cases cs with
  | nil => cases hl
  | cons c r =>
   cases hl
   obtain ⟨h1, u, h2, h3⟩ := hc.get 0 _ rfl
   have hag : s.agg = false := by simpa using hagg
   refine ⟨u, ?_, h3⟩
   have h2' : w.cell? ad = some u := h2
   simp [execOp, ho, e, Instr.loadAt, Instr.sureAddr, loadVar, S.isAgg, hag, load, Sem.run, h2']
variable {id : Nat}
theorem c9i (h : BlkOK X w id g F l) (hm : (b, ty, cs) ∈ l) : Cells X w ⟨b, off, none⟩ (cs.drop off) := by
 obtain ⟨us, h1, h2⟩ := h.2.2.2 _ hm
 refine ⟨fun i y hy => ?_⟩
 rw [List.getElem?_drop] at hy
 have hl : off + i < us.length := by have := (List.getElem?_eq_some_iff.1 hy).1; rw [h2.len]; exact this
 refine ⟨h2.one _ _ hy, us[off + i], ?_, .cl (h2.rel _ _ _ hy (List.getElem?_eq_getElem hl))⟩
 rw [Addr.add_mid, cell_of_row w b (off + i) _ _ _ h1]
 simp [hl]
variable {g b off ty : Nat}

theorem d9r (htt : a1z P tt) {t : Nat} (ho : o.op = .load t x) (hx : ev x = some (PQ b off)) (hs : tt t = some s) (hm : (b, ty, cs) ∈ l) (hl : ldv s (cs.drop off) = some out) :
  OpS P o ev [(id, (g, .blk l))] [] out :=
 .quiet fun X B hF a w hS hop hT => by
  have e := (hop x (by simp [ho, Op.operands]) _ hx).pv_inv
  obtain ⟨F, hS⟩ := hS
  exact c5d htt ho e hs (c9i (hS.ent _ _ _ (hT id _ (List.mem_singleton.2 rfl))) hm) hl

theorem d9s (htt : a1z P tt) {t : Nat} (ho : o.op = .load t x) (hx : ev x = some (.ptr id g off)) (hs : tt t = some s) (hl : ldv s (cs.drop off) = some out) :
  OpS P o ev [(id, (g, .blk ((b, ty, cs) :: l)))] [] out :=
 .quiet fun X B hF a w hS hop hT => by
  obtain ⟨b', e, hb⟩ := (hop x (by simp [ho, Op.operands]) _ hx).ptr_inv
  obtain ⟨F, hS⟩ := hS
  have hE := hS.ent _ _ _ (hT id _ (List.mem_singleton.2 rfl))
  have : b' = b := by
   have h1 := hE.1 _ rfl
   rw [hb] at h1
   exact Option.some.inj h1
  subst this
  exact c5d htt ho e hs (c9i hE (List.mem_cons_self ..)) hl

theorem c3v (htt : a1z P tt) (ho : o.op = .fieldAddr t x f) (hx : ev x = some (PQ b k)) (hs : tt t = some s)
  (hk : s.kind = .st flds) (hf : flds[f]? = some (off, ft)) (hft : tt ft = some sf) (hne : sf.size ≠ 0) : OpS P o ev [] [] (PQ b (k + off)) :=
 .quiet fun X B hF a w hS hop hT => by
  have e := (hop x (by simp [ho, Op.operands]) _ hx).pv_inv
  obtain ⟨d, h1, h2⟩ := (htt _ _ hs).desc
  rw [hk] at h2
  obtain ⟨fs, rfl, _, h3⟩ := h2
  obtain ⟨fd, h4, h5, h6⟩ := h3 f off ft hf
  have S := htt _ _ hft
  refine ⟨.pointer (some ((⟨b, k, none⟩ : Addr).add off)), ?_, by rw [Addr.add_mid]; exact .pv _⟩
  simp [execOp, ho, e, Instr.fieldAt, Instr.sureAddr, run_underlying h1, h4, fieldPlace, h6, S.sizeOf, hne, h5]
theorem c6h (ho : o.op = .nilCheck x) (hx : ev x = some (PQ b k)) : OpS P o ev [] [] (PQ b k) :=
 .quiet fun X B hF a w hS hop hT => by
  have hv := hop x (by simp [ho, Op.operands]) _ hx
  exact ⟨a.eval x, by simp [execOp, ho, hv.pv_inv], hv⟩
theorem CRs.set (h : CRs o1 o2 w cs us) (k : Nat) (hc : c.one = true) (hr : CR o1 o2 w c u) : CRs o1 o2 w (cs.set k c) (us.set k u) := by
 refine ⟨by simp [h.len], fun i y hy => ?_, fun i y v hy hv => ?_⟩
 ·rw [List.getElem?_set] at hy
  split at hy
  ·split at hy
   ·cases hy; exact hc
   ·cases hy
  ·exact h.one i y hy
 ·rw [List.getElem?_set] at hy hv
  split at hy
  ·rename_i e
   rw [if_pos e] at hv
   split at hy
   ·split at hv
    ·cases hy; cases hv; exact hr
    ·cases hv
   ·cases hy
  ·rename_i e
   rw [if_neg e] at hv
   exact h.rel i y v hy hv

theorem d9t (hS : SRf X B h F w) (he : h id = some (g, .blk (l1 ++ (b, ty, cs) :: l2))) (hc : c.cl = true) (hr : VR X w c u) :
  ∃ us : List Value, w.heap[b]? = some (.cells us.toArray ty (0, 0)) ∧ us.length = cs.length ∧ SRh X B (upd h id (g, .blk (l1 ++ (b, ty, cs.set off c) :: l2))) (w.setRow b (us.set off u).toArray) ∧ (∀ k, X.ok2 k → (w.setRow b (us.set off u).toArray).heap[k]? = w.heap[k]?) := by
 have hE : BlkOK X w id g (F id) (l1 ++ (b, ty, cs) :: l2) := hS.ent _ _ _ he
 have hmem : (b, ty, cs) ∈ l1 ++ (b, ty, cs) :: l2 := List.mem_append_right _ (List.mem_cons_self ..)
 obtain ⟨us, h1, h2⟩ := hE.2.2.2 _ hmem
 have hbF : b ∈ F id := hE.2.2.1 _ hmem
 have hok : ∀ k, X.ok2 k → (w.setRow b (us.set off u).toArray).heap[k]? = w.heap[k]? := fun k hk => setRow_other w b k _ (fun e => (hS.ok2 k hk).2 id _ he (e ▸ hbF))
 have hcc := hr.closed hc
 have hnd : ((l1 ++ (b, ty, cs) :: l2).map (·.1)).Nodup := hE.2.1
 have hne : ∀ p, p ∈ l1 ∨ p ∈ l2 → p.1 ≠ b := fun p hp e => by
  rw [List.map_append, List.map_cons, List.nodup_append] at hnd
  rcases hp with hp | hp
  ·exact hnd.2.2 p.1 (List.mem_map_of_mem hp) b (List.mem_cons_self ..) e
  ·have hm : p.1 ∈ l2.map (·.1) := List.mem_map_of_mem hp
   rw [e] at hm
   exact (List.nodup_cons.1 hnd.2.1).1 hm
 have cases3 : ∀ q, q ∈ l1 ++ (b, ty, cs.set off c) :: l2 → (q ∈ l1 ∨ q ∈ l2) ∨ q = (b, ty, cs.set off c) := fun q hq => by
  rcases List.mem_append.1 hq with hq | hq
  ·exact .inl (.inl hq)
  ·rcases List.mem_cons.1 hq with hq | hq
   ·exact .inr hq
   ·exact .inl (.inr hq)
 have old : ∀ q, q ∈ l1 ∨ q ∈ l2 → q ∈ l1 ++ (b, ty, cs) :: l2 := fun q hq => by
  rcases hq with hq | hq
  ·exact List.mem_append_left _ hq
  ·exact List.mem_append_right _ (List.mem_cons_of_mem _ hq)
 refine ⟨us, h1, h2.len, ⟨_, hS.turn he (Cx.le.refl X) rfl rfl (fun _ _ _ => ⟨rfl, rfl⟩) (Nat.le_refl g) (f := F id) ((a8m w b _).mono (by simpa using hbF)) (e' := .blk (l1 ++ (b, ty, cs.set off c) :: l2)) ?_ (fun k hk => ⟨.inl hk, by simpa using hS.blk id _ k he hk⟩)⟩, hok⟩
 refine ⟨fun p hp => ?_, by simpa using hnd, fun p hp => ?_, fun p hp => ?_⟩
 ·cases l1 with
  | nil =>
   simp only [List.nil_append, List.head?_cons, Option.some.injEq] at hp
   subst hp
   exact hE.1 (b, ty, cs) rfl
  | cons q r => exact hE.1 p hp
 ·rcases cases3 p hp with hq | rfl
  ·exact hE.2.2.1 p (old p hq)
  ·exact hbF
 ·rcases cases3 p hp with hq | rfl
  ·obtain ⟨vs, g1, g2⟩ := hE.2.2.2 p (old p hq)
   exact ⟨vs, (setRow_other w b p.1 _ (hne p hq)).trans g1, g2.mono (fun _ h => h) (fun _ h => h) hS.ok12 hok⟩
  ·exact ⟨us.set off u, setRow_heap w b _ _ _ _ h1, (h2.mono (fun _ h => h) (fun _ h => h) hS.ok12 hok).set off hcc.2 (hcc.1.mono (fun _ h => h) (fun _ h => h) hS.ok12 hok)⟩
theorem d9u {α : Type} {l : List α} {k : Nat} {v : α} (h : k < l.length) : l.take k ++ [v] ++ l.drop (k + [v].length) = l.set k v := by
 rw [List.set_eq_take_append_cons_drop, if_pos h]; simp
variable {S : TS}

theorem d6m (htt : a1z P tt) {t id g b off ty : Nat} {x y : Operand} {c : AV} {l1 l2 : Blk} (ho : o.op = .store t x y) (hx : ev x = some (PQ b off)) (hy : ev y = some c) (hs : tt t = some S) (hn : S.size = 1) (hc : c.cl = true) (hl : off < cs.length) :
  OpS P o ev [(id, (g, .blk (l1 ++ (b, ty, cs) :: l2)))] [(id, (g, .blk (l1 ++ (b, ty, cs.set off c) :: l2)))] (.pv undef) := by
 rintro X B hF a w Q K ⟨F, hS⟩ hop hT hK
 have hid := hT id _ (List.mem_singleton.2 rfl)
 have e1 := (hop x (by simp [ho, Op.operands]) _ hx).pv_inv
 have hv := hop y (by simp [ho, Op.operands]) _ hy
 obtain ⟨us, h1, h2, h3, h4⟩ := d9t (off := off) hS hid hc hv
 have hone : (a.eval y).oneCell' = true := hv.oneCell (hv.closed hc).2
 have hr := b6m htt hs w b off ty us [a.eval y] _ (b6l hone) (by rw [hn]; rfl) h1 (by simp; omega) (fun u hu => by rw [List.mem_singleton] at hu; subst hu; exact hone)
 rw [d9u (by omega)] at hr
 unfold Oper.wp
 have hx2 : (execOp a.eval o).run P w = .ok .skip (w.setRow b (us.set off (a.eval y)).toArray) := by
  simp only [execOp, ho, e1, Sem.run_bind, hr, Result.andThen_ok, Sem.run_pure]
 rw [hx2, Oper.upon_skip]
 exact hK X _ undef (Cx.le.refl X) (by rw [s2s]; exact h3) h4 (.pv undef)
variable {l2 : Blk}

theorem d6n (htt : a1z P tt) {t id g b off ty : Nat} {x y : Operand} {c : AV} (ho : o.op = .store t x y) (hx : ev x = some (.ptr id g off)) (hy : ev y = some c) (hs : tt t = some S) (hn : S.size = 1) (hc : c.cl = true) (hl : off < cs.length) :
  OpS P o ev [(id, (g, .blk ((b, ty, cs) :: l2)))] [(id, (g, .blk ((b, ty, cs.set off c) :: l2)))] (.pv undef) := by
 rintro X B hF a w Q K ⟨F, hS⟩ hop hT hK
 have hid := hT id _ (List.mem_singleton.2 rfl)
 obtain ⟨b', e1, hb⟩ := (hop x (by simp [ho, Op.operands]) _ hx).ptr_inv
 have : b' = b := by
  have hE : BlkOK X w id g (F id) ((b, ty, cs) :: l2) := hS.ent _ _ _ hid
  have h1 := hE.1 _ rfl
  rw [hb] at h1
  exact Option.some.inj h1
 subst this
 have hv := hop y (by simp [ho, Op.operands]) _ hy
 obtain ⟨us, h1, h2, h3, h4⟩ := d9t (off := off) (l1 := []) hS hid hc hv
 have hone : (a.eval y).oneCell' = true := hv.oneCell (hv.closed hc).2
 have hr := b6m htt hs w b' off ty us [a.eval y] _ (b6l hone) (by rw [hn]; rfl) h1 (by simp; omega) (fun u hu => by rw [List.mem_singleton] at hu; subst hu; exact hone)
 rw [d9u (by omega)] at hr
 unfold Oper.wp
 have hx2 : (execOp a.eval o).run P w = .ok .skip (w.setRow b' (us.set off (a.eval y)).toArray) := by
  simp only [execOp, ho, e1, Sem.run_bind, hr, Result.andThen_ok, Sem.run_pure]
 rw [hx2, Oper.upon_skip]
 exact hK X _ undef (Cx.le.refl X) (by rw [s2s]; exact h3) h4 (.pv undef)
theorem c9j {nx : Option Nat} : ∀ {bs : List Nat} {xs : List (List AV)}, bs.length = xs.length → (d1g lty nx bs xs).map (·.1) = bs
 | [], [], _ => rfl
 | [], _ :: _, h => by cases h
 | _ :: _, [], h => by cases h
 | b :: bs, x :: xs, h => by simp [d1g, c9j (bs := bs) (xs := xs) (by simpa using h)]
theorem c0j {nx : Option Nat} : ∀ {bs1 : List Nat} {xs1 : List (List AV)}, bs1.length = xs1.length →
  d1g lty nx (bs1 ++ b :: bs2) (xs1 ++ x :: xs2) = d1g lty (some b) bs1 xs1 ++ (b, lty, x ++ [.pv (b4a (bs2.head?.or nx))]) :: d1g lty nx bs2 xs2
 | [], [], _ => rfl
 | [], _ :: _, h => by cases h
 | _ :: _, [], h => by cases h
 | c :: bs, y :: xs, h => by
  simp only [List.cons_append, d1g]
  rw [c0j (bs1 := bs) (xs1 := xs) (by simpa using h)]
  cases bs <;> rfl
theorem d4g (h : l[i]? = some a) : l = l.take i ++ a :: l.drop (i + 1) ∧ (l.take i).length = i := by
 obtain ⟨hi, rfl⟩ := List.getElem?_eq_some_iff.1 h
 exact ⟨by rw [List.getElem_cons_drop, List.take_append_drop], by simp; omega⟩
theorem d9v (l : List α) (i : Nat) : (l.drop i).head? = l[i]? := by rw [List.head?_drop]

theorem e4q (hl : bs.length = xs.length) (hb : bs[i]? = some b) (hx : xs[i]? = some x) : (b, lty, x ++ [.pv (b4a bs[i + 1]?)]) ∈ d1g lty none bs xs := by
 obtain ⟨e1, l1⟩ := d4g hb
 obtain ⟨e2, l2⟩ := d4g hx
 have e3 : (bs.drop (i + 1)).head?.or none = bs[i + 1]? := by rw [d9v, Option.or_none]
 rw [e1, e2, c0j (by rw [l1, l2]), ← e1, e3]
 exact List.mem_append_right _ (List.mem_cons_self ..)
theorem d9w (hl : bs.length = xs.length) (hb : bs[i]? = some b) (hx : xs[i]? = some x) : (b, lty, x ++ [.pv (b4a bs[i + 1]?)]) ∈ chB b0 ty lty bs xs :=
 List.mem_cons_of_mem _ (e4q hl hb hx)
theorem e4r (hl : bs.length = xs.length) : chB b0 ty lty (bs ++ [bn]) (xs ++ [x]) = (b0, ty, [.pv (b4a (bs.head?.or (some bn))), PQ bn 0]) :: (d1g lty (some bn) bs xs ++ [(bn, lty, x ++ [.pv (.pointer none)])]) := by
 rw [chB, c0j hl, List.getLast?_concat]
 cases bs <;> rfl
theorem c9k {nx : Option Nat} (hl : bs.length = xs.length) : d1g lty nx (bs ++ [bl]) (xs ++ [x]) = d1g lty (some bl) bs xs ++ [(bl, lty, x ++ [.pv (b4a nx)])] := by
 rw [c0j hl]; rfl
theorem HE.chn {id : Nat} (he : y4y h id = some (g, .chn ty lty xs)) (e : xs = xs') (t : HE h r) : HE h ((id, (g, .chn ty lty xs')) :: r) := by subst e; exact .same he t
theorem d9x (h : l ≠ []) : ∃ r a, l = r ++ [a] := ⟨l.dropLast, l.getLast h, (List.dropLast_concat_getLast h).symm⟩
variable {n : Nat} {fr : Fr} {h : Hp} {Q : Exit → Fr → Hp → Prop}
theorem e7n (id : Nat) (hh : y4y h id = some (g, .chn ty lty xs)) (k : ∀ b bs, bs.length = xs.length → ((b :: bs) : List Nat).Nodup → Ex P n c fr ((id, (g, .blk (chB b ty lty bs xs))) :: h) Q) : Ex P n c fr h Q := fun X B a w hS hF hd => by
 obtain ⟨F, hS⟩ := hS
 obtain ⟨b, bs, h1, h2⟩ := hS.ent id g _ hh
 have hN : (b :: bs).Nodup := by
  have := h2.2.1
  rwa [chB, List.map_cons, c9j h1] at this
 have hS' : SRh X B (hf ((id, (g, .blk (chB b ty lty bs xs))) :: h)) w := by
  rw [a3g]
  exact ⟨_, hS.turn (f := F id) (e' := .blk (chB b ty lty bs xs)) hh (Cx.le.refl X) rfl rfl (fun _ _ _ => ⟨rfl, rfl⟩) (Nat.le_refl g) (Grew.refl w _) h2 (fun b hb => ⟨.inl hb, hS.blk _ _ b hh hb⟩)⟩
 exact k b bs h1 hN X B a w hS' hF hd
abbrev f5x (P : Program) (h h' : Hp) : Prop := ∀ (X : Cx) (B : Base) (w : World), SRh X B (hf h) w → ∃ Y, X.le Y ∧ Y.ok2 = X.ok2 ∧ SRh Y B (hf h') w
theorem c6i (id b ty lty : Nat) (bs : List Nat) (xs : List (List AV)) (hh : y4y h id = some (g, .blk l)) (hl : bs.length = xs.length) (he : l = chB b ty lty bs xs) : f5x P h ((id, (g, .chn ty lty xs)) :: h) := by
 subst he
 rintro X B w ⟨F, hS⟩
 refine ⟨X, Cx.le.refl X, rfl, ?_⟩
 rw [a3g]
 exact hS.re hh fun hE => ⟨b, bs, hl, hE⟩
theorem c6j (id b ty lty : Nat) (bs : List Nat) (xs : List (List AV)) (hh : y4y h id = some (g, .blk l)) (hl : bs.length = xs.length) (he : l = chB b ty lty bs xs) (k : Ex P n c fr ((id, (g, .chn ty lty xs)) :: h) Q) : Ex P n c fr h Q :=
 a5e (c6i (P := P) id b ty lty bs xs hh hl he) k

def Conv (P : Program) (h : Hp) (K : Hp → Prop) : Prop := ∃ h', f5x P h h' ∧ K h'
theorem Conv.done (hk : K h) : Conv P h K := ⟨h, fun X B w hS => ⟨X, Cx.le.refl X, rfl, hS⟩, hk⟩
theorem Conv.step (s : f5x P h h') (k : Conv P h' K) : Conv P h K := by
 obtain ⟨h'', s', hk⟩ := k
 refine ⟨h'', fun X B w hS => ?_, hk⟩
 obtain ⟨Y, k1, k2, k3⟩ := s X B w hS
 obtain ⟨Z, g1, g2, g3⟩ := s' Y B w k3
 exact ⟨Z, k1.trans g1, g2.trans k2, g3⟩
theorem e9i (hx : Ex P n c fr h (fun e fr' h' => Conv P h' (fun h'' => Q e fr' h''))) : Ex P n c fr h Q := fun X B a w hS hF hd =>
 wp_mono (hx X B a w hS hF hd) fun e a' w' ⟨fr', h', X', ⟨h'', s, q⟩, q2, q3, q4, q5, q6⟩ => by
  obtain ⟨Y, k1, k2, k3⟩ := s X' B w' q3
  exact ⟨fr', h'', Y, q, q2.trans k1, k3, q4.mono k1 q3.ok12 (fun _ _ => rfl), q5, q6⟩

theorem d9y (id lty : Nat) (hh : y4y h id = some (g, .box ty [.pv (.pointer none), .pv (.pointer none)])) (k : Ex P n c fr ((id, (g, .chn ty lty [])) :: h) Q) : Ex P n c fr h Q := by
 refine a5e (fun X B w hS => ⟨X, Cx.le.refl X, rfl, ?_⟩) k
 obtain ⟨F, hS⟩ := hS
 rw [a3g]
 refine hS.re hh fun hE => ?_
 obtain ⟨b, us, S, h1, h2, h3, h4, h5⟩ := hE
 have hv := h3.vrs
 refine ⟨b, [], rfl, fun p hp => by cases hp; exact h1, by simp [chB, d1g], fun p hp => ?_, fun p hp => ?_⟩
 ·simp only [chB, d1g, List.mem_singleton] at hp; subst hp; exact h5 _ (List.mem_cons_self ..)
 ·simp only [chB, d1g, List.mem_singleton] at hp
  subst hp
  refine ⟨us, h2, hv.len, hv.one, fun i y u hy hu => ?_⟩
  have : ∀ z ∈ ([.pv (.pointer none), .pv (.pointer none)] : List AV), z.cl = true := fun z hz => by simp at hz; subst hz; rfl
  exact ((hv.rel i y u hy hu).closed (this y (List.mem_of_getElem? hy))).1

theorem d9z (t id id' : Nat) (ht : fr.get t = some (.ptr id' g' 0)) (hh : y4y h id = some (g, .blk l)) (hl : l ≠ []) (hd : y4y h id' = some (g', .box lty cs)) (hc : (cs.all AV.cl) = true) (hne : Nat.beq id id' = false)
  (k : ∀ b, b ∉ l.map (·.1) → Ex P n c ((t, PQ b 0) :: fr) ((id, (g, .blk (l ++ [(b, lty, cs)]))) :: (id', (g', .dead)) :: h) Q) : Ex P n c fr h Q := fun X B a w hS hF hdf => by
 have hne' : id ≠ id' := fun e => by subst e; rw [Nat.beq_refl] at hne; cases hne
 obtain ⟨F, H⟩ := hS
 have hE : BlkOK X w id g (F id) l := H.ent _ _ _ hh
 obtain ⟨b, us, S, h1, h2, h3, h4, h5⟩ := H.ent _ _ _ hd
 have hbF' : b ∈ F id' := h5 _ (List.mem_cons_self ..)
 have hbl : b ∉ l.map (·.1) := fun hm => by
  obtain ⟨p, hp, rfl⟩ := List.mem_map.1 hm
  exact hne' (H.sep _ _ _ _ _ hh hd (hE.2.2.1 p hp) hbF')
 have hv := h3.vrs
 have hcc : CRs X.ok1 X.ok2 w cs us := ⟨hv.len, hv.one, fun i y u hy hu => ((hv.rel i y u hy hu).closed (List.all_eq_true.1 hc y (List.mem_of_getElem? hy))).1⟩
 have hS1 := H.kill hd
 have hS2 := hS1.merge (id := id) (j := id') (g := g') (ge := (g, .blk l)) (a4x _ _ _) (by rw [w1w _ hne']; exact hh) hne'
 have fid : b0f (b0f F id' []) id (F id ++ F id') id = F id ++ F id' := by simp [b0f]
 have hE2 : BlkOK X w id g (F id ++ F id') (l ++ [(b, lty, cs)]) := by
  refine ⟨fun p hp => ?_, ?_, fun p hp => ?_, fun p hp => ?_⟩
  ·cases l with
   | nil => exact absurd rfl hl
   | cons q r => exact hE.1 p hp
  ·rw [List.map_append, List.nodup_append]
   refine ⟨hE.2.1, by simp, fun x hx y hy e => ?_⟩
   simp only [List.map_cons, List.map_nil, List.mem_singleton] at hy
   subst e hy
   exact hbl hx
  ·rcases List.mem_append.1 hp with hp | hp
   ·exact List.mem_append_left _ (hE.2.2.1 p hp)
   ·rw [List.mem_singleton] at hp; subst hp; exact List.mem_append_right _ hbF'
  ·rcases List.mem_append.1 hp with hp | hp
   ·exact hE.2.2.2 p hp
   ·rw [List.mem_singleton] at hp; subst hp; exact ⟨us, h2, hcc⟩
 have hlt : ∀ b ∈ F id ++ F id', b < w.heap.size := fun b hb => by
  rcases List.mem_append.1 hb with hb | hb
  ·exact H.blk _ _ b hh hb
  ·exact H.blk _ _ b hd hb
 have := hS2.turn (id := id) (g := g) (g' := g) (e := .blk l) (e' := .blk (l ++ [(b, lty, cs)])) (f := F id ++ F id') (by rw [w1w _ hne']; exact hh) (Cx.le.refl X) rfl rfl (fun _ _ _ => ⟨rfl, rfl⟩) (Nat.le_refl g) (Grew.refl w _) hE2 (fun b hb => ⟨.inl (by rw [fid]; exact hb), hlt b hb⟩)
 refine k b hbl X B a w ⟨_, by rw [hf2]; exact this⟩ ⟨hF.size, fun s av hs => ?_⟩ hdf
 simp only [Fr.get_cons] at hs
 split at hs
 ·rename_i e
  subst e
  cases hs
  obtain ⟨v, k1, k2⟩ := hF.slot _ _ ht
  obtain ⟨b', rfl, hb⟩ := k2.ptr_inv
  rw [h1] at hb
  cases hb
  exact ⟨_, k1, .pv _⟩
 ·exact hF.slot s av hs
variable {tt : TT} {ops : Array Oper} {r : List Oper} {lg : Log} {K : Fr → Hp → Log → Prop} {d : Nat} {ty : TypeId} {pos : String} {af : Array Edge}
theorem d4h (htt : a1z P tt) (id : Nat) (hx : evO fr x = some (PQ b off)) (hs : tt t = some s) (hh : y4y h id = some (g, .blk l)) (hm : (b, bty, cs) ∈ l) (hl : ldv s (cs.drop off) = some out) (k : u4u P tt ops r ((d, out) :: fr) h (([id], []) :: lg) K) :
  u4u P tt ops (⟨some d, .load t x, ty, pos, af, none⟩ :: r) fr h lg K :=
 a5q (d9r htt rfl hx hs hm hl) (InH.one hh) Sub.nil k
theorem c6k (htt : a1z P tt) (hx : evO fr x = some (.ptr id g off)) (hs : tt t = some s) (hh : y4y h id = some (g, .blk ((b, bty, cs) :: l))) (hl : ldv s (cs.drop off) = some out) (k : u4u P tt ops r ((d, out) :: fr) h (([id], []) :: lg) K) :
  u4u P tt ops (⟨some d, .load t x, ty, pos, af, none⟩ :: r) fr h lg K :=
 a5q (d9s htt rfl hx hs hl) (InH.one hh) Sub.nil k
theorem a6w (htt : a1z P tt) (hx : evO fr x = some (PQ b j)) (hs : tt t = some S) (hk : S.kind = .st flds) (hf : flds[f]? = some p) (hft : tt p.2 = some sf) (hne : Nat.beq sf.size 0 = false) (k : u4u P tt ops r ((d, PQ b (j + p.1)) :: fr) h (([], []) :: lg) K) :
  u4u P tt ops (⟨some d, .fieldAddr t x f, ty, pos, af, none⟩ :: r) fr h lg K :=
 a5q (c3v htt rfl hx hs hk (off := p.1) (ft := p.2) hf hft (fun e => by rw [e] at hne; cases hne)) InH.nil Sub.nil k
theorem d2a (hx : evO fr x = some (PQ b j)) (k : u4u P tt ops r ((d, PQ b j) :: fr) h (([], []) :: lg) K) : u4u P tt ops (⟨some d, .nilCheck x, ty, pos, af, none⟩ :: r) fr h lg K :=
 a5q (c6h rfl hx) InH.nil Sub.nil k
theorem Sub.one1 : Sub [(id, ge)] [(id, ge')] := fun p hp => by rw [List.mem_singleton] at hp; subst hp; exact ⟨ge', List.mem_singleton.2 rfl⟩
theorem e0a (htt : a1z P tt) (l1 l2 : Blk) (id : Nat) (hx : evO fr x = some (PQ b off)) (hy : evO fr y = some c) (hs : tt t = some S) (hn : S.size = 1) (hc : c.cl = true) (hh : y4y h id = some (g, .blk l)) (he : l = l1 ++ (b, bty, cs) :: l2) (hl : off < cs.length) (he' : l1 ++ (b, bty, cs.set off c) :: l2 = l')
  (k : u4u P tt ops r fr ((id, (g, .blk l')) :: h) (([id], [id]) :: lg) K) : u4u P tt ops (⟨none, .store t x y, ty, pos, af, none⟩ :: r) fr h lg K := by
 subst he he'
 exact c5z (d6m htt rfl hx hy hs hn hc hl) (InH.one hh) Sub.one1 k
theorem c1n (htt : a1z P tt) (hx : evO fr x = some (.ptr id g off)) (hy : evO fr y = some c) (hs : tt t = some S) (hn : S.size = 1) (hc : c.cl = true) (hh : y4y h id = some (g, .blk ((b, bty, cs) :: l))) (hl : Nat.blt off cs.length = true) (he' : cs.set off c = cs')
  (k : u4u P tt ops r fr ((id, (g, .blk ((b, bty, cs') :: l))) :: h) (([id], [id]) :: lg) K) : u4u P tt ops (⟨none, .store t x y, ty, pos, af, none⟩ :: r) fr h lg K := by
 subst he'
 exact c5z (d6n htt rfl hx hy hs hn hc (Nat.le_of_ble_eq_true hl)) (InH.one hh) Sub.one1 k
end
section
variable {P : Program} {H : Type} {enc : TypeId × Value → H} {w : World}
theorem TSOk.cells (h : TSOk P t s) : P.cellsOf t = s.size := by
 obtain ⟨i, h1, h2, _⟩ := h.info
 simp [Program.cellsOf, h1, h2]
end
section
variable {P : Program} {ev : Operand → Option AV}
theorem e9j (h : HF) (id : Nat) (a b : Nat × Ent) : upd (upd h id a) id b = upd h id b := by
 funext k
 by_cases e : k = id <;> simp [upd, e]
variable {id : Nat}
theorem OpS.frz (h : OpS P o ev T [(id, (g, .row ty sz zs))] (.ref id g)) (hle : Le true (.row .ow ty sz zs) (.row (.rd true) ty sz zs')) : OpS P o ev T [(id, (g, .dead))] (.row (.rd true) ty sz zs') := by
 intro X B hp a w Q K hS hop hT hK
 refine h X B hp a w Q K hS hop hT fun X' w' v hX hS' hok hv => ?_
 rw [s2s] at hS'
 obtain ⟨Y, k1, k2, k3⟩ := hS'.freeze (a4x _ _ _) hle
 rw [e9j] at k2
 exact hK Y w' v (hX.trans k1) (by rw [s2s]; exact k2) hok (k3 v hv)
theorem f3j {a : AV} (h : a.cl = true) : a.one = true := by
 cases a with
 | pv v => exact h
 | row m _ _ _ => rfl
 | ifc => rfl
 | _ => cases h

theorem Le.low (h : ∀ x ∈ xs, ∀ y ∈ x, y.cl = true) : Le k (.row (.rd true) ty sz xs) (.row (.rd c) ty sz xs) :=
 .rd (fun _ => rfl) rfl (fun j x x' hx hx' => by rw [hx] at hx'; cases hx'; rfl)
  (fun j i x x' y y' hx hx' hy hy' => f3j (h x' (List.mem_of_getElem? hx') y' (List.mem_of_getElem? hy')))
  (fun j i x x' y y' hx hx' hy hy' => by
   rw [hx] at hx'; cases hx'
   rw [hy] at hy'; cases hy'
   exact .cl (h x (List.mem_of_getElem? hx) y (List.mem_of_getElem? hy)))
variable {α : Type} {ty sz : Nat}
theorem Le.low_map {f : α → List AV} {k c : Bool} {l : List α} (h : ∀ a, ((f a).all AV.cl) = true) : Le k (.row (.rd true) ty sz (l.map f)) (.row (.rd c) ty sz (l.map f)) :=
 .low fun x hx y hy => by
  obtain ⟨a, _, rfl⟩ := List.mem_map.1 hx
  exact List.all_eq_true.1 (h a) y hy
variable {tt : TT} {ops : Array Oper} {r : List Oper} {fr : Fr} {h : Hp} {lg : Log} {K : Fr → Hp → Log → Prop} {d : Nat} {ty : TypeId} {pos : String} {af : Array Edge}
theorem Sub.one' : Sub [(id, ge)] ((id, ge') :: T) := fun p hp => by rw [List.mem_singleton] at hp; subst hp; exact ⟨ge', List.mem_cons_self ..⟩

theorem a1n (htt : a1z P tt) (hx : evO fr x = some (.ref id g)) (hy : evO fr y = some (.row (.rd m) ty2 E.size ys)) (hs : tt t = some S) (hk : S.kind = .sl e) (he : tt e = some E) (h2 : Nat.ble 1 E.size = true) (h3 : Nat.ble 1 E.bytes = true) (hh : y4y h id = some (g, .row e E.size xs))
  (how : (ys.flatten.all fun c => !c.isOw) = true) (hz : xs ++ ys = zs) (h4 : zs.length * E.bytes ≤ 140737488355328) (hle : Le true (.row .ow e E.size zs) (.row (.rd true) e E.size zs')) (k : u4u P tt ops r ((d, .row (.rd true) e E.size zs') :: fr) ((id, (g + 1, .dead)) :: h) (([id], [id]) :: lg) K) :
  u4u P tt ops (⟨some d, .call { callee := .builtin .append, args := #[x, y], argTypes := #[t, t] }, ty, pos, af, none⟩ :: r) fr h lg K := by
 subst hz
 exact a5q (OpS.frz (c4s (T := []) htt (h := h) rfl hs hk he hx hy (.inl rfl) how (Nat.le_of_ble_eq_true h2) (Nat.le_of_ble_eq_true h3) (by rw [← List.length_append]; exact h4)) hle) (InH.one hh) Sub.one' k
inductive LeCs : List AV → List AV → Prop
 | nil : LeCs [] []
 | same {c : AV} {r r' : List AV} (t : LeCs r r') : LeCs (c :: r) (c :: r')
 | le {a b : AV} {r r' : List AV} (hc : a.cl = true) (hl : Le false a b) (hb : b.isOw = false) (t : LeCs r r') : LeCs (a :: r) (b :: r')
theorem LeCs.refl : ∀ l : List AV, LeCs l l
 | [] => .nil
 | _ :: l => .same (LeCs.refl l)
theorem LeCs.app (h : LeCs a a') (k : LeCs b b') : LeCs (a ++ b) (a' ++ b') := by
 induction h with
 | nil => exact k
 | same _ ih => exact .same ih
 | le h1 h2 h3 _ ih => exact .le h1 h2 h3 ih
theorem LeCs.len (h : LeCs a b) : a.length = b.length := by
 induction h with
 | nil => rfl
 | same _ ih => simp [ih]
 | le _ _ _ _ ih => simp [ih]
theorem LeCs.flatten {α : Type} {f f' : α → List AV} (h : ∀ a, LeCs (f a) (f' a)) : ∀ l : List α, LeCs (l.map f).flatten (l.map f').flatten
 | [] => .nil
 | a :: l => by simpa using (h a).app (LeCs.flatten h l)
theorem TRs.leC (h : LeCs cs cs') : ∀ {X : Cx} {w : World} {us : List Value} {S : List Nat}, (∀ b, X.ok1 b → X.ok2 b) → TRs X w cs us S → TRs X w cs' us S := by
 induction h with
 | nil => exact fun _ h => h
 | same _ ih =>
  intro X w us S h12 h
  cases h with
  | vr h1 h2 h t => exact .vr h1 h2 h (ih h12 t)
  | own h1 h2 h3 t => exact .own h1 h2 h3 (ih h12 t)
 | le hc hl hb _ ih =>
  intro X w us S h12 h
  cases h with
  | vr h1 h2 h t => exact .vr (hl.one h1) hb (.cl ((h.closed hc).1.le h12 hl)) (ih h12 t)
  | own h1 h2 h3 t => cases hc
variable {n : Nat} {Q : Exit → Fr → Hp → Prop}
theorem c9l {f f' : α → List AV} {l : List α} {c : Code} (id : Nat) {g ty sz : Nat} (hh : y4y h id = some (g, .row ty sz (l.map f))) (hf' : ∀ a, LeCs (f a) (f' a)) (k : Ex P n c fr ((id, (g, .row ty sz (l.map f'))) :: h) Q) : Ex P n c fr h Q := by
 refine a5e (fun X B w hS => ⟨X, Cx.le.refl X, rfl, ?_⟩) k
 obtain ⟨F, hS⟩ := hS
 rw [a3g]
 refine hS.re hh fun hE => ?_
 obtain ⟨v, us, S, h1, h2, h3, h4, h5, h6⟩ := hE
 refine ⟨v, us, S, h1, by rw [List.length_map] at h2 ⊢; exact h2, fun j y hj => ?_, TRs.leC (LeCs.flatten hf' l) hS.ok12 h4, h5, h6⟩
 rw [List.getElem?_map] at hj
 cases hl : l[j]? with
 | none => rw [hl] at hj; cases hj
 | some a =>
  rw [hl] at hj
  cases hj
  rw [← (hf' a).len]
  exact h3 j (f a) (by rw [List.getElem?_map, hl]; rfl)
theorem e7o (id : Nat) (hh : y4y h id = some (g, .box ty cs)) (hl : LeCs cs cs') (k : Ex P n c fr ((id, (g, .box ty cs')) :: h) Q) : Ex P n c fr h Q := by
 refine a5e (fun X B w hS => ⟨X, Cx.le.refl X, rfl, ?_⟩) k
 obtain ⟨F, hS⟩ := hS
 rw [a3g]
 refine hS.re hh fun hE => ?_
 obtain ⟨b, us, S, h1, h2, h3, h4, h5⟩ := hE
 exact ⟨b, us, S, h1, h2, TRs.leC hl hS.ok12 h3, h4, h5⟩
theorem b2d (id : Nat) (hh : y4y h id = some (g, .row ty sz xs)) (he : xs = xs') (k : Ex P n c fr ((id, (g, .row ty sz xs')) :: h) Q) : Ex P n c fr h Q := by
 subst he
 refine a5e (fun X B w hS => ⟨X, Cx.le.refl X, rfl, ?_⟩) k
 obtain ⟨F, hS⟩ := hS
 rw [a3g]
 exact hS.re hh fun hE => hE

theorem Le.rd_map (l : List α) (hc : c' = true → c = true) (hf : ∀ a, LeL k (f a) (f' a)) (h1 : ∀ a, ((f' a).all AV.one) = true) : Le k (.row (.rd c) ty sz (l.map f)) (.row (.rd c') ty sz (l.map f')) := by
 have get : ∀ (j : Nat) (x x' : List AV), (l.map f)[j]? = some x → (l.map f')[j]? = some x' → ∃ a, f a = x ∧ f' a = x' := by
  intro j x x' h h'
  rw [List.getElem?_map] at h h'
  cases hl : l[j]? with
  | none => rw [hl] at h; cases h
  | some a =>
   rw [hl] at h h'
   exact ⟨a, by simpa using h, by simpa using h'⟩
 refine .rd hc (by simp) (fun j x x' h h' => ?_) (fun j i x x' y y' h h' hy hy' => ?_) (fun j i x x' y y' h h' hy hy' => ?_)
 ·obtain ⟨a, rfl, rfl⟩ := get j x x' h h'; exact (hf a).len
 ·obtain ⟨a, rfl, rfl⟩ := get j x x' h h'; exact List.all_eq_true.1 (h1 a) y' (List.mem_of_getElem? hy')
 ·obtain ⟨a, rfl, rfl⟩ := get j x x' h h'; exact (hf a).le i y y' hy hy'
end
section
variable {P : Program} {n : Nat} {fr : Fr} {h : Hp} {Q : Exit → Fr → Hp → Prop}
variable {tt : TT} {id : Nat}
theorem f3k (htt : a1z P tt) (hd : (ops.toList.all fun o => match o.dst with | some d => decide (d < n) | none => true) = true) (hr : u4u P tt ops ops.toList fr h [] fun fr' h' _ => Ex P n c fr' h' Q) : Ex P n (.seq (.region id ops false) c) fr h Q :=
 c4t (fun fr h => Ex P n c fr h Q) (b6q htt hd hr) (fun _ _ h => h)
theorem f3l (htt : a1z P tt) (hm : P.follows .mixedOrders = true) (hd : (ops.toList.all fun o => match o.dst with | some d => decide (d < n) | none => true) = true) (hr : u4u P tt ops ops.toList fr h [] fun fr' h' lg => chk ops lg.reverse = true ∧ Ex P n c fr' h' Q) : Ex P n (.seq (.region id ops true) c) fr h Q :=
 c4t (fun fr h => Ex P n c fr h Q) (b6r htt hm hd hr) (fun _ _ h => h)
end
section
variable {P : Program}

inductive NilLs : List (List AV) → List (List AV) → Prop
 | refl (l : List (List AV)) : NilLs l l
 | cons {x x' : List AV} {r r' : List (List AV)} (h : NilL x x') (t : NilLs r r') : NilLs (x :: r) (x' :: r')
theorem NilL.refl : ∀ l : List AV, NilL l l
 | [] => .nil
 | _ :: l => .same (NilL.refl l)
theorem NilL.app (h : NilL a a') (k : NilL b b') : NilL (a ++ b) (a' ++ b') := by
 induction h with
 | nil => exact k
 | same _ ih => exact .same ih
 | own _ ih => exact .own ih
theorem NilLs.snoc (h : NilL x x') : ∀ l : List (List AV), NilLs (l ++ [x]) (l ++ [x'])
 | [] => .cons h (.refl _)
 | y :: l => .cons (NilL.refl y) (NilLs.snoc h l)
theorem NilLs.flat (h : NilLs a b) : NilL a.flatten b.flatten := by
 induction h with
 | refl l => exact NilL.refl _
 | cons h _ ih => simpa using h.app ih
theorem NilLs.lens (h : NilLs a b) : Lens sz a → Lens sz b := by
 induction h with
 | refl l => exact fun h => h
 | cons h _ ih =>
  intro hl j y hj
  cases j with
  | zero =>
   simp only [List.getElem?_cons_zero, Option.some.injEq] at hj
   subst hj
   rw [h.len]; exact hl 0 _ rfl
  | succ j => exact ih (fun j y hj => hl (j + 1) y (by simpa using hj)) j y (by simpa using hj)
theorem NilLs.len (h : NilLs a b) : a.length = b.length := by
 induction h with
 | refl l => rfl
 | cons _ _ ih => simp [ih]
variable {n : Nat} {fr : Fr} {h : Hp} {Q : Exit → Fr → Hp → Prop}
theorem e0b (id : Nat) (hh : y4y h id = some (g, .row ty sz xs)) (hl : NilLs xs xs') (k : Ex P n c fr ((id, (g, .row ty sz xs')) :: h) Q) : Ex P n c fr h Q := by
 refine a5e (fun X B w hS => ⟨X, Cx.le.refl X, rfl, ?_⟩) k
 obtain ⟨F, hS⟩ := hS
 rw [a3g]
 refine hS.re hh fun hE => ?_
 obtain ⟨v, us, S, h1, h2, h3, h4, h5, h6⟩ := hE
 exact ⟨v, us, S, h1, by rw [← hl.len]; exact h2, hl.lens h3, TRs.nilL hl.flat h4, h5, h6⟩

inductive LeLs : List (List AV) → List (List AV) → Prop
 | refl (l : List (List AV)) : LeLs l l
 | cons {x x' : List AV} {r r' : List (List AV)} (h : LeCs x x') (t : LeLs r r') : LeLs (x :: r) (x' :: r')
theorem LeLs.snoc (h : LeCs x x') : ∀ l : List (List AV), LeLs (l ++ [x]) (l ++ [x'])
 | [] => .cons h (.refl _)
 | y :: l => .cons (LeCs.refl y) (LeLs.snoc h l)
theorem LeLs.flat (h : LeLs a b) : LeCs a.flatten b.flatten := by
 induction h with
 | refl l => exact LeCs.refl _
 | cons h _ ih => simpa using h.app ih
theorem LeLs.lens (h : LeLs a b) : Lens sz a → Lens sz b := by
 induction h with
 | refl l => exact fun h => h
 | cons h _ ih =>
  intro hl j y hj
  cases j with
  | zero =>
   simp only [List.getElem?_cons_zero, Option.some.injEq] at hj
   subst hj
   rw [← h.len]; exact hl 0 _ rfl
  | succ j => exact ih (fun j y hj => hl (j + 1) y (by simpa using hj)) j y (by simpa using hj)
theorem LeLs.len (h : LeLs a b) : a.length = b.length := by
 induction h with
 | refl l => rfl
 | cons _ _ ih => simp [ih]
theorem e7p (id : Nat) (hh : y4y h id = some (g, .row ty sz xs)) (hl : LeLs xs xs') (k : Ex P n c fr ((id, (g, .row ty sz xs')) :: h) Q) : Ex P n c fr h Q := by
 refine a5e (fun X B w hS => ⟨X, Cx.le.refl X, rfl, ?_⟩) k
 obtain ⟨F, hS⟩ := hS
 rw [a3g]
 refine hS.re hh fun hE => ?_
 obtain ⟨v, us, S, h1, h2, h3, h4, h5, h6⟩ := hE
 exact ⟨v, us, S, h1, by rw [← hl.len]; exact h2, hl.lens h3, TRs.leC hl.flat hS.ok12 h4, h5, h6⟩
variable {tt : TT} {ops : Array Oper} {r : List Oper} {lg : Log} {K : Fr → Hp → Log → Prop} {d : Nat} {ty : TypeId} {pos : String} {af : Array Edge}
theorem Sub.two : Sub [(i, a), (j, b)] [(i, a'), (j, b')] := fun p hp => by
 simp only [List.mem_cons, List.not_mem_nil, or_false] at hp
 rcases hp with rfl | rfl
 ·exact ⟨a', List.mem_cons_self ..⟩
 ·exact ⟨b', List.mem_cons_of_mem _ (List.mem_cons_self ..)⟩

theorem c9m (htt : a1z P tt) {id : Nat} (hx : evO fr x = some (.ref id g)) (hy : evO fr y = some (.ref id2 g2)) (hs : tt t = some S) (hk : S.kind = .sl e) (he : tt e = some E) (hne : Nat.beq id id2 = false) (h2 : Nat.ble 1 E.size = true) (h3 : Nat.ble 1 E.bytes = true) (hh : y4y h id = some (g, .row e E.size xs)) (hh2 : y4y h id2 = some (g2, .row ty2 E.size ys))
  (hz : xs ++ ys = zs) (h4 : zs.length * E.bytes ≤ 140737488355328) (k : u4u P tt ops r ((d, .ref id (g + 1)) :: fr) ((id, (g + 1, .row e E.size zs)) :: (id2, (g2, .dead)) :: h) (([id, id2], [id, id2]) :: lg) K) :
  u4u P tt ops (⟨some d, .call { callee := .builtin .append, args := #[x, y], argTypes := #[t, t] }, ty, pos, af, none⟩ :: r) fr h lg K := by
 subst hz
 exact a5q (b1v htt rfl hs hk he hx hy (fun e => by subst e; rw [Nat.beq_refl] at hne; cases hne) (Nat.le_of_ble_eq_true h2) (Nat.le_of_ble_eq_true h3) (by rw [← List.length_append]; exact h4)) (InH.cons hh (InH.one hh2)) Sub.two k
end
section
theorem a2x : (∀ ρ c i g e, a3f ρ c (i, (g, e)) = (ρ i, (c i, inE ρ c e))) ∧
 (∀ ρ c, inB ρ c (.any) = .any) ∧
 (∀ ρ c, inD ρ c (.any) = .any) ∧
 (∀ ρ c, inC ρ c (.any) = .any) ∧
 (∀ ρ c, inA ρ c (.any) = .any) ∧
 (∀ ρ c, inT ρ c (.any) = .any) ∧
 (∀ ρ c v, inB ρ c (.pv v) = .pv v) ∧
 (∀ ρ c v, inD ρ c (.pv v) = .pv v) ∧
 (∀ ρ c v, inC ρ c (.pv v) = .pv v) ∧
 (∀ ρ c v, inA ρ c (.pv v) = .pv v) ∧
 (∀ ρ c v, inT ρ c (.pv v) = .pv v) ∧
 (∀ ρ c m ty sz xs, inB ρ c (.row m ty sz xs) = .row m ty sz xs) ∧
 (∀ ρ c m ty sz xs, inD ρ c (.row m ty sz xs) = .row m ty sz xs) ∧
 (∀ ρ c m ty sz xs, inC ρ c (.row m ty sz xs) = .row m ty sz xs) ∧
 (∀ ρ c m ty sz xs, inA ρ c (.row m ty sz xs) = .row m ty sz xs) ∧
 (∀ ρ c m ty sz xs, inT ρ c (.row m ty sz xs) = .row m ty sz xs) ∧
 (∀ ρ c i g, inB ρ c (.ref i g) = .ref (ρ i) (c i)) ∧
 (∀ ρ c i g, inD ρ c (.ref i g) = .ref (ρ i) (c i)) ∧
 (∀ ρ c i g, inC ρ c (.ref i g) = .ref (ρ i) (c i)) ∧
 (∀ ρ c i g, inA ρ c (.ref i g) = .ref (ρ i) (c i)) ∧
 (∀ ρ c i g, inT ρ c (.ref i g) = .ref (ρ i) (c i)) ∧
 (∀ ρ c i g a b, inB ρ c (.bsl i g a b) = .bsl (ρ i) (c i) a b) ∧
 (∀ ρ c i g a b, inD ρ c (.bsl i g a b) = .bsl (ρ i) (c i) a b) ∧
 (∀ ρ c i g a b, inC ρ c (.bsl i g a b) = .bsl (ρ i) (c i) a b) ∧
 (∀ ρ c i g a b, inA ρ c (.bsl i g a b) = .bsl (ρ i) (c i) a b) ∧
 (∀ ρ c i g a b, inT ρ c (.bsl i g a b) = .bsl (ρ i) (c i) a b) ∧
 (∀ ρ c i g a b, inB ρ c (.cut i g a b) = .cut (ρ i) (c i) a b) ∧
 (∀ ρ c i g a b, inD ρ c (.cut i g a b) = .cut (ρ i) (c i) a b) ∧
 (∀ ρ c i g a b, inC ρ c (.cut i g a b) = .cut (ρ i) (c i) a b) ∧
 (∀ ρ c i g a b, inA ρ c (.cut i g a b) = .cut (ρ i) (c i) a b) ∧
 (∀ ρ c i g a b, inT ρ c (.cut i g a b) = .cut (ρ i) (c i) a b) ∧
 (∀ ρ c i g a, inB ρ c (.ptr i g a) = .ptr (ρ i) (c i) a) ∧
 (∀ ρ c i g a, inD ρ c (.ptr i g a) = .ptr (ρ i) (c i) a) ∧
 (∀ ρ c i g a, inC ρ c (.ptr i g a) = .ptr (ρ i) (c i) a) ∧
 (∀ ρ c i g a, inA ρ c (.ptr i g a) = .ptr (ρ i) (c i) a) ∧
 (∀ ρ c i g a, inT ρ c (.ptr i g a) = .ptr (ρ i) (c i) a) ∧
 (∀ ρ c i g a b, inB ρ c (.elt i g a b) = .elt (ρ i) (c i) a b) ∧
 (∀ ρ c i g a b, inD ρ c (.elt i g a b) = .elt (ρ i) (c i) a b) ∧
 (∀ ρ c i g a b, inC ρ c (.elt i g a b) = .elt (ρ i) (c i) a b) ∧
 (∀ ρ c i g a b, inA ρ c (.elt i g a b) = .elt (ρ i) (c i) a b) ∧
 (∀ ρ c i g a b, inT ρ c (.elt i g a b) = .elt (ρ i) (c i) a b) ∧
 (∀ ρ c cs, inB ρ c (.iel cs) = .iel cs) ∧
 (∀ ρ c cs, inD ρ c (.iel cs) = .iel cs) ∧
 (∀ ρ c cs, inC ρ c (.iel cs) = .iel cs) ∧
 (∀ ρ c cs, inA ρ c (.iel cs) = .iel cs) ∧
 (∀ ρ c cs, inT ρ c (.iel cs) = .iel cs) ∧
 (∀ ρ c cs, inB ρ c (.agg cs) = .agg cs) ∧
 (∀ ρ c cs, inD ρ c (.agg cs) = .agg (cs.map (inB ρ c))) ∧
 (∀ ρ c cs, inC ρ c (.agg cs) = .agg cs) ∧
 (∀ ρ c cs, inA ρ c (.agg cs) = .agg (cs.map (inC ρ c))) ∧
 (∀ ρ c cs, inT ρ c (.agg cs) = .agg (cs.map (inC ρ c))) ∧
 (∀ ρ c cs, inB ρ c (.tup cs) = .tup cs) ∧
 (∀ ρ c cs, inD ρ c (.tup cs) = .tup cs) ∧
 (∀ ρ c cs, inC ρ c (.tup cs) = .tup cs) ∧
 (∀ ρ c cs, inA ρ c (.tup cs) = .tup cs) ∧
 (∀ ρ c cs, inT ρ c (.tup cs) = .tup (cs.map (inA ρ c))) ∧
 (∀ ρ c f a b, inB ρ c (.fn f a b) = .fn f a b) ∧
 (∀ ρ c f a b, inD ρ c (.fn f a b) = .fn f a b) ∧
 (∀ ρ c f a b, inC ρ c (.fn f a b) = .fn f (a.map (inB ρ c)) (b.map (inB ρ c))) ∧
 (∀ ρ c f a b, inA ρ c (.fn f a b) = .fn f (a.map (inB ρ c)) (b.map (inB ρ c))) ∧
 (∀ ρ c f a b, inT ρ c (.fn f a b) = .fn f (a.map (inB ρ c)) (b.map (inB ρ c))) ∧
 (∀ ρ c t a, inB ρ c (.ifc t a) = .ifc t a) ∧
 (∀ ρ c t a, inD ρ c (.ifc t a) = .ifc t a) ∧
 (∀ ρ c t a, inC ρ c (.ifc t a) = .ifc t (inD ρ c a)) ∧
 (∀ ρ c t a, inA ρ c (.ifc t a) = .ifc t (inD ρ c a)) ∧
 (∀ ρ c t a, inT ρ c (.ifc t a) = .ifc t (inD ρ c a)) ∧
 (∀ ρ c i g, inB ρ c (.mp i g) = .mp (ρ i) (c i)) ∧
 (∀ ρ c i g, inD ρ c (.mp i g) = .mp (ρ i) (c i)) ∧
 (∀ ρ c i g, inC ρ c (.mp i g) = .mp (ρ i) (c i)) ∧
 (∀ ρ c i g, inA ρ c (.mp i g) = .mp (ρ i) (c i)) ∧
 (∀ ρ c i g, inT ρ c (.mp i g) = .mp (ρ i) (c i)) ∧
 (∀ ρ c, inE ρ c (.dead) = .dead) ∧
 (∀ ρ c ty cs, inE ρ c (.box ty cs) = .box ty (cs.map (inC ρ c))) ∧
 (∀ ρ c ty sz xs, inE ρ c (.row ty sz xs) = .row ty sz xs) ∧
 (∀ ρ c es, inE ρ c (.map es) = .map es) ∧
 (∀ ρ c ty lty xs, inE ρ c (.chn ty lty xs) = .chn ty lty xs) ∧
 (∀ ρ c l, inE ρ c (.blk l) = .blk l) := by
 refine ⟨?_, ?_, ?_, ?_, ?_, ?_, ?_, ?_, ?_, ?_, ?_, ?_, ?_, ?_, ?_, ?_, ?_, ?_, ?_, ?_, ?_, ?_, ?_, ?_, ?_, ?_, ?_, ?_, ?_, ?_, ?_, ?_, ?_, ?_, ?_, ?_, ?_, ?_, ?_, ?_, ?_, ?_, ?_, ?_, ?_, ?_, ?_, ?_, ?_, ?_, ?_, ?_, ?_, ?_, ?_, ?_, ?_, ?_, ?_, ?_, ?_, ?_, ?_, ?_, ?_, ?_, ?_, ?_, ?_, ?_, ?_, ?_, ?_, ?_, ?_, ?_, ?_⟩ <;> intros <;> rfl
theorem c0k : (∀ (α β : Type) (f : α → β), List.map f [] = []) ∧ (∀ (α β : Type) (f : α → β) (a : α) (l : List α), List.map f (a :: l) = f a :: List.map f l) ∧ (∀ x y : Nat, Nat.add x y = x + y) ∧
 (∀ (α : Type) (x d : α) (l : List α), (x :: l).getD 0 d = x) ∧ (∀ (α : Type) (x d : α) (l : List α) (n : Nat), (x :: l).getD (n + 1) d = l.getD n d) ∧ (∀ (α : Type) (d : α) (n : Nat), ([] : List α).getD n d = d) ∧
 (∀ b : Bool, (b || false) = b) ∧ (∀ b : Bool, (false || b) = b) ∧ (∀ b : Bool, (true || b) = true) ∧ (∀ b : Bool, (b || true) = true) ∧ (∀ n : Nat, n + 0 = n) ∧ (∀ n : Nat, 0 + n = n) :=
 ⟨fun _ _ _ => rfl, fun _ _ _ _ _ => rfl, fun _ _ => rfl, fun _ _ _ _ => rfl, fun _ _ _ _ _ => rfl, fun _ _ _ => rfl, Bool.or_false, Bool.false_or, Bool.true_or, Bool.or_true, Nat.add_zero, Nat.zero_add⟩
theorem f6t : (∀ (α : Type) (x y : α) (l : List α), (x :: l).set 0 y = y :: l) ∧ (∀ (α : Type) (x y : α) (l : List α) (n : Nat), (x :: l).set (n + 1) y = x :: l.set n y) := ⟨fun _ _ _ _ => rfl, fun _ _ _ _ _ => rfl⟩
theorem w9w (id : Nat) (he : y4y h id = some ge) (t : HE h r) : HE h ((id, ge) :: r) := .same he t
theorem x8x (t : Nat) (h : F.get t = some av) (k : Cov f F) : Cov ((t, av) :: f) F := .cons h k
theorem r9r (h : Nat.ble a b = true) : a ≤ b := Nat.le_of_ble_eq_true h
end
section
variable {P : Program}

def e9k (h : Hp) : AV → Option (List AV × TL × List (Nat × Nat))
 | .iel cs => some (cs, [], [])
 | .ptr id g off => match y4y h id with
  | some (g', .box ty cs) => some (cs.drop off, [(id, (g', .box ty cs))], [(g', g)])
  | _ => none
 | _ => none
def f7u : BinOp → Bool
 | .eql | .neq | .lss | .leq | .gtr | .geq => true
 | _ => false

def f3m (tt : TT) (fr : Fr) (h : Hp) : Op → Option (AV × TL × List (Nat × Nat))
 | .move x => match evO fr x with
  | some a => some (a, [], [])
  | none => none
 | .assign x => match evO fr x with
  | some a => some (a, [], [])
  | none => none
 | .pick c x y => match evO fr c with
  | some (.pv (.bool true)) => match evO fr x with
   | some a => some (a, [], [])
   | none => none
  | some (.pv (.bool false)) => match evO fr y with
   | some a => some (a, [], [])
   | none => none
  | _ => none
 | .load t x => match evO fr x with
  | some a => match tt t with
   | some S => match e9k h a with
    | some (cs, T, gs) => match ldv S cs with
     | some out => some (out, T, gs)
     | none => none
    | none => none
   | none => none
  | none => none
 | .nilCheck x => match evO fr x with
  | some a => match nck a with
   | true => some (a, [], [])
   | false => none
  | none => none
 | .unOp .not _ x => match evO fr x with
  | some (.pv (.bool b)) => some (.pv (.bool (!b)), [], [])
  | _ => none
 | .binOp op _ x y _ => match f7u op with
  | true => match evO fr x with
   | some (.pv u) => match evO fr y with
    | some (.pv v) => match d7r op u v with
     | some r => some (.pv r, [], [])
     | none => none
    | _ => none
   | _ => none
  | false => none
 | .fieldAddr t x f => match evO fr x with
  | some a => match tt t with
   | some S => match S.kind with
    | .st flds => match flds[f]? with
     | some (o, t2) => match tt t2 with
      | some sf => match sf.size with
       | 0 => none
       | _ + 1 => match shift o a with
        | some out => some (out, [], [])
        | none => none
      | none => none
     | none => none
    | _ => none
   | none => none
  | none => none
 | .field t x f => match evO fr x with
  | some (.agg cs) => match tt t with
   | some S => match S.kind with
    | .st flds => match flds[f]? with
     | some (o, t2) => match tt t2 with
      | some sf => match ldv sf (cs.drop o) with
       | some out => some (out, [], [])
       | none => none
      | none => none
     | none => none
    | _ => none
   | none => none
  | _ => none
 | .extract x i => match evO fr x with
  | some (.tup cs) => match cs[i]? with
   | some out => some (out, [], [])
   | none => none
  | _ => none
 | _ => none
variable {h : Hp} {T : TL} {gs : List (Nat × Nat)}
theorem e4s {a : AV} {cs : List AV} (e : e9k h a = some (cs, T, gs)) (hg : gs.map Prod.fst = gs.map Prod.snd) : d5y h a = some (cs, T) := by
 unfold e9k at e
 split at e
 ·cases e; rfl
 ·rename_i id g off
  split at e
  ·rename_i g' ty cs' hw
   cases e
   have hg : g' = g := by simpa using hg
   subst hg
   unfold d5y
   simp only [hw, if_true]
  ·cases e
 ·cases e
variable {tt : TT} {fr : Fr}
theorem d2b {op : Op} {out : AV} {K : AV → TL → TL → Prop} (e : f3m tt fr h op = some (out, T, gs)) (hg : gs.map Prod.fst = gs.map Prod.snd) (k : K out T []) : a0x P tt fr h op K := by
 unfold f3m at e
 split at e
 ·split at e
  ·rename_i a ha; cases e; simp only [a0x, Opt, ha]; exact k
  ·cases e
 ·split at e
  ·rename_i a ha; cases e; simp only [a0x, Opt, ha]; exact k
  ·cases e
 ·split at e
  ·rename_i hc
   split at e
   ·rename_i a ha; cases e; simp only [a0x, Opt, hc, ha]; exact ⟨fun _ => k, fun h => (by cases h)⟩
   ·cases e
  ·rename_i hc
   split at e
   ·rename_i a ha; cases e; simp only [a0x, Opt, hc, ha]; exact ⟨fun h => (by cases h), fun _ => k⟩
   ·cases e
  ·cases e
 ·split at e
  ·rename_i a ha
   split at e
   ·rename_i S hS
    split at e
    ·rename_i c T' gs' hp
     split at e
     ·rename_i o ho
      cases e
      have := e4s hp hg
      simp only [a0x, Opt, ha, hS, this]
      simp only [ho]
      exact k
     ·cases e
    ·cases e
   ·cases e
  ·cases e
 ·split at e
  ·rename_i a ha
   split at e
   ·rename_i hn; cases e; simp only [a0x, Opt, ha]; exact ⟨hn, k⟩
   ·cases e
  ·cases e
 ·split at e
  ·rename_i b hb; cases e; simp only [a0x, Opt, hb]; exact k
  ·cases e
 ·split at e
  ·split at e
   ·rename_i u hu
    split at e
    ·rename_i v hv
     split at e
     ·rename_i r hr; cases e; simp only [a0x, Opt, hu, hv, hr]; exact k
     ·cases e
    ·cases e
   ·cases e
  ·cases e
 ·split at e
  ·rename_i a ha
   split at e
   ·rename_i S hS
    split at e
    ·rename_i flds hk
     split at e
     ·rename_i o2 t2 hp
      split at e
      ·rename_i sf hsf
       split at e
       ·cases e
       ·rename_i m hm
        split at e
        ·rename_i o ho; cases e; simp only [a0x, Opt, ha, hS, hk, hp, hsf, ho]; exact ⟨by rw [hm]; exact Nat.succ_ne_zero m, k⟩
        ·cases e
      ·cases e
     ·cases e
    ·cases e
   ·cases e
  ·cases e
 ·split at e
  ·rename_i cs ha
   split at e
   ·rename_i S hS
    split at e
    ·rename_i flds hk
     split at e
     ·rename_i o2 t2 hp
      split at e
      ·rename_i sf hsf
       split at e
       ·rename_i o ho; cases e; simp only [a0x, Opt, ha, hS, hk, hp, hsf, ho]; exact k
       ·cases e
      ·cases e
     ·cases e
    ·cases e
   ·cases e
  ·cases e
 ·split at e
  ·rename_i cs ha
   split at e
   ·rename_i o ho; cases e; simp only [a0x, Opt, ha, ho]; exact k
   ·cases e
  ·cases e
 ·cases e

def e9l {α : Type} (fr : Fr) (dst : Option Nat) (out : AV) (k : Fr → α) : α := match dst with
 | some d => k ((d, out) :: fr)
 | none => k fr
variable {α : Type}
theorem e9m (fr : Fr) (dst : Option Nat) (out : AV) (k : Fr → α) : e9l fr dst out k = k (e4c fr dst out) := by cases dst <;> rfl

def c6l (tt : TT) (ops : Array Oper) (h : Hp) : Nat → List Oper → Fr → Log → Option (List Oper × Fr × Log × List (Nat × Nat))
 | 0, r, fr, lg => some (r, fr, lg, [])
 | _ + 1, [], _, _ => none
 | n + 1, o :: r, fr, lg => match o.guard with
  | none => match f3m tt fr h o.op with
   | some (out, T, gs) => match e9l fr o.dst out (fun fr => c6l tt ops h n r fr ((ids T, []) :: lg)) with
    | some (r', fr', lg', gs') => some (r', fr', lg', gs ++ gs')
    | none => none
   | none => none
  | some (j, want) => match w4w ops j with
   | some t => match fr.get t with
    | some (.pv (.bool b)) => match b, want with
     | true, true => match f3m tt ((t, .pv (.bool true)) :: fr) h o.op with
      | some (out, T, gs) => match e9l ((t, .pv (.bool true)) :: fr) o.dst out (fun fr => c6l tt ops h n r fr ((ids T, []) :: lg)) with
       | some (r', fr', lg', gs') => some (r', fr', lg', gs ++ gs')
       | none => none
      | none => none
     | false, false => match f3m tt ((t, .pv (.bool false)) :: fr) h o.op with
      | some (out, T, gs) => match e9l ((t, .pv (.bool false)) :: fr) o.dst out (fun fr => c6l tt ops h n r fr ((ids T, []) :: lg)) with
       | some (r', fr', lg', gs') => some (r', fr', lg', gs ++ gs')
       | none => none
      | none => none
     | true, false => e9l ((t, .pv (.bool true)) :: fr) o.dst (.pv undef) (fun fr => c6l tt ops h n r fr (([], []) :: lg))
     | false, true => e9l ((t, .pv (.bool false)) :: fr) o.dst (.pv undef) (fun fr => c6l tt ops h n r fr (([], []) :: lg))
    | some (.pv (.tuple _)) => e9l fr o.dst (.pv undef) (fun fr => c6l tt ops h n r fr (([], []) :: lg))
    | _ => none
   | none => none
theorem b8p {α β : Type} {f g : α → β} {a b : List α} (h : (a ++ b).map f = (a ++ b).map g) : a.map f = a.map g ∧ b.map f = b.map g := by
 rw [List.map_append, List.map_append] at h
 exact List.append_inj h (by simp)
theorem a1o {tt : TT} {ops : Array Oper} {h : Hp} {K : Fr → Hp → Log → Prop} : ∀ (n : Nat) {r r' : List Oper} {fr fr' : Fr} {lg lg' : Log} {gs : List (Nat × Nat)}, c6l tt ops h n r fr lg = some (r', fr', lg', gs) → gs.map Prod.fst = gs.map Prod.snd → u4u P tt ops r' fr' h lg' K → u4u P tt ops r fr h lg K
 | 0, r, r', fr, fr', lg, lg', gs, e, hg, k => by cases e; exact k
 | n + 1, [], r', fr, fr', lg, lg', gs, e, hg, k => by cases e
 | n + 1, o :: r, r', fr, fr', lg, lg', gs, e, hg, k => by
  unfold c6l at e
  simp only [e9m] at e
  unfold u4u
  split at e
  ·rename_i ho
   simp only [ho]
   split at e
   ·rename_i out T g1 h1
    split at e
    ·rename_i r1 fr1 lg1 g2 h2
     cases e
     obtain ⟨q1, q2⟩ := b8p hg
     exact .inl (d2b h1 q1 (a1o n h2 q2 k))
    ·cases e
   ·cases e
  ·rename_i j want ho
   simp only [ho]
   split at e
   ·rename_i t ht
    simp only [Opt, ht]
    split at e
    ·rename_i b hb
     simp only [hb]
     split at e
     ·split at e
      ·rename_i out T g1 h1
       split at e
       ·rename_i r1 fr1 lg1 g2 h2
        cases e
        obtain ⟨q1, q2⟩ := b8p hg
        exact ⟨fun _ => .inl (d2b h1 q1 (a1o n h2 q2 k)), fun q => by cases q⟩
       ·cases e
      ·cases e
     ·split at e
      ·rename_i out T g1 h1
       split at e
       ·rename_i r1 fr1 lg1 g2 h2
        cases e
        obtain ⟨q1, q2⟩ := b8p hg
        exact ⟨fun _ => .inl (d2b h1 q1 (a1o n h2 q2 k)), fun q => by cases q⟩
       ·cases e
      ·cases e
     ·exact ⟨fun q => by (cases q), fun _ => a1o n e hg k⟩
     ·exact ⟨fun q => by (cases q), fun _ => a1o n e hg k⟩
    ·rename_i u hu
     simp only [hu]
     exact a1o n e hg k
    ·cases e
   ·cases e
theorem b7a {ops : Array Oper} {r : List Oper} {lg : Log} {K : Fr → Hp → Log → Prop} {d : Nat} {ty : TypeId} {pos : String} {af : Array Edge} {op : BinOp} {t t' : Nat} {x y : Operand} {u v w : Value} (hx : evO fr x = some (.pv u)) (hy : evO fr y = some (.pv v)) (hv : d7r op u v = some w) (k : u4u P tt ops r ((d, .pv w) :: fr) h (([], []) :: lg) K) :
  u4u P tt ops (⟨some d, .binOp op t x y t', ty, pos, af, none⟩ :: r) fr h lg K := u7u hx hy hv k
end
section
def c6m : List Int → List Int → Bool
 | a :: az, b :: bs => if a < b then true else if b < a then false else c6m az bs
 | _, _ => false
theorem a9p (a b : Int) (az bs : List Int) : c6m (a :: az) (b :: bs) = if a < b then true else if b < a then false else c6m az bs := rfl
theorem c6n : ∀ az, c6m az az = false
 | [] => rfl
 | a :: az => by rw [a9p, if_neg (by omega), if_neg (by omega)]; exact c6n az
theorem b8q : ∀ az bs cs, c6m az bs = true → c6m bs cs = true → c6m az cs = true
 | [], _, _, h, _ => by simp [c6m] at h
 | _ :: _, [], _, h, _ => by simp [c6m] at h
 | _ :: _, _ :: _, [], _, h => by simp [c6m] at h
 | a :: az, b :: bs, c :: cs, h, k => by
  rw [a9p] at *
  by_cases h1 : a < b <;> by_cases h2 : b < a <;> by_cases h3 : b < c <;> by_cases h4 : c < b <;> simp only [h1, h2, h3, h4, if_true, if_false] at h k <;> first | omega | (cases h; done) | (cases k; done) | (rw [if_pos (by omega)]; done) | (rw [if_neg (by omega), if_neg (by omega)]; exact b8q _ _ _ h k)
theorem c6o : ∀ az bs : List Int, az.length = bs.length → az ≠ bs → c6m az bs = true ∨ c6m bs az = true
 | [], [], _, h => absurd rfl h
 | [], _ :: _, h, _ => by simp at h
 | _ :: _, [], h, _ => by simp at h
 | a :: az, b :: bs, hl, hne => by
  rw [a9p, a9p]
  by_cases h1 : a < b
  ·exact .inl (if_pos h1)
  ·by_cases h2 : b < a
   ·exact .inr (if_pos h2)
   ·have e : a = b := by omega
    subst e
    rw [if_neg h1, if_neg h1, if_neg h1, if_neg h1]
    exact c6o az bs (by simpa using hl) (fun e => hne (by rw [e]))
structure STO {α : Type} (lt : α → α → Bool) : Prop where
 irr : ∀ a, lt a a = false
 trans : ∀ a b c, lt a b = true → lt b c = true → lt a c = true
 tot : ∀ a b, a ≠ b → lt a b = true ∨ lt b a = true
theorem STO.asymm (O : STO lt) (h : lt a b = true) : lt b a = false := by
 cases hb : lt b a
 ·rfl
 ·have := O.trans _ _ _ h hb; rw [O.irr] at this; cases this
theorem STO.eq (O : STO lt) (h : lt a b = false) (k : lt b a = false) : a = b := by
 apply Classical.byContradiction
 intro hne
 rcases O.tot a b hne with h1 | h1
 ·rw [h] at h1; cases h1
 ·rw [k] at h1; cases h1
theorem STO.ntrans (O : STO lt) (h : lt b a = false) (k : lt c b = false) : lt c a = false := by
 cases hc : lt c a
 ·rfl
 ·by_cases e : a = b
  ·subst e; rw [hc] at k; cases k
  ·rcases O.tot a b e with h1 | h1
   ·rw [O.trans _ _ _ hc h1] at k; cases k
   ·rw [h] at h1; cases h1
theorem STO.lt_of (O : STO lt) (h : lt b a = false) (hne : a ≠ b) : lt a b = true := by
 rcases O.tot a b hne with h1 | h1
 ·exact h1
 ·rw [h] at h1; cases h1
section
variable {α : Type} {lt : α → α → Bool}

def SS (lt : α → α → Bool) (l : List α) : Prop := l.Pairwise (fun a b => lt a b = true)

def WS (lt : α → α → Bool) (l : List α) : Prop := l.Pairwise (fun a b => lt b a = false)
theorem SS.uniq (O : STO lt) : ∀ {l l' : List α}, SS lt l → SS lt l' → (∀ x, x ∈ l ↔ x ∈ l') → l = l'
 | [], [], _, _, _ => rfl
 | [], b :: bs, _, _, h => absurd ((h b).2 (by simp)) (by simp)
 | a :: az, [], _, _, h => absurd ((h a).1 (by simp)) (by simp)
 | a :: az, b :: bs, h1, h2, h => by
  obtain ⟨h3, h4⟩ := List.pairwise_cons.1 h1
  obtain ⟨h5, h6⟩ := List.pairwise_cons.1 h2
  have e : a = b := by
   have hab := (h a).1 (by simp)
   have hba := (h b).2 (by simp)
   rcases List.mem_cons.1 hab with e | hm
   ·exact e
   ·rcases List.mem_cons.1 hba with e | hm'
    ·exact e.symm
    ·have := O.trans _ _ _ (h3 b hm') (h5 a hm); rw [O.irr] at this; cases this
  subst e
  rw [SS.uniq O h4 h6 (fun x => ?_)]
  have hx := h x
  simp only [List.mem_cons] at hx
  constructor
  ·intro hm
   rcases hx.1 (.inr hm) with e | e
   ·subst e; have := h3 x hm; rw [O.irr] at this; cases this
   ·exact e
  ·intro hm
   rcases hx.2 (.inr hm) with e | e
   ·subst e; have := h5 x hm; rw [O.irr] at this; cases this
   ·exact e
theorem WS.uniq (O : STO lt) : ∀ {l l' : List α}, WS lt l → WS lt l' → l.Perm l' → l = l'
 | [], l', _, _, h => (List.nil_perm.1 h).symm ▸ rfl
 | a :: az, [], _, _, h => absurd h.symm (by simp)
 | a :: az, b :: bs, h1, h2, h => by
  obtain ⟨h3, h4⟩ := List.pairwise_cons.1 h1
  obtain ⟨h5, h6⟩ := List.pairwise_cons.1 h2
  have e : a = b := by
   have hab : a ∈ b :: bs := h.mem_iff.1 (by simp)
   have hba : b ∈ a :: az := h.mem_iff.2 (by simp)
   rcases List.mem_cons.1 hab with e | hm
   ·exact e
   ·rcases List.mem_cons.1 hba with e | hm'
    ·exact e.symm
    ·exact O.eq (h5 a hm) (h3 b hm')
  subst e
  rw [WS.uniq O h4 h6 ((List.perm_cons a).1 h)]
theorem SS.ws (O : STO lt) (h : SS lt l) : WS lt l := List.Pairwise.imp (fun h => O.asymm h) h

def c9n [DecidableEq α] (lt : α → α → Bool) (x : α) : List α → List α
 | [] => [x]
 | y :: r => if x = y then y :: r else if lt x y then x :: y :: r else y :: c9n lt x r
def e9n [DecidableEq α] (lt : α → α → Bool) (l : List α) : List α := l.foldl (fun acc x => c9n lt x acc) []
theorem c0l [DecidableEq α] (x z : α) : ∀ l : List α, z ∈ c9n lt x l ↔ z = x ∨ z ∈ l
 | [] => by simp [c9n]
 | y :: r => by
  unfold c9n
  by_cases e : x = y
  ·subst e; rw [if_pos rfl]; simp only [List.mem_cons]; constructor
   ·exact .inr
   ·rintro (h | h | h)
    ·exact .inl h
    ·exact .inl h
    ·exact .inr h
  ·rw [if_neg e]
   by_cases h : lt x y = true
   ·rw [if_pos h]; simp
   ·rw [if_neg h]; simp only [List.mem_cons, c0l x z r]; constructor
    ·rintro (h | h | h)
     ·exact .inr (.inl h)
     ·exact .inl h
     ·exact .inr (.inr h)
    ·rintro (h | h | h)
     ·exact .inr (.inl h)
     ·exact .inl h
     ·exact .inr (.inr h)
theorem d2c [DecidableEq α] (O : STO lt) (x : α) : ∀ l : List α, SS lt l → SS lt (c9n lt x l)
 | [], _ => by simp [c9n, SS]
 | y :: r, h => by
  unfold c9n
  obtain ⟨h1, h2⟩ := List.pairwise_cons.1 h
  by_cases e : x = y
  ·rw [if_pos e]; exact h
  ·rw [if_neg e]
   by_cases hx : lt x y = true
   ·rw [if_pos hx]
    refine List.pairwise_cons.2 ⟨fun z hz => ?_, h⟩
    rcases List.mem_cons.1 hz with rfl | hz
    ·exact hx
    ·exact O.trans _ _ _ hx (h1 z hz)
   ·rw [if_neg hx]
    refine List.pairwise_cons.2 ⟨fun z hz => ?_, d2c O x r h2⟩
    rcases (c0l x z r).1 hz with rfl | hz
    ·exact O.lt_of (by simpa using hx) (Ne.symm e)
    ·exact h1 z hz
theorem b7c [DecidableEq α] (O : STO lt) : ∀ (l acc : List α), SS lt acc → SS lt (l.foldl (fun acc x => c9n lt x acc) acc)
 | [], _, h => h
 | x :: l, acc, h => b7c O l _ (d2c O x acc h)
theorem b4h [DecidableEq α] (z : α) : ∀ (l acc : List α), z ∈ l.foldl (fun acc x => c9n lt x acc) acc ↔ z ∈ acc ∨ z ∈ l
 | [], acc => by simp
 | x :: l, acc => by
  rw [List.foldl_cons, b4h z l, c0l]
  simp only [List.mem_cons]
  constructor
  ·rintro ((h | h) | h)
   ·exact .inr (.inl h)
   ·exact .inl h
   ·exact .inr (.inr h)
  ·rintro (h | h | h)
   ·exact .inl (.inr h)
   ·exact .inl (.inl h)
   ·exact .inr h
theorem e0c [DecidableEq α] (O : STO lt) (l : List α) : SS lt (e9n lt l) := b7c O l [] .nil
theorem b0l [DecidableEq α] (z : α) (l : List α) : z ∈ e9n lt l ↔ z ∈ l := by rw [e9n, b4h]; simp

theorem e9o [DecidableEq α] (O : STO lt) (h : SS lt s) (hm : ∀ x, x ∈ s ↔ x ∈ l) : s = e9n lt l :=
 SS.uniq O h (e0c O l) (fun x => (hm x).trans (b0l x l).symm)

def d4i (lt : α → α → Bool) (x : α) : List α → List α
 | [] => [x]
 | y :: r => if lt x y then x :: y :: r else y :: d4i lt x r
def e0d (lt : α → α → Bool) (l : List α) : List α := l.foldl (fun acc x => d4i lt x acc) []
theorem c1o (x : α) : ∀ l : List α, (d4i lt x l).Perm (x :: l)
 | [] => List.Perm.refl _
 | y :: r => by
  unfold d4i
  split
  ·exact List.Perm.refl _
  ·exact ((c1o x r).cons y).trans (List.Perm.swap x y r)
theorem e0f (O : STO lt) (x : α) : ∀ l : List α, WS lt l → WS lt (d4i lt x l)
 | [], _ => by simp [d4i, WS]
 | y :: r, h => by
  unfold d4i
  obtain ⟨h1, h2⟩ := List.pairwise_cons.1 h
  split
  ·rename_i hx
   refine List.pairwise_cons.2 ⟨fun z hz => ?_, h⟩
   rcases List.mem_cons.1 hz with rfl | hz
   ·exact O.asymm hx
   ·exact O.ntrans (O.asymm hx) (h1 z hz)
  ·rename_i hx
   refine List.pairwise_cons.2 ⟨fun z hz => ?_, e0f O x r h2⟩
   rcases List.mem_cons.1 ((c1o x r).mem_iff.1 hz) with rfl | hz
   ·simpa using hx
   ·exact h1 z hz
theorem b7d (O : STO lt) : ∀ (l acc : List α), WS lt acc → WS lt (l.foldl (fun acc x => d4i lt x acc) acc)
 | [], _, h => h
 | x :: l, acc, h => b7d O l _ (e0f O x acc h)
theorem b2e : ∀ (l acc : List α), (l.foldl (fun acc x => d4i lt x acc) acc).Perm (acc ++ l)
 | [], acc => by simp
 | x :: l, acc => (b2e l _).trans (((c1o x acc).append_right l).trans (by
   have := List.perm_middle (a := x) (l₁ := acc) (l₂ := l)
   exact this.symm))
theorem c6p (O : STO lt) (l : List α) : WS lt (e0d lt l) := b7d O l [] .nil
theorem a9q (l : List α) : (e0d lt l).Perm l := b2e l []
theorem e0g (O : STO lt) (h : WS lt s) (hp : s.Perm l) : s = e0d lt l := WS.uniq O h (c6p O l) (hp.trans (a9q l).symm)
theorem d6o (O : STO lt) (h : l.Perm l') : e0d lt l = e0d lt l' := e0g O (c6p O l) ((a9q l).trans h)
end
end
section
section
variable {α : Type} {lt : α → α → Bool}

def sw (l : List α) (i j : Nat) : List α := match l[i]?, l[j]? with
 | some a, some b => (l.set i b).set j a
 | _, _ => l
theorem e9p (hi : l[i]? = some a) (hj : l[j]? = some b) : sw l i j = (l.set i b).set j a := by simp [sw, hi, hj]
theorem b4i (l : List α) (i j : Nat) : (sw l i j).length = l.length := by
 unfold sw; split <;> simp
theorem e7q (hi : l[i]? = some a) (hj : l[j]? = some b) (k : Nat) : (sw l i j)[k]? = if k = j then some a else if k = i then some b else l[k]? := by
 have h1 := (List.getElem?_eq_some_iff.1 hi).1
 have h2 := (List.getElem?_eq_some_iff.1 hj).1
 rw [e9p hi hj, List.getElem?_set, List.getElem?_set]
 by_cases e : k = j
 ·subst e; simp [h2]
 ·rw [if_neg (Ne.symm e), if_neg e]
  by_cases e2 : k = i
  ·subst e2; simp [h1]
  ·rw [if_neg (Ne.symm e2), if_neg e2]
theorem e0h (l : List α) (i j : Nat) : (sw l i j).Perm l := by
 unfold sw
 split
 ·rename_i a b hi hj
  obtain ⟨h1, e1⟩ := List.getElem?_eq_some_iff.1 hi
  obtain ⟨h2, e2⟩ := List.getElem?_eq_some_iff.1 hj
  have := Array.swap_perm (xs := l.toArray) (i := i) (j := j) (by simpa using h1) (by simpa using h2)
  have e : (l.toArray.swap i j (by simpa using h1) (by simpa using h2)).toList = (l.set i b).set j a := by
   simp [Array.swap, e1, e2]
  have := this.toList
  rw [e] at this
  simpa using this
 ·exact List.Perm.refl _
def d6p (lt : α → α → Bool) (l : List α) : Prop := ∀ i a b, 0 < i → l[i]? = some a → l[(i - 1) / 2]? = some b → lt a b = false

def a8p (lt : α → α → Bool) (l : List α) (k : Nat) : List α :=
 if h : 0 < k then match l[k]?, l[(k - 1) / 2]? with
  | some a, some b => if lt a b then a8p lt (sw l k ((k - 1) / 2)) ((k - 1) / 2) else l
  | _, _ => l
 else l
termination_by k
decreasing_by omega
theorem c1p (h : 0 < k) (ha : l[k]? = some a) (hb : l[(k - 1) / 2]? = some b) (hl : lt a b = true) : a8p lt l k = a8p lt (sw l k ((k - 1) / 2)) ((k - 1) / 2) := by
 rw [a8p, dif_pos h, ha, hb]; simp [hl]
theorem c1q (ha : l[k]? = some a) (hb : l[(k - 1) / 2]? = some b) (hl : lt a b = false) : a8p lt l k = l := by
 rw [a8p]; split
 ·rw [ha, hb]; simp [hl]
 ·rfl
theorem siftUp_zero : a8p lt l 0 = l := by rw [a8p]; simp
def HU (lt : α → α → Bool) (l : List α) (k : Nat) : Prop :=
 (∀ i a b, 0 < i → i ≠ k → l[i]? = some a → l[(i - 1) / 2]? = some b → lt a b = false) ∧
 (∀ i a b, 0 < k → 0 < i → (i - 1) / 2 = k → l[i]? = some a → l[(k - 1) / 2]? = some b → lt a b = false)
theorem d2e (O : STO lt) (k : Nat) : ∀ (l : List α), k < l.length → HU lt l k → d6p lt (a8p lt l k) ∧ (a8p lt l k).Perm l := by
 induction k using Nat.strongRecOn with
 | _ k ih =>
 intro l hk h
 by_cases h0 : 0 < k
 ·obtain ⟨a, ha⟩ : ∃ a, l[k]? = some a := ⟨_, List.getElem?_eq_getElem hk⟩
  obtain ⟨b, hb⟩ : ∃ b, l[(k - 1) / 2]? = some b := ⟨_, List.getElem?_eq_getElem (by omega)⟩
  cases hl : lt a b
  ·rw [c1q ha hb hl]
   refine ⟨fun i c d hi hc hd => ?_, List.Perm.refl _⟩
   by_cases e : i = k
   ·subst e; rw [ha] at hc; rw [hb] at hd; cases hc; cases hd; exact hl
   ·exact h.1 i c d hi e hc hd
  ·rw [c1p h0 ha hb hl]
   have hg := e7q ha hb
   have := ih ((k - 1) / 2) (by omega) (sw l k ((k - 1) / 2)) (by rw [b4i]; omega) ⟨fun i c d hi hne hc hd => ?_, fun i c d hu hi hp hc hd => ?_⟩
   ·exact ⟨this.1, this.2.trans (e0h _ _ _)⟩
   ·rw [hg, if_neg hne] at hc
    rw [hg] at hd
    by_cases e : i = k
    ·subst e
     rw [if_pos rfl] at hc
     rw [if_pos rfl] at hd
     cases hc; cases hd
     exact O.asymm hl
    ·rw [if_neg e] at hc
     by_cases e1 : (i - 1) / 2 = (k - 1) / 2
     ·rw [if_pos e1] at hd
      cases hd
      have h1 := h.1 i c b hi e hc (by rw [e1]; exact hb)
      cases hc' : lt c a
      ·rfl
      ·rw [O.trans _ _ _ hc' hl] at h1; cases h1
     ·rw [if_neg e1] at hd
      by_cases e2 : (i - 1) / 2 = k
      ·rw [if_pos e2] at hd
       cases hd
       exact h.2 i c b h0 hi e2 hc hb
      ·rw [if_neg e2] at hd
       exact h.1 i c d hi e hc hd
   ·have hd' : l[((k - 1) / 2 - 1) / 2]? = some d := by
     rw [hg, if_neg (by omega), if_neg (by omega)] at hd; exact hd
    have hbd := h.1 ((k - 1) / 2) b d hu (by omega) hb hd'
    rw [hg, if_neg (by omega)] at hc
    by_cases e : i = k
    ·rw [if_pos e] at hc; cases hc; exact hbd
    ·rw [if_neg e] at hc
     exact O.ntrans hbd (h.1 i c b hi e hc (by rw [hp]; exact hb))
 ·have : k = 0 := by omega
  subst this
  rw [siftUp_zero]
  exact ⟨fun i c d hi hc hd => h.1 i c d hi (by omega) hc hd, List.Perm.refl _⟩
def b9w (lt : α → α → Bool) (l : List α) (x : α) : List α := a8p lt (l ++ [x]) l.length
theorem d6q (O : STO lt) (h : d6p lt l) (x : α) : d6p lt (b9w lt l x) ∧ (b9w lt l x).Perm (l ++ [x]) := by
 refine d2e O _ _ (by simp) ⟨fun i a b hi hne ha hb => ?_, fun i a b _ hi hp ha hb => ?_⟩
 ·have hlt := (List.getElem?_eq_some_iff.1 ha).1
  simp only [List.length_append, List.length_cons, List.length_nil] at hlt
  rw [List.getElem?_append_left (by omega)] at ha
  rw [List.getElem?_append_left (by omega)] at hb
  exact h i a b hi ha hb
 ·have hlt := (List.getElem?_eq_some_iff.1 ha).1
  simp only [List.length_append, List.length_cons, List.length_nil] at hlt
  omega
theorem d6r (k : Nat) : ∀ l : List α, (a8p lt l k).length = l.length := by
 induction k using Nat.strongRecOn with
 | _ k ih =>
 intro l
 rw [a8p]
 split
 ·split
  ·split
   ·rw [ih _ (by omega), b4i]
   ·rfl
  ·rfl
 ·rfl
theorem e0i (l : List α) (x : α) : (b9w lt l x).length = l.length + 1 := by rw [b9w, d6r]; simp

def a4t (lt : α → α → Bool) (l : List α) (k : Nat) : Nat := match l[2 * k + 2]?, l[2 * k + 1]? with
 | some c, some d => if lt c d then 2 * k + 2 else 2 * k + 1
 | _, _ => 2 * k + 1
theorem b3q (l : List α) (k : Nat) : a4t lt l k = 2 * k + 1 ∨ (a4t lt l k = 2 * k + 2 ∧ 2 * k + 2 < l.length) := by
 unfold a4t
 split
 ·rename_i c d h1 h2
  split
  ·exact .inr ⟨rfl, (List.getElem?_eq_some_iff.1 h1).1⟩
  ·exact .inl rfl
 ·exact .inl rfl
theorem e9q (hc : l[2 * k + 2]? = some c) (hd : l[2 * k + 1]? = some d) (h : lt c d = true) : a4t lt l k = 2 * k + 2 := by
 unfold a4t; rw [hc, hd]; simp [h]
theorem e9r (hc : l[2 * k + 2]? = some c) (hd : l[2 * k + 1]? = some d) (h : lt c d = false) : a4t lt l k = 2 * k + 1 := by
 unfold a4t; rw [hc, hd]; simp [h]
theorem e9s (h : ¬ 2 * k + 2 < l.length) : a4t lt l k = 2 * k + 1 := by
 unfold a4t; rw [List.getElem?_eq_none (by omega)]

def a2h (lt : α → α → Bool) (l : List α) (k : Nat) : List α :=
 if h : 2 * k + 1 < l.length then match l[a4t lt l k]?, l[k]? with
  | some a, some b => if lt a b then a2h lt (sw l (a4t lt l k) k) (a4t lt l k) else l
  | _, _ => l
 else l
termination_by l.length - k
decreasing_by
 rw [b4i]
 rcases b3q (lt := lt) l k with h1 | h1 <;> omega
theorem a6x (h : ¬ 2 * k + 1 < l.length) : a2h lt l k = l := by rw [a2h, dif_neg h]
theorem b7e (h : 2 * k + 1 < l.length) (ha : l[a4t lt l k]? = some a) (hb : l[k]? = some b) (hl : lt a b = true) : a2h lt l k = a2h lt (sw l (a4t lt l k) k) (a4t lt l k) := by
 rw [a2h, dif_pos h, ha, hb]; simp [hl]
theorem b7f (ha : l[a4t lt l k]? = some a) (hb : l[k]? = some b) (hl : lt a b = false) : a2h lt l k = l := by
 rw [a2h]; split
 ·rw [ha, hb]; simp [hl]
 ·rfl
theorem e4t (O : STO lt) (hi : 0 < i) (hp : (i - 1) / 2 = k) (hc : l[i]? = some c) (hd : l[a4t lt l k]? = some d) : lt c d = false := by
 have hlt := (List.getElem?_eq_some_iff.1 hc).1
 unfold a4t at hd
 split at hd
 ·rename_i x y h1 h2
  split at hd
  ·rename_i hxy
   rw [h1] at hd; cases hd
   rcases (show i = 2 * k + 1 ∨ i = 2 * k + 2 by omega) with e | e
   ·subst e; rw [h2] at hc; cases hc; exact O.asymm hxy
   ·subst e; rw [h1] at hc; cases hc; exact O.irr _
  ·rename_i hxy
   rw [h2] at hd; cases hd
   rcases (show i = 2 * k + 1 ∨ i = 2 * k + 2 by omega) with e | e
   ·subst e; rw [h2] at hc; cases hc; exact O.irr _
   ·subst e; rw [h1] at hc; cases hc; simpa using hxy
 ·rename_i hno
  rcases (show i = 2 * k + 1 ∨ i = 2 * k + 2 by omega) with e | e
  ·subst e; rw [hc] at hd; cases hd; exact O.irr _
  ·subst e; exact absurd hd (fun h => hno c d hc h)
def HD (lt : α → α → Bool) (l : List α) (k : Nat) : Prop :=
 (∀ i a b, 0 < i → (i - 1) / 2 ≠ k → l[i]? = some a → l[(i - 1) / 2]? = some b → lt a b = false) ∧
 (∀ i a b, 0 < k → 0 < i → (i - 1) / 2 = k → l[i]? = some a → l[(k - 1) / 2]? = some b → lt a b = false)
theorem c6q (O : STO lt) : ∀ (n k : Nat) (l : List α), l.length - k ≤ n → HD lt l k → d6p lt (a2h lt l k) ∧ (a2h lt l k).Perm l := by
 intro n
 induction n with
 | zero =>
  intro k l hn h
  rw [a6x (by omega)]
  refine ⟨fun i c d hi hc hd => ?_, List.Perm.refl _⟩
  have := (List.getElem?_eq_some_iff.1 hc).1
  exact h.1 i c d hi (by omega) hc hd
 | succ n ih =>
  intro k l hn h
  by_cases h0 : 2 * k + 1 < l.length
  ·have hcl : a4t lt l k < l.length := by rcases b3q (lt := lt) l k with h1 | h1 <;> omega
   have hcp : (a4t lt l k - 1) / 2 = k := by rcases b3q (lt := lt) l k with h1 | h1 <;> omega
   have hc0 : 0 < a4t lt l k := by rcases b3q (lt := lt) l k with h1 | h1 <;> omega
   obtain ⟨a, ha⟩ : ∃ a, l[a4t lt l k]? = some a := ⟨_, List.getElem?_eq_getElem hcl⟩
   obtain ⟨b, hb⟩ : ∃ b, l[k]? = some b := ⟨_, List.getElem?_eq_getElem (by omega)⟩
   have hch := fun i c (hi : 0 < i) hp hc => e4t O (l := l) (k := k) (i := i) (c := c) hi hp hc ha
   cases hl : lt a b
   ·rw [b7f ha hb hl]
    refine ⟨fun i c d hi hc hd => ?_, List.Perm.refl _⟩
    by_cases e : (i - 1) / 2 = k
    ·rw [e, hb] at hd; cases hd
     exact O.ntrans hl (hch i c hi e hc)
    ·exact h.1 i c d hi e hc hd
   ·rw [b7e h0 ha hb hl]
    have hg := e7q ha hb
    generalize hm : a4t lt l k = m at *
    have := ih m (sw l m k) (by rw [b4i]; omega) ⟨fun i c d hi hne hc hd => ?_, fun i c d hm0 hi hp hc hd => ?_⟩
    ·exact ⟨this.1, this.2.trans (e0h _ _ _)⟩
    ·rw [hg] at hc hd
     by_cases e : (i - 1) / 2 = k
     ·rw [if_pos e] at hd; cases hd
      rw [if_neg (by omega)] at hc
      by_cases e1 : i = m
      ·rw [if_pos e1] at hc; cases hc; exact O.asymm hl
      ·rw [if_neg e1] at hc; exact hch i c hi e hc
     ·rw [if_neg e, if_neg hne] at hd
      by_cases e1 : i = k
      ·rw [if_pos e1] at hc; cases hc
       subst e1
       exact h.2 m a d hi hc0 hcp ha hd
      ·rw [if_neg e1] at hc
       by_cases e2 : i = m
       ·subst e2; exact absurd hcp e
       ·rw [if_neg e2] at hc
        exact h.1 i c d hi e hc hd
    ·rw [hg] at hc hd
     rw [if_neg (by omega), if_neg (by omega)] at hc
     rw [if_pos (by omega)] at hd
     cases hd
     exact h.1 i c a hi (by omega) hc (by rw [hp]; exact ha)
  ·rw [a6x h0]
   refine ⟨fun i c d hi hc hd => ?_, List.Perm.refl _⟩
   have := (List.getElem?_eq_some_iff.1 hc).1
   exact h.1 i c d hi (by omega) hc hd
theorem c9o (n k : Nat) : ∀ l : List α, l.length - k ≤ n → (a2h lt l k).length = l.length := by
 induction n generalizing k with
 | zero => intro l h; rw [a6x (by omega)]
 | succ n ih =>
  intro l h
  rw [a2h]
  split
  ·split
   ·split
    ·rw [ih _ _ (by rw [b4i]; rcases b3q (lt := lt) l k with h1 | h1 <;> omega), b4i]
    ·rfl
   ·rfl
  ·rfl

def b5m (lt : α → α → Bool) : List α → List α
 | [] => []
 | m :: r => a2h lt (((m :: r).set 0 ((m :: r).getLast (by simp))).take r.length) 0
theorem c6r (m : α) (r : List α) : (((m :: r).set 0 ((m :: r).getLast (by simp))).take r.length).Perm r := by
 rcases List.eq_nil_or_concat r with rfl | ⟨mid, x, rfl⟩
 ·simp
 ·simp only [List.set_cons_zero]
  have e : (m :: (mid.concat x)).getLast (by simp) = x := by simp [List.concat_eq_append, List.getLast_cons]
  rw [e]
  have e2 : (x :: mid.concat x).take (mid.concat x).length = x :: mid := by
   simp [List.concat_eq_append]
  rw [e2, List.concat_eq_append]
  exact (List.perm_append_comm (l₁ := [x]) (l₂ := mid))
theorem d6s (O : STO lt) (h : d6p lt (m :: r)) : d6p lt (b5m lt (m :: r)) ∧ (b5m lt (m :: r)).Perm r := by
 have := c6q O _ 0 (((m :: r).set 0 ((m :: r).getLast (by simp))).take r.length) (Nat.le_refl _) ⟨fun i a b hi hne ha hb => ?_, fun i a b h0 => by omega⟩
 ·exact ⟨this.1, this.2.trans (c6r m r)⟩
 ·rw [List.getElem?_take] at ha hb
  split at ha
  ·split at hb
   ·rw [List.getElem?_set_ne (by omega)] at ha hb
    exact h i a b hi ha hb
   ·cases hb
  ·cases ha
theorem b7g : ∀ l : List α, (b5m lt l).length = l.length - 1
 | [] => rfl
 | m :: r => by
  rw [b5m, c9o _ _ _ (Nat.le_refl _)]
  simp
theorem e4u (O : STO lt) (h : d6p lt (m :: r)) : ∀ (i : Nat) (a : α), (m :: r)[i]? = some a → lt a m = false := by
 intro i
 induction i using Nat.strongRecOn with
 | _ i ih =>
 intro a ha
 by_cases h0 : i = 0
 ·subst h0; simp at ha; subst ha; exact O.irr _
 ·have hlt := (List.getElem?_eq_some_iff.1 ha).1
  obtain ⟨b, hb⟩ : ∃ b, (m :: r)[(i - 1) / 2]? = some b := ⟨_, List.getElem?_eq_getElem (by omega)⟩
  exact O.ntrans (ih _ (by omega) b hb) (h i a b (by omega) ha hb)
def a7t (lt : α → α → Bool) : Nat → List α → List α
 | 0, _ => []
 | k + 1, l => match l with
  | [] => []
  | m :: r => m :: a7t lt k (b5m lt (m :: r))
theorem c1r (O : STO lt) : ∀ (k : Nat) (l : List α), l.length ≤ k → d6p lt l → WS lt (a7t lt k l) ∧ (a7t lt k l).Perm l
 | 0, l, hk, _ => by
  have : l = [] := List.length_eq_zero_iff.1 (by omega)
  subst this; exact ⟨.nil, List.Perm.refl _⟩
 | k + 1, [], _, _ => ⟨.nil, List.Perm.refl _⟩
 | k + 1, m :: r, hk, h => by
  obtain ⟨h1, h2⟩ := d6s O h
  obtain ⟨h3, h4⟩ := c1r O k (b5m lt (m :: r)) (by rw [b7g]; simpa using hk) h1
  refine ⟨List.pairwise_cons.2 ⟨fun z hz => ?_, h3⟩, (h4.trans h2).cons m⟩
  have hz' : z ∈ m :: r := List.mem_cons_of_mem _ ((h4.trans h2).mem_iff.1 hz)
  obtain ⟨i, hi⟩ := List.getElem?_of_mem hz'
  exact e4u O h i z hi
theorem e0j (O : STO lt) (h : d6p lt l) (hk : l.length ≤ k) : a7t lt k l = e0d lt l := e0g O (c1r O k l hk h).1 (c1r O k l hk h).2

theorem c1s : ∀ (k : Nat) (l : List α), (a7t lt k l).length ≤ k
 | 0, _ => Nat.le_refl _
 | k + 1, [] => Nat.zero_le _
 | k + 1, m :: r => by simp only [a7t, List.length_cons]; have := c1s k (b5m lt (m :: r)); omega
def b4c (lt : α → α → Bool) (l : List α) : List α := l.foldl (b9w lt) []
theorem d6t (l : List α) (x : α) : b4c lt (l ++ [x]) = b9w lt (b4c lt l) x := by simp [b4c]
theorem e4v : d6p lt ([] : List α) := fun i a b _ h => by simp at h
theorem c1t (O : STO lt) : ∀ (l acc : List α), d6p lt acc → d6p lt (l.foldl (b9w lt) acc) ∧ (l.foldl (b9w lt) acc).Perm (acc ++ l)
 | [], acc, h => ⟨h, by simp⟩
 | x :: l, acc, h => by
  obtain ⟨h1, h2⟩ := d6q O h x
  obtain ⟨h3, h4⟩ := c1t O l _ h1
  refine ⟨h3, h4.trans ((h2.append_right l).trans ?_)⟩
  simp
theorem d4j (O : STO lt) (l : List α) : d6p lt (b4c lt l) ∧ (b4c lt l).Perm l := c1t O l [] e4v
theorem b7h (l : List α) : (b4c lt l).length = l.length := by
 have : ∀ (l acc : List α), (l.foldl (b9w lt) acc).length = acc.length + l.length := by
  intro l
  induction l with
  | nil => simp
  | cons x l ih => intro acc; rw [List.foldl_cons, ih, e0i]; simp; omega
 rw [b4c, this]; simp

theorem e4w (O : STO lt) (l : List α) : a7t lt l.length (b4c lt l) = e0d lt l := by
 rw [e0j O (d4j O l).1 (by rw [b7h]; exact Nat.le_refl _)]
 exact d6o O (d4j O l).2
theorem e0k [DecidableEq α] (O : STO lt) (hn : l'.Nodup) (hm : ∀ x, x ∈ l' ↔ x ∈ l) : e0d lt l' = e9n lt l := by
 refine e9o O ?_ fun x => ((a9q l').mem_iff).trans (hm x)
 have h1 := c6p O l'
 have h2 : (e0d lt l').Nodup := (a9q l').nodup_iff.2 hn
 exact (List.Pairwise.and h1 h2).imp fun {a b} h => O.lt_of h.1 h.2
end
end
section
structure Ev where
 time : Int
 to : Int
 from' : Int
 count : Int
 n : Int
 kind : Int
 arg : Int
 deriving DecidableEq, Inhabited
structure Ou where
 time : Int
 proc : Int
 count : Int
 n : Int
 value : Int
 deriving DecidableEq, Inhabited
structure St where
 x : Int
 y : Int
 count : Int
 deriving DecidableEq, Inhabited
structure Pa where
 ev : Ev
 after : St
 sends : List Ev
 outs : List Ou
 deriving DecidableEq, Inhabited
structure La where
 proc : Int
 base : St
 done : List Pa
 deriving DecidableEq, Inhabited
structure Vi where
 inc : Int
 version : Int
 events : List Ev
 deriving DecidableEq, Inhabited
structure Nd where
 id : Int
 up : Bool
 inc : Int
 g : Int
 lanes : List La
 kept : List Ev
 outs : List Ou
 led : Int
 version : Int
 views : List Vi
 known : List Int
 round : Int
 low : Int
 deriving DecidableEq, Inhabited
def evN (e : Ev) : List Int := [e.time, e.to, e.from', e.count, e.n, e.kind, e.arg]
def ouL (o : Ou) : List Int := [o.time, o.proc, o.count, o.n, o.value]
def stL (s : St) : List Int := [s.x, s.y, s.count]
theorem e0l (h : evN a = evN b) : a = b := by
 cases a; cases b; simp [evN] at h; simp [h]
theorem e9t (h : ouL a = ouL b) : a = b := by
 cases a; cases b; simp [ouL] at h; simp [h]
def e3r : List Int → List Int → Int
 | a :: az, b :: bs => if a < b then -1 else if b < a then 1 else e3r az bs
 | [], [] => 0
 | [], _ :: _ => -1
 | _ :: _, [] => 1
theorem c9p (a b : Int) (az bs : List Int) : e3r (a :: az) (b :: bs) = if a < b then -1 else if b < a then 1 else e3r az bs := rfl
theorem c6s : ∀ az bs : List Int, az.length = bs.length → decide (e3r az bs < 0) = c6m az bs
 | [], [], _ => rfl
 | [], _ :: _, h => by simp at h
 | _ :: _, [], h => by simp at h
 | a :: az, b :: bs, h => by
  rw [c9p, a9p]
  by_cases h1 : a < b
  ·rw [if_pos h1, if_pos h1]; rfl
  ·rw [if_neg h1, if_neg h1]
   by_cases h2 : b < a
   ·rw [if_pos h2, if_pos h2]; rfl
   ·rw [if_neg h2, if_neg h2]; exact c6s az bs (by simpa using h)
theorem c9q {az bs : List Int} {i : Nat} {a b : Int} (ha : az[i]? = some a) (hb : bs[i]? = some b) : e3r (az.drop i) (bs.drop i) = if a < b then -1 else if b < a then 1 else e3r (az.drop (i + 1)) (bs.drop (i + 1)) := by
 obtain ⟨h1, e1⟩ := List.getElem?_eq_some_iff.1 ha
 obtain ⟨h2, e2⟩ := List.getElem?_eq_some_iff.1 hb
 rw [List.drop_eq_getElem_cons h1, List.drop_eq_getElem_cons h2, e1, e2, c9p]
def a2g (a b : Ev) : Bool := c6m (evN a) (evN b)
def b1n (a b : Ou) : Bool := c6m (ouL a) (ouL b)
theorem c6t : STO a2g := ⟨fun a => c6n _, fun a b c => b8q _ _ _, fun a b h => c6o _ _ rfl (fun e => h (e0l e))⟩
theorem f3n : STO b1n := ⟨fun a => c6n _, fun a b c => b8q _ _ _, fun a b h => c6o _ _ rfl (fun e => h (e9t e))⟩

def u2u (l : List Ev) : List Ev := e9n a2g l
def a0l (l : List Ou) : List Ou := e0d b1n l

def p0p : List Ev → List Ev := List.foldl (fun acc e => if e ∈ acc then acc else acc ++ [e]) []
theorem c5e (x : Ev) : ∀ (l acc : List Ev), x ∈ l.foldl (fun acc e => if e ∈ acc then acc else acc ++ [e]) acc ↔ x ∈ acc ∨ x ∈ l
 | [], acc => by simp
 | e :: l, acc => by
  rw [List.foldl_cons, c5e x l]
  split
  ·rename_i h
   simp only [List.mem_cons]
   constructor
   ·rintro (h' | h')
    ·exact .inl h'
    ·exact .inr (.inr h')
   ·rintro (h' | h' | h')
    ·exact .inl h'
    ·subst h'; exact .inl h
    ·exact .inr h'
  ·simp only [List.mem_append, List.mem_cons, List.not_mem_nil, or_false, or_assoc]
theorem b1c : ∀ (l acc : List Ev), acc.Nodup → (l.foldl (fun acc e => if e ∈ acc then acc else acc ++ [e]) acc).Nodup
 | [], acc, h => h
 | e :: l, acc, h => by
  rw [List.foldl_cons]
  refine b1c l _ ?_
  split
  ·exact h
  ·rename_i hne
   exact List.nodup_append.2 ⟨h, by simp, fun a ha b hb => by
    rw [List.mem_singleton] at hb; subst hb; rintro rfl; exact hne ha⟩
theorem a1t (x : Ev) (l : List Ev) : x ∈ p0p l ↔ x ∈ l := by rw [p0p, c5e]; simp
theorem b9s (l : List Ev) : (p0p l).Nodup := b1c l [] .nil
theorem b0m (l : List Ev) (e : Ev) : p0p (l ++ [e]) = if e ∈ p0p l then p0p l else p0p l ++ [e] := by
 simp only [p0p, List.foldl_append, List.foldl_cons, List.foldl_nil]
 rfl
theorem b8r (l : List Ev) : (p0p l).length ≤ l.length := by
 have : ∀ (l acc : List Ev), (l.foldl (fun acc e => if e ∈ acc then acc else acc ++ [e]) acc).length ≤ acc.length + l.length := by
  intro l
  induction l with
  | nil => simp
  | cons e l ih =>
   intro acc
   rw [List.foldl_cons]
   refine Nat.le_trans (ih _) ?_
   split <;> simp <;> omega
 have := this l []
 simpa [p0p] using this

theorem c1u (l : List Ev) : a7t a2g (p0p l).length (b4c a2g (p0p l)) = u2u l := by
 rw [e4w c6t, e0k c6t (b9s l) (fun x => a1t x l)]; rfl
def s7s (p : Int) : Int := if 0 ≤ p ∧ p ≤ 3 then p.tmod 3 else -1
def a0e (p : Int) : Ev := if 0 ≤ p ∧ p ≤ 3 then ⟨0, p, -1, 0, p, 0, p⟩ else ⟨0, 0, 0, 0, 0, 0, 0⟩
def w7w (id : Int) : Nat → List Int
 | 0 => []
 | k + 1 => if s7s (k : Int) = id then w7w id k ++ [(k : Int)] else w7w id k
theorem a7m (id : Int) (k : Nat) : w7w id (k + 1) = if s7s (k : Int) = id then w7w id k ++ [(k : Int)] else w7w id k := rfl
theorem a5g (id : Int) : ∀ k, (w7w id k).length ≤ k
 | 0 => Nat.le_refl _
 | k + 1 => by
  have := a5g id k
  rw [a7m]; split <;> simp <;> omega
def pkx (bs : List Nat) (p : Nat) : Nat := bs.getD (p % bs.length) 0 * 131 + bs.getD ((p * 7 + 3) % bs.length) 0 * 1117 + p * 29 + p / bs.length * 53
def pk (bs : List Nat) (p n : Nat) : Nat :=
 if n = 0 ∨ bs.length = 0 then 0
 else if p < bs.length then bs.getD p 0 % n
 else (pkx bs p ^^^ pkx bs p / 64) % n
theorem a3t (bs : List Nat) (p n : Nat) (h : 0 < n) : pk bs p n < n := by
 unfold pk
 split
 ·exact h
 ·split <;> exact Nat.mod_lt _ h
def a9r (p : Int) : La := ⟨p, ⟨0, 0, 0⟩, []⟩
def bp (l : La) : St × Int := (l.base, l.proc)
def f3o (a b : Nd) : Prop := a.id = b.id ∧ a.inc = b.inc ∧ a.g = b.g ∧ a.led = b.led ∧ a.kept = b.kept ∧ a.outs = b.outs ∧ a.lanes.map bp = b.lanes.map bp
instance (a b : Nd) : Decidable (f3o a b) := by unfold f3o; infer_instance
theorem f3p {a b r : Int} (h : ¬ (if a < b then -1 else if b < a then 1 else 0 : Int) = 0) : (if a < b then -1 else if b < a then 1 else r) = (if a < b then -1 else if b < a then 1 else 0 : Int) := by
 split
 ·rfl
 ·split
  ·rfl
  ·rename_i h1 h2; rw [if_neg h1, if_neg h2] at h; exact absurd rfl h
theorem f3q {a b r : Int} (h : (if a < b then -1 else if b < a then 1 else 0 : Int) = 0) : (if a < b then -1 else if b < a then 1 else r) = r := by
 split at h
 ·omega
 ·split at h
  ·omega
  ·rename_i h1 h2; rw [if_neg h1, if_neg h2]
def nd0 : Nd := ⟨0, false, 0, 0, [], [], [], 0, 0, [], [], 0, 0⟩
def vi0 : Vi := ⟨0, 0, []⟩
def a0u (id : Int) : Nd := if 0 ≤ id ∧ id ≤ 2 then ⟨id, true, 1, 0, (w7w id 4).map a9r, u2u ((w7w id 4).map a0e), [], 0, 1, [vi0, vi0, vi0], [0, 0, 0], 0, 41⟩ else nd0
def p1p (l : La) : La := ⟨l.proc, l.base, []⟩
def a1j (n : Nd) : Nd := ⟨n.id, n.up, n.inc, n.g, n.lanes.map p1p, n.kept, n.outs, n.led, 0, [vi0, vi0, vi0], [0, 0, 0], 0, 41⟩
theorem c1v {id : Int} (h : 0 ≤ id ∧ id ≤ 2) : u2u ((w7w id 4).map a0e) = (w7w id 4).map a0e := by
 have : id = 0 ∨ id = 1 ∨ id = 2 := by omega
 rcases this with rfl | rfl | rfl <;> decide
theorem b7i {id : Int} : ∀ {k : Nat}, q ∈ w7w id k → s7s q = id ∧ 0 ≤ q ∧ q < k
 | 0, h => by cases h
 | k + 1, h => by
  rw [a7m] at h
  split at h
  ·rcases List.mem_append.1 h with h | h
   ·have := b7i h; omega
   ·rw [List.mem_singleton] at h; subst h; exact ⟨by assumption, by omega, by omega⟩
  ·have := b7i h; omega
end
section
section
variable {α : Type} (sz : α → Nat) (mk : Nat → α → α)
def szs : List α → Nat
 | [] => 0
 | p :: r => sz p + szs r
end
variable {α : Type} {i : Nat}
theorem z5z {l : List α} {e : α} (h : l[i]? = some e) : l.take (i + 1) = l.take i ++ [e] := by
 rw [List.take_add_one, h]; rfl
theorem p2p {l : List α} {p : α} (h : l[i]? = some p) : l.drop i = p :: l.drop (i + 1) := by
 obtain ⟨hi, rfl⟩ := List.getElem?_eq_some_iff.1 h
 exact List.drop_eq_getElem_cons hi
end
section
def cPa (p : Pa) : Nat := p.sends.length + p.outs.length
def f5y (l : List Pa) : Nat := l.length + szs cPa l
def cLa (l : La) : Nat := f5y l.done
def f4y (l : List La) : Nat := l.length + szs cLa l
def cVi (v : Vi) : Nat := v.events.length
def f4z (l : List Vi) : Nat := l.length + szs cVi l
def cNd (n : Nd) : Nat := f4y n.lanes + n.kept.length + n.outs.length + f4z n.views + n.known.length
end
end Go.Proofs.YtlgknoapdbpojaaGreat.Am
