/- The abstract machine, part 18: one rule for each kind of operation. -/
import Derived.Test.YtcleiaibcfocdaaAm17
set_option linter.unusedVariables false
set_option linter.unusedSimpArgs false
namespace Go.Proofs.Ytcleiaibcfocdaa.Am
open Go Go.RowKit

variable {P : Program} {tt : TT} {ops : Array Oper} {r : List Oper} {fr : Fr} {h : Hp} {lg : Log} {K : Fr → Hp → Log → Prop} {d : Nat} {ty : TypeId} {pos : String} {af : Array Edge}

theorem rl_done (k : K fr h lg) : RunL P tt ops [] fr h lg K := k
theorem rl_inl {dst : Option Nat} {op : Op} (k : StepK P tt fr h op fun out T W => RunL P tt ops r (putO fr dst out) (updL h W) ((ids T, ids W) :: lg) K) : RunL P tt ops (⟨dst, op, ty, pos, af, none⟩ :: r) fr h lg K := .inl k
/-- An operation by what is known of it. -/
theorem rl_ops {op : Op} {T W : TL} {out : AV} (ho : OpS P ⟨some d, op, ty, pos, af, none⟩ (evO fr) T W out) (hT : InH h T) (hW : Sub W T) (k : RunL P tt ops r ((d, out) :: fr) (W ++ h) ((ids T, ids W) :: lg) K) : RunL P tt ops (⟨some d, op, ty, pos, af, none⟩ :: r) fr h lg K := .inr ⟨out, T, W, ho, hT, hW, k⟩
theorem rl_opsN {op : Op} {T W : TL} {out : AV} (ho : OpS P ⟨none, op, ty, pos, af, none⟩ (evO fr) T W out) (hT : InH h T) (hW : Sub W T) (k : RunL P tt ops r fr (W ++ h) ((ids T, ids W) :: lg) K) : RunL P tt ops (⟨none, op, ty, pos, af, none⟩ :: r) fr h lg K := .inr ⟨out, T, W, ho, hT, hW, k⟩
theorem rl_move {x : Operand} {a : AV} (hx : evO fr x = some a) (k : RunL P tt ops r ((d, a) :: fr) h (([], []) :: lg) K) : RunL P tt ops (⟨some d, .move x, ty, pos, af, none⟩ :: r) fr h lg K := by
  refine rl_inl ?_; simp only [StepK, Opt, hx]; exact k
theorem rl_assign {x : Operand} {a : AV} (hx : evO fr x = some a) (k : RunL P tt ops r ((d, a) :: fr) h (([], []) :: lg) K) : RunL P tt ops (⟨some d, .assign x, ty, pos, af, none⟩ :: r) fr h lg K := by
  refine rl_inl ?_; simp only [StepK, Opt, hx]; exact k
theorem rl_pickT {c x y : Operand} {a : AV} (hc : evO fr c = some (.pv (.bool true))) (hx : evO fr x = some a) (k : RunL P tt ops r ((d, a) :: fr) h (([], []) :: lg) K) : RunL P tt ops (⟨some d, .pick c x y, ty, pos, af, none⟩ :: r) fr h lg K := by
  refine rl_inl ?_; simp only [StepK, Opt, hc, hx]; exact ⟨fun _ => k, fun e => nomatch e⟩
theorem rl_pickF {c x y : Operand} {a : AV} (hc : evO fr c = some (.pv (.bool false))) (hx : evO fr y = some a) (k : RunL P tt ops r ((d, a) :: fr) h (([], []) :: lg) K) : RunL P tt ops (⟨some d, .pick c x y, ty, pos, af, none⟩ :: r) fr h lg K := by
  refine rl_inl ?_; simp only [StepK, Opt, hc, hx]
  refine ⟨fun e => ?_, fun _ => k⟩
  cases e
theorem rl_pick {c x y : Operand} {b : Bool} {a a' : AV} (hc : evO fr c = some (.pv (.bool b))) (hx : evO fr x = some a) (hy : evO fr y = some a') (k1 : b = true → RunL P tt ops r ((d, a) :: fr) h (([], []) :: lg) K) (k2 : b = false → RunL P tt ops r ((d, a') :: fr) h (([], []) :: lg) K) :
    RunL P tt ops (⟨some d, .pick c x y, ty, pos, af, none⟩ :: r) fr h lg K := by
  refine rl_inl ?_; simp only [StepK, Opt, hc, hx, hy]; exact ⟨k1, k2⟩
theorem rl_alloc {t : Nat} {S : TS} {zs : List AV} {id g : Nat} (hs : tt t = some S) (hz : S.zero.map .pv = zs) (hd : wfind h id = some (g, .dead)) (k : RunL P tt ops r ((d, .ptr id (g + 1) 0) :: fr) ((id, (g + 1, .box t zs)) :: h) (([id], [id]) :: lg) K) :
    RunL P tt ops (⟨some d, .alloc t, ty, pos, af, none⟩ :: r) fr h lg K := by
  subst hz
  refine rl_inl ?_; simp only [StepK, Opt, hs]; exact ⟨(id, g), hd, k⟩
theorem rl_boxA {t : Nat} {x : Operand} {cs : List AV} {id g : Nat} (hx : evO fr x = some (.agg cs)) (hw : (cs.all fun c => !c.isOw) = true) (hd : wfind h id = some (g, .dead)) (k : RunL P tt ops r ((d, .ptr id (g + 1) 0) :: fr) ((id, (g + 1, .box t cs)) :: h) (([id], [id]) :: lg) K) :
    RunL P tt ops (⟨some d, .box t x, ty, pos, af, none⟩ :: r) fr h lg K := by
  refine rl_inl ?_; simp only [StepK, Opt, hx]; exact ⟨(id, g), hd, rfl, hw, k⟩
theorem cellsA_one {a : AV} (h1 : a.one = true) : cellsA a = [a] := by cases a <;> first | rfl | simp [AV.one] at h1
theorem okc_one {a : AV} (h1 : a.one = true) : a.okc = true := by cases a <;> first | rfl | exact h1
theorem rl_box1 {t : Nat} {x : Operand} {a : AV} {id g : Nat} (hx : evO fr x = some a) (h1 : a.one = true) (hw : a.isOw = false) (hd : wfind h id = some (g, .dead)) (k : RunL P tt ops r ((d, .ptr id (g + 1) 0) :: fr) ((id, (g + 1, .box t [a])) :: h) (([id], [id]) :: lg) K) :
    RunL P tt ops (⟨some d, .box t x, ty, pos, af, none⟩ :: r) fr h lg K := by
  refine rl_inl ?_; simp only [StepK, Opt, hx]; exact ⟨(id, g), hd, okc_one h1, by rw [cellsA_one h1]; simp [hw], by rw [cellsA_one h1]; exact k⟩
theorem rl_build {t : Nat} {parts : Array (Nat × Operand)} {S : TS} {flds : List (Nat × Nat)} {zs : List AV} {l : List (Nat × AV)} {cs : List AV} (hs : tt t = some S) (hk : S.kind = .st flds) (hz : S.zero.map .pv = zs) (hp : evParts (evO fr) parts.toList = some l) (hf : fillA tt flds zs l = some cs)
    (k : RunL P tt ops r ((d, .agg cs) :: fr) h (([], []) :: lg) K) : RunL P tt ops (⟨some d, .build t parts, ty, pos, af, none⟩ :: r) fr h lg K := by
  subst hz
  refine rl_inl ?_; simp only [StepK, Opt, hs, hk, hp, hf]; exact k
theorem rl_buildSlice {t e len : Nat} {parts : Array (Nat × Operand)} {S E : TS} {xs : List Operand} {avs cs cs' : List AV} {T W : TL} {id g : Nat} {rows : List (List AV)} (hs : tt t = some S) (hk : S.kind = .sl e) (he : tt e = some E) (hw : whole 0 parts.toList = some xs) (hev : evL (evO fr) xs = some avs) (hpc : partCells E.size avs = some cs)
    (hd : wfind h id = some (g, .dead)) (hab : Abs cs h cs' T W) (h1 : len = xs.length) (h2 : 0 < E.size) (h3 : 0 < len) (h4 : len * E.size ≤ 16777216) (h5 : (T.any (·.1 == id)) = false) (hr : chunk E.size len cs' = rows)
    (k : RunL P tt ops r ((d, .ref id (g + 1)) :: fr) (((id, (g + 1, .row e E.size rows)) :: W) ++ h) ((id :: ids T, id :: ids W) :: lg) K) : RunL P tt ops (⟨some d, .buildSlice t len parts, ty, pos, af, none⟩ :: r) fr h lg K := by
  subst hr
  refine rl_inl ?_; simp only [StepK, Opt, hs, hk, he, hw, hev, hpc]; exact .inr ⟨(id, g), hd, ⟨(cs', T, W), hab, h1, h2, h3, h4, h5, k⟩⟩
theorem rl_slice0 {t e : Nat} {S E : TS} {id g : Nat} (hs : tt t = some S) (hk : S.kind = .sl e) (he : tt e = some E) (hd : wfind h id = some (g, .dead)) (k : RunL P tt ops r ((d, .ref id (g + 1)) :: fr) ((id, (g + 1, .row e E.size [])) :: h) (([id], [id]) :: lg) K) :
    RunL P tt ops (⟨some d, .buildSlice t 0 #[], ty, pos, af, none⟩ :: r) fr h lg K := by
  refine rl_inl ?_; simp only [StepK, Opt, hs, hk, he]; exact .inl ⟨trivial, trivial, (id, g), hd, k⟩
/-- A literal of one element that owns nothing. -/
theorem abs_plain : ∀ {cs : List AV} {h : Hp}, (cs.all fun c => match c with | .ref _ _ => false | c => c.one && !c.isOw) = true → Abs cs h cs [] []
  | [], _, _ => .nil
  | c :: cs, h, hc => by
    rw [List.all_cons, Bool.and_eq_true] at hc
    have ih := abs_plain (h := h) hc.2
    refine .val ?_ ?_ ih
    · cases c <;> simp_all
    · cases c <;> simp_all
theorem rl_slice1A {t e : Nat} {x : Operand} {S E : TS} {cs : List AV} {id g : Nat} (hs : tt t = some S) (hk : S.kind = .sl e) (he : tt e = some E) (hx : evO fr x = some (.agg cs)) (hn : cs.length = E.size) (hd : wfind h id = some (g, .dead)) (hp : (cs.all fun c => match c with | .ref _ _ => false | c => c.one && !c.isOw) = true) (h2 : Nat.ble 1 E.size = true) (h4 : Nat.ble E.size 16777216 = true)
    (k : RunL P tt ops r ((d, .ref id (g + 1)) :: fr) ((id, (g + 1, .row e E.size [cs])) :: h) (([id], [id]) :: lg) K) : RunL P tt ops (⟨some d, .buildSlice t 1 #[(0, x)], ty, pos, af, none⟩ :: r) fr h lg K := by
  have h4' := Nat.le_of_ble_eq_true h4
  refine rl_buildSlice (xs := [x]) (avs := [.agg cs]) (cs := cs) (cs' := cs) (T := []) (W := []) hs hk he rfl (by simp [evL, hx]) (by simp [partCells, AV.okc, cellsA, hn]) hd (abs_plain hp) rfl (Nat.le_of_ble_eq_true h2) (by decide) (by omega) rfl (rows := [cs]) ?_ k
  simp [chunk, ← hn]
theorem rl_slice1 {t e : Nat} {x : Operand} {S E : TS} {a : AV} {id g : Nat} (hs : tt t = some S) (hk : S.kind = .sl e) (he : tt e = some E) (hx : evO fr x = some a) (h1 : a.one = true) (hn : E.size = 1) (hd : wfind h id = some (g, .dead)) (hp : ([a].all fun c => match c with | .ref _ _ => false | c => c.one && !c.isOw) = true)
    (k : RunL P tt ops r ((d, .ref id (g + 1)) :: fr) ((id, (g + 1, .row e E.size [[a]])) :: h) (([id], [id]) :: lg) K) : RunL P tt ops (⟨some d, .buildSlice t 1 #[(0, x)], ty, pos, af, none⟩ :: r) fr h lg K := by
  refine rl_buildSlice (xs := [x]) (avs := [a]) (cs := [a]) (cs' := [a]) (T := []) (W := []) hs hk he rfl (by simp [evL, hx]) (by simp [partCells, okc_one h1, cellsA_one h1, hn]) hd (abs_plain hp) rfl (by omega) (by decide) (by omega) rfl (rows := [[a]]) ?_ k
  simp [chunk, hn]
theorem rl_load_ptr {t : Nat} {x : Operand} {S : TS} {id g off bty : Nat} {cs : List AV} {out : AV} (hx : evO fr x = some (.ptr id g off)) (hs : tt t = some S) (hh : wfind h id = some (g, .box bty cs)) (hl : ldv S (cs.drop off) = some out) (k : RunL P tt ops r ((d, out) :: fr) h (([id], []) :: lg) K) :
    RunL P tt ops (⟨some d, .load t x, ty, pos, af, none⟩ :: r) fr h lg K := by
  refine rl_inl ?_; simp only [StepK, Opt, hx, hs, peek, hh, if_true, hl]; exact k
theorem ldv_all {S : TS} {cs : List AV} (ha : S.agg = true) (hn : S.size = cs.length) : ldv S cs = some (.agg cs) := by
  unfold ldv
  rw [if_pos ha, if_pos (by omega), List.take_of_length_le (by omega)]
theorem rl_loadA_ptr {t : Nat} {x : Operand} {S : TS} {id g bty : Nat} {cs : List AV} (hx : evO fr x = some (.ptr id g 0)) (hs : tt t = some S) (hh : wfind h id = some (g, .box bty cs)) (ha : S.agg = true) (hn : S.size = cs.length) (k : RunL P tt ops r ((d, .agg cs) :: fr) h (([id], []) :: lg) K) :
    RunL P tt ops (⟨some d, .load t x, ty, pos, af, none⟩ :: r) fr h lg K := rl_load_ptr hx hs hh (ldv_all ha hn) k
theorem rl_load_elt {t : Nat} {x : Operand} {S : TS} {id g i off rty sz : Nat} {xs : List (List AV)} {cs : List AV} {out : AV} (hx : evO fr x = some (.elt id g i off)) (hs : tt t = some S) (hh : wfind h id = some (g, .row rty sz xs)) (hi : i < xs.length) (hc : xs.getD i [] = cs) (hl : ldv S (cs.drop off) = some out) (k : RunL P tt ops r ((d, out) :: fr) h (([id], []) :: lg) K) :
    RunL P tt ops (⟨some d, .load t x, ty, pos, af, none⟩ :: r) fr h lg K := by
  subst hc
  refine rl_inl ?_; simp only [StepK, Opt, hx, hs, peek, hh, hi, and_self, if_true, hl]; exact k
theorem rl_load_iel {t : Nat} {x : Operand} {S : TS} {cs : List AV} {out : AV} (hx : evO fr x = some (.iel cs)) (hs : tt t = some S) (hl : ldv S cs = some out) (k : RunL P tt ops r ((d, out) :: fr) h (([], []) :: lg) K) :
    RunL P tt ops (⟨some d, .load t x, ty, pos, af, none⟩ :: r) fr h lg K := by
  refine rl_inl ?_; simp only [StepK, Opt, hx, hs, peek, hl]; exact k
theorem rl_loadA_iel {t : Nat} {x : Operand} {S : TS} {cs : List AV} (hx : evO fr x = some (.iel cs)) (hs : tt t = some S) (ha : S.agg = true) (hn : S.size = cs.length) (k : RunL P tt ops r ((d, .agg cs) :: fr) h (([], []) :: lg) K) :
    RunL P tt ops (⟨some d, .load t x, ty, pos, af, none⟩ :: r) fr h lg K := rl_load_iel hx hs (ldv_all ha hn) k
theorem rl_store_ptr {t : Nat} {x y : Operand} {S : TS} {b : AV} {id g off bty : Nat} {cs cs' : List AV} (hx : evO fr x = some (.ptr id g off)) (hy : evO fr y = some b) (hs : tt t = some S) (hb : b.okc = true) (hn : (cellsA b).length = S.size) (hw : ((cellsA b).all fun c => !c.isOw) = true) (hh : wfind h id = some (g, .box bty cs)) (hl : off + S.size ≤ cs.length)
    (hc : cs.take off ++ cellsA b ++ cs.drop (off + S.size) = cs') (k : RunL P tt ops r fr ((id, (g, .box bty cs')) :: h) (([id], [id]) :: lg) K) : RunL P tt ops (⟨none, .store t x y, ty, pos, af, none⟩ :: r) fr h lg K := by
  subst hc
  refine rl_inl ?_; simp only [StepK, Opt, hx, hy, hs, hh]; exact ⟨hb, hn, hw, trivial, hl, k⟩
theorem rl_storeA {t : Nat} {x y : Operand} {S : TS} {bs : List AV} {id g bty : Nat} {cs : List AV} (hx : evO fr x = some (.ptr id g 0)) (hy : evO fr y = some (.agg bs)) (hs : tt t = some S) (hn : bs.length = S.size) (hw : (bs.all fun c => !c.isOw) = true) (hh : wfind h id = some (g, .box bty cs)) (hl : S.size = cs.length)
    (k : RunL P tt ops r fr ((id, (g, .box bty bs)) :: h) (([id], [id]) :: lg) K) : RunL P tt ops (⟨none, .store t x y, ty, pos, af, none⟩ :: r) fr h lg K :=
  rl_store_ptr hx hy hs rfl hn hw hh (by omega) (by simp [cellsA, hl]) k
theorem rl_store1 {t : Nat} {x y : Operand} {S : TS} {b : AV} {id g off bty : Nat} {cs cs' : List AV} (hx : evO fr x = some (.ptr id g off)) (hy : evO fr y = some b) (hs : tt t = some S) (hb : b.one = true) (hn : S.size = 1) (hw : b.isOw = false) (hh : wfind h id = some (g, .box bty cs)) (hl : Nat.blt off cs.length = true)
    (hc : cs.set off b = cs') (k : RunL P tt ops r fr ((id, (g, .box bty cs')) :: h) (([id], [id]) :: lg) K) : RunL P tt ops (⟨none, .store t x y, ty, pos, af, none⟩ :: r) fr h lg K := by
  have hl' : off < cs.length := Nat.le_of_ble_eq_true hl
  refine rl_store_ptr hx hy hs (okc_one hb) (by rw [cellsA_one hb, hn]; rfl) (by rw [cellsA_one hb]; simp [hw]) hh (by omega) ?_ k
  rw [cellsA_one hb, hn, ← hc, List.set_eq_take_append_cons_drop, if_pos hl']
  simp
theorem rl_nil {x : Operand} {a : AV} (hx : evO fr x = some a) (hn : nck a = true) (k : RunL P tt ops r ((d, a) :: fr) h (([], []) :: lg) K) : RunL P tt ops (⟨some d, .nilCheck x, ty, pos, af, none⟩ :: r) fr h lg K := by
  refine rl_inl ?_; simp only [StepK, Opt, hx]; exact ⟨hn, k⟩
theorem rl_bin {op : BinOp} {t t' : Nat} {x y : Operand} {u v w : Value} (hx : evO fr x = some (.pv u)) (hy : evO fr y = some (.pv v)) (hv : binV op u v = some w) (k : RunL P tt ops r ((d, .pv w) :: fr) h (([], []) :: lg) K) : RunL P tt ops (⟨some d, .binOp op t x y t', ty, pos, af, none⟩ :: r) fr h lg K := by
  refine rl_inl ?_; simp only [StepK, Opt, hx, hy, hv]; exact k
theorem rl_eq {op : BinOp} {t t' : Nat} {x y : Operand} {u v : AV} {b : Bool} (hx : evO fr x = some u) (hy : evO fr y = some v) (hv : ∀ a c, u = .pv a → v = .pv c → binV op a c = none) (hop : op = .eql ∨ op = .neq) (he : EqA P t x y u v b) (k : RunL P tt ops r ((d, .pv (litOp op b)) :: fr) h (([], []) :: lg) K) :
    RunL P tt ops (⟨some d, .binOp op t x y t', ty, pos, af, none⟩ :: r) fr h lg K := by
  refine rl_inl ?_; simp only [StepK, Opt, hx, hy]
  split
  · rw [hv _ _ rfl rfl]; exact ⟨hop, b, he, k⟩
  · exact ⟨hop, b, he, k⟩
theorem rl_not {t : Nat} {x : Operand} {b : Bool} (hx : evO fr x = some (.pv (.bool b))) (k : RunL P tt ops r ((d, .pv (.bool (!b))) :: fr) h (([], []) :: lg) K) : RunL P tt ops (⟨some d, .unOp .not t x, ty, pos, af, none⟩ :: r) fr h lg K := by
  refine rl_inl ?_; simp only [StepK, Opt, hx]; exact k
theorem rl_neg {t : Nat} {x : Operand} {kd : IntKind} {n : Int} (hx : evO fr x = some (.pv (.int kd n))) (k : RunL P tt ops r ((d, .pv (.int kd (kd.wrap (0 - n)))) :: fr) h (([], []) :: lg) K) : RunL P tt ops (⟨some d, .unOp .neg t x, ty, pos, af, none⟩ :: r) fr h lg K := by
  refine rl_inl ?_; simp only [StepK, Opt, hx]; exact k
theorem rl_conv {s t : Nat} {x : Operand} {S D : TS} {kd k0 k' : IntKind} {n : Int} (hx : evO fr x = some (.pv (.int kd n))) (hs : tt s = some S) (ht : tt t = some D) (h0 : S.kind = .int k0) (h1 : D.kind = .int k') (k : RunL P tt ops r ((d, .pv (.int k' (k'.wrap n))) :: fr) h (([], []) :: lg) K) :
    RunL P tt ops (⟨some d, .convert s t x, ty, pos, af, none⟩ :: r) fr h lg K := by
  refine rl_inl ?_; simp only [StepK, Opt, hx, hs, ht, h0, h1]; exact k
theorem rl_make {t e : Nat} {x y : Operand} {S E : TS} {k1 k2 : IntKind} {n id g : Nat} {zs : List AV} (hs : tt t = some S) (hk : S.kind = .sl e) (he : tt e = some E) (hz : E.zero.map .pv = zs) (hx : evO fr x = some (.pv (.int k1 (n : Int)))) (hy : evO fr y = some (.pv (.int k2 (n : Int)))) (h2 : Nat.ble 1 E.size = true) (h3 : Nat.ble 1 E.bytes = true) (h4 : E.bytes * n ≤ 281474976710656) (hd : wfind h id = some (g, .dead))
    (k : RunL P tt ops r ((d, .ref id (g + 1)) :: fr) ((id, (g + 1, .row e E.size (List.replicate n zs))) :: h) (([id], [id]) :: lg) K) : RunL P tt ops (⟨some d, .makeSlice t x y, ty, pos, af, none⟩ :: r) fr h lg K := by
  subst hz
  refine rl_inl ?_; simp only [StepK, Opt, hs, hk, he, hx, hy]
  exact ⟨(id, g), hd, trivial, by omega, Nat.le_of_ble_eq_true h2, Nat.le_of_ble_eq_true h3, by rw [Int.toNat_natCast]; exact h4, by rw [Int.toNat_natCast]; exact k⟩
theorem rl_fieldAddr {t f : Nat} {x : Operand} {S sf : TS} {a out : AV} {flds : List (Nat × Nat)} {p : Nat × Nat} (hx : evO fr x = some a) (hs : tt t = some S) (hk : S.kind = .st flds) (hf : flds[f]? = some p) (hft : tt p.2 = some sf) (hne : Nat.beq sf.size 0 = false) (ho : shift p.1 a = some out) (k : RunL P tt ops r ((d, out) :: fr) h (([], []) :: lg) K) :
    RunL P tt ops (⟨some d, .fieldAddr t x f, ty, pos, af, none⟩ :: r) fr h lg K := by
  refine rl_inl ?_; simp only [StepK, Opt, hx, hs, hk, hf, hft, ho]
  exact ⟨fun e => (by rw [e] at hne; cases hne), k⟩
theorem rl_field {t f : Nat} {x : Operand} {S sf : TS} {cs : List AV} {out : AV} {flds : List (Nat × Nat)} {p : Nat × Nat} (hx : evO fr x = some (.agg cs)) (hs : tt t = some S) (hk : S.kind = .st flds) (hf : flds[f]? = some p) (hft : tt p.2 = some sf) (ho : ldv sf (cs.drop p.1) = some out) (k : RunL P tt ops r ((d, out) :: fr) h (([], []) :: lg) K) :
    RunL P tt ops (⟨some d, .field t x f, ty, pos, af, none⟩ :: r) fr h lg K := by
  refine rl_inl ?_; simp only [StepK, Opt, hx, hs, hk, hf, hft, ho]; exact k
theorem rl_idx {t e rty : Nat} {x ix : Operand} {S E : TS} {m : Bool} {sz : Nat} {xs : List (List AV)} {kd : IntKind} {i : Int} {cs : List AV} (hx : evO fr x = some (.row (.rd m) rty sz xs)) (hi : evO fr ix = some (.pv (.int kd i))) (hs : tt t = some S) (hk : S.kind = .sl e) (he : tt e = some E) (hz : sz = E.size) (h0 : 0 ≤ i) (h1 : i < xs.length) (hc : xs.getD i.toNat [] = cs)
    (k : RunL P tt ops r ((d, .iel cs) :: fr) h (([], []) :: lg) K) : RunL P tt ops (⟨some d, .indexAddr t x ix, ty, pos, af, none⟩ :: r) fr h lg K := by
  subst hc
  refine rl_inl ?_; simp only [StepK, Opt, hx, hi, hs, hk, he, idxK]; exact ⟨hz, h0, h1, k⟩
/-- The index of a row that is the image of a list. -/
theorem rl_idxm {α : Type} {f : α → List AV} {l : List α} {j : Nat} {el : α} {t e rty : Nat} {x ix : Operand} {S E : TS} {m : Bool} {sz : Nat} {kd : IntKind} (hx : evO fr x = some (.row (.rd m) rty sz (l.map f))) (hi : evO fr ix = some (.pv (.int kd (j : Int)))) (hs : tt t = some S) (hk : S.kind = .sl e) (he : tt e = some E) (hz : sz = E.size) (hj : l[j]? = some el)
    (k : RunL P tt ops r ((d, .iel (f el)) :: fr) h (([], []) :: lg) K) : RunL P tt ops (⟨some d, .indexAddr t x ix, ty, pos, af, none⟩ :: r) fr h lg K := by
  have hlt := (List.getElem?_eq_some_iff.1 hj).1
  refine rl_idx hx hi hs hk he hz (by omega) (by simp; omega) ?_ k
  simp [List.getD_eq_getElem?_getD, hj]
theorem rl_idxr {t e rty id g : Nat} {x ix : Operand} {S E : TS} {sz : Nat} {xs : List (List AV)} {kd : IntKind} {j : Nat} (hx : evO fr x = some (.ref id g)) (hi : evO fr ix = some (.pv (.int kd (j : Int)))) (hs : tt t = some S) (hk : S.kind = .sl e) (he : tt e = some E) (hh : wfind h id = some (g, .row rty sz xs)) (hz : sz = E.size) (h1 : j < xs.length)
    (k : RunL P tt ops r ((d, .elt id g j 0) :: fr) h (([id], []) :: lg) K) : RunL P tt ops (⟨some d, .indexAddr t x ix, ty, pos, af, none⟩ :: r) fr h lg K := by
  refine rl_inl ?_; simp only [StepK, Opt, hx, hi, hs, hk, he, idxK, hh]; exact ⟨trivial, hz, by omega, by omega, by rw [Int.toNat_natCast]; exact k⟩
theorem rl_lenm {α : Type} {f : α → List AV} {l : List α} {t e rty : Nat} {x : Operand} {S : TS} {m : Bool} {sz : Nat} (hx : evO fr x = some (.row (.rd m) rty sz (l.map f))) (hs : tt t = some S) (hk : S.kind = .sl e) (k : RunL P tt ops r ((d, .pv (.int .i64 (l.length : Int))) :: fr) h (([], []) :: lg) K) :
    RunL P tt ops (⟨some d, .call { callee := .builtin .len, args := #[x], argTypes := #[t] }, ty, pos, af, none⟩ :: r) fr h lg K := by
  refine rl_inl ?_; simp only [StepK, Opt, hx, hs, lenA, hk]; exact ⟨trivial, by rw [List.length_map]; exact k⟩
theorem rl_len {t e : Nat} {x : Operand} {S : TS} {a : AV} {n n' : Nat} {T : TL} (hx : evO fr x = some a) (hs : tt t = some S) (hk : S.kind = .sl e) (hl : lenA h a = some (n, T)) (hns : ∀ s, a ≠ .pv (.string s)) (hn : n = n') (k : RunL P tt ops r ((d, .pv (.int .i64 (n' : Int))) :: fr) h ((ids T, []) :: lg) K) :
    RunL P tt ops (⟨some d, .call { callee := .builtin .len, args := #[x], argTypes := #[t] }, ty, pos, af, none⟩ :: r) fr h lg K := by
  subst hn
  refine rl_inl ?_; simp only [StepK, Opt, hx, hs, hl, hk]
  refine ⟨?_, k⟩
  cases a with
  | pv v => cases v <;> first | trivial | exact (hns _ rfl).elim
  | _ => trivial
theorem rl_app_nil {t e : Nat} {x y : Operand} {S E : TS} {b : AV} {ys : List (List AV)} {T : TL} {id g : Nat} (hx : evO fr x = some (.pv (.slice none 0 0))) (hy : evO fr y = some b) (hs : tt t = some S) (hk : S.kind = .sl e) (he : tt e = some E) (h2 : Nat.ble 1 E.size = true) (h3 : Nat.ble 1 E.bytes = true) (hd : wfind h id = some (g, .dead)) (hsrc : src h b = some (E.size, ys, T))
    (how : (ys.flatten.all fun c => !c.isOw) = true) (h4 : ys.length * E.bytes ≤ 140737488355328) (k : RunL P tt ops r ((d, .ref id (g + 1)) :: fr) ((id, (g + 1, .row e E.size ys)) :: h) ((id :: ids T, [id]) :: lg) K) :
    RunL P tt ops (⟨some d, .call { callee := .builtin .append, args := #[x, y], argTypes := #[t, t] }, ty, pos, af, none⟩ :: r) fr h lg K := by
  refine rl_inl ?_; simp only [StepK, Opt, hx, hy, hs, hk, he, appK]
  exact ⟨trivial, Nat.le_of_ble_eq_true h2, Nat.le_of_ble_eq_true h3, (id, g), hd, by simp only [hsrc]; exact ⟨.inl trivial, how, h4, k⟩⟩
theorem rl_app {t e : Nat} {x y : Operand} {S E : TS} {b : AV} {xs ys zs : List (List AV)} {T : TL} {id g : Nat} (hx : evO fr x = some (.ref id g)) (hy : evO fr y = some b) (hs : tt t = some S) (hk : S.kind = .sl e) (he : tt e = some E) (h2 : Nat.ble 1 E.size = true) (h3 : Nat.ble 1 E.bytes = true) (hh : wfind h id = some (g, .row e E.size xs)) (hsrc : src h b = some (E.size, ys, T))
    (how : (ys.flatten.all fun c => !c.isOw) = true) (hz : xs ++ ys = zs) (h4 : zs.length * E.bytes ≤ 140737488355328) (k : RunL P tt ops r ((d, .ref id (g + 1)) :: fr) ((id, (g + 1, .row e E.size zs)) :: h) ((id :: ids T, [id]) :: lg) K) :
    RunL P tt ops (⟨some d, .call { callee := .builtin .append, args := #[x, y], argTypes := #[t, t] }, ty, pos, af, none⟩ :: r) fr h lg K := by
  subst hz
  refine rl_inl ?_; simp only [StepK, Opt, hx, hy, hs, hk, he, appK, hh, hsrc, how, if_true]
  exact ⟨trivial, Nat.le_of_ble_eq_true h2, Nat.le_of_ble_eq_true h3, trivial, trivial, trivial, .inl trivial, by simpa using h4, k⟩
theorem rl_call {f : FuncId} {x : Operand} {args : Array Operand} {at' : Array TypeId} {fi cap avs as : List AV} {out : AV} (hf : evO fr x = some (.fn (.func f) fi cap)) (ha : evL (evO fr) args.toList = some avs) (he : fi ++ avs ++ cap = as) (hC : Pure P f as out) (k : RunL P tt ops r ((d, out) :: fr) h (([], []) :: lg) K) :
    RunL P tt ops (⟨some d, .call { callee := .value x, args := args, argTypes := at' }, ty, pos, af, none⟩ :: r) fr h lg K := by
  subst he
  refine rl_inl ?_; simp only [StepK, Opt, hf, ha]
  exact ⟨out, [], [], hC, InH.nil, Sub.nil, k⟩
theorem rl_extract {x : Operand} {i : Nat} {cs : List AV} {out : AV} (hx : evO fr x = some (.tup cs)) (hi : cs[i]? = some out) (k : RunL P tt ops r ((d, out) :: fr) h (([], []) :: lg) K) : RunL P tt ops (⟨some d, .extract x i, ty, pos, af, none⟩ :: r) fr h lg K := by
  refine rl_inl ?_; simp only [StepK, Opt, hx, hi]; exact k

/-! ### guards -/
theorem rl_gT {dst : Option Nat} {op : Op} {j t : Nat} {w : Bool} (hj : dstOf ops j = some t) (hg : fr.get t = some (.pv (.bool w))) (k : RunL P tt ops (⟨dst, op, ty, pos, af, none⟩ :: r) ((t, .pv (.bool w)) :: fr) h lg K) : RunL P tt ops (⟨dst, op, ty, pos, af, some (j, w)⟩ :: r) fr h lg K := by
  unfold RunL at k ⊢
  simp only [Opt, hj, hg] at k ⊢
  exact ⟨fun _ => k, fun e => (by cases w <;> cases e)⟩
theorem rl_gF {op : Op} {j t : Nat} {w : Bool} (hj : dstOf ops j = some t) (hg : fr.get t = some (.pv (.bool (!w)))) (k : RunL P tt ops r ((d, .pv undef) :: (t, .pv (.bool (!w))) :: fr) h (([], []) :: lg) K) : RunL P tt ops (⟨some d, op, ty, pos, af, some (j, w)⟩ :: r) fr h lg K := by
  unfold RunL
  simp only [Opt, hj, hg]
  exact ⟨fun e => (by cases w <;> cases e), fun _ => k⟩
theorem rl_gU {op : Op} {j t : Nat} {w : Bool} {u : Array Value} (hj : dstOf ops j = some t) (hg : fr.get t = some (.pv (.tuple u))) (k : RunL P tt ops r ((d, .pv undef) :: fr) h (([], []) :: lg) K) : RunL P tt ops (⟨some d, op, ty, pos, af, some (j, w)⟩ :: r) fr h lg K := by
  unfold RunL
  simp only [Opt, hj, hg]
  exact k
/-- A test that parts the road. -/
theorem rl_g {op : Op} {j t : Nat} {w b : Bool} (hj : dstOf ops j = some t) (hg : fr.get t = some (.pv (.bool b))) (k1 : b = w → RunL P tt ops (⟨some d, op, ty, pos, af, none⟩ :: r) ((t, .pv (.bool w)) :: fr) h lg K) (k2 : b = (!w) → RunL P tt ops r ((d, .pv undef) :: (t, .pv (.bool (!w))) :: fr) h (([], []) :: lg) K) :
    RunL P tt ops (⟨some d, op, ty, pos, af, some (j, w)⟩ :: r) fr h lg K := by
  unfold RunL
  simp only [Opt, hj, hg]
  refine ⟨fun e => ?_, k2⟩
  have := k1 e
  unfold RunL at this
  exact this
end Go.Proofs.Ytcleiaibcfocdaa.Am
