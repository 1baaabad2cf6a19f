/- The abstract machine, part 9: structs, slices and rows that are made; 'append'. -/
import Derived.Test.YtcleiaibcfocdaaAm8
import Derived.Great.BuildSlice
import Derived.ArgAppend
set_option linter.unusedVariables false
set_option linter.unusedSimpArgs false
namespace Go.Proofs.Ytcleiaibcfocdaa.Am
open Go Go.RowKit

variable {P : Program} {ev : Operand → Option AV}

/-! ### structs -/
def fillA (tt : TT) (flds : List (Nat × Nat)) : List AV → List (Nat × AV) → Option (List AV)
  | cells, [] => some cells
  | cells, (i, av) :: r => match flds[i]? with
    | none => none
    | some (off, ft) => match tt ft with
      | none => none
      | some s => if av.okc = true ∧ (cellsA av).length = s.size ∧ off + s.size ≤ cells.length then fillA tt flds (cells.take off ++ cellsA av ++ cells.drop (off + s.size)) r else none

theorem fill_step (place : Nat → Option (Nat × Nat)) (cells vs : List Value) (i off size : Nat) (v : Value) (rest : List (Nat × Value)) (hp : place i = some (off, size)) (hv : v.cells = vs.toArray) (hn : vs.length = size) (hl : off + size ≤ cells.length) :
    Instr.fill place cells.toArray ((i, v) :: rest) = Instr.fill place (cells.take off ++ vs ++ cells.drop (off + size)).toArray rest := by
  conv => lhs; unfold Instr.fill
  simp only [hp, hv, List.size_toArray, hn]
  rw [if_neg (by simp; omega)]
  congr 1
  apply Array.ext_getElem?
  intro k
  obtain ⟨g1, g2⟩ := Great.foldl_set off vs 0 cells.toArray
  have e : (vs.toArray.zipIdx.foldl (fun cs (x : Value × Nat) => cs.setIfInBounds (off + x.2) x.1) cells.toArray) = ((vs.zipIdx 0).foldl (fun cs (x : Value × Nat) => cs.setIfInBounds (off + x.2) x.1) cells.toArray) := by
    rw [← Array.foldl_toList, Array.toList_zipIdx]
  have e2 : (vs.toArray.zipIdx.foldl (fun cs (c, j) => cs.setIfInBounds (off + j) c) cells.toArray)[k]? = ((vs.zipIdx 0).foldl (fun cs (x : Value × Nat) => cs.setIfInBounds (off + x.2) x.1) cells.toArray)[k]? := by
    rw [← e]
  rw [e2, g2 k]
  simp only [Nat.add_zero, List.size_toArray, List.getElem?_toArray]
  rw [List.append_assoc, List.getElem?_append, List.getElem?_append]
  simp only [List.length_take, List.getElem?_take, List.getElem?_drop]
  have h1 : min off cells.length = off := by omega
  rw [h1]
  by_cases hk : k < off
  · rw [if_pos hk, if_pos hk, if_neg (by omega)]
  · rw [if_neg hk]
    by_cases hk2 : k - off < vs.length
    · rw [if_pos hk2, if_pos (by omega)]
    · rw [if_neg hk2, if_neg (by omega)]
      congr 1
      omega

theorem fillA_sound {tt : TT} (htt : TTOk P tt) {X : Cx} {w : World} {flds : List (Nat × Nat)} {place : Nat → Option (Nat × Nat)} (hpl : ∀ (i off ft : Nat) (s : TS), flds[i]? = some (off, ft) → tt ft = some s → place i = some (off, s.size)) :
    ∀ (parts : List (Nat × AV)) (pv : List (Nat × Value)) (cells cells' : List AV) (us : List Value), fillA tt flds cells parts = some cells' → VRs X w cells us → pv.length = parts.length →
      (∀ (j i i' : Nat) (av : AV) (v : Value), parts[j]? = some (i, av) → pv[j]? = some (i', v) → i = i' ∧ VR X w av v) → ∃ us', Instr.fill place us.toArray pv = some us'.toArray ∧ VRs X w cells' us'
  | [], pv, cells, cells', us, hf, hu, hl, hr => by
    cases hf
    have : pv = [] := List.eq_nil_of_length_eq_zero (by simpa using hl)
    subst this
    exact ⟨us, rfl, hu⟩
  | (i, av) :: r, pv, cells, cells', us, hf, hu, hl, hr => by
    cases pv with
    | nil => simp at hl
    | cons p pv =>
      obtain ⟨i', v⟩ := p
      obtain ⟨rfl, hv⟩ := hr 0 i i' av v rfl rfl
      unfold fillA at hf
      split at hf
      · cases hf
      · rename_i off ft hfl
        split at hf
        · cases hf
        · rename_i s hs
          split at hf
          · rename_i hc
            obtain ⟨vs, e1, hvs⟩ := cellsA_rel hv hc.1
            have hn : vs.length = s.size := by rw [hvs.len, hc.2.1]
            rw [fill_step place us vs i off s.size v pv (hpl i off ft s hfl hs) e1 hn (by rw [hu.len]; exact hc.2.2)]
            exact fillA_sound htt hpl r pv _ cells' _ hf (((hu.take off).append hvs).append (hu.drop _)) (by simpa using hl) (fun j a b c d h1 h2 => hr (j + 1) a b c d (by simpa using h1) (by simpa using h2))
          · cases hf

def evParts (ev : Operand → Option AV) : List (Nat × Operand) → Option (List (Nat × AV))
  | [] => some []
  | (i, x) :: r => match ev x, evParts ev r with
    | some av, some l => some ((i, av) :: l)
    | _, _ => none

theorem evParts_rel {X : Cx} {w : World} {a : Act} : ∀ (ps : List (Nat × Operand)) (l : List (Nat × AV)), evParts ev ps = some l → (∀ x ∈ ps.map (·.2), ∀ av, ev x = some av → VR X w av (a.eval x)) →
    (ps.map fun p => (p.1, a.eval p.2)).length = l.length ∧ ∀ (j i i' : Nat) (av : AV) (v : Value), l[j]? = some (i, av) → (ps.map fun p => (p.1, a.eval p.2))[j]? = some (i', v) → i = i' ∧ VR X w av v
  | [], l, h, _ => by cases h; exact ⟨rfl, fun j i i' av v h => by simp at h⟩
  | (i, x) :: r, l, h, ho => by
    unfold evParts at h
    split at h
    · rename_i av l' h1 h2
      cases h
      obtain ⟨k1, k2⟩ := evParts_rel r l' h2 (fun y hy => ho y (by simp at hy ⊢; exact .inr hy))
      refine ⟨by simpa using k1, fun j a b c d hj hj' => ?_⟩
      cases j with
      | zero =>
        simp only [List.getElem?_cons_zero, Option.some.injEq, Prod.mk.injEq, List.map_cons] at hj hj'
        obtain ⟨rfl, rfl⟩ := hj
        obtain ⟨rfl, rfl⟩ := hj'
        exact ⟨rfl, ho x (by simp) _ h1⟩
      | succ j => exact k2 j a b c d (by simpa using hj) (by simpa using hj')
    · cases h

theorem mapM_places {tt : TT} (htt : TTOk P tt) : ∀ (fs : List Field) (flds : List (Nat × Nat)), flds.length = fs.length → (∀ (j off ft : Nat), flds[j]? = some (off, ft) → ∃ f, fs[j]? = some f ∧ f.offset = off ∧ f.type = ft) → (∀ p ∈ flds, ∃ i, P.info? p.2 = some i) →
    ∃ places, fs.mapM (fun f => (P.info? f.type).map fun i => (f.offset, i.size)) = some places ∧ ∀ (i off ft : Nat) (s : TS), flds[i]? = some (off, ft) → tt ft = some s → places[i]? = some (off, s.size)
  | [], flds, hl, _, _ => by
    have : flds = [] := List.eq_nil_of_length_eq_zero (by simpa using hl)
    subst this
    exact ⟨[], rfl, fun i off ft s h => by simp at h⟩
  | f :: fs, [], hl, _, _ => by simp at hl
  | f :: fs, (off, ft) :: flds, hl, hk, hi => by
    obtain ⟨places, h1, h2⟩ := mapM_places htt fs flds (by simpa using hl) (fun j o t h => by
      obtain ⟨g, h3, h4⟩ := hk (j + 1) o t (by simpa using h)
      exact ⟨g, by simpa using h3, h4⟩) (fun p hp => hi p (by simp [hp]))
    obtain ⟨g, h3, h4, h5⟩ := hk 0 off ft rfl
    cases h3
    obtain ⟨i, h6⟩ := hi (off, ft) (by simp)
    simp only at h6
    refine ⟨(off, i.size) :: places, ?_, fun j o t s hj hs => ?_⟩
    · simp [List.mapM_cons, h5, h6, h1, h4]
    · cases j with
      | zero =>
        simp only [List.getElem?_cons_zero, Option.some.injEq, Prod.mk.injEq] at hj
        obtain ⟨rfl, rfl⟩ := hj
        obtain ⟨i', h7, h8, _⟩ := (htt _ _ hs).info
        rw [h6] at h7
        cases h7
        simp [h8]
      | succ j => exact h2 j o t s (by simpa using hj) hs

theorem ops_build {o : Oper} {tt : TT} (htt : TTOk P tt) {t : Nat} {parts : Array (Nat × Operand)} {S : TS} {flds : List (Nat × Nat)} {l : List (Nat × AV)} {cs : List AV} (ho : o.op = .build t parts) (hs : tt t = some S) (hk : S.kind = .st flds)
    (hp : evParts ev parts.toList = some l) (hf : fillA tt flds (S.zero.map .pv) l = some cs) : OpS P o ev [] [] (.agg cs) :=
  .quiet fun X B hF a w hS hop hT => by
    have T := htt _ _ hs
    obtain ⟨i, h1, h2, h3, h4⟩ := T.info
    obtain ⟨d, h5, h6⟩ := T.desc
    rw [hk] at h6
    obtain ⟨fs, rfl, h7, h8⟩ := h6
    obtain ⟨places, g1, g2⟩ := mapM_places htt fs.toList flds (by simpa using h7) (fun j off ft h => by
      obtain ⟨f, k1, k2⟩ := h8 j off ft h
      exact ⟨f, by simpa using k1, k2⟩) (T.fld flds hk)
    obtain ⟨k1, k2⟩ := evParts_rel (X := X) (w := w) (a := a) parts.toList l hp (fun x hx => hop x (by
      simp only [ho, Op.operands]
      simpa using hx))
    obtain ⟨us', g3, g4⟩ := fillA_sound htt (place := (places.toArray[·]?)) (fun i off ft s h h' => by simpa using g2 i off ft s h h') l _ _ cs S.zero hf (VRs.pvs (X := X) (w := w) T.z1) k1 k2
    have hag : S.agg = true := by simp [TS.agg, hk]
    rw [hag] at h4
    have hb : P.built t (parts.map fun (i, x) => (i, a.eval x)).toList = some us'.toArray := by
      unfold Program.built
      simp only [h1, h5, h4, g1, if_true, Value.cells, Array.toList_map]
      exact g3
    refine ⟨.agg us'.toArray, ?_, g4.agg⟩
    simp only [execOp, ho, Sem.run_bind, run_build w t _ _ hb, Result.andThen_ok, Sem.run_pure]

/-! ### slices made -/
theorem flat_replicate {α : Type} (z : List α) (n k : Nat) (hk : k < n * z.length) : (List.replicate n z).flatten[k]? = z[k % z.length]? := by
  induction n generalizing k with
  | zero => simp at hk
  | succ n ih =>
    rw [List.replicate_succ, List.flatten_cons, List.getElem?_append]
    split
    · rename_i h; rw [Nat.mod_eq_of_lt h]
    · rename_i h
      rw [ih (k - z.length) (by rw [Nat.add_mul] at hk; omega)]
      congr 1
      have h2 : k = (k - z.length) + z.length := by omega
      conv => rhs; rw [h2, Nat.add_mod_right]

theorem made_flat (z : List Value) (n : Nat) (hz : 0 < z.length) : (madeCells z.toArray (n * z.length)).toList = (List.replicate n z).flatten := by
  apply List.ext_getElem?
  intro k
  by_cases hk : k < n * z.length
  · rw [flat_replicate z n k hk]
    have hm := Nat.mod_lt k hz
    simp [madeCells, hk, hm]
  · rw [List.getElem?_eq_none (by simp [madeCells]; omega), List.getElem?_eq_none]
    simp
    omega

theorem evok {X : Cx} {w : World} {o : Oper} {a : Act} (hop : ∀ x ∈ o.op.operands, ∀ av, ev x = some av → VR X w av (a.eval x)) {x : Operand} {v : Value} (hm : x ∈ o.op.operands) (hx : ev x = some (.pv v)) : a.eval x = v := (hop x hm _ hx).pv_inv

theorem flatten_map_replicate (n : Nat) (z : List Value) : (List.replicate n (z.map AV.pv)).flatten = ((List.replicate n z).flatten).map AV.pv := by
  induction n with
  | zero => rfl
  | succ n ih => rw [List.replicate_succ, List.replicate_succ, List.flatten_cons, List.flatten_cons, List.map_append, ih]

theorem ops_makeSlice {o : Oper} {tt : TT} (htt : TTOk P tt) {t e id g : Nat} {x : Operand} {y : Operand} {S E : TS} {k k' : IntKind} {n : Nat} (ho : o.op = .makeSlice t x y) (hs : tt t = some S) (hk : S.kind = .sl e) (he : tt e = some E) (hx : ev x = some (.pv (.int k (n : Int)))) (hy : ev y = some (.pv (.int k' (n : Int))))
    (hsz : 0 < E.size) (hb1 : 0 < E.bytes) (hb : E.bytes * n ≤ 281474976710656) : OpS P o ev [(id, (g, .dead))] [(id, (g + 1, .row e E.size (List.replicate n (E.zero.map .pv))))] (.ref id (g + 1)) := by
  rintro X B hF a w Q K ⟨F, hS⟩ hop hT hK
  have hid := hT id _ (List.mem_singleton.2 rfl)
  have e1 := evok hop (by simp [ho, Op.operands]) hx
  have e2 := evok hop (by simp [ho, Op.operands]) hy
  have T := htt _ _ he
  obtain ⟨i, h1, h2, h3, h4⟩ := T.info
  obtain ⟨d, h5, h6⟩ := (htt _ _ hs).desc
  rw [hk] at h6
  simp only [KOk] at h6
  subst h6
  have hml : n ≤ maxLen := by
    have : n ≤ E.bytes * n := Nat.le_mul_of_pos_left n hb1
    unfold maxLen; omega
  obtain ⟨w', hr, hown, hgr⟩ := run_make_full (P := P) w 0 t e i _ E.size h5 h1 h4 h2 k k' n (by rw [h3]; exact hb) hml (Nat.zero_le _)
  rw [T.zeroCells] at hown
  have hmf := made_flat E.zero n (by rw [T.zl]; exact hsz)
  rw [T.zl] at hmf
  rw [hmf] at hown
  have hl : (List.replicate n (E.zero.map AV.pv)).length = n := by simp
  have hone : ∀ v ∈ (List.replicate n E.zero).flatten, v.oneCell' = true := by
    intro v hv
    simp only [List.mem_flatten, List.mem_replicate] at hv
    obtain ⟨l, ⟨_, rfl⟩, hv⟩ := hv
    exact T.z1 v hv
  obtain ⟨hX, hS', hok⟩ := hS.newRow hid (ty := e) (sz := E.size) (xs := List.replicate n (E.zero.map .pv)) (L := []) (S := []) (.of hgr [] (by simp)) (by simp) (by simp) List.nodup_nil (by rw [hl]; exact .of hown) (fun b hb => .inr (by rw [ownB_some hb]; exact Nat.le_refl _))
    (fun j z hj => by
      rw [List.getElem?_replicate] at hj
      split at hj
      · cases hj; simp [T.zl]
      · cases hj) (by rw [flatten_map_replicate]; exact (VRs.pvs hone).trs (pvs_ow _))
  unfold Oper.wp
  have hx2 : (execOp a.eval o).run P w = .ok (.value (.slice (some ⟨w.heap.size, 0, none⟩) n n)) w' := by
    simp only [execOp, ho, e1, e2, Sem.run_bind, hr, Result.andThen_ok, Sem.run_pure]
  rw [hx2, Oper.upon_value]
  exact hK _ _ _ hX (by rw [upds_one]; exact hS') hok .setR

def chunk {α : Type} (sz : Nat) : Nat → List α → List (List α)
  | 0, _ => []
  | n + 1, l => l.take sz :: chunk sz n (l.drop sz)
theorem chunk_len {α : Type} (sz : Nat) : ∀ (n : Nat) (l : List α), (chunk sz n l).length = n
  | 0, _ => rfl
  | n + 1, l => by simp [chunk, chunk_len sz n]
theorem chunk_flat {α : Type} (sz : Nat) : ∀ (n : Nat) (l : List α), l.length = n * sz → (chunk sz n l).flatten = l
  | 0, l, h => by
    have : l = [] := List.eq_nil_of_length_eq_zero (by simpa using h)
    rw [this]; rfl
  | n + 1, l, h => by
    rw [chunk, List.flatten_cons, chunk_flat sz n _ (by rw [List.length_drop, h, Nat.add_mul]; omega), List.take_append_drop]
theorem chunk_lens {sz : Nat} : ∀ (n : Nat) (l : List AV), l.length = n * sz → Lens sz (chunk sz n l)
  | 0, l, h => fun j x hx => by simp [chunk] at hx
  | n + 1, l, h => fun j x hx => by
    cases j with
    | zero =>
      have : l.take sz = x := by simpa [chunk] using hx
      rw [← this, List.length_take, h, Nat.add_mul]
      omega
    | succ j => exact chunk_lens n (l.drop sz) (by rw [List.length_drop, h, Nat.add_mul]; omega) j x (by simpa [chunk] using hx)

/-- A literal's parts, all of them and in order. -/
def whole : Nat → List (Nat × Operand) → Option (List Operand)
  | _, [] => some []
  | n, (i, x) :: r => if i = n then match whole (n + 1) r with
    | some l => some (x :: l)
    | none => none
    else none
theorem whole_eq : ∀ (n : Nat) (ps : List (Nat × Operand)) (l : List Operand), whole n ps = some l → ps = (l.zipIdx n).map fun x => (x.2, x.1)
  | _, [], l, h => by cases h; rfl
  | n, (i, x) :: r, l, h => by
    unfold whole at h
    split at h
    · rename_i hi
      split at h
      · rename_i l' hw
        cases h
        rw [whole_eq (n + 1) r l' hw, hi]
        simp
      · cases h
    · cases h

def evL (ev : Operand → Option AV) : List Operand → Option (List AV)
  | [] => some []
  | x :: r => match ev x, evL ev r with
    | some av, some l => some (av :: l)
    | _, _ => none

/-- The cells of literal parts. -/
def partCells (sz : Nat) : List AV → Option (List AV)
  | [] => some []
  | av :: r => if av.okc = true ∧ (cellsA av).length = sz then match partCells sz r with
    | some l => some (cellsA av ++ l)
    | none => none
    else none

theorem partCells_rel {X : Cx} {w : World} {a : Act} {sz : Nat} : ∀ (xs : List Operand) (avs : List AV) (cs : List AV), evL ev xs = some avs → partCells sz avs = some cs → (∀ x ∈ xs, ∀ av, ev x = some av → VR X w av (a.eval x)) →
    ∃ us, VRs X w cs us ∧ ((xs.map a.eval).flatMap fun v => v.cells.toList) = us ∧ (∀ v ∈ xs.map a.eval, v.cells.size = sz) ∧ cs.length = xs.length * sz
  | [], avs, cs, h1, h2, _ => by
    cases h1
    cases h2
    exact ⟨[], .nil, rfl, by simp, by simp⟩
  | x :: xs, avs, cs, h1, h2, ho => by
    unfold evL at h1
    split at h1
    · rename_i av l e1 e2
      cases h1
      unfold partCells at h2
      split at h2
      · rename_i hc
        split at h2
        · rename_i cs' e3
          cases h2
          obtain ⟨us, k1, k2, k3, k4⟩ := partCells_rel xs l cs' e2 e3 (fun y hy => ho y (by simp [hy]))
          obtain ⟨vs, e4, hv⟩ := cellsA_rel (ho x (by simp) _ e1) hc.1
          refine ⟨vs ++ us, hv.append k1, ?_, ?_, ?_⟩
          · simp [e4, ← k2]
          · intro v hv'
            rw [List.map_cons, List.mem_cons] at hv'
            rcases hv' with rfl | h
            · rw [e4]; simp [hv.len, hc.2]
            · exact k3 v h
          · simp [hc.2, k4, Nat.add_mul]; omega
        · cases h2
      · cases h2
    · cases h1

theorem ops_buildSlice {o : Oper} {tt : TT} (htt : TTOk P tt) {h : Hp} {t e id g len : Nat} {parts : Array (Nat × Operand)} {S E : TS} {xs : List Operand} {avs cs cs' : List AV} {T1 W1 : TL} (ho : o.op = .buildSlice t len parts) (hs : tt t = some S) (hk : S.kind = .sl e) (he : tt e = some E)
    (hw : whole 0 parts.toList = some xs) (hlen : len = xs.length) (hev : evL ev xs = some avs) (hpc : partCells E.size avs = some cs) (hsz : 0 < E.size) (hl0 : 0 < len) (hsm : len * E.size ≤ 16777216) (hf : Abs cs h cs' T1 W1) (hid1 : (T1.any (·.1 == id)) = false) :
    OpS P o ev ((id, (g, .dead)) :: T1) ((id, (g + 1, .row e E.size (chunk E.size len cs'))) :: W1) (.ref id (g + 1)) := by
  rintro X B hF a w Q K ⟨F0, hS0⟩ hop hT hK
  have hid0 := hT id _ (List.mem_cons_self ..)
  have hpe := whole_eq 0 _ _ hw
  obtain ⟨us, g1, g2, g3, g4⟩ := partCells_rel (X := X) (w := w) (a := a) xs avs cs hev hpc (fun x hx => hop x (by
    simp only [ho, Op.operands, List.mem_toArray, hpe, List.map_map, List.mem_map]
    obtain ⟨n, hn, rfl⟩ := List.getElem_of_mem hx
    refine ⟨(xs[n], n), ?_, rfl⟩
    rw [List.mem_zipIdx_iff_getElem?]
    simp [hn]))
  obtain ⟨F, Sn, hS, hcs, hSn, hF1, hF2, hid⟩ := abs_sound (id := id) hf X hF F0 us _ hS0 g1 (fun j ge hm => hT j ge (List.mem_cons_of_mem _ hm)) hid0 hid1
  have T := htt _ _ he
  obtain ⟨i, h1, h2, h3, h4⟩ := T.info
  obtain ⟨d, h5, h6⟩ := (htt _ _ hs).desc
  rw [hk] at h6
  simp only [KOk] at h6
  subst h6
  have hpos : ¬ len * i.size = 0 := by rw [h2]; exact Nat.ne_of_gt (Nat.mul_pos hl0 hsz)
  have hfill : Instr.fill (fun j => some (j * i.size, i.size)) ((Array.range (len * i.size)).map ((if E.agg then Value.agg E.zero.toArray else E.zero.getD 0 undef).cells[· % (if E.agg then Value.agg E.zero.toArray else E.zero.getD 0 undef).cells.size]!)) (parts.map fun (i, x) => (i, a.eval x)).toList = some us.toArray := by
    have hpv : (parts.map fun (i, x) => (i, a.eval x)).toList = ((xs.map a.eval).zipIdx 0).map fun x => (x.2, x.1) := by
      rw [Array.toList_map, hpe, List.zipIdx_map, List.map_map, List.map_map]
      rfl
    rw [hpv, Great.fill_whole (by rw [h2]; exact hsz) (xs.map a.eval) _ (by rw [h2]; exact g3) (by simp [hlen]), g2]
  have hr := run_buildSlice (P := P) w t e len (parts.map fun (i, x) => (i, a.eval x)) us.toArray i _ h5 h1 h4 (by rw [h2]; omega) hpos hfill
  have hcl : cs'.length = len * E.size := by rw [← hcs.len, g1.len, g4, hlen]
  have hml : len ≤ maxLen := by
    have : len ≤ len * E.size := Nat.le_mul_of_pos_right len hsz
    unfold maxLen; omega
  have hown : Own (w.alloc (.cells us.toArray e)) e E.size (.slice (some ⟨w.heap.size, 0, none⟩) len len) len us := by
    have := World.ownsRow_lit (base := 0) (e := e) (size := E.size) w us.toArray len (Nat.zero_le _) hml (by simp [hcs.len, hcl])
    exact .of (by simpa using this)
  obtain ⟨hX, hS', hok⟩ := hS.newRow hid (ty := e) (sz := E.size) (xs := chunk E.size len cs') (L := []) (S := Sn) (grown_alloc w _ _) (by simp) (fun b hb => (hF2 b hb).1) hSn (by rw [chunk_len]; exact hown) (fun b hb => .inr (by rw [ownB_some hb]; exact Nat.le_refl _))
    (chunk_lens len cs' hcl) (by rw [chunk_flat _ _ _ hcl]; exact hcs)
  unfold Oper.wp
  have hx2 : (execOp a.eval o).run P w = .ok (.value (.slice (some ⟨w.heap.size, 0, none⟩) len len)) (w.alloc (.cells us.toArray e)) := by
    simp only [execOp, ho, Sem.run_bind, hr, Result.andThen_ok, Sem.run_pure]
  rw [hx2, Oper.upon_value]
  exact hK _ _ _ hX (by rw [upds_cons]; exact hS') hok .setR

/-- A literal without elements. -/
theorem ops_buildSlice0 {o : Oper} {tt : TT} (htt : TTOk P tt) {t e id g : Nat} {S E : TS} (ho : o.op = .buildSlice t 0 #[]) (hs : tt t = some S) (hk : S.kind = .sl e) (he : tt e = some E) :
    OpS P o ev [(id, (g, .dead))] [(id, (g + 1, .row e E.size []))] (.ref id (g + 1)) := by
  rintro X B hF a w Q K ⟨F, hS⟩ hop hT hK
  have hid := hT id _ (List.mem_singleton.2 rfl)
  have T := htt _ _ he
  obtain ⟨d, h5, h6⟩ := (htt _ _ hs).desc
  rw [hk] at h6
  simp only [KOk] at h6
  subst h6
  have hr : (Instr.buildSlice t 0 #[]).run P w = .ok (.slice (some ⟨w.heap.size, 0, none⟩) 0 0) (w.alloc (.cells #[] e)) := by
    have hz : Array.range 0 = #[] := Array.eq_empty_of_size_eq_zero (by simp)
    simp [Instr.buildSlice, run_underlying h5, T.sizeOf, newRow, Instr.fill, hz]
  have hown : Own (w.alloc (.cells #[] e)) e E.size (.slice (some ⟨w.heap.size, 0, none⟩) 0 0) 0 [] := by
    have := World.ownsRow_lit (base := 0) (e := e) (size := E.size) w #[] 0 (Nat.zero_le _) (by unfold maxLen; omega) (by simp)
    exact .of (by simpa using this)
  obtain ⟨hX, hS', hok⟩ := hS.newRow hid (ty := e) (sz := E.size) (xs := []) (us := []) (L := []) (S := []) (grown_alloc w _ _) (by simp) (by simp) List.nodup_nil hown (fun b hb => .inr (by rw [ownB_some hb]; exact Nat.le_refl _)) (fun j x hx => by simp at hx) .nil
  unfold Oper.wp
  have hx2 : (execOp a.eval o).run P w = .ok (.value (.slice (some ⟨w.heap.size, 0, none⟩) 0 0)) (w.alloc (.cells #[] e)) := by
    simp only [execOp, ho, List.map_toArray, List.map_nil, Sem.run_bind, hr, Result.andThen_ok, Sem.run_pure]
  rw [hx2, Oper.upon_value]
  exact hK _ _ _ hX (by rw [upds_one]; exact hS') hok .setR
end Go.Proofs.Ytcleiaibcfocdaa.Am
