/- Plain law, part 1: orders, sorted lists, sorting. No program in sight. -/
set_option linter.unusedVariables false
set_option linter.unusedSimpArgs false
namespace Go.Proofs.Ytcleiaibcfocdaa.Am

/-! ### rows of numbers, by the first that differs -/
def lexB : List Int → List Int → Bool
  | a :: as, b :: bs => if a < b then true else if b < a then false else lexB as bs
  | _, _ => false
theorem lexB_cons (a b : Int) (as bs : List Int) : lexB (a :: as) (b :: bs) = if a < b then true else if b < a then false else lexB as bs := rfl
theorem lexB_irr : ∀ as, lexB as as = false
  | [] => rfl
  | a :: as => by rw [lexB_cons, if_neg (by omega), if_neg (by omega)]; exact lexB_irr as
theorem lexB_trans : ∀ as bs cs, lexB as bs = true → lexB bs cs = true → lexB as cs = true
  | [], _, _, h, _ => by simp [lexB] at h
  | _ :: _, [], _, h, _ => by simp [lexB] at h
  | _ :: _, _ :: _, [], _, h => by simp [lexB] at h
  | a :: as, b :: bs, c :: cs, h, k => by
    rw [lexB_cons] at *
    by_cases h1 : a < b <;> by_cases h2 : b < a <;> by_cases h3 : b < c <;> by_cases h4 : c < b <;> simp only [h1, h2, h3, h4, if_true, if_false] at h k <;> first | omega | (cases h; done) | (cases k; done) | (rw [if_pos (by omega)]; done) | (rw [if_neg (by omega), if_neg (by omega)]; exact lexB_trans _ _ _ h k)
theorem lexB_tot : ∀ as bs : List Int, as.length = bs.length → as ≠ bs → lexB as bs = true ∨ lexB bs as = true
  | [], [], _, h => absurd rfl h
  | [], _ :: _, h, _ => by simp at h
  | _ :: _, [], h, _ => by simp at h
  | a :: as, b :: bs, hl, hne => by
    rw [lexB_cons, lexB_cons]
    by_cases h1 : a < b
    · exact .inl (if_pos h1)
    · by_cases h2 : b < a
      · exact .inr (if_pos h2)
      · have e : a = b := by omega
        subst e
        rw [if_neg h1, if_neg h1, if_neg h1, if_neg h1]
        exact lexB_tot as bs (by simpa using hl) (fun e => hne (by rw [e]))

/-! ### strict orders in which of two that differ one comes first -/
structure STO {α : Type} (lt : α → α → Bool) : Prop where
  irr : ∀ a, lt a a = false
  trans : ∀ a b c, lt a b = true → lt b c = true → lt a c = true
  tot : ∀ a b, a ≠ b → lt a b = true ∨ lt b a = true
theorem STO.asymm {α : Type} {lt : α → α → Bool} (O : STO lt) {a b : α} (h : lt a b = true) : lt b a = false := by
  cases hb : lt b a
  · rfl
  · have := O.trans _ _ _ h hb; rw [O.irr] at this; cases this
theorem STO.eq {α : Type} {lt : α → α → Bool} (O : STO lt) {a b : α} (h : lt a b = false) (k : lt b a = false) : a = b := by
  apply Classical.byContradiction
  intro hne
  rcases O.tot a b hne with h1 | h1
  · rw [h] at h1; cases h1
  · rw [k] at h1; cases h1
theorem STO.ntrans {α : Type} {lt : α → α → Bool} (O : STO lt) {a b c : α} (h : lt b a = false) (k : lt c b = false) : lt c a = false := by
  cases hc : lt c a
  · rfl
  · by_cases e : a = b
    · subst e; rw [hc] at k; cases k
    · rcases O.tot a b e with h1 | h1
      · rw [O.trans _ _ _ hc h1] at k; cases k
      · rw [h] at h1; cases h1
theorem STO.lt_of {α : Type} {lt : α → α → Bool} (O : STO lt) {a b : α} (h : lt b a = false) (hne : a ≠ b) : lt a b = true := by
  rcases O.tot a b hne with h1 | h1
  · exact h1
  · rw [h] at h1; cases h1

section
variable {α : Type} {lt : α → α → Bool}

/-- Strictly ascending. -/
def SS (lt : α → α → Bool) (l : List α) : Prop := l.Pairwise (fun a b => lt a b = true)
/-- Ascending, those that are the same staying. -/
def WS (lt : α → α → Bool) (l : List α) : Prop := l.Pairwise (fun a b => lt b a = false)

theorem SS.uniq (O : STO lt) : ∀ {l l' : List α}, SS lt l → SS lt l' → (∀ x, x ∈ l ↔ x ∈ l') → l = l'
  | [], [], _, _, _ => rfl
  | [], b :: bs, _, _, h => absurd ((h b).2 (by simp)) (by simp)
  | a :: as, [], _, _, h => absurd ((h a).1 (by simp)) (by simp)
  | a :: as, b :: bs, h1, h2, h => by
    obtain ⟨h3, h4⟩ := List.pairwise_cons.1 h1
    obtain ⟨h5, h6⟩ := List.pairwise_cons.1 h2
    have e : a = b := by
      have hab := (h a).1 (by simp)
      have hba := (h b).2 (by simp)
      rcases List.mem_cons.1 hab with e | hm
      · exact e
      · rcases List.mem_cons.1 hba with e | hm'
        · exact e.symm
        · have := O.trans _ _ _ (h3 b hm') (h5 a hm); rw [O.irr] at this; cases this
    subst e
    rw [SS.uniq O h4 h6 (fun x => ?_)]
    have hx := h x
    simp only [List.mem_cons] at hx
    constructor
    · intro hm
      rcases hx.1 (.inr hm) with e | e
      · subst e; have := h3 x hm; rw [O.irr] at this; cases this
      · exact e
    · intro hm
      rcases hx.2 (.inr hm) with e | e
      · subst e; have := h5 x hm; rw [O.irr] at this; cases this
      · exact e

theorem WS.uniq (O : STO lt) : ∀ {l l' : List α}, WS lt l → WS lt l' → l.Perm l' → l = l'
  | [], l', _, _, h => (List.nil_perm.1 h).symm ▸ rfl
  | a :: as, [], _, _, h => absurd h.symm (by simp)
  | a :: as, b :: bs, h1, h2, h => by
    obtain ⟨h3, h4⟩ := List.pairwise_cons.1 h1
    obtain ⟨h5, h6⟩ := List.pairwise_cons.1 h2
    have e : a = b := by
      have hab : a ∈ b :: bs := h.mem_iff.1 (by simp)
      have hba : b ∈ a :: as := h.mem_iff.2 (by simp)
      rcases List.mem_cons.1 hab with e | hm
      · exact e
      · rcases List.mem_cons.1 hba with e | hm'
        · exact e.symm
        · exact O.eq (h5 a hm) (h3 b hm')
    subst e
    rw [WS.uniq O h4 h6 ((List.perm_cons a).1 h)]

theorem SS.ws (O : STO lt) {l : List α} (h : SS lt l) : WS lt l := List.Pairwise.imp (fun h => O.asymm h) h
theorem SS.nodup (O : STO lt) {l : List α} (h : SS lt l) : l.Nodup :=
  List.Pairwise.imp (fun {a b} h e => by subst e; rw [O.irr] at h; cases h) h

/-- Into a row in order, if it is not there. -/
def insU [DecidableEq α] (lt : α → α → Bool) (x : α) : List α → List α
  | [] => [x]
  | y :: r => if x = y then y :: r else if lt x y then x :: y :: r else y :: insU lt x r
def srtU [DecidableEq α] (lt : α → α → Bool) (l : List α) : List α := l.foldl (fun acc x => insU lt x acc) []
theorem insU_mem [DecidableEq α] (x z : α) : ∀ l : List α, z ∈ insU lt x l ↔ z = x ∨ z ∈ l
  | [] => by simp [insU]
  | y :: r => by
    unfold insU
    by_cases e : x = y
    · subst e; rw [if_pos rfl]; simp only [List.mem_cons]; constructor
      · exact .inr
      · rintro (h | h | h)
        · exact .inl h
        · exact .inl h
        · exact .inr h
    · rw [if_neg e]
      by_cases h : lt x y = true
      · rw [if_pos h]; simp
      · rw [if_neg h]; simp only [List.mem_cons, insU_mem x z r]; constructor
        · rintro (h | h | h)
          · exact .inr (.inl h)
          · exact .inl h
          · exact .inr (.inr h)
        · rintro (h | h | h)
          · exact .inr (.inl h)
          · exact .inl h
          · exact .inr (.inr h)
theorem insU_ss [DecidableEq α] (O : STO lt) (x : α) : ∀ l : List α, SS lt l → SS lt (insU lt x l)
  | [], _ => by simp [insU, SS]
  | y :: r, h => by
    unfold insU
    obtain ⟨h1, h2⟩ := List.pairwise_cons.1 h
    by_cases e : x = y
    · rw [if_pos e]; exact h
    · rw [if_neg e]
      by_cases hx : lt x y = true
      · rw [if_pos hx]
        refine List.pairwise_cons.2 ⟨fun z hz => ?_, h⟩
        rcases List.mem_cons.1 hz with rfl | hz
        · exact hx
        · exact O.trans _ _ _ hx (h1 z hz)
      · rw [if_neg hx]
        refine List.pairwise_cons.2 ⟨fun z hz => ?_, insU_ss O x r h2⟩
        rcases (insU_mem x z r).1 hz with rfl | hz
        · exact O.lt_of (by simpa using hx) (Ne.symm e)
        · exact h1 z hz
theorem foldl_insU_ss [DecidableEq α] (O : STO lt) : ∀ (l acc : List α), SS lt acc → SS lt (l.foldl (fun acc x => insU lt x acc) acc)
  | [], _, h => h
  | x :: l, acc, h => foldl_insU_ss O l _ (insU_ss O x acc h)
theorem foldl_insU_mem [DecidableEq α] (z : α) : ∀ (l acc : List α), z ∈ l.foldl (fun acc x => insU lt x acc) acc ↔ z ∈ acc ∨ z ∈ l
  | [], acc => by simp
  | x :: l, acc => by
    rw [List.foldl_cons, foldl_insU_mem z l, insU_mem]
    simp only [List.mem_cons]
    constructor
    · rintro ((h | h) | h)
      · exact .inr (.inl h)
      · exact .inl h
      · exact .inr (.inr h)
    · rintro (h | h | h)
      · exact .inl (.inr h)
      · exact .inl (.inl h)
      · exact .inr h
theorem srtU_ss [DecidableEq α] (O : STO lt) (l : List α) : SS lt (srtU lt l) := foldl_insU_ss O l [] .nil
theorem srtU_mem [DecidableEq α] (z : α) (l : List α) : z ∈ srtU lt l ↔ z ∈ l := by rw [srtU, foldl_insU_mem]; simp
/-- What is in order with just these is that. -/
theorem srtU_eq [DecidableEq α] (O : STO lt) {l s : List α} (h : SS lt s) (hm : ∀ x, x ∈ s ↔ x ∈ l) : s = srtU lt l :=
  SS.uniq O h (srtU_ss O l) (fun x => (hm x).trans (srtU_mem x l).symm)
theorem srtU_self [DecidableEq α] (O : STO lt) {l : List α} (h : SS lt l) : srtU lt l = l := (srtU_eq O h fun _ => Iff.rfl).symm
theorem srtU_congr [DecidableEq α] (O : STO lt) {l l' : List α} (h : ∀ x, x ∈ l ↔ x ∈ l') : srtU lt l = srtU lt l' :=
  srtU_eq O (srtU_ss O l) fun x => (srtU_mem x l).trans (h x)

/-- Into a row in order, behind those that are the same. -/
def insW (lt : α → α → Bool) (x : α) : List α → List α
  | [] => [x]
  | y :: r => if lt x y then x :: y :: r else y :: insW lt x r
def srtW (lt : α → α → Bool) (l : List α) : List α := l.foldl (fun acc x => insW lt x acc) []
theorem insW_perm (x : α) : ∀ l : List α, (insW lt x l).Perm (x :: l)
  | [] => List.Perm.refl _
  | y :: r => by
    unfold insW
    split
    · exact List.Perm.refl _
    · exact ((insW_perm x r).cons y).trans (List.Perm.swap x y r)
theorem insW_ws (O : STO lt) (x : α) : ∀ l : List α, WS lt l → WS lt (insW lt x l)
  | [], _ => by simp [insW, WS]
  | y :: r, h => by
    unfold insW
    obtain ⟨h1, h2⟩ := List.pairwise_cons.1 h
    split
    · rename_i hx
      refine List.pairwise_cons.2 ⟨fun z hz => ?_, h⟩
      rcases List.mem_cons.1 hz with rfl | hz
      · exact O.asymm hx
      · exact O.ntrans (O.asymm hx) (h1 z hz)
    · rename_i hx
      refine List.pairwise_cons.2 ⟨fun z hz => ?_, insW_ws O x r h2⟩
      rcases List.mem_cons.1 ((insW_perm x r).mem_iff.1 hz) with rfl | hz
      · simpa using hx
      · exact h1 z hz
theorem foldl_insW_ws (O : STO lt) : ∀ (l acc : List α), WS lt acc → WS lt (l.foldl (fun acc x => insW lt x acc) acc)
  | [], _, h => h
  | x :: l, acc, h => foldl_insW_ws O l _ (insW_ws O x acc h)
theorem foldl_insW_perm : ∀ (l acc : List α), (l.foldl (fun acc x => insW lt x acc) acc).Perm (acc ++ l)
  | [], acc => by simp
  | x :: l, acc => (foldl_insW_perm l _).trans (((insW_perm x acc).append_right l).trans (by
      have := List.perm_middle (a := x) (l₁ := acc) (l₂ := l)
      exact this.symm))
theorem srtW_ws (O : STO lt) (l : List α) : WS lt (srtW lt l) := foldl_insW_ws O l [] .nil
theorem srtW_perm (l : List α) : (srtW lt l).Perm l := foldl_insW_perm l []
theorem srtW_eq (O : STO lt) {l s : List α} (h : WS lt s) (hp : s.Perm l) : s = srtW lt l := WS.uniq O h (srtW_ws O l) (hp.trans (srtW_perm l).symm)
theorem srtW_self (O : STO lt) {l : List α} (h : WS lt l) : srtW lt l = l := (srtW_eq O h (List.Perm.refl _)).symm
theorem srtW_congr (O : STO lt) {l l' : List α} (h : l.Perm l') : srtW lt l = srtW lt l' := srtW_eq O (srtW_ws O l) ((srtW_perm l).trans h)
end
end Go.Proofs.Ytcleiaibcfocdaa.Am
