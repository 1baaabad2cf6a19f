/- The program's data: encoders. Type numbers put in by wip/gen/tpl.py. -/
import Derived.Test.YtcleiaibcfocdaaAmT
import Derived.Test.YtcleiaibcfocdaaAm33
import Derived.Test.YtcleiaibcfocdaaPu4
set_option linter.unusedVariables false
set_option linter.unusedSimpArgs false
namespace Go.Proofs.Ytcleiaibcfocdaa.Am
open Go Go.RowKit

def encI (p : Int) : List AV := [.pv (.int .i64 p)]
def encB (p : Nat) : List AV := [.pv (.int .u8 (p : Int))]
def encEv (e : Ev) : List AV := (evN e).map pI
def encOu (o : Ou) : List AV := (ouL o).map pI
def encSt (s : St) : List AV := (stL s).map pI
theorem evN_beq (a b : Ev) : (evN a == evN b) = decide (a = b) := by
  rw [Bool.eq_iff_iff]
  cases a; cases b
  simp [evN]
theorem ouL_beq (a b : Ou) : (ouL a == ouL b) = decide (a = b) := by
  rw [Bool.eq_iff_iff]
  cases a; cases b
  simp [ouL]
theorem stL_beq (a b : St) : (stL a == stL b) = decide (a = b) := by
  rw [Bool.eq_iff_iff]
  cases a; cases b
  simp [stL]
theorem eqEv (x y : Operand) (a b : Ev) : EqA Try.prog 60 x y (.agg (encEv a)) (.agg (encEv b)) (decide (a = b)) := by
  rw [← evN_beq]; exact eqA_ints Try.underlying60 (by kernel_rfl) (by kernel_rfl) (by kernel_rfl) x y (evN a) (evN b) rfl rfl
theorem eqOu (x y : Operand) (a b : Ou) : EqA Try.prog 131 x y (.agg (encOu a)) (.agg (encOu b)) (decide (a = b)) := by
  rw [← ouL_beq]; exact eqA_ints Try.underlying131 (by kernel_rfl) (by kernel_rfl) (by kernel_rfl) x y (ouL a) (ouL b) rfl rfl
theorem eqSt (x y : Operand) (a b : St) : EqA Try.prog 34 x y (.agg (encSt a)) (.agg (encSt b)) (decide (a = b)) := by
  rw [← stL_beq]; exact eqA_ints Try.underlying34 (by kernel_rfl) (by kernel_rfl) (by kernel_rfl) x y (stL a) (stL b) rfl rfl
def rInts (c : Bool) (l : List Int) : AV := .row (.rd c) 3 1 (l.map encI)
def rBytes (c : Bool) (l : List Nat) : AV := .row (.rd c) 5 1 (l.map encB)
def rEvs (c : Bool) (l : List Ev) : AV := .row (.rd c) 60 7 (l.map encEv)
def rOus (c : Bool) (l : List Ou) : AV := .row (.rd c) 131 5 (l.map encOu)

def encPa (c : Bool) (p : Pa) : List AV := encEv p.ev ++ (encSt p.after ++ [rEvs c p.sends, rOus c p.outs])
def rPas (c : Bool) (l : List Pa) : AV := .row (.rd c) 154 12 (l.map (encPa c))
def encLa (c : Bool) (a : La) : List AV := pI a.proc :: (encSt a.base ++ [rPas c a.done])
def rLas (c : Bool) (l : List La) : AV := .row (.rd c) 37 5 (l.map (encLa c))
def encVi (c : Bool) (v : Vi) : List AV := [pI v.inc, pI v.version, rEvs c v.events]
def rVis (c : Bool) (l : List Vi) : AV := .row (.rd c) 123 3 (l.map (encVi c))
def encNd (c : Bool) (n : Nd) : List AV := [pI n.id, .pv (.bool n.up), pI n.inc, pI n.g, rLas c n.lanes, rEvs c n.kept, rOus c n.outs, pI n.led, pI n.version, rVis c n.views, rInts c n.known, pI n.round, pI n.low]

def encPaO (p : Pa) : List AV := encEv p.ev ++ (encSt p.after ++ [.row .ow 60 7 (p.sends.map encEv), .row .ow 131 5 (p.outs.map encOu)])
def encLaO (a : La) : List AV := pI a.proc :: (encSt a.base ++ [.row .ow 154 12 (a.done.map encPaO)])
def encViO (v : Vi) : List AV := [pI v.inc, pI v.version, .row .ow 60 7 (v.events.map encEv)]
def encVi0 : List AV := [pI 0, pI 0, .pv (.slice none 0 0)]
theorem encPaO_leK {k c : Bool} (hc : c = true → k = true) (p : Pa) : LeL k (encPaO p) (encPa c p) :=
  .cons (.cl rfl) (.cons (.cl rfl) (.cons (.cl rfl) (.cons (.cl rfl) (.cons (.cl rfl) (.cons (.cl rfl) (.cons (.cl rfl) (.cons (.cl rfl) (.cons (.cl rfl) (.cons (.cl rfl) (.cons (Le.ow_map _ hc (fun _ => rfl)) (.cons (Le.ow_map _ hc (fun _ => rfl)) .nil)))))))))))
theorem encLaO_leK {k c : Bool} (hc : c = true → k = true) (a : La) : LeL k (encLaO a) (encLa c a) :=
  .cons (.cl rfl) (.cons (.cl rfl) (.cons (.cl rfl) (.cons (.cl rfl) (.cons (Le.ow_map2 _ hc (encPaO_leK hc)) .nil))))
theorem encViO_leK {k c : Bool} (hc : c = true → k = true) (v : Vi) : LeL k (encViO v) (encVi c v) := .cons (.cl rfl) (.cons (.cl rfl) (.cons (Le.ow_map _ hc (fun _ => rfl)) .nil))
theorem encPaO_le (p : Pa) : LeL true (encPaO p) (encPa true p) := encPaO_leK (fun h => h) p
theorem encLaO_le (a : La) : LeL true (encLaO a) (encLa true a) := encLaO_leK (fun h => h) a
theorem encViO_le (v : Vi) : LeL true (encViO v) (encVi true v) := encViO_leK (fun h => h) v
theorem nf {k : Bool} : false = true → k = true := fun h => by cases h
theorem LendL.cls {h : Hp} : ∀ {cs : List AV}, (cs.all AV.cl) = true → LendL h cs cs []
  | [], _ => .nil
  | a :: cs, hc => by rw [List.all_cons, Bool.and_eq_true] at hc; exact .cl hc.1 (LendL.cls hc.2)
theorem lendC {h : Hp} {cs ls bs : List AV} {T : TL} (h1 : (cs.all AV.one) = true) (hc : (cs.all AV.cl) = true) (t : LendL h ls bs T) : LendL h (.agg cs :: ls) (.agg cs :: bs) T := .agg h1 (.cls hc) t
theorem lendNd {h : Hp} {n : Nd} {i0 i1 i2 i3 i4 g0 g1 g2 g3 g4 : Nat} {ls bs : List AV} {T : TL} (h0 : wfind h i0 = some (g0, .row 37 5 (n.lanes.map encLaO))) (h1 : wfind h i1 = some (g1, .row 60 7 (n.kept.map encEv))) (h2 : wfind h i2 = some (g2, .row 131 5 (n.outs.map encOu))) (h3 : wfind h i3 = some (g3, .row 123 3 (n.views.map encViO))) (h4 : wfind h i4 = some (g4, .row 3 1 (n.known.map encI))) (t : LendL h ls bs T) :
    LendL h (.agg [pI n.id, .pv (.bool n.up), pI n.inc, pI n.g, .ref i0 g0, .ref i1 g1, .ref i2 g2, pI n.led, pI n.version, .ref i3 g3, .ref i4 g4, pI n.round, pI n.low] :: ls) (.agg (encNd false n) :: bs)
      ([(i0, (g0, .row 37 5 (n.lanes.map encLaO))), (i1, (g1, .row 60 7 (n.kept.map encEv))), (i2, (g2, .row 131 5 (n.outs.map encOu))), (i3, (g3, .row 123 3 (n.views.map encViO))), (i4, (g4, .row 3 1 (n.known.map encI)))] ++ T) :=
  .agg rfl (.cl rfl (.cl rfl (.cl rfl (.cl rfl (.ref h0 (Le.ow_map2 _ nf (encLaO_leK nf)) (.ref h1 (Le.ow_map _ nf (fun _ => rfl)) (.ref h2 (Le.ow_map _ nf (fun _ => rfl)) (.cl rfl (.cl rfl (.ref h3 (Le.ow_map2 _ nf (encViO_leK nf)) (.ref h4 (Le.ow_map _ nf (fun _ => rfl)) (.cl rfl (.cl rfl .nil))))))))))))) t
theorem eqF1 {α : Type} [DecidableEq α] {l l' : List α} (h : ¬ l.length = l'.length) : [AV.pv (.bool false)] = [AV.pv (.bool (decide (l = l')))] := by
  rw [decide_eq_false (fun e => h (by rw [e]))]
theorem eqF2 {α : Type} [DecidableEq α] {l l' : List α} {i : Nat} {x y : α} (hx : l[i]? = some x) (hy : l'[i]? = some y) (h : ¬ x = y) : [AV.pv (.bool false)] = [AV.pv (.bool (decide (l = l')))] := by
  rw [decide_eq_false (fun e => h (by subst e; rw [hx] at hy; exact Option.some.inj hy))]
theorem eqT {α : Type} [DecidableEq α] {l l' : List α} {i : Nat} (h : l.take i = l'.take i) (h1 : l.length ≤ i) (h2 : l'.length ≤ i) : [AV.pv (.bool true)] = [AV.pv (.bool (decide (l = l')))] := by
  rw [List.take_of_length_le h1, List.take_of_length_le h2] at h
  rw [decide_eq_true h]
theorem take_step {α : Type} {l l' : List α} {i : Nat} {x y : α} (h : l.take i = l'.take i) (hx : l[i]? = some x) (hy : l'[i]? = some y) (e : x = y) : l.take (i + 1) = l'.take (i + 1) := by
  subst e
  rw [List.take_add_one, List.take_add_one, h, hx, hy]
def encLaN (p : Int) : List AV := [pI p, pI 0, pI 0, pI 0, .pv (.slice none 0 0)]
theorem encLaN_le (p : Int) : LeL true (encLaN p) (encLa true (lane0 p)) := .cons (.cl rfl) (.cons (.cl rfl) (.cons (.cl rfl) (.cons (.cl rfl) (.cons .nil .nil))))
theorem kF {p : Prop} [Decidable p] (h : ¬ p) : [AV.pv (.bool false)] = [AV.pv (.bool (decide p))] := by rw [decide_eq_false h]
theorem kT {p : Prop} [Decidable p] (h : p) : [AV.pv (.bool true)] = [AV.pv (.bool (decide p))] := by rw [decide_eq_true h]
theorem map_get {α β : Type} {f : α → β} {l l' : List α} {i : Nat} {x y : α} (h : l.map f = l'.map f) (hx : l[i]? = some x) (hy : l'[i]? = some y) : f x = f y := by
  have := congrArg (fun l => l[i]?) h
  simpa [hx, hy] using this
theorem get_map {α β : Type} {f : α → β} {l : List α} {i : Nat} {x : α} (hx : l[i]? = some x) : (l.map f)[i]? = some (f x) := by simp [hx]
theorem evF : FindK Try.prog 116 (fun k => encL (evN k)) := by
  obtain ⟨i, h1, _⟩ := (ttOK _ _ tt_3).info
  exact findK_ints Try.underlying116 h1 (by kernel_rfl) Try.underlying3 (fun _ => rfl) (fun _ _ h => evN_inj h)
end Go.Proofs.Ytcleiaibcfocdaa.Am
