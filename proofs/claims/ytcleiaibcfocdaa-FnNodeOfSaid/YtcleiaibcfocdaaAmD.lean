/- The program's data: encoders. Type numbers put in by wip/gen/tpl.py. -/
import Derived.Test.YtcleiaibcfocdaaAmT
import Derived.Test.YtcleiaibcfocdaaAm32
import Derived.Test.YtcleiaibcfocdaaPu3
set_option linter.unusedVariables false
set_option linter.unusedSimpArgs false
namespace Go.Proofs.Ytcleiaibcfocdaa.Am
open Go Go.RowKit

def encI (p : Int) : List AV := [.pv (.int .i64 p)]
def encB (p : Nat) : List AV := [.pv (.int .u8 (p : Int))]
def encEv (e : Ev) : List AV := (evN e).map pI
def encOu (o : Ou) : List AV := (ouL o).map pI
def encSt (s : St) : List AV := (stL s).map pI
theorem evN_beq (a b : Ev) : (evN a == evN b) = decide (a = b) := by
  rw [Bool.eq_iff_iff]
  cases a; cases b
  simp [evN]
theorem ouL_beq (a b : Ou) : (ouL a == ouL b) = decide (a = b) := by
  rw [Bool.eq_iff_iff]
  cases a; cases b
  simp [ouL]
theorem stL_beq (a b : St) : (stL a == stL b) = decide (a = b) := by
  rw [Bool.eq_iff_iff]
  cases a; cases b
  simp [stL]
theorem eqEv (x y : Operand) (a b : Ev) : EqA Try.prog 60 x y (.agg (encEv a)) (.agg (encEv b)) (decide (a = b)) := by
  rw [← evN_beq]; exact eqA_ints Try.underlying60 (by kernel_rfl) (by kernel_rfl) (by kernel_rfl) x y (evN a) (evN b) rfl rfl
theorem eqOu (x y : Operand) (a b : Ou) : EqA Try.prog 131 x y (.agg (encOu a)) (.agg (encOu b)) (decide (a = b)) := by
  rw [← ouL_beq]; exact eqA_ints Try.underlying131 (by kernel_rfl) (by kernel_rfl) (by kernel_rfl) x y (ouL a) (ouL b) rfl rfl
theorem eqSt (x y : Operand) (a b : St) : EqA Try.prog 34 x y (.agg (encSt a)) (.agg (encSt b)) (decide (a = b)) := by
  rw [← stL_beq]; exact eqA_ints Try.underlying34 (by kernel_rfl) (by kernel_rfl) (by kernel_rfl) x y (stL a) (stL b) rfl rfl
def rInts (c : Bool) (l : List Int) : AV := .row (.rd c) 3 1 (l.map encI)
def rBytes (c : Bool) (l : List Nat) : AV := .row (.rd c) 5 1 (l.map encB)
def rEvs (c : Bool) (l : List Ev) : AV := .row (.rd c) 60 7 (l.map encEv)
def rOus (c : Bool) (l : List Ou) : AV := .row (.rd c) 131 5 (l.map encOu)

def encPa (c : Bool) (p : Pa) : List AV := encEv p.ev ++ (encSt p.after ++ [rEvs c p.sends, rOus c p.outs])
def rPas (c : Bool) (l : List Pa) : AV := .row (.rd c) 154 12 (l.map (encPa c))
def encLa (c : Bool) (a : La) : List AV := pI a.proc :: (encSt a.base ++ [rPas c a.done])
def rLas (c : Bool) (l : List La) : AV := .row (.rd c) 37 5 (l.map (encLa c))
def encVi (c : Bool) (v : Vi) : List AV := [pI v.inc, pI v.version, rEvs c v.events]
def rVis (c : Bool) (l : List Vi) : AV := .row (.rd c) 123 3 (l.map (encVi c))
def encNd (c : Bool) (n : Nd) : List AV := [pI n.id, .pv (.bool n.up), pI n.inc, pI n.g, rLas c n.lanes, rEvs c n.kept, rOus c n.outs, pI n.led, pI n.version, rVis c n.views, rInts c n.known, pI n.round, pI n.low]

def encPaO (p : Pa) : List AV := encEv p.ev ++ (encSt p.after ++ [.row .ow 60 7 (p.sends.map encEv), .row .ow 131 5 (p.outs.map encOu)])
def encLaO (a : La) : List AV := pI a.proc :: (encSt a.base ++ [.row .ow 154 12 (a.done.map encPaO)])
def encViO (v : Vi) : List AV := [pI v.inc, pI v.version, .row .ow 60 7 (v.events.map encEv)]
def encVi0 : List AV := [pI 0, pI 0, .pv (.slice none 0 0)]
theorem encPaO_le (p : Pa) : LeL true (encPaO p) (encPa true p) :=
  .cons (.cl rfl) (.cons (.cl rfl) (.cons (.cl rfl) (.cons (.cl rfl) (.cons (.cl rfl) (.cons (.cl rfl) (.cons (.cl rfl) (.cons (.cl rfl) (.cons (.cl rfl) (.cons (.cl rfl) (.cons (Le.ow_map _ (fun _ => rfl) (fun _ => rfl)) (.cons (Le.ow_map _ (fun _ => rfl) (fun _ => rfl)) .nil)))))))))))
theorem encLaO_le (a : La) : LeL true (encLaO a) (encLa true a) :=
  .cons (.cl rfl) (.cons (.cl rfl) (.cons (.cl rfl) (.cons (.cl rfl) (.cons (Le.ow_map2 _ (fun _ => rfl) encPaO_le) .nil))))
theorem encViO_le (v : Vi) : LeL true (encViO v) (encVi true v) := .cons (.cl rfl) (.cons (.cl rfl) (.cons (Le.ow_map _ (fun _ => rfl) (fun _ => rfl)) .nil))
theorem eqF1 {α : Type} [DecidableEq α] {l l' : List α} (h : ¬ l.length = l'.length) : [AV.pv (.bool false)] = [AV.pv (.bool (decide (l = l')))] := by
  rw [decide_eq_false (fun e => h (by rw [e]))]
theorem eqF2 {α : Type} [DecidableEq α] {l l' : List α} {i : Nat} {x y : α} (hx : l[i]? = some x) (hy : l'[i]? = some y) (h : ¬ x = y) : [AV.pv (.bool false)] = [AV.pv (.bool (decide (l = l')))] := by
  rw [decide_eq_false (fun e => h (by subst e; rw [hx] at hy; exact Option.some.inj hy))]
theorem eqT {α : Type} [DecidableEq α] {l l' : List α} {i : Nat} (h : l.take i = l'.take i) (h1 : l.length ≤ i) (h2 : l'.length ≤ i) : [AV.pv (.bool true)] = [AV.pv (.bool (decide (l = l')))] := by
  rw [List.take_of_length_le h1, List.take_of_length_le h2] at h
  rw [decide_eq_true h]
theorem take_step {α : Type} {l l' : List α} {i : Nat} {x y : α} (h : l.take i = l'.take i) (hx : l[i]? = some x) (hy : l'[i]? = some y) (e : x = y) : l.take (i + 1) = l'.take (i + 1) := by
  subst e
  rw [List.take_add_one, List.take_add_one, h, hx, hy]
def encLaN (p : Int) : List AV := [pI p, pI 0, pI 0, pI 0, .pv (.slice none 0 0)]
theorem encLaN_le (p : Int) : LeL true (encLaN p) (encLa true (lane0 p)) := .cons (.cl rfl) (.cons (.cl rfl) (.cons (.cl rfl) (.cons (.cl rfl) (.cons .nil .nil))))
theorem kF {p : Prop} [Decidable p] (h : ¬ p) : [AV.pv (.bool false)] = [AV.pv (.bool (decide p))] := by rw [decide_eq_false h]
theorem kT {p : Prop} [Decidable p] (h : p) : [AV.pv (.bool true)] = [AV.pv (.bool (decide p))] := by rw [decide_eq_true h]
theorem map_get {α β : Type} {f : α → β} {l l' : List α} {i : Nat} {x y : α} (h : l.map f = l'.map f) (hx : l[i]? = some x) (hy : l'[i]? = some y) : f x = f y := by
  have := congrArg (fun l => l[i]?) h
  simpa [hx, hy] using this
theorem get_map {α β : Type} {f : α → β} {l : List α} {i : Nat} {x : α} (hx : l[i]? = some x) : (l.map f)[i]? = some (f x) := by simp [hx]
theorem evF : FindK Try.prog 116 (fun k => encL (evN k)) := by
  obtain ⟨i, h1, _⟩ := (ttOK _ _ tt_3).info
  exact findK_ints Try.underlying116 h1 (by kernel_rfl) Try.underlying3 (fun _ => rfl) (fun _ _ h => evN_inj h)
end Go.Proofs.Ytcleiaibcfocdaa.Am
