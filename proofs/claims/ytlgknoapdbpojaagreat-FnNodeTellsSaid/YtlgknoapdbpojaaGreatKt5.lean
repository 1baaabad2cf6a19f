/- Part 5 of the texts that the proof of LawFnNodeTells leans on, merged by program. -/
import Derived.Test.YtlgknoapdbpojaaGreatKt4
set_option linter.unusedVariables false
set_option linter.unusedSimpArgs false
set_option maxHeartbeats 4000000
set_option autoImplicit true
set_option relaxedAutoImplicit true
namespace Go.Proofs.YtlgknoapdbpojaaGreat.Am
open Go Go.RowKit
section
theorem a7y (c : Bool) (n : Nd) (w : Wo) : a0p Tryz.prog 74 [.agg (u0u c n), .agg (u7u c w)] (.tup [.agg (u0u true (w5w n w).1), v8v true (w5w n w).2]) := by
 refine pX Tryz.f74 [.agg (u0u true (w5w n w).1), v8v true (w5w n w).2] 12 ?_
 refine dv 1 ?_
 refine y2y (id := 0) rfl rfl rfl (y2y (id := 1) rfl rfl rfl (x2x (id := 2) u1u q2q rfl (dv 2 ?_)))
 refine x9x (id := 3) p8p rfl w2w rfl (dv 4 fun K K' => ?_)
 refine x0x rfl rfl rfl (w3w ..) (dc 1 (aI ?_ ?_))<;>intro hc2<;>try simp at hc2
 ·have fX : ¬ y4y n := a0x (by simpa using hc2)
  refine dv 1 ?_
  refine rlB u1u q2q ?_
  refine dv 4 ?_
  (rw [f1w fX]; exact ⟨_, _, rfl, b5g (a1x (l := ([] : List Wo)) rfl .nil)⟩)
 have fK : y4y n := a0r.1 (by simpa using hc2)
 have fS := fK.1
 have fb := b8c fS
 refine dc 7 (fun K K' => aS ?_ ?_)<;>intro hg4<;>try simp at hg4
 ·have fU : ¬ a9v n w := fun h => by have := h.1; simp_all
  refine dv 18 ?_
  try have fU : ¬ a9v n w := fun h => by have := h.2.2.1; have := h.2.2.2; omega
  refine dv 2 ?_
  refine rlM [9, 10, 11] [_, _, _] (y0y c n fb) rfl rfl rfl ?_
  refine dv 4 ?_
  (rw [d3z fK fU]; exact ⟨_, _, rfl, p7p rfl rfl rfl (a1x (l := ([] : List Wo)) rfl .nil)⟩)
 have fUp : n.up = true := hg4
 refine dv 1 ?_
 refine x0x rfl rfl rfl (b0u ..) (dc 3 (aS ?_ ?_))<;>intro hg5<;>try simp at hg5
 ·try have fU : ¬ a9v n w := fun h => absurd h.2.1 hg5
  refine dv 13 ?_
  try have fU : ¬ a9v n w := fun h => by have := h.2.2.1; have := h.2.2.2; omega
  refine dv 2 ?_
  refine rlM [9, 10, 11] [_, _, _] (y0y c n fb) rfl rfl rfl ?_
  refine dv 4 ?_
  (rw [d3z fK fU]; exact ⟨_, _, rfl, p7p rfl rfl rfl (a1x (l := ([] : List Wo)) rfl .nil)⟩)
 have fW : a3q w := hg5
 refine dc 7 (aS ?_ ?_)<;>intro j<;>try simp at j
 ·try have fU : ¬ a9v n w := fun h => by have := h.2.2.1; omega
  refine dv 6 ?_
  try have fU : ¬ a9v n w := fun h => by have := h.2.2.1; have := h.2.2.2; omega
  refine dv 2 ?_
  refine rlM [9, 10, 11] [_, _, _] (y0y c n fb) rfl rfl rfl ?_
  refine dv 4 ?_
  (rw [d3z fK fU]; exact ⟨_, _, rfl, p7p rfl rfl rfl (a1x (l := ([] : List Wo)) rfl .nil)⟩)
 refine dc 6 (aI ?_ ?_)<;>intro j<;>try simp at j
 ·try have fU : ¬ a9v n w := fun h => by have := h.2.2.1; have := h.2.2.2; omega
  refine dv 2 ?_
  refine rlM [9, 10, 11] [_, _, _] (y0y c n fb) rfl rfl rfl ?_
  refine dv 4 ?_
  (rw [d3z fK fU]; exact ⟨_, _, rfl, p7p rfl rfl rfl (a1x (l := ([] : List Wo)) rfl .nil)⟩)
 have fM : a9v n w := ⟨fUp, fW, by omega, by omega⟩
 refine dc 9 (fun K K' => aI ?_ ?_)<;>intro hc9<;>try simp at hc9
 ·have k1 : w.kind = 1 := hc9
  refine dv 12 ?_
  refine x0x rfl rfl rfl (c2r c n w.from' w.inc w.version w.g w.events) ?_
  refine dv 4 ?_
  (rw [b6w fK fM, e9d k1]; exact ⟨_, _, rfl, d0b (a1x (l := ([] : List Wo)) rfl .nil)⟩)
 have n1 : ¬ w.kind = 1 := hc9
 refine dc 3 (aI ?_ ?_)<;>intro hc10<;>try simp at hc10
 ·have k2 : w.kind = 2 := hc10
  refine dv 4 ?_
  refine x0x rfl rfl rfl (a9y ..) (dv 4 ?_)
  refine x2x (id := 4) u1u q2q rfl (x2x (id := 5) w2w a9k rfl (dc 5 (aI ?_ ?_)))<;>intro hc11<;>try simp at hc11
  ·have hr : (u2u n w.round).2.2 = true := hc11
   refine dv 3 ?_
   refine y5y (id := 6) p8p rfl w2w rfl rfl rfl rfl rfl rfl (dv 3 ?_)
   (rw [b6w fK fM, e4h k2 hr]; exact ⟨_, _, rfl, d0b (a1x (l := [(u2u n w.round).2.1]) rfl .nil)⟩)
  have hr : ¬ (u2u n w.round).2.2 = true := by simpa using hc11
  have hE : w5w n w = (n, []) := by rw [b6w fK fM, e4i k2 hr]
  refine dv 3 ?_
  refine rlM [9, 10, 11] [_, _, _] (y0y c n fb) rfl rfl rfl ?_
  refine dv 4 ?_
  (rw [hE]; exact ⟨_, _, rfl, p7p rfl rfl rfl (a1x (l := ([] : List Wo)) rfl .nil)⟩)
 have n2 : ¬ w.kind = 2 := hc10
 refine dc 3 (aS ?_ ?_)<;>intro hc12<;>try simp at hc12
 ·have n4 : ¬ w.kind = 4 := hc12
  refine dc 3 (aS ?_ ?_)<;>intro hc16<;>try simp at hc16
  ·have n6 : ¬ w.kind = 6 := hc16
   have hE : w5w n w = (n, []) := by rw [b6w fK fM, e9f n1 n2 n4 n6]
   refine dv 3 ?_
   refine rlM [9, 10, 11] [_, _, _] (y0y c n fb) rfl rfl rfl ?_
   refine dv 4 ?_
   (rw [hE]; exact ⟨_, _, rfl, p7p rfl rfl rfl (a1x (l := ([] : List Wo)) rfl .nil)⟩)
  have k6 : w.kind = 6 := hc16
  refine dc 6 (aS ?_ ?_)<;>intro hc17<;>try simp at hc17
  ·have h6 : ¬ w.inc = n.inc := hc17
   have hE : w5w n w = (n, []) := by rw [b6w fK fM, e4l k6 h6]
   refine dv 3 ?_
   refine rlM [9, 10, 11] [_, _, _] (y0y c n fb) rfl rfl rfl ?_
   refine dv 4 ?_
   (rw [hE]; exact ⟨_, _, rfl, p7p rfl rfl rfl (a1x (l := ([] : List Wo)) rfl .nil)⟩)
  have h6 : w.inc = n.inc := hc17
  refine dv 6 ?_
  refine x0x rfl rfl rfl (a9z ..) (dv 3 ?_)
  refine x2x (id := 8) u1u q2q rfl (dv 8 ?_)
  (rw [b6w fK fM, e4k k6 h6]; exact ⟨_, _, rfl, d0b (a1x (l := ([] : List Wo)) rfl .nil)⟩)
 have k4 : w.kind = 4 := hc12
 refine dc 7 (aS ?_ ?_)<;>intro j<;>try simp at j
 ·refine dv 4 ?_
  have h4 : ¬ (w.round = n.round ∧ 0 < w.round) := by omega
  have hE : w5w n w = (n, []) := by rw [b6w fK fM, d4a k4 h4]
  refine dv 3 ?_
  refine rlM [9, 10, 11] [_, _, _] (y0y c n fb) rfl rfl rfl ?_
  refine dv 4 ?_
  (rw [hE]; exact ⟨_, _, rfl, p7p rfl rfl rfl (a1x (l := ([] : List Wo)) rfl .nil)⟩)
 refine dc 4 (aS ?_ ?_)<;>intro j<;>try simp at j
 ·have h4 : ¬ (w.round = n.round ∧ 0 < w.round) := by omega
  have hE : w5w n w = (n, []) := by rw [b6w fK fM, d4a k4 h4]
  refine dv 3 ?_
  refine rlM [9, 10, 11] [_, _, _] (y0y c n fb) rfl rfl rfl ?_
  refine dv 4 ?_
  (rw [hE]; exact ⟨_, _, rfl, p7p rfl rfl rfl (a1x (l := ([] : List Wo)) rfl .nil)⟩)
 have h4 : w.round = n.round ∧ 0 < w.round := by omega
 refine dv 2 ?_
 refine rlM [9, 10, 11] [_, _, _] (y0y c n fb) rfl rfl rfl ?_
 refine dv 8 ?_
 refine rlB w2w a9k ?_
 refine y5y (id := 7) p8p rfl w2w rfl rfl rfl rfl rfl rfl (dv 3 ?_)
 (rw [b6w fK fM, e4j k4 h4]; exact ⟨_, _, rfl, p7p rfl rfl rfl (f4c (k := 5) (f := n.id) (t := 0) (i := n.inc) (v := n.version) (r := n.round) (g := 0) rfl .nil)⟩)
theorem c2s (c : Bool) (h : Hb) (n : Nd) : a0p Tryz.prog 311 [.agg (a6w true h), .agg (u0u c n)] (.tup [.agg (a6w true (p1p h n).1), .agg (u0u true (p1p h n).2.1), v8v true (p1p h n).2.2]) := by
 refine pX Tryz.f311 [.agg (a6w true (p1p h n).1), .agg (u0u true (p1p h n).2.1), v8v true (p1p h n).2.2] 17 ?_
 refine dv 1 ?_
 refine y2y (id := 0) rfl rfl rfl (y2y (id := 1) rfl rfl rfl (x2x (id := 2) a5u b4u rfl (x2x (id := 3) u1u q2q rfl (dv 2 ?_))))
 refine x9x (id := 4) p8p rfl w2w rfl (dv 4 fun K K' => ?_)
 refine x0x rfl rfl rfl (a8o ..) (dc 2 (aS ?_ ?_))<;>intro hg2<;>try simp at hg2
 ·have fX : ¬ (s9s h ∧ y4y n) := fun q => a0x (by simpa using hg2) q.1
  refine dv 5 ?_
  refine rlB a5u b4u ?_
  refine rlB u1u q2q ?_
  refine dv 5 ?_
  (rw [e0q fX]; exact ⟨_, _, rfl, d4n (b5g (a1x (l := ([] : List Wo)) rfl .nil))⟩)
 have fH : s9s h := a0r.1 (by simpa using hg2)
 refine dv 1 ?_
 refine x0x rfl rfl rfl (w3w ..) (dc 2 (aI ?_ ?_))<;>intro hc3<;>try simp at hc3
 ·try have fX : ¬ (s9s h ∧ y4y n) := fun q => a0x (by simpa using hc3) q.2
  refine dv 1 ?_
  refine rlB a5u b4u ?_
  refine rlB u1u q2q ?_
  refine dv 5 ?_
  (rw [e0q fX]; exact ⟨_, _, rfl, d4n (b5g (a1x (l := ([] : List Wo)) rfl .nil))⟩)
 have fK : y4y n := a0r.1 (by simpa using hc3)
 have fS := fK.1
 have fb := b8c fS
 refine dv 3 ?_
 refine rlM [11, 12, 13] [_, _, _] (y0y c n fb) rfl rfl rfl ?_
 refine x2x (id := 5) u1u q2q rfl (dv 4 ?_)
 refine s8s (.int .i64 (n.led + 1)) rfl rfl rfl (a9n rfl rfl (by have := fS.1.2.2.2.1; omega) (by have := fS.1.2.2.2.1; omega)) ?_
 refine dc 8 (fun K K' => aS ?_ ?_)<;>intro hg5<;>try simp at hg5
 ·have fU : ¬ a4f n := fun q => by have := q.1; omega
  refine dv 10 ?_
  try have fU : ¬ a4f n := fun q => by have := q.2.2.1; omega
  refine dv 2 ?_
  refine x0x rfl rfl rfl (a2s true h fH) (dv 1 ?_)
  refine rlM [14, 15, 16] [_, _, _] (y0y c n fb) rfl rfl rfl ?_
  refine dv 5 ?_
  (rw [c2e ⟨fH, fK⟩ fU]; exact ⟨_, _, rfl, a7s (p7p rfl rfl rfl (a1x (l := ([] : List Wo)) rfl .nil))⟩)
 have hid : n.id = 0 := hg5
 refine dc 5 (aS ?_ ?_)<;>intro hg6<;>try simp at hg6
 ·try have fU : ¬ a4f n := fun h => by have := h.2.1; simp_all
  refine dv 5 ?_
  try have fU : ¬ a4f n := fun q => by have := q.2.2.1; omega
  refine dv 2 ?_
  refine x0x rfl rfl rfl (a2s true h fH) (dv 1 ?_)
  refine rlM [14, 15, 16] [_, _, _] (y0y c n fb) rfl rfl rfl ?_
  refine dv 5 ?_
  (rw [c2e ⟨fH, fK⟩ fU]; exact ⟨_, _, rfl, a7s (p7p rfl rfl rfl (a1x (l := ([] : List Wo)) rfl .nil))⟩)
 have fUp : n.up = true := hg6
 refine dv 2 ?_
 refine x0x rfl rfl rfl (z6z ..) (dc 2 (aI ?_ ?_))<;>intro j<;>try simp at j
 ·try have fU : ¬ a4f n := fun q => by have := q.2.2.1; omega
  refine dv 2 ?_
  refine x0x rfl rfl rfl (a2s true h fH) (dv 1 ?_)
  refine rlM [14, 15, 16] [_, _, _] (y0y c n fb) rfl rfl rfl ?_
  refine dv 5 ?_
  (rw [c2e ⟨fH, fK⟩ fU]; exact ⟨_, _, rfl, a7s (p7p rfl rfl rfl (a1x (l := ([] : List Wo)) rfl .nil))⟩)
 have hld : n.led < 9999 := by omega
 refine dv 5 ?_
 refine b7s rfl rfl rfl (d1q (n := c9r n) rfl rfl rfl (.cl rfl .nil)) (a9y false (c9r n) (n.led + 1)) (.tup (a3g (e4c _) (a3g (e4d _) (a3g (.pv _) e8x)))) ?_
 refine dv 4 ?_
 refine x2x (id := 6) u1u q2q rfl (x2x (id := 7) w2w a9k rfl (dc 7 (fun K K' => aI ?_ ?_)))<;>intro hc9<;>try simp at hc9
 ·have fU : ¬ a4f n := fun q => by have hb := (c9y fK hld).2 ⟨q.2.1, q.2.2.2⟩; have hx := hc9; simp only [c9r] at hb hx; simp_all
  refine dv 2 ?_
  refine x0x rfl rfl rfl (a2s true h fH) (dv 1 ?_)
  refine rlM [14, 15, 16] [_, _, _] (y0y c n fb) rfl rfl rfl ?_
  refine dv 5 ?_
  (rw [c2e ⟨fH, fK⟩ fU]; exact ⟨_, _, rfl, a7s (p7p rfl rfl rfl (a1x (l := ([] : List Wo)) rfl .nil))⟩)
 have hrb := (c9y fK hld).1 (by have hx := hc9; simp only [c9r] at hx ⊢; exact hx)
 have fM : a4f n := ⟨hid, fUp, hld, hrb.2⟩
 have hEq := e4t (h := h) ⟨fH, fK⟩ fM
 refine dv 3 ?_
 refine x0x rfl rfl rfl (a2s true h fH) (x2x (id := 8) a5u b4u rfl (dv 8 ?_))
 refine y5y (id := 9) p8p rfl w2w rfl rfl rfl rfl rfl rfl (dv 3 ?_)
 refine x9x (id := 10) p8p rfl w2w rfl (dv 7 ?_)
 refine rlB w2w a9k ?_
 refine x0x rfl rfl rfl (b7f 2 0 0 0 0 (n.led + 1) 0) ?_
 refine dv 4 ?_
 (rw [show u2u (c9r n) (n.led + 1) = _ from hEq]; rw [d1u ⟨fH, fK⟩ fM]; exact ⟨_, _, rfl, f2n (a := [d9j (c9r n) (n.led + 1)]) (c := ([] : List Wo)) rfl rfl (d0b (.cl rfl .nil))⟩)
end
section
theorem a8z (c : Bool) (h : Hb) (n : Nd) (w : Wo) : a0p Tryz.prog 322 [.agg (a6w true h), .agg (u0u c n), .agg (u7u c w)] (.tup [.agg (a6w true (v0v h n w).1), .agg (u0u true (v0v h n w).2.1), v8v true (v0v h n w).2.2]) := by
 refine pX Tryz.f322 [.agg (a6w true (v0v h n w).1), .agg (u0u true (v0v h n w).2.1), v8v true (v0v h n w).2.2] 14 ?_
 refine dv 1 ?_
 refine y2y (id := 0) rfl rfl rfl (y2y (id := 1) rfl rfl rfl (y2y (id := 2) rfl rfl rfl (x2x (id := 3) a5u b4u rfl (x2x (id := 4) u1u q2q rfl (dv 2 ?_)))))
 refine x9x (id := 5) p8p rfl w2w rfl (dv 4 fun K K' => ?_)
 refine x0x rfl rfl rfl (a8o ..) (dc 2 (aS ?_ ?_))<;>intro hg2<;>try simp at hg2
 ·have fX : ¬ (s9s h ∧ y4y n) := fun q => a0x (by simpa using hg2) q.1
  refine dv 5 ?_
  refine rlB a5u b4u ?_
  refine rlB u1u q2q ?_
  refine dv 5 ?_
  (rw [f2a fX]; exact ⟨_, _, rfl, d4n (b5g (a1x (l := ([] : List Wo)) rfl .nil))⟩)
 have fH : s9s h := a0r.1 (by simpa using hg2)
 refine dv 1 ?_
 refine x0x rfl rfl rfl (w3w ..) (dc 2 (aI ?_ ?_))<;>intro hc3<;>try simp at hc3
 ·try have fX : ¬ (s9s h ∧ y4y n) := fun q => a0x (by simpa using hc3) q.2
  refine dv 1 ?_
  refine rlB a5u b4u ?_
  refine rlB u1u q2q ?_
  refine dv 5 ?_
  (rw [f2a fX]; exact ⟨_, _, rfl, d4n (b5g (a1x (l := ([] : List Wo)) rfl .nil))⟩)
 have fK : y4y n := a0r.1 (by simpa using hc3)
 have fS := fK.1
 have fb := b8c fS
 refine dv 3 ?_
 refine x0x rfl rfl rfl (a2s true h fH) (x2x (id := 6) a5u b4u rfl (dv 3 ?_))
 refine rlM [10, 11, 12] [_, _, _] (y0y c n fb) rfl rfl rfl ?_
 refine x2x (id := 7) u1u q2q rfl (dc 7 (fun K K' => aS ?_ ?_))<;>intro hg5<;>try simp at hg5
 ·have fU : ¬ a0s n w := fun q => by have := q.1; omega
  refine dv 19 ?_
  try have fU : ¬ a0s n w := fun q => by have := q.2.2.2.2; omega
  refine dv 8 ?_
  (rw [e1h ⟨fH, fK⟩ fU]; exact ⟨_, _, rfl, a7s (p7p rfl rfl rfl (a1x (l := ([] : List Wo)) rfl .nil))⟩)
 try have hid : n.id = 0 := hg5
 refine dc 5 (aS ?_ ?_)<;>intro hg6<;>try simp at hg6
 ·try have fU : ¬ a0s n w := fun q => by have := q.2.1; simp_all
  refine dv 14 ?_
  try have fU : ¬ a0s n w := fun q => by have := q.2.2.2.2; omega
  refine dv 8 ?_
  (rw [e1h ⟨fH, fK⟩ fU]; exact ⟨_, _, rfl, a7s (p7p rfl rfl rfl (a1x (l := ([] : List Wo)) rfl .nil))⟩)
 have fUp : n.up = true := hg6
 refine dv 1 ?_
 refine x0x rfl rfl rfl (b0u ..) (dc 3 (aS ?_ ?_))<;>intro hg7<;>try simp at hg7
 ·try have fU : ¬ a0s n w := fun q => absurd q.2.2.1 hg7
  refine dv 9 ?_
  try have fU : ¬ a0s n w := fun q => by have := q.2.2.2.2; omega
  refine dv 8 ?_
  (rw [e1h ⟨fH, fK⟩ fU]; exact ⟨_, _, rfl, a7s (p7p rfl rfl rfl (a1x (l := ([] : List Wo)) rfl .nil))⟩)
 have fW : a3q w := hg7
 refine dc 5 (aS ?_ ?_)<;>intro hg8<;>try simp at hg8
 ·try have fU : ¬ a0s n w := fun q => by have := q.2.2.2.1; omega
  refine dv 4 ?_
  try have fU : ¬ a0s n w := fun q => by have := q.2.2.2.2; omega
  refine dv 8 ?_
  (rw [e1h ⟨fH, fK⟩ fU]; exact ⟨_, _, rfl, a7s (p7p rfl rfl rfl (a1x (l := ([] : List Wo)) rfl .nil))⟩)
 try have hto : w.to = 0 := hg8
 refine dc 4 (aI ?_ ?_)<;>intro o<;>try simp at o
 ·try have fU : ¬ a0s n w := fun q => by have := q.2.2.2.2; omega
  refine dv 8 ?_
  (rw [e1h ⟨fH, fK⟩ fU]; exact ⟨_, _, rfl, a7s (p7p rfl rfl rfl (a1x (l := ([] : List Wo)) rfl .nil))⟩)
 have fM : a0s n w := ⟨hid, fUp, fW, hto, by omega⟩
 refine dc 9 (fun K K' => aI ?_ ?_)<;>intro hc11<;>try simp at hc11
 ·try have k7 : w.kind = 7 := hc11
  refine dv 5 ?_
  refine x0x rfl rfl rfl (c7l h.outs w.from') ?_
  refine dv 3 ?_
  refine x2x (id := 8) w2w a9k rfl (dc 6 (aS ?_ ?_))<;>intro hg12<;>try simp at hg12
  ·have hnone : (b5k w.from' h.outs).isSome = false := by simpa using hg12
   refine dv 6 ?_
   have hl : a3h h w = true := e4u hnone
   have hE : v0v h n w = ({ h with outs := a6b w true h.outs false }, n, []) := by rw [b5m ⟨fH, fK⟩ fM, e6m k7 hl]
   refine dv 4 ?_
   refine x0x rfl rfl rfl (a4b c w (c9q fW)) ?_
   refine x0x rfl rfl rfl (a7c h.outs w true (by have := b5j fH.2.2.2.1; omega)) ?_
   refine dv 10 ?_
   (rw [hE]; exact ⟨_, _, rfl, a7s (u := { h with outs := a6b w true h.outs false }) (p7p rfl rfl rfl (a1x (l := ([] : List Wo)) rfl .nil))⟩)
  have hsome : (b5k w.from' h.outs).isSome = true := hg12
  refine dc 6 (aS ?_ ?_)<;>intro o<;>try simp at o
  ·have hl : ¬ a3h h w = true := fun q => by have := (c9z hsome).1 q; omega
   have hE : v0v h n w = (h, n, []) := by rw [b5m ⟨fH, fK⟩ fM, f2b k7 hl]
   refine dv 9 ?_
   (rw [hE]; exact ⟨_, _, rfl, a7s (u := h) (p7p rfl rfl rfl (a1x (l := ([] : List Wo)) rfl .nil))⟩)
  have hl : a3h h w = true := (c9z hsome).2 (by omega)
  have hE : v0v h n w = ({ h with outs := a6b w true h.outs false }, n, []) := by rw [b5m ⟨fH, fK⟩ fM, e6m k7 hl]
  refine dv 4 ?_
  refine x0x rfl rfl rfl (a4b c w (c9q fW)) ?_
  refine x0x rfl rfl rfl (a7c h.outs w true (by have := b5j fH.2.2.2.1; omega)) ?_
  refine dv 10 ?_
  (rw [hE]; exact ⟨_, _, rfl, a7s (u := { h with outs := a6b w true h.outs false }) (p7p rfl rfl rfl (a1x (l := ([] : List Wo)) rfl .nil))⟩)
 try have n7 : ¬ w.kind = 7 := hc11
 refine dc 3 (aI ?_ ?_)<;>intro hc15<;>try simp at hc15
 ·try have k3 : w.kind = 3 := hc15
  refine dc 8 (fun K K' => aS ?_ ?_)<;>intro hg17<;>try simp at hg17
  ·try have hr : ¬ w.round = h.round := hg17
   refine dv 17 ?_
   have hm : ¬ d5x h w := fun q => by obtain ⟨q1, q2, q3, q4⟩ := q; omega
   have hE : v0v h n w = (h, n, []) := by rw [b5m ⟨fH, fK⟩ fM, d4l k3 hm]
   refine dv 8 ?_
   (rw [hE]; exact ⟨_, _, rfl, a7s (u := h) (p7p rfl rfl rfl (a1x (l := ([] : List Wo)) rfl .nil))⟩)
  try have hr : w.round = h.round := hg17
  refine dc 6 (aS ?_ ?_)<;>intro hg18<;>try simp at hg18
  ·try have hz : w.incs.length = 0 := by (rw [hg18]; rfl)
   refine dv 11 ?_
   have hm : ¬ d5x h w := fun q => by obtain ⟨q1, q2, q3, q4⟩ := q; omega
   have hE : v0v h n w = (h, n, []) := by rw [b5m ⟨fH, fK⟩ fM, d4l k3 hm]
   refine dv 8 ?_
   (rw [hE]; exact ⟨_, _, rfl, a7s (u := h) (p7p rfl rfl rfl (a1x (l := ([] : List Wo)) rfl .nil))⟩)
  have hi1 : ¬ w.incs.length = 0 := by (intro q; exact hg18 (List.length_eq_zero_iff.1 q))
  refine dc 6 (aS ?_ ?_)<;>intro hg19<;>try simp at hg19
  ·try have hz2 : w.versions.length = 0 := by (rw [hg19]; rfl)
   refine dv 5 ?_
   have hm : ¬ d5x h w := fun q => by obtain ⟨q1, q2, q3, q4⟩ := q; omega
   have hE : v0v h n w = (h, n, []) := by rw [b5m ⟨fH, fK⟩ fM, d4l k3 hm]
   refine dv 8 ?_
   (rw [hE]; exact ⟨_, _, rfl, a7s (u := h) (p7p rfl rfl rfl (a1x (l := ([] : List Wo)) rfl .nil))⟩)
  have hv1 : ¬ w.versions.length = 0 := by (intro q; exact hg19 (List.length_eq_zero_iff.1 q))
  refine dc 5 (aI ?_ ?_)<;>intro o<;>try simp at o
  ·have hm : ¬ d5x h w := fun q => by obtain ⟨q1, q2, q3, q4⟩ := q; omega
   have hE : v0v h n w = (h, n, []) := by rw [b5m ⟨fH, fK⟩ fM, d4l k3 hm]
   refine dv 8 ?_
   (rw [hE]; exact ⟨_, _, rfl, a7s (u := h) (p7p rfl rfl rfl (a1x (l := ([] : List Wo)) rfl .nil))⟩)
  have hm : d5x h w := ⟨hr, hi1, hv1, by omega⟩
  refine dv 5 ?_
  refine x0x rfl rfl rfl (a4b c w (c9q fW)) ?_
  refine x0x rfl rfl rfl (a7c h.ones w false (by have := b5j fH.2.1; omega)) ?_
  refine dc 7 (aS ?_ ?_)<;>intro o<;>try simp at o
  ·have h3 : ¬ (d4c h w).ones.length = 3 := by show ¬ (a6b w false h.ones false).length = 3; omega
   have hE : v0v h n w = (d4c h w, n, []) := by rw [b5m ⟨fH, fK⟩ fM, f2d k3 hm h3]
   refine dv 9 ?_
   (rw [hE]; exact ⟨_, _, rfl, a7s (u := d4c h w) (p7p rfl rfl rfl (a1x (l := ([] : List Wo)) rfl .nil))⟩)
  have h3 : (d4c h w).ones.length = 3 := by show (a6b w false h.ones false).length = 3; omega
  have hE : v0v h n w = ({ d4c h w with twos := [f3b h n] }, n, e2h (e9g h.round)) := by rw [b5m ⟨fH, fK⟩ fM, f2c k3 hm h3]
  refine dv 7 ?_
  refine rlB w2w a9k ?_
  refine y5y (id := 9) p8p rfl w2w rfl rfl rfl rfl rfl rfl (dv 7 ?_)
  refine rlB w2w a9k ?_
  refine x0x rfl rfl rfl (b7f 4 0 0 0 0 h.round 0) (dv 4 ?_)
  (rw [hE]; exact ⟨_, _, rfl, f2m (R := h.round) (a := (d4c h w).ones) (b := h.outs) (k := 5) (f := 0) (t := 0) (i := n.inc) (v := n.version) (r := h.round) (g := 0) rfl (p7p rfl rfl rfl (.cl rfl .nil))⟩)
 try have n3 : ¬ w.kind = 3 := hc15
 refine dc 3 (aS ?_ ?_)<;>intro hc25<;>try simp at hc25
 ·try have n5 : ¬ w.kind = 5 := hc25
  have hE : v0v h n w = (h, n, []) := by rw [b5m ⟨fH, fK⟩ fM, f3z n7 n3 n5]
  refine dv 9 ?_
  (rw [hE]; exact ⟨_, _, rfl, a7s (u := h) (p7p rfl rfl rfl (a1x (l := ([] : List Wo)) rfl .nil))⟩)
 try have k5 : w.kind = 5 := hc25
 refine dc 8 (fun K K' => aS ?_ ?_)<;>intro hg27<;>try simp at hg27
 ·try have hr : ¬ w.round = h.round := hg27
  refine dv 11 ?_
  have hm : ¬ e2i h w := fun q => by obtain ⟨q1, q2, q3⟩ := q; omega
  have hE : v0v h n w = (h, n, []) := by rw [b5m ⟨fH, fK⟩ fM, e1i k5 hm]
  refine dv 8 ?_
  (rw [hE]; exact ⟨_, _, rfl, a7s (u := h) (p7p rfl rfl rfl (a1x (l := ([] : List Wo)) rfl .nil))⟩)
 try have hr : w.round = h.round := hg27
 refine dc 6 (aS ?_ ?_)<;>intro o<;>try simp at o
 ·refine dv 5 ?_
  have hm : ¬ e2i h w := fun q => by obtain ⟨q1, q2, q3⟩ := q; omega
  have hE : v0v h n w = (h, n, []) := by rw [b5m ⟨fH, fK⟩ fM, e1i k5 hm]
  refine dv 8 ?_
  (rw [hE]; exact ⟨_, _, rfl, a7s (u := h) (p7p rfl rfl rfl (a1x (l := ([] : List Wo)) rfl .nil))⟩)
 refine dc 5 (aI ?_ ?_)<;>intro o<;>try simp at o
 ·have hm : ¬ e2i h w := fun q => by obtain ⟨q1, q2, q3⟩ := q; omega
  have hE : v0v h n w = (h, n, []) := by rw [b5m ⟨fH, fK⟩ fM, e1i k5 hm]
  refine dv 8 ?_
  (rw [hE]; exact ⟨_, _, rfl, a7s (u := h) (p7p rfl rfl rfl (a1x (l := ([] : List Wo)) rfl .nil))⟩)
 have hm : e2i h w := ⟨hr, by omega, by omega⟩
 refine dv 5 ?_
 refine x0x rfl rfl rfl (a4b c w (c9q fW)) ?_
 refine x0x rfl rfl rfl (a7c h.twos w false (by have := b5j fH.2.2.1; omega)) ?_
 refine dv 4 ?_
 refine x0x rfl rfl rfl (c2q true (a9x h w)) ?_
 refine dc 7 (aS ?_ ?_)<;>intro hc30<;>try simp at hc30
 ·have hj : ¬ (p5p (a9x h w)).2 = true := by simpa using hc30
  have hE : v0v h n w = ((a9x h w), n, []) := by rw [b5m ⟨fH, fK⟩ fM, f2g k5 hm hj]
  refine dv 9 ?_
  (rw [hE]; exact ⟨_, _, rfl, a7s (u := a9x h w) (p7p rfl rfl rfl (a1x (l := ([] : List Wo)) rfl .nil))⟩)
 have hj : (p5p (a9x h w)).2 = true := hc30
 have hjo := e1g hj
 have hE : v0v h n w = ((a9x h w), (q3q n h.round (p5p (a9x h w)).1).1, b4a (a9x h w) (p5p (a9x h w)).1 2) := by rw [b5m ⟨fH, fK⟩ fM, f2e k5 hm hj]
 refine dv 5 ?_
 refine x0x rfl rfl rfl (a9z c n h.round (p5p (a9x h w)).1) ?_
 refine dv 8 ?_
 refine rlB w2w a9k ?_
 refine rlM [13] [_] (c2p 6 0 0 0 0 h.round (p5p (a9x h w)).1) rfl rfl rfl ?_
 refine dv 5 fun K K' => ?_
 refine x5x (ι := Nat) (fun i γ1 => [(17, pI (i : Int))]) (fun i γ1 => [(13, ((0 + 1), .row 79 11 ((b4a (a9x h w) (p5p (a9x h w)).1 i).map (u7u true))))]) (fun i => i ≤ 2) (fun i => 2 - i) (r3r [6, 7, 10, 11, 16] rfl) (a1c [0, 1, 2, 3, 4, 5, 6, 7, 8, 9, 10, 11, 12] rfl) 0 (by omega) [] x6x (HE.row rfl (by rfl) HE.nil) rfl fun i γ1 hi => ?_
 refine dv 4 fun K K' => ?_
 refine a4e (n := 2) rfl p8p rfl rfl (by simp [b4a]) ?_
 refine dc 1 (aS ?_ ?_)<;>intro o<;>try simp at o
 ·obtain rfl : i = 2 := by omega
  refine dv 9 ?_
  (rw [hE]; exact ⟨_, _, rfl, a7s (u := a9x h w) (d0b (a1x (l := b4a (a9x h w) (p5p (a9x h w)).1 2) rfl .nil))⟩)
 have hi2 : i < 2 := by omega
 have hat := e1d (a9x h w) (p5p (a9x h w)).1 hi2
 have hlen : (b4a (a9x h w) (p5p (a9x h w)).1 i).length = 2 := by simp [b4a]
 obtain ⟨b, hb⟩ : ∃ b, (a9x h w).twos[i + 1]? = some b := ⟨_, List.getElem?_eq_getElem (by have := hjo.2.2.1; omega)⟩
 refine dv 10 fun K K' => ?_
 refine z0z (j := i) rfl rfl p8p rfl w2w rfl rfl (by omega) ?_
 refine dv 2 ?_
 refine b0h (j := i + 1) rfl rfl p8p rfl w2w rfl hb ?_
 refine dv 2 ?_
 refine z0z (j := i) rfl rfl p8p rfl w2w rfl rfl (by omega) ?_
 refine dv 1 ?_
 refine b3c (c6z (a9x h w) (p5p (a9x h w)).1 (i + 1)) rfl rfl q9q rfl rfl rfl hat rfl (by decide) (.val rfl rfl .nil) (by rw [show b.inc = (c6z (a9x h w) (p5p (a9x h w)).1 (i + 1)).inc from (e1f hb _).symm]; rfl) rfl ?_
 refine dv 2 ?_
 refine x7x (b := 1) rfl rfl (by omega) (dv 1 ?_)
 exact ⟨i + 1, ⟨by omega, by omega⟩, [], x6x, x6x, (HE.row rfl (by rw [d6a _ _ hi2]) HE.nil), x4x, rfl⟩
theorem c3y (c : Bool) (h : Hb) (n : Nd) : a0p Tryz.prog 326 [.agg (a6w true h), .agg (u0u c n)] (s0s true (a7r h n)) := by
 refine pX Tryz.f326 [s0s true (a7r h n)] 8 ?_
 refine dv 1 ?_
 refine y2y (id := 0) rfl rfl rfl (y2y (id := 1) rfl rfl rfl (dv 2 ?_))
 refine x9x (id := 2) a0l rfl w6w rfl (dv 4 fun K K' => ?_)
 refine x0x rfl rfl rfl (a8o ..) (dc 2 (aS ?_ ?_))<;>intro hg2<;>try simp at hg2
 ·have fX : ¬ (s9s h ∧ y4y n ∧ n.id = 0 ∧ h.outs.length = 2) := fun q => a0x (by simpa using hg2) q.1
  refine dv 15 ?_
  try have fX : ¬ (s9s h ∧ y4y n ∧ n.id = 0 ∧ h.outs.length = 2) := fun q => by have := q.2.2.2; omega
  refine dv 4 ?_
  (rw [d0a fX]; exact a2t (l := ([] : List Ou)) rfl rfl (fun _ => rfl) rfl)
 have fH : s9s h := a0r.1 (by simpa using hg2)
 refine dv 1 ?_
 refine x0x rfl rfl rfl (w3w ..) (dc 3 (aS ?_ ?_))<;>intro hg3<;>try simp at hg3
 ·try have fX : ¬ (s9s h ∧ y4y n ∧ n.id = 0 ∧ h.outs.length = 2) := fun q => a0x (by simpa using hg3) q.2.1
  refine dv 10 ?_
  try have fX : ¬ (s9s h ∧ y4y n ∧ n.id = 0 ∧ h.outs.length = 2) := fun q => by have := q.2.2.2; omega
  refine dv 4 ?_
  (rw [d0a fX]; exact a2t (l := ([] : List Ou)) rfl rfl (fun _ => rfl) rfl)
 have fK : y4y n := a0r.1 (by simpa using hg3)
 refine dc 5 (aS ?_ ?_)<;>intro hg4<;>try simp at hg4
 ·try have fX : ¬ (s9s h ∧ y4y n ∧ n.id = 0 ∧ h.outs.length = 2) := fun q => by have := q.2.2.1; omega
  refine dv 5 ?_
  try have fX : ¬ (s9s h ∧ y4y n ∧ n.id = 0 ∧ h.outs.length = 2) := fun q => by have := q.2.2.2; omega
  refine dv 4 ?_
  (rw [d0a fX]; exact a2t (l := ([] : List Ou)) rfl rfl (fun _ => rfl) rfl)
 try have hid : n.id = 0 := hg4
 refine dc 5 (aI ?_ ?_)<;>intro o<;>try simp at o
 ·try have fX : ¬ (s9s h ∧ y4y n ∧ n.id = 0 ∧ h.outs.length = 2) := fun q => by have := q.2.2.2; omega
  refine dv 4 ?_
  (rw [d0a fX]; exact a2t (l := ([] : List Ou)) rfl rfl (fun _ => rfl) rfl)
 have h2 : h.outs.length = 2 := by omega
 have fT : s9s h ∧ y4y n ∧ n.id = 0 ∧ h.outs.length = 2 := ⟨fH, fK, hid, h2⟩
 have hno := (v6v fK.1).2.2.1
 have hwo := d4m fH.2.2.2.1
 refine dv 9 ?_
 refine p2p (zs := n.outs.map r9r) rfl rfl a0l rfl w6w rfl rfl rfl (z9z (fun _ => rfl) _) rfl (by (simp only [a0f, r7r, s3s, s6s, a0v, a3d, T141]; omega)) ?_
 refine dv 5 fun K K' => ?_
 refine x5x (ι := Nat) (fun i γ1 => [(5, .ref 2 (γ1 2)), (6, pI (a0y n.g (h.outs.take i))), (7, pI (i : Int))]) (fun i γ1 => [(2, ((γ1 2), .row 141 5 ((n.outs ++ (h.outs.take i).flatMap Wo.outs).map r9r))), (4, ((γ1 4), .dead))]) (fun i => i ≤ h.outs.length) (fun i => h.outs.length - i) (x8x 2 rfl Cov.nil) (a1c [0, 1, 3, 5, 6, 7] rfl) 0 (by omega) [0, 0, _, 0, _] (x8x 5 rfl (Cov.cons' (t := 6) rfl (rfl) (x8x 7 rfl Cov.nil))) (HE.row rfl (by simp) (HE.kill rfl HE.nil)) rfl fun i γ1 hi => ?_
 refine dc 7 (fun K K' => aI ?_ ?_)<;>intro o<;>try simp at o
 ·obtain ⟨w, hw⟩ := gE h.outs i
  have hw96 := hwo w (List.mem_of_getElem? hw)
  have hfl := a0n (f := Wo.outs) (k := 96) (l := h.outs.take i) fun a ha => hwo a (List.mem_of_mem_take ha)
  have htl : (h.outs.take i).length ≤ 2 := by rw [List.length_take]; omega
  refine dv 3 fun K K' => ?_
  refine p9p (ι := Unit) (fun _i γ2 => [(6, pI (a0y n.g (h.outs.take (i + 1))))]) (fun _i γ2 => []) (fun _i => True) (r3r [2, 5, 7] rfl) (a1c [0, 1, 2, 3, 4, 5, 6, 7] rfl) ?_ fun _i γ2 hi => ?_
  ·refine dc 9 (aS ?_ ?_)<;>intro o<;>try simp at o
   ·have hlt : ¬ w.g < a0y n.g (h.outs.take i) := by omega
    refine dv 1 ?_
    exact ⟨(), trivial, [], (Cov.cons' (t := 6) rfl (congrArg (fun v : Int => AV.pv (.int .i64 v)) (d4k hw hlt)) Cov.nil), x6x, x4x, x4x, rfl⟩
   have hlt : w.g < a0y n.g (h.outs.take i) := by omega
   refine dv 8 ?_
   exact ⟨(), trivial, [], (Cov.cons' (t := 6) rfl (congrArg (fun v : Int => AV.pv (.int .i64 v)) (d4j hw hlt)) Cov.nil), x6x, x4x, x4x, rfl⟩
  ·try dsimp only [b1n, b1o]
   refine dv 8 ?_
   refine p2p (zs := (n.outs ++ (h.outs.take i).flatMap Wo.outs ++ w.outs).map r9r) rfl rfl a0l rfl w6w rfl rfl rfl (z9z (fun _ => rfl) _) (a7m _ _ _) (by (simp only [a0f, r7r, s3s, s6s, a0v, a3d, T141]; omega)) ?_
   refine dv 3 ?_
   refine x7x (b := 1) rfl rfl (by omega) (dv 1 ?_)
   exact ⟨i + 1, ⟨by omega, by omega⟩, [0, 0, _, 0, _], x6x, x6x, (HE.row rfl (by rw [a3f hw, List.append_assoc]) (HE.kill rfl HE.nil)), x4x, rfl⟩
 obtain rfl : i = h.outs.length := by omega
 rw [List.take_length]
 refine dv 1 ?_
 have hall : (n.outs ++ h.outs.flatMap Wo.outs).length ≤ 10000 := by have hfl := a0n (f := Wo.outs) (k := 96) (l := h.outs) hwo; rw [List.length_append]; omega
 obtain ⟨A, hA⟩ : ∃ A, A = (n.outs ++ h.outs.flatMap Wo.outs) := ⟨_, rfl⟩
 rw [← hA] at hall ⊢
 refine r1r 5 rfl rfl (fun _ => rfl) ?_
 refine dv 1 ?_
 refine x9x (id := 5) a0l rfl w6w rfl (dv 5 fun K K' => ?_)
 refine x5x (ι := Nat) (fun j γ3 => [(8, .ref 5 (γ3 5)), (9, pI (j : Int))]) (fun j γ3 => [(5, ((γ3 5), .row 141 5 (((A.take j).filter (d1y (a0y n.g h.outs))).map r9r))), (6, ((γ3 6), .dead)), (7, ((γ3 7), .dead))]) (fun j => j ≤ A.length) (fun j => A.length - j) (r3r [5, 6] rfl) (a1c [0, 1, 2, 3, 4] rfl) 0 (by omega) [0, 0, 0, 0, 0, _, _, _] x6x (HE.row rfl (by rw [List.take_zero]; rfl) (HE.kill rfl (HE.kill rfl HE.nil))) rfl fun j γ3 hi => ?_
 refine dc 6 (fun K K' => aS ?_ ?_)<;>intro o<;>try simp at o
 ·obtain rfl : j = A.length := by omega
  have hfl3 : (A.filter (d1y (a0y n.g h.outs))).length ≤ 10000 := Nat.le_trans (List.length_filter_le _ _) (by omega)
  refine dv 1 ?_
  rw [List.take_length]
  refine r1r 8 rfl rfl (fun _ => rfl) ?_
  refine dv 2 ?_
  refine x0x rfl rfl rfl (a3z true (A.filter (d1y (a0y n.g h.outs))) (by omega)) ?_
  refine dv 2 ?_
  (rw [e6n fT, ← hA]; exact x3x rfl rfl rfl)
 obtain ⟨p, hp⟩ := gE A j
 have hfl2 : ((A.take j).filter (d1y (a0y n.g h.outs))).length ≤ 10000 := Nat.le_trans (List.length_filter_le _ _) (by rw [List.length_take]; omega)
 refine dc 11 (fun K K' => aS ?_ ?_)<;>intro o<;>try simp at o
 ·have hq : ¬ d1y (a0y n.g h.outs) p = true := fun q => by have := of_decide_eq_true q; omega
  refine dv 3 ?_
  refine x7x (b := 1) rfl rfl (by omega) (dv 1 ?_)
  exact ⟨j + 1, ⟨by omega, by omega⟩, [0, 0, 0, 0, 0, _, _, _], x6x, x6x, (HE.row rfl (by rw [r6r hp]; rw [if_neg hq, List.append_nil]) (HE.kill rfl (HE.kill rfl HE.nil))), x4x, rfl⟩
 have hq : d1y (a0y n.g h.outs) p = true := decide_eq_true (by omega)
 refine dv 5 ?_
 refine v9v (out := .agg (r9r p)) rfl w6w rfl ?_
 refine y5y (id := 6) a0l rfl w6w rfl rfl rfl rfl rfl rfl ?_
 refine y6y (zs := ((A.take j).filter (d1y (a0y n.g h.outs)) ++ [p]).map r9r) rfl rfl a0l rfl w6w rfl rfl rfl rfl (by rfl) (z8z _ _ _) (by (simp only [a0f, r7r, s3s, s6s, a0v, a3d, T141]; omega)) ?_
 refine dv 3 ?_
 refine x7x (b := 1) rfl rfl (by omega) (dv 1 ?_)
 exact ⟨j + 1, ⟨by omega, by omega⟩, [0, 0, 0, 0, 0, _, _, _], x6x, x6x, (HE.row rfl (by rw [r6r hp]; rw [if_pos hq]) (HE.kill rfl (HE.kill rfl HE.nil))), x4x, rfl⟩
end
section
variable {W : Tw} {i : Nat}
theorem a5b (h : b8j W) {m : Nd} (hm : ndI m) : b8j { W with nodes := W.nodes.set i m } := ⟨h.1, by show (W.nodes.set i m).length = 3; rw [List.length_set]; exact h.2.1, f4a h.2.2.1 hm, h.2.2.2⟩
variable {r : List Wo}
theorem a5s (h : b8j W) (h1 : r.length ≤ 40) (h2 : ∀ x ∈ r, c7a x) : b8j { W with radio := r } := ⟨h.1, h.2.1, h.2.2.1, h1, h2, h.2.2.2.2.2⟩
theorem d0g (h : b8j W) {u : Hb} (hu : s9s u) : b8j { W with hub := u } := ⟨h.1, h.2.1, h.2.2.1, h.2.2.2.1, h.2.2.2.2.1, hu, h.2.2.2.2.2.2⟩
theorem f0a (h : b8j W) {s : List Ou} (hs : s.length ≤ 1000000) : b8j { W with sink := s } := ⟨h.1, h.2.1, h.2.2.1, h.2.2.2.1, h.2.2.2.2.1, h.2.2.2.2.2.1, hs⟩
theorem a9b (h : b8j W) (hi : i ≤ 2) : ∃ n, W.nodes[i]? = some n ∧ ndI n := by
 obtain ⟨n, hn⟩ := e9r h.2.1 i (by omega)
 exact ⟨n, hn, h.2.2.1 n (List.mem_of_getElem? hn)⟩
variable {m : List Wo}
theorem b2w (h : b8j W) (k : ∀ x ∈ m, c7a x) : b8j { W with radio := b0r W.radio m } := a5s h (e4q h.2.2.2.1) (e4r h.2.2.2.2.1 k)
theorem e1y {w : Wo} (h : m[i]? = some w) (hl : (r ++ m.take i).length < 40) : r ++ m.take i ++ [w] = r ++ m.take (i + 1) := by rw [z7z h, List.append_assoc]
theorem d4p (hr : r.length ≤ 40) (hi : i ≤ m.length) (h40 : r.length + i ≤ 40) (h : ¬ (i < m.length ∧ r.length + i < 40)) : r ++ m.take i = b0r r m := by
 unfold b0r
 rcases Nat.lt_or_ge i m.length with h1 | h1
 ·rw [show 40 - r.length = i from by omega]
 ·rw [List.take_of_length_le h1, List.take_of_length_le (by omega)]
variable {h : Hb} {n : Nd}
theorem e5f : (a7r h n).length ≤ 10000 := by
 by_cases k : s9s h ∧ y4y n ∧ n.id = 0 ∧ h.outs.length = 2
 ·rw [e6n k, b3g]
  have hno := (v6v k.2.1.1).2.2.1
  have hwo := d4m k.1.2.2.2.1
  have hfl := a0n (f := Wo.outs) (k := 96) (l := h.outs) hwo
  refine Nat.le_trans (List.length_filter_le _ _) ?_
  rw [List.length_append]; omega
 ·rw [d0a k]; exact Nat.zero_le _

def kpB : Bool → List Nat
 | true => [0]
 | false => [0, 1]
def kpS : List Wo → List Nat
 | [] => [0]
 | _ :: _ => []
theorem d2c (γ : Nat → Nat) (b : Bool) (f : List Nat → Nat → Nat) (h0 : f [γ 0, γ 1] 0 = γ 0) (h1 : f [γ 0, γ 1] 1 = γ 1) : (kpB b).map (f [γ 0, γ 1]) = (kpB b).map γ := by
 cases b <;> simp [kpB, h0, h1]
theorem c2t (k : s9s h ∧ y4y n) : ((p1p h n).2.2 = [] ∧ ¬ n.led < (p1p h n).2.1.led) ∨ n.led < (p1p h n).2.1.led := by
 by_cases m : a4f n
 ·rw [d1u k m]; exact .inr (by show n.led < n.led + 1; omega)
 ·rw [c2e k m]; exact .inl ⟨rfl, by show ¬ n.led < n.led; omega⟩
variable {j : Nat}
theorem e1z (h : b8j W) : (W.radio.take j ++ W.radio.drop (j + 1)).length ≤ 40 := by
 have := h.2.2.2.1
 simp only [List.length_append, List.length_take, List.length_drop]; omega
theorem e2a (h : b8j W) : ∀ q ∈ W.radio.take j ++ W.radio.drop (j + 1), c7a q := fun q hq =>
 h.2.2.2.2.1 q ((List.mem_append.1 hq).elim List.mem_of_mem_take List.mem_of_mem_drop)
theorem f0b {W T : Tw} (h : b8j W) (k : b8j T) : b8j { W with nodes := T.nodes } := ⟨h.1, k.2.1, k.2.2.1, h.2.2.2⟩
theorem b0v (bs : List Nat) (p n : Nat) : pk bs p n ≤ n := by
 rcases Nat.eq_zero_or_pos n with h | h
 ·subst h; unfold pk; rw [if_pos (.inl (by omega))]; exact Nat.le_refl _
 ·exact Nat.le_of_lt (a3e bs p n h)

def pSm (S : Sm) (p : Nat) : Sm := ⟨S.w, S.list, p⟩
theorem a2w {S : Sm} {c d p : Nat} (h : smOk S c) (hd : c ≤ d) (hp : p ≤ d) : smOk (pSm S p) d := ⟨h.1, Nat.le_trans h.2.1 hd, hp⟩

def f3c (l : List Ru) : Prop := ∀ (i : Nat) r, l[i]? = some r → r.kind = (i : Int) ∧ c7p r
theorem ru0 {k : Int} : c7p ⟨k, []⟩ := ⟨fun o h => (by cases h), Nat.zero_le _, Nat.zero_le _, Nat.zero_le _⟩
theorem f2p {l : List Ru} (hl : l.length ≤ 3) (h : f3c l) : e0o ⟨l⟩ := ⟨by show l.length ≤ 4; omega, fun i r hr => by
 have hi : i < l.length := (List.getElem?_eq_some_iff.1 hr).1
 have h1 := h i r hr
 refine ⟨by omega, h1.2, fun p h0 hp => ?_⟩
 have h2 := h _ p hp
 omega⟩
theorem f2q {l : List Ru} {ops : List Op_} {q q1 q2 : Nat} (h : f3c l) (ho : c7p ⟨(l.length : Int), ops⟩) (hl : l.length < 3) (h3 : q1 ≤ q + 40 * l.length) (h4 : q2 ≤ q1 + 40) : (l ++ [(⟨(l.length : Int), ops⟩ : Ru)]).length ≤ 3 ∧ f3c (l ++ [(⟨(l.length : Int), ops⟩ : Ru)]) ∧ q2 ≤ q + 40 * (l ++ [(⟨(l.length : Int), ops⟩ : Ru)]).length := by
 rw [List.length_append]
 refine ⟨by show l.length + 1 ≤ 3; omega, fun i r hr => ?_, by show q2 ≤ q + 40 * (l.length + 1); omega⟩
 rcases Nat.lt_or_ge i l.length with hi | hi
 ·rw [List.getElem?_append_left hi] at hr; exact h i r hr
 ·rw [List.getElem?_append_right hi] at hr
  cases e : i - l.length with
  | zero => rw [e] at hr; cases hr; exact ⟨by show (l.length : Int) = (i : Int); omega, ho⟩
  | succ n => rw [e] at hr; simp at hr
variable {l : List Ap}
theorem f2r {rs : List Ru} {p0 q q1 : Nat} (h : ∀ a ∈ l, e0o a) (ha : e0o ⟨rs⟩) (hl : l.length < 4) (h3 : q ≤ p0 + 120 * l.length) (h4 : q1 ≤ q + 40 * rs.length) (hr : rs.length ≤ 3) : (l ++ [(⟨rs⟩ : Ap)]).length ≤ 4 ∧ (∀ a ∈ l ++ [(⟨rs⟩ : Ap)], e0o a) ∧ q1 ≤ p0 + 120 * (l ++ [(⟨rs⟩ : Ap)]).length := by
 rw [List.length_append]
 refine ⟨by show l.length + 1 ≤ 4; omega, fun a hm => ?_, by show q1 ≤ p0 + 120 * (l.length + 1); omega⟩
 rcases List.mem_append.1 hm with hm | hm
 ·exact h a hm
 ·rw [List.mem_singleton.1 hm]; exact ha
theorem e5g (h : a5z l) : b8j ⟨0, l, a8v 3, [], hb0, []⟩ := ⟨h, rfl, fun n hn => by
 obtain ⟨i, hi, rfl⟩ := List.mem_map.1 hn
 have := List.mem_range.1 hi
 exact e9t _ (by omega), Nat.zero_le _, fun x h => (by cases h), e0y, Nat.zero_le _⟩
variable {p c : Nat}
theorem e5h (h : a5z l) (hp : p ≤ c) : smOk ⟨⟨0, l, a8v 3, [], hb0, []⟩, [], p⟩ c := ⟨e5g h, Nat.zero_le _, hp⟩
end
section
theorem b9k (r : List Wo) (hr : r.length ≤ 40) : Meth Tryz.prog 312 1 [0] [.ref 0 0, v8v true ([] : List Wo)] [(0, (0, .row 79 11 ((r).map (u7u true))))] (.ref 0 0) [(0, (0, .row 79 11 ((r).map (u7u true))))] := by
 refine mX Tryz.f312 [.ref 0 0] 1 2 fun γ => ?_
 refine dv 6 fun K K' => ?_
 refine x5x (ι := Nat) (fun i γ1 => [(0, .ref 0 (γ 0)), (5, pI (i : Int))]) (fun i γ1 => [(0, ((γ 0), .row 79 11 ((r).map (u7u true)))), (1, ((γ1 1), .dead)), (2, ((γ1 2), .dead))]) (fun i => i = 0) (fun i => i) (x8x 1 rfl Cov.nil) HE.nil 0 rfl [0, _, _] x6x x4x rfl fun i γ1 hi => ?_
 subst hi
 refine dv 7 fun K K' => ?_
 refine f0d rfl rfl (fun hg3 => ?_) (fun hg3 => ?_)
 ·(simp at hg3; done)
 try simp at hg3
 refine dv 3 ?_
 refine a0z rfl (fun hc5 => ?_) (fun hc5 => ?_)
 ·(simp at hc5; done)
 try simp at hc5
 refine dv 5 ?_
 exact ⟨[γ 0], rfl, rfl, x4x⟩
theorem b9l (r m : List Wo) (hr : r.length ≤ 40) : Meth Tryz.prog 312 1 [] [.ref 0 0, v8v true m] [(0, (0, .row 79 11 ((r).map (u7u true))))] (.ref 0 0) [(0, (0, .row 79 11 ((b0r r m).map (u7u true))))] := by
 refine mX Tryz.f312 [.ref 0 0] 1 2 fun γ => ?_
 refine dv 6 fun K K' => ?_
 refine x5x (ι := Nat) (fun i γ1 => [(0, .ref 0 (γ1 0)), (5, pI (i : Int))]) (fun i γ1 => [(0, ((γ1 0), .row 79 11 ((r ++ m.take i).map (u7u true)))), (1, ((γ1 1), .dead)), (2, ((γ1 2), .dead))]) (fun i => i ≤ m.length ∧ r.length + i ≤ 40) (fun i => m.length - i) (x8x 1 rfl Cov.nil) HE.nil 0 ⟨Nat.zero_le _, hr⟩ [_, _, _] x6x (HE.row rfl (by simp) (HE.kill rfl (HE.kill rfl HE.nil))) rfl fun i γ1 hi => ?_
 obtain ⟨h1, h2⟩ := hi
 have hl : (r ++ m.take i).length = r.length + i := by simp; omega
 refine dc 7 (fun K K' => aS ?_ ?_)<;>intro h<;>try simp at h
 ·refine dv 9 ?_
  exact ⟨[_], rfl, rfl, HE.row rfl (by rw [d4p hr h1 h2 (by omega)]) HE.nil⟩
 refine dv 1 ?_
 refine a4e (n := r.length + i) rfl p8p rfl rfl (by rw [List.length_map]; exact hl) ?_
 refine dc 2 (aS ?_ ?_)<;>intro h<;>try simp at h
 ·refine dv 5 ?_
  exact ⟨[_], rfl, rfl, HE.row rfl (by rw [d4p hr h1 h2 (by omega)]) HE.nil⟩
 obtain ⟨w, hw⟩ := gE m i
 refine dv 9 fun K K' => ?_
 refine y5y (id := 1) p8p rfl w2w rfl rfl rfl rfl rfl rfl ?_
 refine y6y (zs := (r ++ m.take i ++ [w]).map (u7u true)) rfl rfl p8p rfl w2w rfl rfl rfl rfl (by rfl) (z8z (u7u true) _ w) (by (simp only [a0f, r7r, s3s, s6s, a0v, a3d, T79]; omega)) ?_
 refine dv 3 ?_
 refine x7x (b := 1) rfl rfl (by omega) (dv 1 ?_)
 exact ⟨i + 1, ⟨⟨by omega, by omega⟩, by omega⟩, [_, _, _], x6x, x6x, (HE.row rfl (by rw [← e1y hw (by rw [hl]; omega)]) (HE.kill rfl (HE.kill rfl HE.nil))), x4x, rfl⟩
theorem a0k (r m : List Wo) (hr : r.length ≤ 40) : Meth Tryz.prog 312 1 (kpS m) [.ref 0 0, v8v true m] [(0, (0, .row 79 11 ((r).map (u7u true))))] (.ref 0 0) [(0, (0, .row 79 11 ((b0r r m).map (u7u true))))] := by
 cases m with
 | nil =>
  have e : b0r r [] = r := by simp [b0r]
  rw [e]; exact b9k r hr
 | cons x l => exact b9l r (x :: l) hr
end
section
theorem c2u (c : Bool) (n : Nd) : a0p Tryz.prog 54 [.agg (u0u c n)] (.agg (u0u true (a6v n))) := by
 refine pX Tryz.f54 [.agg (u0u true (a6v n))] 6 ?_
 refine dv 1 ?_
 refine y2y (id := 0) rfl rfl rfl (x2x (id := 1) u1u q2q rfl (dv 3 fun K K' => ?_))
 refine x0x rfl rfl rfl (w3w ..) (dc 1 (aI ?_ ?_))<;>intro hc2<;>try simp at hc2
 ·have fX : ¬ y4y n := a0x (by simpa using hc2)
  refine dv 1 ?_
  refine rlB u1u q2q ?_
  refine dv 2 ?_
  (rw [d5n fX]; exact ⟨_, _, rfl, e0f⟩)
 have fK : y4y n := a0r.1 (by simpa using hc2)
 have fS := fK.1
 have fB := v6v fS
 have fb := b8c fS
 refine dv 3 ?_
 refine rlM [3, 4, 5] [_, _, _] (a5m c n fb.1 fb.2.1 fb.2.2.1 fb.2.2.2.1) rfl rfl rfl ?_
 refine x2x (id := 2) u1u q2q rfl (dv 8 ?_)
 (rw [b7z fK]; exact ⟨_, _, rfl, b5f (n := ({ a1o n with up := false } : Nd)) rfl rfl rfl⟩)
theorem c2v (c : Bool) (n : Nd) : a0p Tryz.prog 58 [.agg (u0u c n)] (.agg (u0u true (a4c n))) := by
 refine pX Tryz.f58 [.agg (u0u true (a4c n))] 6 ?_
 refine dv 1 ?_
 refine y2y (id := 0) rfl rfl rfl (x2x (id := 1) u1u q2q rfl (dv 3 fun K K' => ?_))
 refine x0x rfl rfl rfl (w3w ..) (dc 1 (aI ?_ ?_))<;>intro hc2<;>try simp at hc2
 ·have fX : ¬ y4y n := a0x (by simpa using hc2)
  refine dv 1 ?_
  refine rlB u1u q2q ?_
  refine dv 2 ?_
  (rw [d5o fX]; exact ⟨_, _, rfl, e0f⟩)
 have fK : y4y n := a0r.1 (by simpa using hc2)
 have fS := fK.1
 have fB := v6v fS
 have fb := b8c fS
 refine dc 6 (fun K K' => aS ?_ ?_)<;>intro j<;>try simp at j
 ·refine dv 5 ?_
  have fU : n.up = true ∨ 9999 ≤ n.inc := by (simp_all; done)
  refine dv 2 ?_
  refine rlM [3, 4, 5] [_, _, _] (y0y c n fb) rfl rfl rfl ?_
  refine dv 2 ?_
  (rw [b3f fK fU]; exact ⟨_, _, rfl, b5f rfl rfl rfl⟩)
 refine dv 2 ?_
 refine x0x rfl rfl rfl (z6z ..) (dc 2 (aI ?_ ?_))<;>intro hc5<;>try simp at hc5
 ·have fU : n.up = true ∨ 9999 ≤ n.inc := .inr hc5
  refine dv 2 ?_
  refine rlM [3, 4, 5] [_, _, _] (y0y c n fb) rfl rfl rfl ?_
  refine dv 2 ?_
  (rw [b3f fK fU]; exact ⟨_, _, rfl, b5f rfl rfl rfl⟩)
 have fU : ¬ (n.up = true ∨ 9999 ≤ n.inc) := by rintro (h | h) <;> first | omega | (simp_all; done)
 refine dv 3 ?_
 refine rlM [3, 4, 5] [_, _, _] (a5m c n fb.1 fb.2.1 fb.2.2.1 fb.2.2.2.1) rfl rfl rfl ?_
 refine x2x (id := 2) u1u q2q rfl (dv 7 ?_)
 refine s8s (.int .i64 (n.inc + 1)) rfl rfl rfl (a9n rfl rfl (by have := fS.1.2.1; omega) (by have := fS.1.2.1; omega)) ?_
 refine dv 9 ?_
 (rw [b8a fK fU]; exact ⟨_, _, rfl, b5f (n := ({ a1o n with up := true, inc := n.inc + 1, version := 1 } : Nd)) rfl rfl rfl⟩)
end
section
theorem c3z (W : Tw) (ek en ep ew : Int) (eb : Bool) (hW : b8j W) : MethE Tryz.prog 309 2 [.agg [pI W.time, a4o true W.apps, .ref 0 0, .ref 1 0, pI W.hub.round, v8v true W.hub.ones, v8v true W.hub.twos, v8v true W.hub.outs, s0s true W.sink], .agg [pI ek, pI en, pI ep, pI ew, .pv (.bool eb)]] [(0, (0, .row 65 13 ((W.nodes).map (u0u true)))), (1, (0, .row 79 11 ((W.radio).map (u7u true))))] (ι := Tw × Bool) (fun S' => b8j S'.1 ∧ (S'.2 = false → S'.1.radio = W.radio)) (fun S' => kpB S'.2) (fun S' => .tup [.agg [pI S'.1.time, a4o true S'.1.apps, .ref 0 0, .ref 1 0, pI S'.1.hub.round, v8v true S'.1.hub.ones, v8v true S'.1.hub.twos, v8v true S'.1.hub.outs, s0s true S'.1.sink], .pv (.bool (S'.2))]) (fun S' => [(0, (0, .row 65 13 ((S'.1.nodes).map (u0u true)))), (1, (0, .row 79 11 ((S'.1.radio).map (u7u true))))]) := by
 refine mE (ι := Tw × Bool) Tryz.f309 (fun S' => [.agg [pI S'.1.time, a4o true S'.1.apps, .ref 0 0, .ref 1 0, pI S'.1.hub.round, v8v true S'.1.hub.ones, v8v true S'.1.hub.twos, v8v true S'.1.hub.outs, s0s true S'.1.sink], .pv (.bool (S'.2))]) 2 6 fun γ => ?_
 refine dv 1 ?_
 refine y2y (id := 2) rfl rfl rfl (y2y (id := 3) rfl rfl rfl (x2x (id := 4) b4t b7p rfl (dv 5 fun K K' => ?_)))
 refine x0x rfl rfl rfl (y7y ..) (dc 1 (aI ?_ ?_))<;>intro hc2<;>try simp at hc2
 ·refine dv 5 ?_
  exact ⟨(W, false), ⟨hW, (fun _ => rfl)⟩, [γ 0, γ 1], rfl, rfl, x4x⟩
 have hen : 0 ≤ en ∧ en ≤ 2 := hc2
 obtain ⟨k, rfl⟩ : ∃ k : Nat, en = (k : Int) := ⟨en.toNat, by omega⟩
 obtain ⟨n, hnd, hnI⟩ := a9b hW (i := k) (by omega)
 have hA := hW.1
 have hr40 := hW.2.2.2.1
 refine dv 6 ?_
 refine z0z (j := k) rfl rfl a5f rfl u1u rfl rfl (z1z hnd) ?_
 refine r4r rfl u1u rfl (by assumption) rfl rfl ?_
 refine x2x (id := 5) u1u q2q rfl (dc 8 (fun K K' => aI ?_ ?_))<;>intro o<;>try simp at o
 ·refine dv 2 ?_
  refine x0x rfl rfl rfl (c2v true n) (x2x (id := 6) u1u q2q rfl (dv 7 ?_))
  refine z0z (j := k) rfl rfl a5f rfl u1u rfl rfl (z1z hnd) ?_
  refine v4v (el' := a4c n) rfl rfl u1u rfl rfl rfl hnd rfl (q4q rfl) rfl rfl ?_
  refine dv 10 ?_
  exact ⟨({ W with nodes := W.nodes.set k (a4c n) }, decide ((a4c n).inc > n.inc)), ⟨a5b hW (f2k hnI), (fun _ => rfl)⟩, [γ 0, γ 1], (d2c γ _ gl rfl rfl), rfl, x4x⟩
 refine dc 5 (aI ?_ ?_)<;>intro o<;>try simp at o
 ·refine dv 5 ?_
  exact ⟨(W, false), ⟨hW, (fun _ => rfl)⟩, [γ 0, γ 1], rfl, rfl, x4x⟩
 refine dc 5 (aI ?_ ?_)<;>intro o<;>try simp at o
 ·refine r8r fun B X0 w0 => ?_
  refine txR 5 rfl rfl (dv 5 ?_)
  refine txM [] [] (c2o W.apps n ep hnI hA) rfl rfl rfl rfl fun j hj => ?_
  refine txR 6 rfl rfl (dv 3 ?_)
  refine x2x (id := 7) u1u q2q rfl (dv 2 ?_)
  refine z4z rfl (dv 6 ?_)
  refine z0z (j := k) rfl rfl a5f rfl u1u rfl rfl (z1z hnd) ?_
  refine v4v (el' := j.1) rfl rfl u1u rfl rfl rfl hnd rfl (q4q rfl) rfl rfl ?_
  refine dv 6 ?_
  exact ⟨({ W with nodes := W.nodes.set k j.1 }, j.2), ⟨a5b hW hj, (fun _ => rfl)⟩, [γ 0, γ 1], (d2c γ _ gl rfl rfl), rfl, x4x⟩
 refine dc 5 (aI ?_ ?_)<;>intro o<;>try simp at o
 ·refine dv 4 ?_
  refine x0x rfl rfl rfl (c2l true n) ?_
  refine rlM [1] [_] (a0k W.radio (c1l n) hr40) rfl rfl rfl ?_
  refine dv 7 ?_
  exact ⟨({ W with radio := b0r W.radio (c1l n) }, true), ⟨b2w hW (e4n hnI.1), (fun h => by cases h)⟩, [γ 0, _], rfl, rfl, x4x⟩
 refine dv 7 ?_
 refine x0x rfl rfl rfl (c2u true n) ?_
 refine z0z (j := k) rfl rfl a5f rfl u1u rfl rfl (z1z hnd) ?_
 refine v4v (el' := a6v n) rfl rfl u1u rfl rfl rfl hnd rfl (q4q rfl) rfl rfl ?_
 refine dc 5 (fun K K' => aS ?_ ?_)<;>intro o<;>try simp at o
 ·refine dv 1 ?_
  skip
  refine dv 5 ?_
  exact ⟨({ W with nodes := W.nodes.set k (a6v n) }, true), ⟨a5b hW (e6p hnI), (fun h => by cases h)⟩, [γ 0, γ 1], rfl, rfl, x4x⟩
 obtain rfl : k = 0 := by omega
 refine dv 1 ?_
 refine rlB a5u b4u ?_
 refine dv 1 ?_
 refine a0h rfl rfl a5u rfl rfl rfl rfl (s2s rfl) rfl ?_
 refine dv 0 ?_
 refine e5v 2 rfl (.same (.same (.same (.same (.same (.le (b := v8v true ([] : List Wo)) rfl .nil rfl (.le (b := v8v true ([] : List Wo)) rfl .nil rfl (.le (b := v8v true ([] : List Wo)) rfl .nil rfl (LeCs.refl _))))))))) ?_
 refine dv 5 ?_
 exact ⟨({ W with nodes := W.nodes.set 0 (a6v n), hub := hb0 }, true), ⟨d0g (a5b hW (e6p hnI)) e0y, (fun h => by cases h)⟩, [γ 0, γ 1], rfl, rfl, x4x⟩
end
section
theorem c2w (W : Tw) (ek en ep ew : Int) (eb : Bool) (hW : b8j W) : MethE Tryz.prog 310 2 [.agg [pI W.time, a4o true W.apps, .ref 0 0, .ref 1 0, pI W.hub.round, v8v true W.hub.ones, v8v true W.hub.twos, v8v true W.hub.outs, s0s true W.sink], .agg [pI ek, pI en, pI ep, pI ew, .pv (.bool eb)]] [(0, (0, .row 65 13 ((W.nodes).map (u0u true)))), (1, (0, .row 79 11 ((W.radio).map (u7u true))))] (ι := Tw × Bool) (fun S' => b8j S'.1 ∧ (S'.2 = false → S'.1.radio = W.radio)) (fun S' => kpB S'.2) (fun S' => .tup [.agg [pI S'.1.time, a4o true S'.1.apps, .ref 0 0, .ref 1 0, pI S'.1.hub.round, v8v true S'.1.hub.ones, v8v true S'.1.hub.twos, v8v true S'.1.hub.outs, s0s true S'.1.sink], .pv (.bool (S'.2))]) (fun S' => [(0, (0, .row 65 13 ((S'.1.nodes).map (u0u true)))), (1, (0, .row 79 11 ((S'.1.radio).map (u7u true))))]) := by
 refine mE (ι := Tw × Bool) Tryz.f310 (fun S' => [.agg [pI S'.1.time, a4o true S'.1.apps, .ref 0 0, .ref 1 0, pI S'.1.hub.round, v8v true S'.1.hub.ones, v8v true S'.1.hub.twos, v8v true S'.1.hub.outs, s0s true S'.1.sink], .pv (.bool (S'.2))]) 2 11 fun γ => ?_
 have hr40 := hW.2.2.2.1
 refine dv 1 ?_
 refine y2y (id := 2) rfl rfl rfl (y2y (id := 3) rfl rfl rfl (x2x (id := 4) b4t b7p rfl (dv 7 fun K K' => ?_)))
 refine a4e (n := W.radio.length) rfl p8p rfl rfl (List.length_map _) ?_
 refine s8s (.int .i64 ((W.radio.length : Int) - 1)) rfl rfl rfl (a9n rfl (by omega) (by omega) (by omega)) ?_
 refine x0x rfl rfl rfl (y7y ..) (dc 1 (aI ?_ ?_))<;>intro hc2<;>try simp at hc2
 ·refine dv 5 ?_
  exact ⟨(W, false), ⟨hW, (fun _ => rfl)⟩, [γ 0, γ 1], rfl, rfl, x4x⟩
 have hr40 := hW.2.2.2.1
 have hew : 0 ≤ ew ∧ ew ≤ (W.radio.length : Int) - 1 := hc2
 obtain ⟨j, rfl⟩ : ∃ j : Nat, ew = (j : Int) := ⟨ew.toNat, by omega⟩
 have hjl : j < W.radio.length := by omega
 obtain ⟨x, hx⟩ := gE W.radio j
 have hxr := hW.2.2.2.2.1 x (List.mem_of_getElem? hx)
 obtain ⟨n0, h0, h0I⟩ := a9b hW (i := 0) (by omega)
 have hHb := hW.2.2.2.2.2.1
 refine dv 6 ?_
 refine z0z (j := j) rfl rfl p8p rfl w2w rfl rfl hjl ?_
 refine r4r rfl w2w rfl (by assumption) rfl rfl ?_
 refine x2x (id := 5) w2w a9k rfl (dc 7 (fun K K' => aS ?_ ?_))<;>intro o<;>try simp at o
 ·refine dv 5 ?_
  refine x9x (id := 6) p8p rfl w2w rfl (dv 4 ?_)
  refine d2y v7v rfl p8p rfl w2w rfl rfl rfl rfl (by omega) (by omega) (by (simp only [a0f]; omega)) ?_
  refine b3h (f := u7u true) (l := ([] : List Wo)) (l2 := W.radio) (l' := W.radio.take j) rfl rfl p8p rfl w2w rfl rfl rfl rfl (z9z (fun _ => rfl) _) (by (simp; done)) (by simp only [a0v, b2n, r7r, T79]; omega) ?_
  refine dv 4 ?_
  refine s8s (.int .i64 ((j + 1 : Nat) : Int)) rfl rfl rfl (a9n rfl (by omega) (by omega) (by omega)) ?_
  refine d2y v7v rfl p8p rfl w2w rfl rfl rfl rfl (by omega) (by (simp only [a0f]; omega)) (by omega) ?_
  refine b3h (f := u7u true) (l := W.radio.take j) (l2 := W.radio) (l' := (W.radio.take j ++ W.radio.drop (j + 1))) rfl rfl p8p rfl w2w rfl rfl rfl rfl (z9z (fun _ => rfl) _) (by (simp; done)) (by simp only [a0v, b2n, r7r, T79]; omega) ?_
  refine dv 3 fun K K' => ?_
  (refine e0l 2 6 1 rfl rfl rfl rfl rfl rfl rfl ?_; obtain ⟨r, er, hr1, hr2⟩ : ∃ r, (W.radio.take j ++ W.radio.drop (j + 1)) = r ∧ r.length ≤ 40 ∧ ∀ q ∈ r, c7a q := ⟨_, rfl, e1z hW, e2a hW⟩; rw [er])
  refine dc 4 (aI ?_ ?_)<;>intro o<;>try simp at o
  ·refine dv 5 ?_
   exact ⟨({ W with radio := r }, true), ⟨a5s hW hr1 hr2, (fun h => by cases h)⟩, [γ 0, _], rfl, rfl, x4x⟩
  refine dv 2 ?_
  refine x9x (id := 9) p8p rfl w2w rfl (dv 2 fun K K' => ?_)
  refine p9p (ι := Bool) (fun b γ3 => [(73, .pv (.bool (b)))]) (fun b γ3 => []) (fun b => True) (r3r [2, 4, 6] rfl) (a1c [0, 1, 2, 3, 4, 5, 6, 7, 8, 9, 10, 11, 12] rfl) ?_ fun b γ3 hi => ?_
  ·refine dc 5 (aS ?_ ?_)<;>intro o<;>try simp at o
   ·refine dv 13 ?_
    exact ⟨_, trivial, [], x6x, x6x, x4x, x4x, rfl⟩
   refine dc 4 (aS ?_ ?_)<;>intro o<;>try simp at o
   ·refine dv 9 ?_
    exact ⟨_, trivial, [], x6x, x6x, x4x, x4x, rfl⟩
   refine dc 5 (aS ?_ ?_)<;>intro o<;>try simp at o
   ·refine dv 4 ?_
    exact ⟨_, trivial, [], x6x, x6x, x4x, x4x, rfl⟩
   refine dv 5 ?_
   exact ⟨_, trivial, [], x6x, x6x, x4x, x4x, rfl⟩
  ·try dsimp only [b1n, b1o]
   refine dc 0 (aS ?_ ?_)<;>intro o<;>try simp at o
   ·obtain ⟨q, hq⟩ : ∃ q : Nat, x.to = (q : Int) := ⟨x.to.toNat, by have := hxr.1; omega⟩
    obtain ⟨n, hnd, hnI⟩ := a9b hW (i := q) (by have := hxr.1; omega)
    refine dv 4 ?_
    refine y9y (out := pI x.to) rfl q9q rfl rfl ?_
    rw [hq]
    refine z0z (j := q) rfl rfl a5f rfl u1u rfl rfl (z1z hnd) ?_
    refine r4r rfl u1u rfl (by assumption) rfl rfl ?_
    refine dv 1 ?_
    refine x0x rfl rfl rfl (a7y true n x) (dv 3 ?_)
    refine x2x (id := 12) u1u q2q rfl (dv 6 ?_)
    refine y9y (out := pI x.to) rfl q9q rfl rfl ?_
    rw [hq]
    refine dv 1 ?_
    refine z0z (j := q) rfl rfl a5f rfl u1u rfl rfl (z1z hnd) ?_
    refine v4v (el' := (w5w n x).1) rfl rfl u1u rfl rfl rfl hnd rfl (q4q rfl) rfl rfl ?_
    refine dv 7 ?_
    refine rlM [1] [_] (a0k r (w5w n x).2 hr1) rfl rfl rfl ?_
    refine dv 7 ?_
    exact ⟨({ W with nodes := W.nodes.set q (w5w n x).1, radio := b0r r (w5w n x).2 }, true), ⟨b2w (W := { W with nodes := _, radio := r }) (a5s (a5b hW (e1l hnI x)) hr1 hr2) (c7b hnI.1 x), (fun h => by cases h)⟩, [γ 0, _], rfl, rfl, x4x⟩
   refine dv 2 ?_
   refine y9y (out := .agg (a6w true W.hub)) rfl a5u rfl rfl ?_
   refine dv 2 ?_
   refine z0z (j := 0) rfl rfl a5f rfl u1u rfl rfl (z1z h0) (r4r rfl u1u rfl (by assumption) rfl rfl ?_)
   refine dv 1 ?_
   refine x0x rfl rfl rfl (a8z true W.hub n0 x) (dv 4 ?_)
   refine x2x (id := 10) a5u b4u rfl (x2x (id := 11) u1u q2q rfl (dv 6 ?_))
   refine a0h rfl rfl a5u rfl rfl rfl rfl (s2s rfl) rfl ?_
   refine dv 4 ?_
   refine z0z (j := 0) rfl rfl a5f rfl u1u rfl rfl (z1z h0) ?_
   refine v4v (el' := (v0v W.hub n0 x).2.1) rfl rfl u1u rfl rfl rfl h0 rfl (q4q rfl) rfl rfl ?_
   refine dv 7 ?_
   refine rlM [1] [_] (a0k r (v0v W.hub n0 x).2.2 hr1) rfl rfl rfl ?_
   refine dv 7 ?_
   exact ⟨({ W with nodes := W.nodes.set 0 (v0v W.hub n0 x).2.1, radio := b0r r (v0v W.hub n0 x).2.2, hub := (v0v W.hub n0 x).1 }, true), ⟨b2w (W := { W with nodes := _, radio := r, hub := _ }) (a5s (d0g (a5b hW (c7d h0I hHb x)) (b2k h0I.1 hHb x)) hr1 hr2) (b8i W.hub n0 x), (fun h => by cases h)⟩, [γ 0, _], rfl, rfl, x4x⟩
 refine dc 4 (aS ?_ ?_)<;>intro o<;>try simp at o
 ·refine dv 2 fun K K' => ?_
  (obtain ⟨r, er, hr1, hr2⟩ : ∃ r, W.radio = r ∧ r.length ≤ 40 ∧ ∀ q ∈ r, c7a q := ⟨_, rfl, hW.2.2.2.1, hW.2.2.2.2.1⟩; rw [er])
  refine dc 4 (aI ?_ ?_)<;>intro o<;>try simp at o
  ·refine dv 5 ?_
   exact ⟨({ W with radio := r }, true), ⟨a5s hW hr1 hr2, (fun h => by cases h)⟩, [γ 0, _], rfl, rfl, x4x⟩
  refine dv 2 ?_
  refine x9x (id := 9) p8p rfl w2w rfl (dv 2 fun K K' => ?_)
  refine p9p (ι := Bool) (fun b γ2 => [(73, .pv (.bool (b)))]) (fun b γ2 => []) (fun b => True) (r3r [2, 4, 6] rfl) (a1c [0, 1, 2, 3, 4, 5, 6, 7, 8, 9, 10, 11, 12] rfl) ?_ fun b γ2 hi => ?_
  ·refine dc 5 (aS ?_ ?_)<;>intro o<;>try simp at o
   ·refine dv 13 ?_
    exact ⟨_, trivial, [], x6x, x6x, x4x, x4x, rfl⟩
   refine dc 4 (aS ?_ ?_)<;>intro o<;>try simp at o
   ·refine dv 9 ?_
    exact ⟨_, trivial, [], x6x, x6x, x4x, x4x, rfl⟩
   refine dc 5 (aS ?_ ?_)<;>intro o<;>try simp at o
   ·refine dv 4 ?_
    exact ⟨_, trivial, [], x6x, x6x, x4x, x4x, rfl⟩
   refine dv 5 ?_
   exact ⟨_, trivial, [], x6x, x6x, x4x, x4x, rfl⟩
  ·try dsimp only [b1n, b1o]
   refine dc 0 (aS ?_ ?_)<;>intro o<;>try simp at o
   ·obtain ⟨q, hq⟩ : ∃ q : Nat, x.to = (q : Int) := ⟨x.to.toNat, by have := hxr.1; omega⟩
    obtain ⟨n, hnd, hnI⟩ := a9b hW (i := q) (by have := hxr.1; omega)
    refine dv 4 ?_
    refine y9y (out := pI x.to) rfl q9q rfl rfl ?_
    rw [hq]
    refine z0z (j := q) rfl rfl a5f rfl u1u rfl rfl (z1z hnd) ?_
    refine r4r rfl u1u rfl (by assumption) rfl rfl ?_
    refine dv 1 ?_
    refine x0x rfl rfl rfl (a7y true n x) (dv 3 ?_)
    refine x2x (id := 12) u1u q2q rfl (dv 6 ?_)
    refine y9y (out := pI x.to) rfl q9q rfl rfl ?_
    rw [hq]
    refine dv 1 ?_
    refine z0z (j := q) rfl rfl a5f rfl u1u rfl rfl (z1z hnd) ?_
    refine v4v (el' := (w5w n x).1) rfl rfl u1u rfl rfl rfl hnd rfl (q4q rfl) rfl rfl ?_
    refine dv 7 ?_
    refine rlM [1] [_] (a0k r (w5w n x).2 hr1) rfl rfl rfl ?_
    refine dv 7 ?_
    exact ⟨({ W with nodes := W.nodes.set q (w5w n x).1, radio := b0r r (w5w n x).2 }, true), ⟨b2w (W := { W with nodes := _, radio := r }) (a5s (a5b hW (e1l hnI x)) hr1 hr2) (c7b hnI.1 x), (fun h => by cases h)⟩, [γ 0, _], rfl, rfl, x4x⟩
   refine dv 2 ?_
   refine y9y (out := .agg (a6w true W.hub)) rfl a5u rfl rfl ?_
   refine dv 2 ?_
   refine z0z (j := 0) rfl rfl a5f rfl u1u rfl rfl (z1z h0) (r4r rfl u1u rfl (by assumption) rfl rfl ?_)
   refine dv 1 ?_
   refine x0x rfl rfl rfl (a8z true W.hub n0 x) (dv 4 ?_)
   refine x2x (id := 10) a5u b4u rfl (x2x (id := 11) u1u q2q rfl (dv 6 ?_))
   refine a0h rfl rfl a5u rfl rfl rfl rfl (s2s rfl) rfl ?_
   refine dv 4 ?_
   refine z0z (j := 0) rfl rfl a5f rfl u1u rfl rfl (z1z h0) ?_
   refine v4v (el' := (v0v W.hub n0 x).2.1) rfl rfl u1u rfl rfl rfl h0 rfl (q4q rfl) rfl rfl ?_
   refine dv 7 ?_
   refine rlM [1] [_] (a0k r (v0v W.hub n0 x).2.2 hr1) rfl rfl rfl ?_
   refine dv 7 ?_
   exact ⟨({ W with nodes := W.nodes.set 0 (v0v W.hub n0 x).2.1, radio := b0r r (v0v W.hub n0 x).2.2, hub := (v0v W.hub n0 x).1 }, true), ⟨b2w (W := { W with nodes := _, radio := r, hub := _ }) (a5s (d0g (a5b hW (c7d h0I hHb x)) (b2k h0I.1 hHb x)) hr1 hr2) (b8i W.hub n0 x), (fun h => by cases h)⟩, [γ 0, _], rfl, rfl, x4x⟩
 refine dv 1 ?_
 refine x9x (id := 6) p8p rfl w2w rfl (dv 4 ?_)
 refine d2y v7v rfl p8p rfl w2w rfl rfl rfl rfl (by omega) (by omega) (by (simp only [a0f]; omega)) ?_
 refine b3h (f := u7u true) (l := ([] : List Wo)) (l2 := W.radio) (l' := W.radio.take j) rfl rfl p8p rfl w2w rfl rfl rfl rfl (z9z (fun _ => rfl) _) (by (simp; done)) (by simp only [a0v, b2n, r7r, T79]; omega) ?_
 refine dv 4 ?_
 refine s8s (.int .i64 ((j + 1 : Nat) : Int)) rfl rfl rfl (a9n rfl (by omega) (by omega) (by omega)) ?_
 refine d2y v7v rfl p8p rfl w2w rfl rfl rfl rfl (by omega) (by (simp only [a0f]; omega)) (by omega) ?_
 refine b3h (f := u7u true) (l := W.radio.take j) (l2 := W.radio) (l' := (W.radio.take j ++ W.radio.drop (j + 1))) rfl rfl p8p rfl w2w rfl rfl rfl rfl (z9z (fun _ => rfl) _) (by (simp; done)) (by simp only [a0v, b2n, r7r, T79]; omega) ?_
 refine dv 3 fun K K' => ?_
 (refine e0l 2 6 1 rfl rfl rfl rfl rfl rfl rfl ?_; obtain ⟨r, er, hr1, hr2⟩ : ∃ r, (W.radio.take j ++ W.radio.drop (j + 1)) = r ∧ r.length ≤ 40 ∧ ∀ q ∈ r, c7a q := ⟨_, rfl, e1z hW, e2a hW⟩; rw [er])
 refine dc 4 (aI ?_ ?_)<;>intro o<;>try simp at o
 ·refine dv 5 ?_
  exact ⟨({ W with radio := r }, true), ⟨a5s hW hr1 hr2, (fun h => by cases h)⟩, [γ 0, _], rfl, rfl, x4x⟩
 refine dv 2 ?_
 refine x9x (id := 9) p8p rfl w2w rfl (dv 2 fun K K' => ?_)
 refine p9p (ι := Bool) (fun b γ1 => [(73, .pv (.bool (b)))]) (fun b γ1 => []) (fun b => True) (r3r [2, 4, 6] rfl) (a1c [0, 1, 2, 3, 4, 5, 6, 7, 8, 9, 10, 11, 12] rfl) ?_ fun b γ1 hi => ?_
 ·refine dc 5 (aS ?_ ?_)<;>intro o<;>try simp at o
  ·refine dv 13 ?_
   exact ⟨_, trivial, [], x6x, x6x, x4x, x4x, rfl⟩
  refine dc 4 (aS ?_ ?_)<;>intro o<;>try simp at o
  ·refine dv 9 ?_
   exact ⟨_, trivial, [], x6x, x6x, x4x, x4x, rfl⟩
  refine dc 5 (aS ?_ ?_)<;>intro o<;>try simp at o
  ·refine dv 4 ?_
   exact ⟨_, trivial, [], x6x, x6x, x4x, x4x, rfl⟩
  refine dv 5 ?_
  exact ⟨_, trivial, [], x6x, x6x, x4x, x4x, rfl⟩
 ·try dsimp only [b1n, b1o]
  refine dc 0 (aS ?_ ?_)<;>intro o<;>try simp at o
  ·obtain ⟨q, hq⟩ : ∃ q : Nat, x.to = (q : Int) := ⟨x.to.toNat, by have := hxr.1; omega⟩
   obtain ⟨n, hnd, hnI⟩ := a9b hW (i := q) (by have := hxr.1; omega)
   refine dv 4 ?_
   refine y9y (out := pI x.to) rfl q9q rfl rfl ?_
   rw [hq]
   refine z0z (j := q) rfl rfl a5f rfl u1u rfl rfl (z1z hnd) ?_
   refine r4r rfl u1u rfl (by assumption) rfl rfl ?_
   refine dv 1 ?_
   refine x0x rfl rfl rfl (a7y true n x) (dv 3 ?_)
   refine x2x (id := 12) u1u q2q rfl (dv 6 ?_)
   refine y9y (out := pI x.to) rfl q9q rfl rfl ?_
   rw [hq]
   refine dv 1 ?_
   refine z0z (j := q) rfl rfl a5f rfl u1u rfl rfl (z1z hnd) ?_
   refine v4v (el' := (w5w n x).1) rfl rfl u1u rfl rfl rfl hnd rfl (q4q rfl) rfl rfl ?_
   refine dv 7 ?_
   refine rlM [1] [_] (a0k r (w5w n x).2 hr1) rfl rfl rfl ?_
   refine dv 7 ?_
   exact ⟨({ W with nodes := W.nodes.set q (w5w n x).1, radio := b0r r (w5w n x).2 }, true), ⟨b2w (W := { W with nodes := _, radio := r }) (a5s (a5b hW (e1l hnI x)) hr1 hr2) (c7b hnI.1 x), (fun h => by cases h)⟩, [γ 0, _], rfl, rfl, x4x⟩
  refine dv 2 ?_
  refine y9y (out := .agg (a6w true W.hub)) rfl a5u rfl rfl ?_
  refine dv 2 ?_
  refine z0z (j := 0) rfl rfl a5f rfl u1u rfl rfl (z1z h0) (r4r rfl u1u rfl (by assumption) rfl rfl ?_)
  refine dv 1 ?_
  refine x0x rfl rfl rfl (a8z true W.hub n0 x) (dv 4 ?_)
  refine x2x (id := 10) a5u b4u rfl (x2x (id := 11) u1u q2q rfl (dv 6 ?_))
  refine a0h rfl rfl a5u rfl rfl rfl rfl (s2s rfl) rfl ?_
  refine dv 4 ?_
  refine z0z (j := 0) rfl rfl a5f rfl u1u rfl rfl (z1z h0) ?_
  refine v4v (el' := (v0v W.hub n0 x).2.1) rfl rfl u1u rfl rfl rfl h0 rfl (q4q rfl) rfl rfl ?_
  refine dv 7 ?_
  refine rlM [1] [_] (a0k r (v0v W.hub n0 x).2.2 hr1) rfl rfl rfl ?_
  refine dv 7 ?_
  exact ⟨({ W with nodes := W.nodes.set 0 (v0v W.hub n0 x).2.1, radio := b0r r (v0v W.hub n0 x).2.2, hub := (v0v W.hub n0 x).1 }, true), ⟨b2w (W := { W with nodes := _, radio := r, hub := _ }) (a5s (d0g (a5b hW (c7d h0I hHb x)) (b2k h0I.1 hHb x)) hr1 hr2) (b8i W.hub n0 x), (fun h => by cases h)⟩, [γ 0, _], rfl, rfl, x4x⟩
end
section
theorem c4a (W : Tw) (hW : b8j W) : MethE Tryz.prog 313 2 [.agg [pI W.time, a4o true W.apps, .ref 0 0, .ref 1 0, pI W.hub.round, v8v true W.hub.ones, v8v true W.hub.twos, v8v true W.hub.outs, s0s true W.sink]] [(0, (0, .row 65 13 ((W.nodes).map (u0u true)))), (1, (0, .row 79 11 ((W.radio).map (u7u true))))] (ι := Tw × Bool) (fun S' => b8j S'.1 ∧ S'.1.nodes = W.nodes ∧ S'.1.radio = W.radio) (fun S' => [0, 1]) (fun S' => .tup [.agg [pI S'.1.time, a4o true S'.1.apps, .ref 0 0, .ref 1 0, pI S'.1.hub.round, v8v true S'.1.hub.ones, v8v true S'.1.hub.twos, v8v true S'.1.hub.outs, s0s true S'.1.sink], .pv (.bool (S'.2))]) (fun S' => [(0, (0, .row 65 13 ((W.nodes).map (u0u true)))), (1, (0, .row 79 11 ((W.radio).map (u7u true))))]) := by
 refine mE (ι := Tw × Bool) Tryz.f313 (fun S' => [.agg [pI S'.1.time, a4o true S'.1.apps, .ref 0 0, .ref 1 0, pI S'.1.hub.round, v8v true S'.1.hub.ones, v8v true S'.1.hub.twos, v8v true S'.1.hub.outs, s0s true S'.1.sink], .pv (.bool (S'.2))]) 2 5 fun γ => ?_
 obtain ⟨n0, h0, h0I⟩ := a9b hW (i := 0) (by omega)
 have hol := e5f (h := W.hub) (n := n0)
 have hsl := hW.2.2.2.2.2.2
 refine dv 1 ?_
 refine y2y (id := 2) rfl rfl rfl (x2x (id := 3) b4t b7p rfl (dv 3 ?_))
 refine y9y (out := .agg (a6w true W.hub)) rfl a5u rfl rfl ?_
 refine dv 2 ?_
 refine z0z (j := 0) rfl rfl a5f rfl u1u rfl rfl (z1z h0) (r4r rfl u1u rfl (by assumption) rfl rfl ?_)
 refine x0x rfl rfl rfl (c3y true W.hub n0) (dv 5 fun K K' => ?_)
 refine z0z (j := 0) rfl rfl a5f rfl u1u rfl rfl (z1z h0) (dc 4 (aS ?_ ?_))<;>intro o<;>try simp at o
 ·refine dv 12 ?_
  exact ⟨(W, false), ⟨hW, rfl, rfl⟩, [γ 0, γ 1], rfl, rfl, x4x⟩
 refine dc 7 (aI ?_ ?_)<;>intro o<;>try simp at o
 ·refine dv 5 ?_
  exact ⟨(W, false), ⟨hW, rfl, rfl⟩, [γ 0, γ 1], rfl, rfl, x4x⟩
 refine dv 2 ?_
 refine x9x (id := 4) a0l rfl w6w rfl (dv 2 ?_)
 refine p2p (zs := (W.sink).map r9r) rfl rfl a0l rfl w6w rfl rfl rfl (z9z (fun _ => rfl) _) rfl (by simp only [a0f, r7r, s3s, s6s, a0v, a3d, b2n, T141]; omega) ?_
 refine dv 4 ?_
 refine b9o (f := r9r) (l := (a7r W.hub n0)) rfl a0l rfl w6w rfl rfl rfl (by omega) (by rw [List.length_map]; omega) (by rw [List.length_map]; omega) ?_
 rw [List.length_map, Int.toNat_natCast, Int.toNat_natCast, List.take_length]
 refine p2p (zs := ((W.sink ++ (a7r W.hub n0).drop W.sink.length)).map r9r) rfl rfl a0l rfl w6w rfl rfl rfl (z9z (fun _ => rfl) _) (a7m r9r W.sink _) (by simp only [a0f, r7r, s3s, s6s, a0v, a3d, b2n, T141]; omega) ?_
 refine dv 2 ?_
 refine v3v (b := s0s true (W.sink ++ (a7r W.hub n0).drop W.sink.length)) 2 8 rfl rfl rfl (.ref rfl (Le.ow_map _ (fun _ => rfl) (fun _ => rfl)) .nil) rfl rfl rfl rfl ?_
 refine dv 4 ?_
 refine x0x rfl rfl rfl (a6y true (W.sink ++ (a7r W.hub n0).drop W.sink.length) 96) ?_
 refine dv 3 ?_
 exact ⟨({ W with sink := (W.sink ++ (a7r W.hub n0).drop W.sink.length) }, a7o okO b1h (W.sink ++ (a7r W.hub n0).drop W.sink.length) 96), ⟨f0a hW (by simp only [r7r, b2n]; omega), rfl, rfl⟩, [γ 0, γ 1], rfl, rfl, x4x⟩
end
section
theorem d0h (W : Tw) (ek en ep ew : Int) (eb : Bool) (hW : b8j W) : MethE Tryz.prog 290 2 [.agg [pI W.time, a4o true W.apps, .ref 0 0, .ref 1 0, pI W.hub.round, v8v true W.hub.ones, v8v true W.hub.twos, v8v true W.hub.outs, s0s true W.sink], .agg [pI ek, pI en, pI ep, pI ew, .pv (.bool eb)]] [(0, (0, .row 65 13 ((W.nodes).map (u0u true)))), (1, (0, .row 79 11 ((W.radio).map (u7u true))))] (ι := Tw × Bool) (fun S' => b8j S'.1 ∧ (S'.2 = false → S'.1.radio = W.radio)) (fun S' => kpB S'.2) (fun S' => .tup [.agg [pI S'.1.time, a4o true S'.1.apps, .ref 0 0, .ref 1 0, pI S'.1.hub.round, v8v true S'.1.hub.ones, v8v true S'.1.hub.twos, v8v true S'.1.hub.outs, s0s true S'.1.sink], .pv (.bool (S'.2))]) (fun S' => [(0, (0, .row 65 13 ((S'.1.nodes).map (u0u true)))), (1, (0, .row 79 11 ((S'.1.radio).map (u7u true))))]) := by
 refine mE (ι := Tw × Bool) Tryz.f290 (fun S' => [.agg [pI S'.1.time, a4o true S'.1.apps, .ref 0 0, .ref 1 0, pI S'.1.hub.round, v8v true S'.1.hub.ones, v8v true S'.1.hub.twos, v8v true S'.1.hub.outs, s0s true S'.1.sink], .pv (.bool (S'.2))]) 2 5 fun γ => ?_
 obtain ⟨n0, h0, h0I⟩ := a9b hW (i := 0) (by omega)
 have hHb := hW.2.2.2.2.2.1
 have hr40 := hW.2.2.2.1
 refine dv 1 ?_
 refine y2y (id := 2) rfl rfl rfl (y2y (id := 3) rfl rfl rfl (x2x (id := 4) b4t b7p rfl (dv 4 ?_)))
 refine s8s (.int .i64 (IntKind.i64.wrap (W.time + 1))) rfl rfl rfl rfl ?_
 refine dv 7 fun K K' => ?_
 refine p9p (ι := Bool) (fun b γ1 => [(16, .pv (.bool (b)))]) (fun b γ1 => []) (fun b => True) (r3r [2, 3, 4, 15] rfl) (a1c [0, 1, 2, 3, 4, 5, 6] rfl) ?_ fun b γ1 hi => ?_
 ·refine dc 3 (aI ?_ ?_)<;>intro h<;>try simp at h
  ·refine dv 1 ?_
   exact ⟨_, trivial, [], x6x, x6x, x4x, x4x, rfl⟩
  refine dc 3 (aI ?_ ?_)<;>intro h<;>try simp at h
  ·refine dv 1 ?_
   exact ⟨_, trivial, [], x6x, x6x, x4x, x4x, rfl⟩
  refine dc 3 (aI ?_ ?_)<;>intro h<;>try simp at h
  ·refine dv 1 ?_
   exact ⟨_, trivial, [], x6x, x6x, x4x, x4x, rfl⟩
  refine dv 3 ?_
  exact ⟨_, trivial, [], x6x, x6x, x4x, x4x, rfl⟩
 ·try dsimp only [b1n, b1o]
  refine dc 0 (aI ?_ ?_)<;>intro h<;>try simp at h
  ·refine r8r fun B X0 w0 => ?_
   refine txR 2 rfl rfl (dv 2 ?_)
   refine txM [0, 1] [_, _] (c3z { W with time := (IntKind.i64.wrap (W.time + 1)) } ek en ep ew eb hW) rfl rfl rfl rfl fun j hj => ?_
   obtain ⟨hj1, hj2⟩ := hj
   refine txR 4 rfl rfl (dv 4 ?_)
   refine z4z rfl (dv 1 ?_)
   exact ⟨j, ⟨hj1, hj2⟩, [_, _], (by cases hb : j.2 <;> rfl), rfl, x4x⟩
  refine p9p (ι := Bool) (fun b γ2 => [(26, .pv (.bool (b)))]) (fun b γ2 => []) (fun b => True) (r3r [2, 3, 4, 15] rfl) (a1c [0, 1, 2, 3, 4, 5, 6] rfl) ?_ fun b γ2 hi => ?_
  ·refine dc 3 (aI ?_ ?_)<;>intro h<;>try simp at h
   ·refine dv 1 ?_
    exact ⟨_, trivial, [], x6x, x6x, x4x, x4x, rfl⟩
   refine dv 3 ?_
   exact ⟨_, trivial, [], x6x, x6x, x4x, x4x, rfl⟩
  ·try dsimp only [b1n, b1o]
   refine dc 0 (aI ?_ ?_)<;>intro h<;>try simp at h
   ·refine r8r fun B X0 w0 => ?_
    refine txR 2 rfl rfl (dv 2 ?_)
    refine txM [0, 1] [_, _] (c2w { W with time := (IntKind.i64.wrap (W.time + 1)) } ek en ep ew eb hW) rfl rfl rfl rfl fun j hj => ?_
    obtain ⟨hj1, hj2⟩ := hj
    refine txR 4 rfl rfl (dv 4 ?_)
    refine z4z rfl (dv 1 ?_)
    exact ⟨j, ⟨hj1, hj2⟩, [_, _], (by cases hb : j.2 <;> rfl), rfl, x4x⟩
   refine dc 3 (aS ?_ ?_)<;>intro h<;>try simp at h
   ·refine dc 3 (aS ?_ ?_)<;>intro h<;>try simp at h
    ·refine dv 6 ?_
     exact ⟨({ W with time := (IntKind.i64.wrap (W.time + 1)) }, false), ⟨hW, fun _ => rfl⟩, [γ 0, γ 1], rfl, rfl, x4x⟩
    refine r8r fun B X0 w0 => ?_
    refine txR 1 rfl rfl (dv 1 ?_)
    refine txM [0, 1] [_, _] (c4a { W with time := (IntKind.i64.wrap (W.time + 1)) } hW) rfl rfl rfl rfl fun j hj => ?_
    obtain ⟨hj1, hj2, hj3⟩ := hj
    refine txR 4 rfl rfl (dv 4 ?_)
    refine z4z rfl (dv 1 ?_)
    exact ⟨j, ⟨hj1, fun _ => hj3⟩, [γ 0, γ 1], (d2c γ _ gl rfl rfl), rfl, HE.row rfl (by rw [hj2]) (HE.row rfl (by rw [hj3]) HE.nil)⟩
   refine dv 2 ?_
   refine y9y (out := .agg (a6w true W.hub)) rfl a5u rfl rfl ?_
   refine dv 2 ?_
   refine z0z (j := 0) rfl rfl a5f rfl u1u rfl rfl (z1z h0) (r4r rfl u1u rfl (by assumption) rfl rfl ?_)
   refine x0x rfl rfl rfl (c2s true W.hub n0) (dv 4 ?_)
   refine x2x (id := 5) a5u b4u rfl (x2x (id := 6) u1u q2q rfl (dv 8 ?_))
   refine z0z (j := 0) rfl rfl a5f rfl u1u rfl rfl (z1z h0) (dv 7 ?_)
   refine a0h rfl rfl a5u rfl rfl rfl rfl (s2s rfl) rfl ?_
   refine dv 4 ?_
   refine z0z (j := 0) rfl rfl a5f rfl u1u rfl rfl (z1z h0) ?_
   refine v4v (el' := (p1p W.hub n0).2.1) rfl rfl u1u rfl rfl rfl h0 rfl (q4q rfl) rfl rfl ?_
   refine dv 4 ?_
   refine rlM [1] [_] (a0k W.radio (p1p W.hub n0).2.2 hr40) rfl rfl rfl ?_
   refine dv 8 ?_
   exact ⟨({ W with time := (IntKind.i64.wrap (W.time + 1)), nodes := W.nodes.set 0 (p1p W.hub n0).2.1, radio := b0r W.radio (p1p W.hub n0).2.2, hub := (p1p W.hub n0).1 }, decide ((p1p W.hub n0).2.1.led > n0.led)), ⟨b2w (W := { W with nodes := _, hub := _ }) (d0g (a5b hW (e9u h0I hHb)) (c9x h0I.1 hHb)) (e1c W.hub n0), (by intro hf; rcases c2t ⟨hHb, h0I.1⟩ with ⟨h1, h2⟩ | h2; (rw [h1]; simp [b0r]); exact absurd h2 (of_decide_eq_false hf))⟩, [γ 0, _], (by rcases c2t ⟨hHb, h0I.1⟩ with ⟨h1, h2⟩ | h2; (rw [h1, decide_eq_false h2]; rfl); (rw [decide_eq_true h2]; rfl)), rfl, x4x⟩
end
section
theorem c7m (c : Bool) (bs : List Nat) : Meth Tryz.prog 107 1 [] [u9u c bs] [(0, (0, .dead))] (.ptr 0 0 0) [(0, (0, .box 243 [u9u c (bs.take 2000), .pv (.int .i64 0)]))] := by
 refine mX Tryz.f107 [.ptr 0 0 0] 1 0 fun γ => ?_
 refine dc 7 (fun K K' => aS ?_ ?_)<;>intro o<;>try simp at o
 ·refine dv 3 ?_
  refine rlB e5o e5q ?_
  refine y2y (id := 0) rfl rfl rfl (dv 2 ?_)
  exact ⟨[_], rfl, rfl, HE.box rfl (by show _ = [u9u c (bs.take 2000), _]; rw [List.take_of_length_le (by omega)]; rfl) HE.nil⟩
 refine dv 2 ?_
 refine b9o rfl e7b rfl f0q rfl rfl rfl (by omega) (by omega) (by omega) (dv 3 ?_)
 refine rlB e5o e5q ?_
 refine y2y (id := 0) rfl rfl rfl (dv 2 ?_)
 exact ⟨[_], rfl, rfl, x4x⟩
theorem x1x (c : Bool) (bs : List Nat) (p n : Nat) (hp : p < 1000000000) (hbs : ∀ b ∈ bs, b < 256) : Meth Tryz.prog 109 1 [0] [.ptr 0 0 0, .pv (.int .i64 (n : Int))] [(0, (0, .box 243 [u9u c bs, .pv (.int .i64 ((p : Nat) : Int))]))] (.pv (.int .i64 (pk bs p n : Int))) [(0, (0, .box 243 [u9u c bs, .pv (.int .i64 ((p + 1 : Nat) : Int))]))] := by
 refine mX Tryz.f109 [.pv (.int .i64 (pk bs p n : Int))] 1 0 fun γ => ?_
 refine dv 8 ?_
 refine x7x (b := 1) rfl rfl (by omega) (dc 8 (fun K K' => aS ?_ ?_))<;>intro o<;>try simp at o
 ·refine dv 10 ?_
  refine ⟨[γ 0], rfl, congrArg (fun v : Nat => some [AV.pv (.int .i64 (v : Int))]) (?_ : _ = pk bs p n), HE.box rfl rfl HE.nil⟩
  (rw [pk, if_pos (.inl (by omega))])
 refine dc 7 (aI ?_ ?_)<;>intro hc3<;>try simp at hc3
 ·refine dv 3 ?_
  refine ⟨[γ 0], rfl, congrArg (fun v : Nat => some [AV.pv (.int .i64 (v : Int))]) (?_ : _ = pk bs p n), HE.box rfl rfl HE.nil⟩
  (subst hc3; simp [pk]; done)
 refine dv 6 ?_
 refine s8s (.int .i64 (p : Int)) rfl rfl rfl (a9n rfl (by omega) (by omega) (by omega)) ?_
 refine dc 10 (fun K K' => aI ?_ ?_)<;>intro o<;>try simp at o
 ·refine dv 6 ?_
  have hj : bs[p]? = some (bs.getD (p) 0) := by rw [List.getD_eq_getElem?_getD, List.getElem?_eq_getElem (by omega)]; rfl
  have h256 := hbs _ (List.mem_of_getElem? hj)
  refine b0h (j := p) rfl rfl e7b rfl f0q rfl hj ?_
  refine dv 1 ?_
  refine c5s rfl f0q q9q rfl rfl (by omega) (dv 1 ?_)
  refine c5r rfl rfl (by omega) (dv 2 ?_)
  refine ⟨[γ 0], rfl, congrArg (fun v : Nat => some [AV.pv (.int .i64 (v : Int))]) (?_ : _ = pk bs p n), HE.box rfl rfl HE.nil⟩
  (rw [pk, if_neg (by omega), if_pos (by omega)])
 refine dv 12 ?_
 have hm0 : bs.length ≠ 0 := by intro h0; exact absurd (List.length_eq_zero_iff.1 h0) (by assumption)
 refine c5r rfl rfl hm0 ?_
 have hj1 : bs[p % bs.length]? = some (bs.getD (p % bs.length) 0) := by rw [List.getD_eq_getElem?_getD, List.getElem?_eq_getElem (Nat.mod_lt _ (by omega))]; rfl
 have h1 := hbs _ (List.mem_of_getElem? hj1)
 refine dv 2 ?_
 refine c5s rfl f0q q9q rfl rfl (by omega) (b7r (b := 131) rfl rfl (by omega) (dv 5 ?_))
 refine b7r (b := 7) rfl rfl (by omega) (x7x (b := 3) rfl rfl (by omega) (dv 5 ?_))
 refine c5r rfl rfl (by omega) ?_
 have hj2 : bs[(p * 7 + 3) % bs.length]? = some (bs.getD ((p * 7 + 3) % bs.length) 0) := by rw [List.getD_eq_getElem?_getD, List.getElem?_eq_getElem (Nat.mod_lt _ (by omega))]; rfl
 have h2 := hbs _ (List.mem_of_getElem? hj2)
 have hq := Nat.div_le_self p bs.length
 refine dv 2 ?_
 refine c5s rfl f0q q9q rfl rfl (by omega) (b7r (b := 1117) rfl rfl (by omega) (x7x rfl rfl (by omega) (dv 1 ?_)))
 refine b7r (b := 29) rfl rfl (by omega) (x7x rfl rfl (by omega) (dv 6 ?_))
 refine d0z rfl rfl (by omega) (by omega) (b7r (b := 53) rfl rfl (by omega) (x7x rfl rfl (by omega) (dv 4 ?_)))
 refine d0z (b := 64) rfl rfl (by omega) (by omega) (e7j rfl rfl (by omega) (by omega) (dv 4 ?_))
 refine c5r rfl rfl (by omega) (dv 2 ?_)
 refine ⟨[γ 0], rfl, congrArg (fun v : Nat => some [AV.pv (.int .i64 (v : Int))]) (?_ : _ = pk bs p n), HE.box rfl rfl HE.nil⟩
 (rw [pk, if_neg (by omega), if_neg (by omega)]; rfl)
theorem c2x (c c' : Bool) (l l' : List Ev) : a0p Tryz.prog 28 [a0g c l, a0g c' l'] (.pv (.bool (decide (l = l')))) := by
 refine pX Tryz.f28 [.pv (.bool (decide (l = l')))] 0 ?_
 refine w1w 0 rfl fun hlen => ?_
 refine dc 9 (fun K K' => aI ?_ ?_)<;>intro o<;>try simp at o
 ·refine dv 3 ?_
  refine x3x rfl ?_ rfl
  exact f4l (by omega)
 refine dv 5 fun K K' => ?_
 refine x5x (ι := Nat) (fun i γ1 => [(5, pI (i : Int))]) (fun i γ1 => []) (fun i => i ≤ l.length ∧ l.length = l'.length ∧ l.take i = l'.take i) (fun i => l.length - i) (r3r [0, 1] rfl) HE.nil 0 ⟨by omega, by omega, rfl⟩ [] x6x x4x rfl fun i γ1 hi => ?_
 obtain ⟨h1, h2, h3⟩ := hi
 refine dc 6 (fun K K' => aS ?_ ?_)<;>intro o<;>try simp at o
 ·refine dv 4 ?_
  refine x3x rfl ?_ rfl
  exact eqT h3 (by omega) (by omega)
 refine dv 6 fun K K' => ?_
 obtain ⟨x, hx⟩ := gE l i
 refine dv 4 ?_
 obtain ⟨y, hy⟩ := gE l' i
 refine dv 2 ?_
 refine c3i rfl rfl (by intro a c h; cases h) (.inr rfl) (f0e _ _ _ _) ?_
 refine dc 0 (aS ?_ ?_)<;>intro o<;>try simp at o
 ·refine dv 3 ?_
  refine s8s (.int .i64 ((i + 1 : Nat) : Int)) rfl rfl rfl (a9n rfl (by omega) (by omega) (by have := hlen; omega)) ?_
  refine dv 1 ?_
  exact ⟨i + 1, ⟨⟨by omega, h2, c9n h3 hx hy (by assumption)⟩, by omega⟩, [], x6x, x6x, x4x, x4x, rfl⟩
 refine dv 3 ?_
 refine x3x rfl ?_ rfl
 exact f4m hx hy (by assumption)
end
section
theorem y8y (bs : List Nat) (hbs : ∀ b ∈ bs, b < 256) (S : Sm) (c : Nat) (hS : smOk S c) (ek en ep ew : Int) (eb : Bool) (hc : c ≤ 1000000) : MethE Tryz.prog 239 5 [.ptr 0 0 0, .agg [pI ek, pI en, pI ep, pI ew, .pv (.bool eb)]] [(0, (0, .box 171 [.ptr 4 0 0, pI S.w.time, a4o true S.w.apps, .ref 1 0, .ref 2 0, pI S.w.hub.round, v8v true S.w.hub.ones, v8v true S.w.hub.twos, v8v true S.w.hub.outs, s0s true S.w.sink, .ref 3 0])), (1, (0, .row 65 13 ((S.w.nodes).map (u0u true)))), (2, (0, .row 79 11 ((S.w.radio).map (u7u true)))), (3, (0, .row 263 5 ((S.list).map a2z))), (4, (0, .box 243 [u9u true bs, .pv (.int .i64 ((S.p : Nat) : Int))]))] (ι := Sm × Bool) (fun S' => smOk S'.1 (c + 1)) (fun S' => [0, 4]) (fun S' => .pv (.bool (S'.2))) (fun S' => [(0, (0, .box 171 [.ptr 4 0 0, pI S'.1.w.time, a4o true S'.1.w.apps, .ref 1 0, .ref 2 0, pI S'.1.w.hub.round, v8v true S'.1.w.hub.ones, v8v true S'.1.w.hub.twos, v8v true S'.1.w.hub.outs, s0s true S'.1.w.sink, .ref 3 0])), (1, (0, .row 65 13 ((S'.1.w.nodes).map (u0u true)))), (2, (0, .row 79 11 ((S'.1.w.radio).map (u7u true)))), (3, (0, .row 263 5 ((S'.1.list).map a2z))), (4, (0, .box 243 [u9u true bs, .pv (.int .i64 ((S'.1.p : Nat) : Int))]))]) := by
 refine mE (ι := Sm × Bool) Tryz.f239 (fun S' => [.pv (.bool (S'.2))]) 5 4 fun γ => ?_
 have hll := hS.2.1
 refine dv 1 ?_
 refine y2y (id := 5) rfl rfl rfl (dv 1 ?_)
 refine d1s 5 (b3x v7v 0 5 rfl rfl ?_)
 refine dv 5 ?_
 refine b3x v7v 9 1 rfl rfl ?_
 refine x2x (id := 6) b4t b7p rfl (b5i c0m (by rfl) [1, 2] [_, _] (d0h S.w ek en ep ew eb hS.1) rfl rfl rfl rfl (by decide) rfl rfl f0k (fun _ => (by (simp only [pI, a2d, a2f, b8w, gl, nx, a6q, Nat.beq]; rfl))) (fun _ => (by (simp only [pI, a2d, a2f, b8w, gl, nx, a6q, Nat.beq]; rfl))) (S.w, false) ⟨hS.1, fun _ => rfl⟩ fun j hj => ?_)
 obtain ⟨hj1, hj2⟩ := hj
 refine b3y v7v 6 3 rfl rfl ?_
 refine dv 3 ?_
 refine b3y v7v 10 2 rfl rfl ?_
 refine dv 2 ?_
 refine c2d (by kernel_rfl) ?_
 refine dc 3 (fun K K' => aS ?_ ?_)<;>intro hc2<;>try simp at hc2
 ·have hb : j.2 = false := hc2
  obtain ⟨T, b⟩ := j
  obtain rfl : b = false := hb
  refine dv 5 ?_
  exact ⟨(⟨{ S.w with nodes := T.nodes }, S.list, S.p⟩, false), ⟨f0b hS.1 hj1, Nat.le_succ_of_le hll, Nat.le_succ_of_le hS.2.2⟩, [γ 0, _, γ 2, γ 3, γ 4], rfl, rfl, HE.box rfl rfl (HE.row rfl rfl (HE.row rfl (congrArg (List.map (u7u true)) (hj2 rfl)) (HE.row rfl rfl (HE.box rfl rfl HE.nil))))⟩
 have hb : j.2 = true := hc2
 obtain ⟨T, b⟩ := j
 obtain rfl : b = true := hb
 refine dv 5 ?_
 refine a0h rfl rfl b4t rfl rfl rfl rfl (s2s rfl) rfl ?_
 refine dv 7 ?_
 refine y5y (id := 7) d7b rfl a1k rfl rfl rfl rfl rfl rfl ?_
 refine y6y (zs := (S.list ++ [(⟨ek, en, ep, ew, eb⟩ : Te)]).map a2z) rfl rfl d7b rfl a1k rfl rfl rfl rfl (by rfl) (z8z a2z S.list (⟨ek, en, ep, ew, eb⟩ : Te)) (by (simp only [a0f, r7r, s3s, s6s, a0v, a3d, T263]; omega)) ?_
 refine dv 7 ?_
 exact ⟨(⟨T, S.list ++ [(⟨ek, en, ep, ew, eb⟩ : Te)], S.p⟩, true), ⟨hj1, by show (S.list ++ [_]).length ≤ _; rw [List.length_append]; exact Nat.succ_le_succ hll, Nat.le_succ_of_le hS.2.2⟩, [γ 0, _, _, _, γ 4], rfl, rfl, x4x⟩
end
section
theorem w0w (bs : List Nat) (hbs : ∀ b ∈ bs, b < 256) (S : Sm) (c : Nat) (hS : smOk S c) (m odd : Nat) (hc : c + 4 * m ≤ 1000000) : MethE Tryz.prog 280 5 [.ptr 0 0 0, .pv (.int .i64 (m : Int)), .pv (.int .i64 (odd : Int))] [(0, (0, .box 171 [.ptr 4 0 0, pI S.w.time, a4o true S.w.apps, .ref 1 0, .ref 2 0, pI S.w.hub.round, v8v true S.w.hub.ones, v8v true S.w.hub.twos, v8v true S.w.hub.outs, s0s true S.w.sink, .ref 3 0])), (1, (0, .row 65 13 ((S.w.nodes).map (u0u true)))), (2, (0, .row 79 11 ((S.w.radio).map (u7u true)))), (3, (0, .row 263 5 ((S.list).map a2z))), (4, (0, .box 243 [u9u true bs, .pv (.int .i64 ((S.p : Nat) : Int))]))] (ι := Sm) (fun S' => smOk S' (c + 4 * m)) (fun S' => [0, 4]) (fun S' => .tup []) (fun S' => [(0, (0, .box 171 [.ptr 4 0 0, pI S'.w.time, a4o true S'.w.apps, .ref 1 0, .ref 2 0, pI S'.w.hub.round, v8v true S'.w.hub.ones, v8v true S'.w.hub.twos, v8v true S'.w.hub.outs, s0s true S'.w.sink, .ref 3 0])), (1, (0, .row 65 13 ((S'.w.nodes).map (u0u true)))), (2, (0, .row 79 11 ((S'.w.radio).map (u7u true)))), (3, (0, .row 263 5 ((S'.list).map a2z))), (4, (0, .box 243 [u9u true bs, .pv (.int .i64 ((S'.p : Nat) : Int))]))]) := by
 refine mE (ι := Sm) Tryz.f280 (fun S' => []) 5 1 fun γ => ?_
 refine dv 3 ?_
 refine x5x (ι := Sm × Nat) (fun p γ1 => [(6, pI (p.2 : Int))]) (fun p γ1 => [(1, ((γ1 1), .row 65 13 ((p.1.w.nodes).map (u0u true)))), (2, ((γ1 2), .row 79 11 ((p.1.w.radio).map (u7u true)))), (3, ((γ1 3), .row 263 5 ((p.1.list).map a2z))), (0, ((γ 0), .box 171 [.ptr 4 (γ 4) 0, pI p.1.w.time, a4o true p.1.w.apps, .ref 1 (γ1 1), .ref 2 (γ1 2), pI p.1.w.hub.round, v8v true p.1.w.hub.ones, v8v true p.1.w.hub.twos, v8v true p.1.w.hub.outs, s0s true p.1.w.sink, .ref 3 (γ1 3)])), (4, ((γ 4), .box 243 [u9u true bs, pI ((p.1.p : Nat) : Int)])), (5, ((γ1 5), .dead))]) (fun p => smOk p.1 (c + 4 * p.2) ∧ p.2 ≤ m) (fun p => m - p.2) (r3r [0, 1, 2] rfl) HE.nil (S, 0) ⟨hS, Nat.zero_le _⟩ [0, _, _, _, 0, _] x6x x4x rfl fun p γ1 hi => ?_
 obtain ⟨S1, i⟩ := p
 obtain ⟨h1, h2⟩ := hi
 dsimp only at h1 h2 ⊢
 have hp := h1.2.2
 refine dc 6 (fun K K' => aS ?_ ?_)<;>intro h<;>try simp at h
 ·refine dv 9 ?_
  exact ⟨S1, h1.mono (by omega), [γ 0, _, _, _, γ 4], rfl, rfl, x4x⟩
 refine dv 5 ?_
 refine a4e (n := S1.w.radio.length) rfl p8p rfl rfl (List.length_map _) ?_
 refine dc 2 (aS ?_ ?_)<;>intro h<;>try simp at h
 ·refine dv 1 ?_
  exact ⟨S1, h1.mono (by omega), [γ 0, _, _, _, γ 4], rfl, rfl, x4x⟩
 refine dv 4 fun K K' => ?_
 refine rlB a1k a2c ?_
 refine x2x (id := 5) a1k a2c rfl (dv 1 ?_)
 refine p9p (ι := Nat × Int × Int × Bool) (fun q4 γ2 => []) (fun q4 γ2 => [(4, ((γ 4), .box 243 [u9u true bs, pI ((q4.1 : Nat) : Int)])), (5, ((γ1 5 + 1), .box 263 [pI q4.2.1, pI 0, pI 0, pI q4.2.2.1, .pv (.bool q4.2.2.2)]))]) (fun q4 => q4.1 ≤ c + 4 * i + 3) (r3r [0, 1, 2, 6, 7] rfl) (a1c [0, 1, 2, 3] rfl) ?_ fun q4 γ2 hi => ?_
 ·refine dc 4 (aS ?_ ?_)<;>intro h<;>try simp at h
  ·refine dv 9 ?_
   exact ⟨(S1.p, 4, 0, false), (by show S1.p ≤ c + 4 * i + 3; omega), [], x6x, x6x, x4x, x4x, rfl⟩
  refine dv 5 ?_
  refine rlM [4] [_] (x1x true bs (S1.p) (odd) (by have := hp; omega) hbs) rfl rfl rfl ?_
  refine dc 2 (aS ?_ ?_)<;>intro h<;>try simp at h
  ·refine dv 1 ?_
   exact ⟨(S1.p + 1, 4, 0, false), (by show S1.p + 1 ≤ c + 4 * i + 3; omega), [], x6x, x6x, x4x, x4x, rfl⟩
  refine dv 5 ?_
  refine rlM [4] [_] (x1x true bs (S1.p + 1) (4) (by have := hp; omega) hbs) rfl rfl rfl ?_
  refine dc 4 (aI ?_ ?_)<;>intro h<;>try simp at h
  ·refine dv 3 ?_
   exact ⟨(S1.p + 1 + 1, 5, 0, false), (by show S1.p + 1 + 1 ≤ c + 4 * i + 3; omega), [], x6x, x6x, x4x, x4x, rfl⟩
  refine dc 3 (aI ?_ ?_)<;>intro h<;>try simp at h
  ·refine dv 3 ?_
   exact ⟨(S1.p + 1 + 1, 4, 0, true), (by show S1.p + 1 + 1 ≤ c + 4 * i + 3; omega), [], x6x, x6x, x4x, x4x, rfl⟩
  refine dv 10 ?_
  refine a4e (n := S1.w.radio.length) rfl p8p rfl rfl (List.length_map _) ?_
  refine rlM [4] [_] (x1x true bs (S1.p + 1 + 1) (S1.w.radio.length) (by have := hp; omega) hbs) rfl rfl rfl ?_
  refine dv 2 ?_
  exact ⟨(S1.p + 1 + 1 + 1, 4, (pk bs (S1.p + 1 + 1) S1.w.radio.length : Int), false), (by show S1.p + 1 + 1 + 1 ≤ c + 4 * i + 3; omega), [], x6x, x6x, x4x, x4x, rfl⟩
 ·try dsimp only [b1n, b1o]
  obtain ⟨q, ek, ew, eb⟩ := q4
  dsimp only at hi ⊢
  refine a6j fun B X0 w0 => ?_
  refine txR 2 rfl rfl (dv 2 ?_)
  refine txM [0, 1, 2, 3, 4] [_, _, _, _, _] (y8y bs hbs (pSm S1 q) (c + 4 * i + 3) (a2w h1 (by omega) hi) ek 0 0 ew eb (by omega)) rfl rfl rfl rfl fun J hJ => ?_
  obtain ⟨j, jb⟩ := J
  have hj : smOk j (c + 4 * i + 3 + 1) := hJ
  refine z4z rfl (dv 2 ?_)
  refine x7x (b := 1) rfl rfl (by omega) (dv 1 ?_)
  exact ⟨(j, i + 1), ⟨⟨hj.mono (by show _ ≤ c + 4 * (i + 1); omega), by show i + 1 ≤ m; omega⟩, (by show m - (i + 1) < m - i; omega)⟩, [0, _, _, _, 0, _], x6x, x6x, x4x, x4x, rfl⟩
end
section
theorem a2x (bs : List Nat) (hbs : ∀ b ∈ bs, b < 256) (S : Sm) (c : Nat) (hS : smOk S c) (m : Nat) (hm : m ≤ 1000) (hc : c + (2 + m) ≤ 1000000) : MethE Tryz.prog 134 5 [.ptr 0 0 0, .pv (.int .i64 (m : Int))] [(0, (0, .box 171 [.ptr 4 0 0, pI S.w.time, a4o true S.w.apps, .ref 1 0, .ref 2 0, pI S.w.hub.round, v8v true S.w.hub.ones, v8v true S.w.hub.twos, v8v true S.w.hub.outs, s0s true S.w.sink, .ref 3 0])), (1, (0, .row 65 13 ((S.w.nodes).map (u0u true)))), (2, (0, .row 79 11 ((S.w.radio).map (u7u true)))), (3, (0, .row 263 5 ((S.list).map a2z))), (4, (0, .box 243 [u9u true bs, .pv (.int .i64 ((S.p : Nat) : Int))]))] (ι := Sm) (fun S' => smOk S' (c + (2 + m))) (fun S' => [0, 4]) (fun S' => .tup []) (fun S' => [(0, (0, .box 171 [.ptr 4 0 0, pI S'.w.time, a4o true S'.w.apps, .ref 1 0, .ref 2 0, pI S'.w.hub.round, v8v true S'.w.hub.ones, v8v true S'.w.hub.twos, v8v true S'.w.hub.outs, s0s true S'.w.sink, .ref 3 0])), (1, (0, .row 65 13 ((S'.w.nodes).map (u0u true)))), (2, (0, .row 79 11 ((S'.w.radio).map (u7u true)))), (3, (0, .row 263 5 ((S'.list).map a2z))), (4, (0, .box 243 [u9u true bs, .pv (.int .i64 ((S'.p : Nat) : Int))]))]) := by
 refine mE (ι := Sm) Tryz.f134 (fun S' => []) 5 0 fun γ => ?_
 have hp := hS.2.2
 refine dv 5 ?_
 refine rlM [4] [_] (x1x true bs (S.p) (4) (by have := hp; omega) hbs) rfl rfl rfl ?_
 refine dv 1 ?_
 obtain ⟨Pr, ePr, hPr⟩ : ∃ Pr, pk bs S.p 4 = Pr ∧ Pr ≤ 4 := ⟨_, rfl, b0v _ _ _⟩
 rw [ePr]
 refine dv 6 ?_
 refine rlM [4] [_] (x1x true bs (S.p + 1) (m) (by have := hp; omega) hbs) rfl rfl rfl ?_
 refine dv 1 ?_
 obtain ⟨N, eN, hN⟩ : ∃ N, pk bs (S.p + 1) m = N ∧ N ≤ m := ⟨_, rfl, b0v _ _ _⟩
 rw [eN]
 refine dv 1 ?_
 refine x5x (ι := Sm × Nat) (fun p γ1 => [(5, pI (p.2 : Int))]) (fun p γ1 => [(1, ((γ1 1), .row 65 13 ((p.1.w.nodes).map (u0u true)))), (2, ((γ1 2), .row 79 11 ((p.1.w.radio).map (u7u true)))), (3, ((γ1 3), .row 263 5 ((p.1.list).map a2z))), (0, ((γ 0), .box 171 [.ptr 4 (γ 4) 0, pI p.1.w.time, a4o true p.1.w.apps, .ref 1 (γ1 1), .ref 2 (γ1 2), pI p.1.w.hub.round, v8v true p.1.w.hub.ones, v8v true p.1.w.hub.twos, v8v true p.1.w.hub.outs, s0s true p.1.w.sink, .ref 3 (γ1 3)])), (4, ((γ 4), .box 243 [u9u true bs, pI ((p.1.p : Nat) : Int)]))]) (fun p => smOk p.1 (c + 2 + (N - p.2)) ∧ p.2 ≤ N) (fun p => p.2) (r3r [0, 4] rfl) HE.nil (pSm S (S.p + 1 + 1), N) ⟨a2w hS (by show _ ≤ c + 2 + (N - N); omega) (by show _ ≤ c + 2 + (N - N); omega), Nat.le_refl _⟩ [0, _, _, _] x6x x4x rfl fun p γ1 hi => ?_
 obtain ⟨S1, i⟩ := p
 obtain ⟨h1, h2⟩ := hi
 dsimp only at h1 h2 ⊢
 refine dc 4 (fun K K' => aS ?_ ?_)<;>intro h<;>try simp at h
 ·refine dv 1 ?_
  exact ⟨S1, h1.mono (by omega), [γ 0, _, _, _, γ 4], rfl, rfl, x4x⟩
 obtain ⟨i', rfl⟩ : ∃ i', i = i' + 1 := ⟨i - 1, by omega⟩
 refine dv 3 fun K K' => ?_
 refine a6j fun B X0 w0 => ?_
 refine txR 5 rfl rfl (dv 2 ?_)
 refine x0x rfl rfl rfl (a1h ..) (dv 1 ?_)
 refine rlB a1k a2c ?_
 refine txM [0, 1, 2, 3, 4] [_, _, _, _, _] (y8y bs hbs S1 (c + 2 + (N - (i' + 1))) (h1.mono (by omega)) 1 (s4s Pr) Pr 0 false (by omega)) rfl rfl rfl rfl fun J hJ => ?_
 obtain ⟨j, jb⟩ := J
 have hj : smOk j (c + 2 + (N - (i' + 1)) + 1) := hJ
 refine z4z rfl (dv 2 ?_)
 refine r0r (b := 1) rfl rfl (by omega) (by omega) (dv 1 ?_)
 exact ⟨(j, i'), ⟨⟨hj.mono (by show _ ≤ c + 2 + (N - i'); omega), by show i' ≤ N; omega⟩, (by show i' < i' + 1; omega)⟩, [0, _, _, _], x6x, x6x, x4x, x4x, rfl⟩
end
section
theorem a1u (bs : List Nat) (hbs : ∀ b ∈ bs, b < 256) (S : Sm) (c : Nat) (hS : smOk S c) (m odd : Nat) (hc : c + 195 * m ≤ 1000000) : MethE Tryz.prog 249 5 [.ptr 0 0 0, .pv (.int .i64 (m : Int)), .pv (.int .i64 (odd : Int))] [(0, (0, .box 171 [.ptr 4 0 0, pI S.w.time, a4o true S.w.apps, .ref 1 0, .ref 2 0, pI S.w.hub.round, v8v true S.w.hub.ones, v8v true S.w.hub.twos, v8v true S.w.hub.outs, s0s true S.w.sink, .ref 3 0])), (1, (0, .row 65 13 ((S.w.nodes).map (u0u true)))), (2, (0, .row 79 11 ((S.w.radio).map (u7u true)))), (3, (0, .row 263 5 ((S.list).map a2z))), (4, (0, .box 243 [u9u true bs, .pv (.int .i64 ((S.p : Nat) : Int))]))] (ι := Sm) (fun S' => smOk S' (c + 195 * m)) (fun S' => [0, 4]) (fun S' => .tup []) (fun S' => [(0, (0, .box 171 [.ptr 4 0 0, pI S'.w.time, a4o true S'.w.apps, .ref 1 0, .ref 2 0, pI S'.w.hub.round, v8v true S'.w.hub.ones, v8v true S'.w.hub.twos, v8v true S'.w.hub.outs, s0s true S'.w.sink, .ref 3 0])), (1, (0, .row 65 13 ((S'.w.nodes).map (u0u true)))), (2, (0, .row 79 11 ((S'.w.radio).map (u7u true)))), (3, (0, .row 263 5 ((S'.list).map a2z))), (4, (0, .box 243 [u9u true bs, .pv (.int .i64 ((S'.p : Nat) : Int))]))]) := by
 refine mE (ι := Sm) Tryz.f249 (fun S' => []) 5 0 fun γ => ?_
 refine dv 3 ?_
 refine x5x (ι := Sm × Nat) (fun p γ1 => [(6, pI (p.2 : Int))]) (fun p γ1 => [(1, ((γ1 1), .row 65 13 ((p.1.w.nodes).map (u0u true)))), (2, ((γ1 2), .row 79 11 ((p.1.w.radio).map (u7u true)))), (3, ((γ1 3), .row 263 5 ((p.1.list).map a2z))), (0, ((γ 0), .box 171 [.ptr 4 (γ 4) 0, pI p.1.w.time, a4o true p.1.w.apps, .ref 1 (γ1 1), .ref 2 (γ1 2), pI p.1.w.hub.round, v8v true p.1.w.hub.ones, v8v true p.1.w.hub.twos, v8v true p.1.w.hub.outs, s0s true p.1.w.sink, .ref 3 (γ1 3)])), (4, ((γ 4), .box 243 [u9u true bs, pI ((p.1.p : Nat) : Int)]))]) (fun p => smOk p.1 (c + 195 * p.2) ∧ p.2 ≤ m) (fun p => m - p.2) (r3r [0, 1, 2] rfl) HE.nil (S, 0) ⟨hS, Nat.zero_le _⟩ [0, _, _, _] x6x x4x rfl fun p γ1 hi => ?_
 obtain ⟨S1, k⟩ := p
 obtain ⟨h1, h2⟩ := hi
 dsimp only at h1 h2 ⊢
 refine dc 5 (fun K K' => aS ?_ ?_)<;>intro h<;>try simp at h
 ·refine dv 1 ?_
  exact ⟨S1, h1.mono (by omega), [γ 0, _, _, _, γ 4], rfl, rfl, x4x⟩
 refine dv 7 fun K K' K K' => ?_
 refine x5x (ι := Sm × Nat) (fun p γ2 => [(7, pI (p.2 : Int))]) (fun p γ2 => [(1, ((γ2 1), .row 65 13 ((p.1.w.nodes).map (u0u true)))), (2, ((γ2 2), .row 79 11 ((p.1.w.radio).map (u7u true)))), (3, ((γ2 3), .row 263 5 ((p.1.list).map a2z))), (0, ((γ 0), .box 171 [.ptr 4 (γ 4) 0, pI p.1.w.time, a4o true p.1.w.apps, .ref 1 (γ2 1), .ref 2 (γ2 2), pI p.1.w.hub.round, v8v true p.1.w.hub.ones, v8v true p.1.w.hub.twos, v8v true p.1.w.hub.outs, s0s true p.1.w.sink, .ref 3 (γ2 3)])), (4, ((γ 4), .box 243 [u9u true bs, pI ((p.1.p : Nat) : Int)]))]) (fun p => smOk p.1 (c + 195 * k + (30 * p.2)) ∧ p.2 ≤ 4) (fun p => 4 - p.2) (r3r [0, 1, 2, 6] rfl) HE.nil (S1, 0) ⟨h1, Nat.zero_le _⟩ [0, _, _, _] x6x x4x rfl fun p γ2 hi => ?_
 obtain ⟨S2, i⟩ := p
 obtain ⟨j1, j2⟩ := hi
 dsimp only at j1 j2 ⊢
 refine dc 4 (fun K K' => aS ?_ ?_)<;>intro h<;>try simp at h
 ·refine dv 4 ?_
  refine x5x (ι := Sm × Nat) (fun p γ5 => [(9, pI (p.2 : Int))]) (fun p γ5 => [(1, ((γ5 1), .row 65 13 ((p.1.w.nodes).map (u0u true)))), (2, ((γ5 2), .row 79 11 ((p.1.w.radio).map (u7u true)))), (3, ((γ5 3), .row 263 5 ((p.1.list).map a2z))), (0, ((γ 0), .box 171 [.ptr 4 (γ 4) 0, pI p.1.w.time, a4o true p.1.w.apps, .ref 1 (γ5 1), .ref 2 (γ5 2), pI p.1.w.hub.round, v8v true p.1.w.hub.ones, v8v true p.1.w.hub.twos, v8v true p.1.w.hub.outs, s0s true p.1.w.sink, .ref 3 (γ5 3)])), (4, ((γ 4), .box 243 [u9u true bs, pI ((p.1.p : Nat) : Int)]))]) (fun p => smOk p.1 (c + 195 * k + (120 + 25 * p.2)) ∧ p.2 ≤ 3) (fun p => 3 - p.2) (r3r [0, 1, 2, 6] rfl) HE.nil (S2, 0) ⟨j1.mono (by omega), Nat.zero_le _⟩ [0, _, _, _] x6x x4x rfl fun p γ5 hi => ?_
  obtain ⟨S4, q⟩ := p
  obtain ⟨l1, l2⟩ := hi
  dsimp only at l1 l2 ⊢
  refine dc 4 (fun K K' => aS ?_ ?_)<;>intro h<;>try simp at h
  ·refine dv 3 ?_
   refine x7x (b := 1) rfl rfl (by omega) (dv 1 ?_)
   exact ⟨(S4, k + 1), ⟨⟨l1.mono (by show _ ≤ c + 195 * (k + 1); omega), by show k + 1 ≤ m; omega⟩, (by show m - (k + 1) < m - k; omega)⟩, [0, _, _, _], x6x, x6x, x4x, x4x, rfl⟩
  refine dv 3 fun K K' => ?_
  refine r8r fun B X0 w0 => ?_
  refine txR 3 rfl rfl (dv 2 ?_)
  refine rlB a1k a2c ?_
  refine txM [0, 1, 2, 3, 4] [_, _, _, _, _] (y8y bs hbs S4 (c + 195 * k + (120 + 25 * q)) l1 2 q 0 0 false (by omega)) rfl rfl rfl rfl fun J hJ => ?_
  obtain ⟨j, jb⟩ := J
  have hj : smOk j (c + 195 * k + (120 + 25 * q) + 1) := hJ
  refine z4z rfl (a6j fun B X0 w0 => ?_)
  refine txR 2 rfl rfl (dv 2 ?_)
  refine txM [0, 1, 2, 3, 4] [_, _, _, _, _] (w0w bs hbs j (c + 195 * k + (120 + 25 * q) + 1) hj 6 odd (by omega)) rfl rfl rfl rfl fun r hr => ?_
  refine z4z rfl (dv 2 ?_)
  refine x7x (b := 1) rfl rfl (by omega) (dv 1 ?_)
  exact ⟨(r, q + 1), ⟨⟨hr.mono (by show _ ≤ c + 195 * k + (120 + 25 * (q + 1)); omega), by show q + 1 ≤ 3; omega⟩, (by show 3 - (q + 1) < 3 - q; omega)⟩, [0, _, _, _], x6x, x6x, x4x, x4x, rfl⟩
 refine dv 1 ?_
 refine p9p (ι := Sm) (fun T γ3 => []) (fun T γ3 => [(1, ((γ3 1), .row 65 13 ((T.w.nodes).map (u0u true)))), (2, ((γ3 2), .row 79 11 ((T.w.radio).map (u7u true)))), (3, ((γ3 3), .row 263 5 ((T.list).map a2z))), (0, ((γ 0), .box 171 [.ptr 4 (γ 4) 0, pI T.w.time, a4o true T.w.apps, .ref 1 (γ3 1), .ref 2 (γ3 2), pI T.w.hub.round, v8v true T.w.hub.ones, v8v true T.w.hub.twos, v8v true T.w.hub.outs, s0s true T.w.sink, .ref 3 (γ3 3)])), (4, ((γ 4), .box 243 [u9u true bs, pI ((T.p : Nat) : Int)]))]) (fun T => smOk T (c + 195 * k + (30 * i + 30))) (r3r [0, 1, 2, 6, 7] rfl) HE.nil ?_ fun T γ3 hi => ?_
 ·refine dv 4 ?_
  refine x5x (ι := Sm × Nat) (fun p γ4 => [(8, pI (p.2 : Int))]) (fun p γ4 => [(1, ((γ4 1), .row 65 13 ((p.1.w.nodes).map (u0u true)))), (2, ((γ4 2), .row 79 11 ((p.1.w.radio).map (u7u true)))), (3, ((γ4 3), .row 263 5 ((p.1.list).map a2z))), (0, ((γ 0), .box 171 [.ptr 4 (γ 4) 0, pI p.1.w.time, a4o true p.1.w.apps, .ref 1 (γ4 1), .ref 2 (γ4 2), pI p.1.w.hub.round, v8v true p.1.w.hub.ones, v8v true p.1.w.hub.twos, v8v true p.1.w.hub.outs, s0s true p.1.w.sink, .ref 3 (γ4 3)])), (4, ((γ 4), .box 243 [u9u true bs, pI ((p.1.p : Nat) : Int)]))]) (fun p => smOk p.1 (c + 195 * k + (30 * i + p.2)) ∧ p.2 ≤ 30) (fun p => 30 - p.2) (r3r [0, 1, 2, 6, 7] rfl) HE.nil (S2, 0) ⟨j1, Nat.zero_le _⟩ [0, _, _, _] x6x x4x rfl fun p γ4 hi => ?_
  obtain ⟨S3, q⟩ := p
  obtain ⟨k1, k2⟩ := hi
  dsimp only at k1 k2 ⊢
  refine dv 1 fun K K' => ?_
  refine r8r fun B X0 w0 => ?_
  refine txR 3 rfl rfl (dv 3 ?_)
  refine f3x 21 rfl ?_ ?_<;>intro h<;>try simp at h
  rotate_left
  ·refine txR 7 rfl rfl (dv 7 ?_)
   refine z4z rfl (dv 2 ?_)
   exact ⟨S3, (k1.mono (by omega)), [0, _, _, _], x6x, x6x, x4x, x4x, rfl⟩
  refine txR 5 rfl rfl (dv 2 ?_)
  refine x0x rfl rfl rfl (a1h ..) (dv 1 ?_)
  refine rlB a1k a2c ?_
  refine e0n [0, 1, 2, 3, 4] [_, _, _, _, _] (y8y bs hbs S3 (c + 195 * k + (30 * i + q)) k1 1 (s4s i) i 0 false (by omega)) rfl rfl rfl rfl rfl rfl rfl (by decide) rfl rfl f0k (fun _ => (by (simp only [pI, a2d, a2f, b8w, gl, nx, a6q, Nat.beq]; rfl))) (fun _ => (by (simp only [pI, a2d, a2f, b8w, gl, nx, a6q, Nat.beq]; rfl))) fun J hJ => ?_
  obtain ⟨j, jb⟩ := J
  have hj : smOk j (c + 195 * k + (30 * i + q) + 1) := hJ
  refine txR 1 rfl rfl (dv 1 ?_)
  refine z4z rfl (dc 0 (aS ?_ ?_))<;>intro h<;>try simp at h
  ·refine dv 1 ?_
   exact ⟨j, (hj.mono (by omega)), [0, _, _, _], x6x, x6x, x4x, x4x, rfl⟩
  refine dv 6 ?_
  refine x7x (b := 1) rfl rfl (by omega) (dv 1 ?_)
  exact ⟨(j, q + 1), ⟨⟨hj.mono (by show _ ≤ c + 195 * k + (30 * i + (q + 1)); omega), by show q + 1 ≤ 30; omega⟩, (by show 30 - (q + 1) < 30 - q; omega)⟩, [0, _, _, _], x6x, x6x, x4x, x4x, rfl⟩
 ·try dsimp only [b1n, b1o]
  refine dv 2 ?_
  refine x7x (b := 1) rfl rfl (by omega) (dv 1 ?_)
  exact ⟨(T, i + 1), ⟨⟨hi.mono (by show _ ≤ c + 195 * k + 30 * (i + 1); omega), by show i + 1 ≤ 4; omega⟩, (by show 4 - (i + 1) < 4 - i; omega)⟩, [0, _, _, _], x6x, x6x, x4x, x4x, rfl⟩
end
section
theorem b8o (bs : List Nat) (hbs : ∀ b ∈ bs, b < 256) (S : Sm) (c : Nat) (hS : smOk S c)  (hc : c + 960 ≤ 1000000) : MethE Tryz.prog 289 5 [.ptr 0 0 0] [(0, (0, .box 171 [.ptr 4 0 0, pI S.w.time, a4o true S.w.apps, .ref 1 0, .ref 2 0, pI S.w.hub.round, v8v true S.w.hub.ones, v8v true S.w.hub.twos, v8v true S.w.hub.outs, s0s true S.w.sink, .ref 3 0])), (1, (0, .row 65 13 ((S.w.nodes).map (u0u true)))), (2, (0, .row 79 11 ((S.w.radio).map (u7u true)))), (3, (0, .row 263 5 ((S.list).map a2z))), (4, (0, .box 243 [u9u true bs, .pv (.int .i64 ((S.p : Nat) : Int))]))] (ι := Sm) (fun S' => smOk S' (c + 960)) (fun S' => [0, 4]) (fun S' => .tup []) (fun S' => [(0, (0, .box 171 [.ptr 4 0 0, pI S'.w.time, a4o true S'.w.apps, .ref 1 0, .ref 2 0, pI S'.w.hub.round, v8v true S'.w.hub.ones, v8v true S'.w.hub.twos, v8v true S'.w.hub.outs, s0s true S'.w.sink, .ref 3 0])), (1, (0, .row 65 13 ((S'.w.nodes).map (u0u true)))), (2, (0, .row 79 11 ((S'.w.radio).map (u7u true)))), (3, (0, .row 263 5 ((S'.list).map a2z))), (4, (0, .box 243 [u9u true bs, .pv (.int .i64 ((S'.p : Nat) : Int))]))]) := by
 refine mE (ι := Sm) Tryz.f289 (fun S' => []) 5 0 fun γ => ?_
 refine r8r fun B X0 w0 => ?_
 refine txR 7 rfl rfl (dv 5 ?_)
 refine rlM [4] [_] (x1x true bs (S.p) (3) (by have := hS.2.2; omega) hbs) rfl rfl rfl ?_
 obtain ⟨N, eN, hN⟩ : ∃ N, pk bs S.p 3 = N ∧ N ≤ 3 := ⟨_, rfl, b0v _ _ _⟩
 rw [eN]
 refine x7x (a := 1) rfl rfl (by omega) ?_
 refine txM [0, 1, 2, 3, 4] [_, _, _, _, _] (a1u bs hbs (pSm S (S.p + 1)) (c + 1) (a2w hS (by omega) (by have := hS.2.2; omega)) (1 + N) 0 (by omega)) rfl rfl rfl rfl fun a ha => ?_
 have ha2 : smOk a (c + 781) := ha.mono (by omega)
 refine z4z rfl (r8r fun B X0 w0 => ?_)
 refine txR 2 rfl rfl (dv 1 ?_)
 refine rlB a1k a2c ?_
 refine txM [0, 1, 2, 3, 4] [_, _, _, _, _] (y8y bs hbs a (c + 781) ha2 3 0 0 0 false (by omega)) rfl rfl rfl rfl fun J hJ => ?_
 obtain ⟨j, jb⟩ := J
 have hj : smOk j (c + 781 + 1) := hJ
 refine z4z rfl (r8r fun B X0 w0 => ?_)
 refine txR 6 rfl rfl (dv 5 ?_)
 refine rlM [4] [_] (x1x true bs (j.p) (12) (by have := hj.2.2; omega) hbs) rfl rfl rfl ?_
 refine txM [0, 1, 2, 3, 4] [_, _, _, _, _] (w0w bs hbs (pSm j (j.p + 1)) (c + 783) (a2w hj (by omega) (by have := hj.2.2; omega)) (pk bs j.p 12) 0 (by have := b0v bs j.p 12; omega)) rfl rfl rfl rfl fun b hb => ?_
 have hb2 : smOk b (c + 831) := hb.mono (by have := b0v bs j.p 12; omega)
 refine z4z rfl (dv 5 ?_)
 refine rlM [4] [_] (x1x true bs (b.p) (3) (by have := hb2.2.2; omega) hbs) rfl rfl rfl ?_
 refine dv 1 ?_
 obtain ⟨Pr, ePr, hPr⟩ : ∃ Pr, pk bs b.p 3 = Pr ∧ Pr ≤ 3 := ⟨_, rfl, b0v _ _ _⟩
 rw [ePr]
 refine r8r fun B X0 w0 => ?_
 refine txR 3 rfl rfl (dv 2 ?_)
 refine rlB a1k a2c ?_
 refine txM [0, 1, 2, 3, 4] [_, _, _, _, _] (y8y bs hbs (pSm b (b.p + 1)) (c + 832) (a2w hb2 (by omega) (by have := hb2.2.2; omega)) 6 Pr 0 0 false (by omega)) rfl rfl rfl rfl fun J hJ => ?_
 obtain ⟨j, jb⟩ := J
 have hj : smOk j (c + 832 + 1) := hJ
 refine z4z rfl ?_
 refine p9p (ι := Sm) (fun T γ1 => []) (fun T γ1 => [(1, ((γ1 1), .row 65 13 ((T.w.nodes).map (u0u true)))), (2, ((γ1 2), .row 79 11 ((T.w.radio).map (u7u true)))), (3, ((γ1 3), .row 263 5 ((T.list).map a2z))), (0, ((γ 0), .box 171 [.ptr 4 (γ 4) 0, pI T.w.time, a4o true T.w.apps, .ref 1 (γ1 1), .ref 2 (γ1 2), pI T.w.hub.round, v8v true T.w.hub.ones, v8v true T.w.hub.twos, v8v true T.w.hub.outs, s0s true T.w.sink, .ref 3 (γ1 3)])), (4, ((γ 4), .box 243 [u9u true bs, pI ((T.p : Nat) : Int)]))]) (fun T => smOk T (c + 839)) (x8x 0 rfl Cov.nil) HE.nil ?_ fun T γ1 hi => ?_
 ·refine dv 5 ?_
  refine rlM [4] [_] (x1x true bs (j.p) (4) (by have := hj.2.2; omega) hbs) rfl rfl rfl ?_
  refine dc 1 (aS ?_ ?_)<;>intro h<;>try simp at h
  ·refine dv 1 ?_
   exact ⟨(pSm j (j.p + 1)), (a2w hj (by omega) (by have := hj.2.2; omega)), [0, _, _, _], x6x, x6x, x4x, x4x, rfl⟩
  refine r8r fun B X0 w0 => ?_
  refine txR 3 rfl rfl (dv 2 ?_)
  refine rlB a1k a2c ?_
  refine txM [0, 1, 2, 3, 4] [_, _, _, _, _] (y8y bs hbs (pSm j (j.p + 1)) (c + 834) (a2w hj (by omega) (by have := hj.2.2; omega)) 7 Pr 0 0 false (by omega)) rfl rfl rfl rfl fun J hJ => ?_
  obtain ⟨j, jb⟩ := J
  have hj : smOk j (c + 834 + 1) := hJ
  refine z4z rfl (r8r fun B X0 w0 => ?_)
  refine txR 3 rfl rfl (dv 2 ?_)
  refine rlB a1k a2c ?_
  refine txM [0, 1, 2, 3, 4] [_, _, _, _, _] (y8y bs hbs j (c + 834 + 1) hj 2 Pr 0 0 false (by omega)) rfl rfl rfl rfl fun J hJ => ?_
  obtain ⟨j, jb⟩ := J
  have hj : smOk j (c + 834 + 1 + 1) := hJ
  refine z4z rfl (dv 5 ?_)
  refine rlM [4] [_] (x1x true bs (j.p) (2) (by have := hj.2.2; omega) hbs) rfl rfl rfl ?_
  refine dc 1 (aS ?_ ?_)<;>intro h<;>try simp at h
  ·refine dv 1 ?_
   exact ⟨(pSm j (j.p + 1)), (a2w hj (by omega) (by have := hj.2.2; omega)), [0, _, _, _], x6x, x6x, x4x, x4x, rfl⟩
  refine r8r fun B X0 w0 => ?_
  refine txR 9 rfl rfl (dv 6 ?_)
  refine a4e (n := j.w.radio.length) rfl p8p rfl rfl (List.length_map _) ?_
  have hr40 := hj.1.2.2.2.1
  refine s8s (.int .i64 ((j.w.radio.length : Int) - 1)) rfl rfl rfl (a9n rfl (by omega) (by omega) (by omega)) ?_
  refine rlB a1k a2c ?_
  refine txM [0, 1, 2, 3, 4] [_, _, _, _, _] (y8y bs hbs (pSm j (j.p + 1)) (c + 837) (a2w hj (by omega) (by have := hj.2.2; omega)) 4 0 0 ((j.w.radio.length : Int) - 1) false (by omega)) rfl rfl rfl rfl fun J hJ => ?_
  obtain ⟨j, jb⟩ := J
  have hj : smOk j (c + 837 + 1) := hJ
  refine z4z rfl (a6j fun B X0 w0 => ?_)
  refine txR 9 rfl rfl (dv 6 ?_)
  refine a4e (n := j.w.radio.length) rfl p8p rfl rfl (List.length_map _) ?_
  have hr40 := hj.1.2.2.2.1
  refine s8s (.int .i64 ((j.w.radio.length : Int) - 1)) rfl rfl rfl (a9n rfl (by omega) (by omega) (by omega)) ?_
  refine rlB a1k a2c ?_
  refine txM [0, 1, 2, 3, 4] [_, _, _, _, _] (y8y bs hbs j (c + 837 + 1) hj 4 0 0 ((j.w.radio.length : Int) - 1) false (by omega)) rfl rfl rfl rfl fun J hJ => ?_
  obtain ⟨j, jb⟩ := J
  have hj : smOk j (c + 837 + 1 + 1) := hJ
  refine z4z rfl ?_
  exact ⟨j, (hj.mono (by omega)), [0, _, _, _], x6x, x6x, x4x, x4x, rfl⟩
 ·try dsimp only [b1n, b1o]
  refine a6j fun B X0 w0 => ?_
  refine txR 1 rfl rfl (dv 1 ?_)
  refine txM [0, 1, 2, 3, 4] [_, _, _, _, _] (w0w bs hbs T (c + 839) hi 30 6 (by omega)) rfl rfl rfl rfl fun r hr => ?_
  refine z4z rfl ?_
  exact ⟨.inl rfl, r, hr.mono (by omega), [γ 0, _, _, _, γ 4], rfl, rfl, x4x⟩
end
section
theorem a7z (bs : List Nat) (hbs : ∀ b ∈ bs, b < 256) (S : Sm) (c : Nat) (hS : smOk S c) (odd : Nat) (hc : c + 281 ≤ 1000000) : MethE Tryz.prog 215 5 [.ptr 0 0 0, .pv (.int .i64 (odd : Int))] [(0, (0, .box 171 [.ptr 4 0 0, pI S.w.time, a4o true S.w.apps, .ref 1 0, .ref 2 0, pI S.w.hub.round, v8v true S.w.hub.ones, v8v true S.w.hub.twos, v8v true S.w.hub.outs, s0s true S.w.sink, .ref 3 0])), (1, (0, .row 65 13 ((S.w.nodes).map (u0u true)))), (2, (0, .row 79 11 ((S.w.radio).map (u7u true)))), (3, (0, .row 263 5 ((S.list).map a2z))), (4, (0, .box 243 [u9u true bs, .pv (.int .i64 ((S.p : Nat) : Int))]))] (ι := Sm) (fun S' => smOk S' (c + 281)) (fun S' => [0, 4]) (fun S' => .tup []) (fun S' => [(0, (0, .box 171 [.ptr 4 0 0, pI S'.w.time, a4o true S'.w.apps, .ref 1 0, .ref 2 0, pI S'.w.hub.round, v8v true S'.w.hub.ones, v8v true S'.w.hub.twos, v8v true S'.w.hub.outs, s0s true S'.w.sink, .ref 3 0])), (1, (0, .row 65 13 ((S'.w.nodes).map (u0u true)))), (2, (0, .row 79 11 ((S'.w.radio).map (u7u true)))), (3, (0, .row 263 5 ((S'.list).map a2z))), (4, (0, .box 243 [u9u true bs, .pv (.int .i64 ((S'.p : Nat) : Int))]))]) := by
 refine mE (ι := Sm) Tryz.f215 (fun S' => []) 5 0 fun γ => ?_
 refine dv 4 fun K K' => ?_
 refine x5x (ι := Sm × Nat) (fun p γ1 => [(4, pI (p.2 : Int))]) (fun p γ1 => [(1, ((γ1 1), .row 65 13 ((p.1.w.nodes).map (u0u true)))), (2, ((γ1 2), .row 79 11 ((p.1.w.radio).map (u7u true)))), (3, ((γ1 3), .row 263 5 ((p.1.list).map a2z))), (0, ((γ 0), .box 171 [.ptr 4 (γ 4) 0, pI p.1.w.time, a4o true p.1.w.apps, .ref 1 (γ1 1), .ref 2 (γ1 2), pI p.1.w.hub.round, v8v true p.1.w.hub.ones, v8v true p.1.w.hub.twos, v8v true p.1.w.hub.outs, s0s true p.1.w.sink, .ref 3 (γ1 3)])), (4, ((γ 4), .box 243 [u9u true bs, pI ((p.1.p : Nat) : Int)]))]) (fun p => smOk p.1 (c + 7 * p.2) ∧ p.2 ≤ 4) (fun p => 4 - p.2) (r3r [0, 1] rfl) HE.nil (S, 0) ⟨hS, Nat.zero_le _⟩ [0, _, _, _] x6x x4x rfl fun p γ1 hi => ?_
 obtain ⟨S1, k⟩ := p
 obtain ⟨h1, h2⟩ := hi
 dsimp only at h1 h2 ⊢
 have hp := h1.2.2
 refine dc 4 (fun K K' => aI ?_ ?_)<;>intro h<;>try simp at h
 ·refine dv 8 fun K K' => ?_
  refine rlM [4] [_] (x1x true bs (S1.p) (6) (by have := hp; omega) hbs) rfl rfl rfl ?_
  refine dv 1 ?_
  obtain ⟨N, eN, hN⟩ : ∃ N, pk bs S1.p 6 = N ∧ N ≤ 6 := ⟨_, rfl, b0v _ _ _⟩
  rw [eN]
  refine dv 1 ?_
  refine x5x (ι := Sm × Nat) (fun p γ2 => [(5, pI (p.2 : Int))]) (fun p γ2 => [(1, ((γ2 1), .row 65 13 ((p.1.w.nodes).map (u0u true)))), (2, ((γ2 2), .row 79 11 ((p.1.w.radio).map (u7u true)))), (3, ((γ2 3), .row 263 5 ((p.1.list).map a2z))), (0, ((γ 0), .box 171 [.ptr 4 (γ 4) 0, pI p.1.w.time, a4o true p.1.w.apps, .ref 1 (γ2 1), .ref 2 (γ2 2), pI p.1.w.hub.round, v8v true p.1.w.hub.ones, v8v true p.1.w.hub.twos, v8v true p.1.w.hub.outs, s0s true p.1.w.sink, .ref 3 (γ2 3)])), (4, ((γ 4), .box 243 [u9u true bs, pI ((p.1.p : Nat) : Int)]))]) (fun p => smOk p.1 (c + 7 * k + 1 + (N - p.2)) ∧ p.2 ≤ N) (fun p => p.2) (r3r [0, 1, 4] rfl) HE.nil (pSm S1 (S1.p + 1), N) ⟨a2w h1 (by show _ ≤ c + 7 * k + 1 + (N - N); omega) (by show _ ≤ c + 7 * k + 1 + (N - N); omega), Nat.le_refl _⟩ [0, _, _, _] x6x x4x rfl fun p γ2 hi => ?_
  obtain ⟨S2, i⟩ := p
  obtain ⟨j1, j2⟩ := hi
  dsimp only at j1 j2 ⊢
  refine dc 4 (fun K K' => aS ?_ ?_)<;>intro h<;>try simp at h
  ·refine dv 3 ?_
   refine x7x (b := 1) rfl rfl (by omega) (dv 1 ?_)
   exact ⟨(S2, k + 1), ⟨⟨j1.mono (by show _ ≤ c + 7 * (k + 1); omega), by show k + 1 ≤ 4; omega⟩, (by show 4 - (k + 1) < 4 - k; omega)⟩, [0, _, _, _], x6x, x6x, x4x, x4x, rfl⟩
  obtain ⟨i', rfl⟩ : ∃ i', i = i' + 1 := ⟨i - 1, by omega⟩
  refine dv 3 fun K K' => ?_
  refine a6j fun B X0 w0 => ?_
  refine txR 5 rfl rfl (dv 2 ?_)
  refine x0x rfl rfl rfl (a1h ..) (dv 1 ?_)
  refine rlB a1k a2c ?_
  refine txM [0, 1, 2, 3, 4] [_, _, _, _, _] (y8y bs hbs S2 (c + 7 * k + 1 + (N - (i' + 1))) (j1.mono (by omega)) 1 (s4s k) k 0 false (by omega)) rfl rfl rfl rfl fun J hJ => ?_
  obtain ⟨j, jb⟩ := J
  have hj : smOk j (c + 7 * k + 1 + (N - (i' + 1)) + 1) := hJ
  refine z4z rfl (dv 2 ?_)
  refine r0r (b := 1) rfl rfl (by omega) (by omega) (dv 1 ?_)
  exact ⟨(j, i'), ⟨⟨hj.mono (by show _ ≤ c + 7 * k + 1 + (N - i'); omega), by show i' ≤ N; omega⟩, (by show i' < i' + 1; omega)⟩, [0, _, _, _], x6x, x6x, x4x, x4x, rfl⟩
 refine dv 5 fun K K' => ?_
 refine x5x (ι := Sm × Nat) (fun p γ3 => [(6, pI (p.2 : Int))]) (fun p γ3 => [(1, ((γ3 1), .row 65 13 ((p.1.w.nodes).map (u0u true)))), (2, ((γ3 2), .row 79 11 ((p.1.w.radio).map (u7u true)))), (3, ((γ3 3), .row 263 5 ((p.1.list).map a2z))), (0, ((γ 0), .box 171 [.ptr 4 (γ 4) 0, pI p.1.w.time, a4o true p.1.w.apps, .ref 1 (γ3 1), .ref 2 (γ3 2), pI p.1.w.hub.round, v8v true p.1.w.hub.ones, v8v true p.1.w.hub.twos, v8v true p.1.w.hub.outs, s0s true p.1.w.sink, .ref 3 (γ3 3)])), (4, ((γ 4), .box 243 [u9u true bs, pI ((p.1.p : Nat) : Int)]))]) (fun p => smOk p.1 (c + 28 + p.2) ∧ p.2 ≤ 3) (fun p => 3 - p.2) (r3r [0, 1] rfl) HE.nil (S1, 0) ⟨h1.mono (by omega), Nat.zero_le _⟩ [0, _, _, _] x6x x4x rfl fun p γ3 hi => ?_
 obtain ⟨S3, q⟩ := p
 obtain ⟨k1, k2⟩ := hi
 dsimp only at k1 k2 ⊢
 refine dc 4 (fun K K' => aI ?_ ?_)<;>intro h<;>try simp at h
 ·refine dv 3 fun K K' => ?_
  refine a6j fun B X0 w0 => ?_
  refine txR 3 rfl rfl (dv 2 ?_)
  refine rlB a1k a2c ?_
  refine txM [0, 1, 2, 3, 4] [_, _, _, _, _] (y8y bs hbs S3 (c + 28 + q) k1 2 q 0 0 false (by omega)) rfl rfl rfl rfl fun J hJ => ?_
  obtain ⟨j, jb⟩ := J
  have hj : smOk j (c + 28 + q + 1) := hJ
  refine z4z rfl (dv 2 ?_)
  refine x7x (b := 1) rfl rfl (by omega) (dv 1 ?_)
  exact ⟨(j, q + 1), ⟨⟨hj.mono (by show _ ≤ c + 28 + (q + 1); omega), by show q + 1 ≤ 3; omega⟩, (by show 3 - (q + 1) < 3 - q; omega)⟩, [0, _, _, _], x6x, x6x, x4x, x4x, rfl⟩
 refine dv 1 ?_
 refine r8r fun B X0 w0 => ?_
 refine txR 1 rfl rfl (dv 1 ?_)
 refine txM [0, 1, 2, 3, 4] [_, _, _, _, _] (w0w bs hbs S3 (c + 28 + 3) (k1.mono (by omega)) 30 0 (by omega)) rfl rfl rfl rfl fun b hb => ?_
 refine z4z rfl (r8r fun B X0 w0 => ?_)
 refine txR 2 rfl rfl (dv 1 ?_)
 refine rlB a1k a2c ?_
 refine txM [0, 1, 2, 3, 4] [_, _, _, _, _] (y8y bs hbs b (c + 28 + 3 + 4 * 30) hb 3 0 0 0 false (by omega)) rfl rfl rfl rfl fun J hJ => ?_
 obtain ⟨j, jb⟩ := J
 have hj : smOk j (c + 28 + 3 + 4 * 30 + 1) := hJ
 refine z4z rfl (a6j fun B X0 w0 => ?_)
 refine txR 8 rfl rfl (dv 5 ?_)
 refine rlM [4] [_] (x1x true bs (j.p) (30) (by have := hj.2.2; omega) hbs) rfl rfl rfl ?_
 obtain ⟨N, eN, hN⟩ : ∃ N, pk bs j.p 30 = N ∧ N ≤ 30 := ⟨_, rfl, b0v _ _ _⟩
 rw [eN]
 refine x7x (a := 2) rfl rfl (by omega) (dv 1 ?_)
 refine txM [0, 1, 2, 3, 4] [_, _, _, _, _] (w0w bs hbs (pSm j (j.p + 1)) (c + 28 + 3 + 4 * 30 + 1 + 1) (a2w hj (by omega) (by have := hj.2.2; omega)) (2 + N) odd (by omega)) rfl rfl rfl rfl fun r hr => ?_
 refine z4z rfl ?_
 exact ⟨.inl rfl, r, hr.mono (by omega), [γ 0, _, _, _, γ 4], rfl, rfl, x4x⟩
end
section
theorem b7g (bs : List Nat) (hbs : ∀ b ∈ bs, b < 256) (S : Sm) (c : Nat) (hS : smOk S c)  (hc : c + 1030 ≤ 1000000) : MethE Tryz.prog 288 5 [.ptr 0 0 0] [(0, (0, .box 171 [.ptr 4 0 0, pI S.w.time, a4o true S.w.apps, .ref 1 0, .ref 2 0, pI S.w.hub.round, v8v true S.w.hub.ones, v8v true S.w.hub.twos, v8v true S.w.hub.outs, s0s true S.w.sink, .ref 3 0])), (1, (0, .row 65 13 ((S.w.nodes).map (u0u true)))), (2, (0, .row 79 11 ((S.w.radio).map (u7u true)))), (3, (0, .row 263 5 ((S.list).map a2z))), (4, (0, .box 243 [u9u true bs, .pv (.int .i64 ((S.p : Nat) : Int))]))] (ι := Sm) (fun S' => smOk S' (c + 1030)) (fun S' => [0, 4]) (fun S' => .tup []) (fun S' => [(0, (0, .box 171 [.ptr 4 0 0, pI S'.w.time, a4o true S'.w.apps, .ref 1 0, .ref 2 0, pI S'.w.hub.round, v8v true S'.w.hub.ones, v8v true S'.w.hub.twos, v8v true S'.w.hub.outs, s0s true S'.w.sink, .ref 3 0])), (1, (0, .row 65 13 ((S'.w.nodes).map (u0u true)))), (2, (0, .row 79 11 ((S'.w.radio).map (u7u true)))), (3, (0, .row 263 5 ((S'.list).map a2z))), (4, (0, .box 243 [u9u true bs, .pv (.int .i64 ((S'.p : Nat) : Int))]))]) := by
 refine mE (ι := Sm) Tryz.f288 (fun S' => []) 5 0 fun γ => ?_
 refine r8r fun B X0 w0 => ?_
 refine txR 7 rfl rfl (dv 5 ?_)
 refine rlM [4] [_] (x1x true bs (S.p) (2) (by have := hS.2.2; omega) hbs) rfl rfl rfl ?_
 obtain ⟨N, eN, hN⟩ : ∃ N, pk bs S.p 2 = N ∧ N ≤ 2 := ⟨_, rfl, b0v _ _ _⟩
 rw [eN]
 refine x7x (a := 1) rfl rfl (by omega) ?_
 refine txM [0, 1, 2, 3, 4] [_, _, _, _, _] (a1u bs hbs (pSm S (S.p + 1)) (c + 1) (a2w hS (by omega) (by have := hS.2.2; omega)) (1 + N) 0 (by omega)) rfl rfl rfl rfl fun a ha => ?_
 have ha2 : smOk a (c + 586) := ha.mono (by omega)
 refine z4z rfl (r8r fun B X0 w0 => ?_)
 refine txR 1 rfl rfl (dv 1 ?_)
 refine txM [0, 1, 2, 3, 4] [_, _, _, _, _] (a7z bs hbs a (c + 586) ha2 0 (by omega)) rfl rfl rfl rfl fun b hb => ?_
 refine z4z rfl (r8r fun B X0 w0 => ?_)
 refine txR 2 rfl rfl (dv 1 ?_)
 refine rlB a1k a2c ?_
 refine txM [0, 1, 2, 3, 4] [_, _, _, _, _] (y8y bs hbs b (c + 586 + 281) hb 3 0 0 0 false (by omega)) rfl rfl rfl rfl fun J hJ => ?_
 obtain ⟨j, jb⟩ := J
 have hj : smOk j (c + 586 + 281 + 1) := hJ
 refine z4z rfl (dv 6 ?_)
 refine a4e (n := j.w.radio.length) rfl p8p rfl rfl (List.length_map _) ?_
 refine dc 5 (fun K K' => aI ?_ ?_)<;>intro h<;>try simp at h
 ·refine dv 1 ?_
  exact ⟨j, hj.mono (by omega), [γ 0, _, _, _, γ 4], rfl, rfl, x4x⟩
 have hr40 := hj.1.2.2.2.1
 refine dv 3 ?_
 refine r0r (b := 2) rfl rfl (by omega) (by omega) (dv 4 ?_)
 refine rlM [4] [_] (x1x true bs (j.p) (2) (by have := hj.2.2; omega) hbs) rfl rfl rfl ?_
 obtain ⟨X, eX, hX⟩ : ∃ X, pk bs j.p 2 = X ∧ X < 2 := ⟨_, rfl, a3e _ _ _ (by omega)⟩
 rw [eX]
 refine x7x rfl rfl (by have := hj.1.2.2.2.1; omega) ?_
 refine dv 1 ?_
 obtain ⟨z, ez, hz⟩ : ∃ z, j.w.radio.length - 2 + X = z ∧ z < j.w.radio.length := ⟨_, rfl, by omega⟩
 rw [ez]
 obtain ⟨x, hx⟩ := gE j.w.radio z
 refine dv 7 ?_
 refine z0z (j := z) rfl rfl p8p rfl w2w rfl rfl hz ?_
 refine dv 3 ?_
 refine r8r fun B X0 w0 => ?_
 refine txR 3 rfl rfl (dv 2 ?_)
 refine rlB a1k a2c ?_
 refine txM [0, 1, 2, 3, 4] [_, _, _, _, _] (y8y bs hbs (pSm j (j.p + 1)) (c + 869) (a2w hj (by omega) (by have := hj.2.2; omega)) 4 0 0 z true (by omega)) rfl rfl rfl rfl fun J hJ => ?_
 obtain ⟨j, jb⟩ := J
 have hj : smOk j (c + 869 + 1) := hJ
 refine z4z rfl ?_
 refine p9p (ι := Sm) (fun T γ1 => []) (fun T γ1 => [(1, ((γ1 1), .row 65 13 ((T.w.nodes).map (u0u true)))), (2, ((γ1 2), .row 79 11 ((T.w.radio).map (u7u true)))), (3, ((γ1 3), .row 263 5 ((T.list).map a2z))), (0, ((γ 0), .box 171 [.ptr 4 (γ 4) 0, pI T.w.time, a4o true T.w.apps, .ref 1 (γ1 1), .ref 2 (γ1 2), pI T.w.hub.round, v8v true T.w.hub.ones, v8v true T.w.hub.twos, v8v true T.w.hub.outs, s0s true T.w.sink, .ref 3 (γ1 3)])), (4, ((γ 4), .box 243 [u9u true bs, pI ((T.p : Nat) : Int)]))]) (fun T => smOk T (c + 892)) (r3r [0, 4] rfl) HE.nil ?_ fun T γ1 hi => ?_
 ·refine dv 3 ?_
  refine x5x (ι := Sm × Nat) (fun p γ2 => [(5, pI (p.2 : Int))]) (fun p γ2 => [(1, ((γ2 1), .row 65 13 ((p.1.w.nodes).map (u0u true)))), (2, ((γ2 2), .row 79 11 ((p.1.w.radio).map (u7u true)))), (3, ((γ2 3), .row 263 5 ((p.1.list).map a2z))), (0, ((γ 0), .box 171 [.ptr 4 (γ 4) 0, pI p.1.w.time, a4o true p.1.w.apps, .ref 1 (γ2 1), .ref 2 (γ2 2), pI p.1.w.hub.round, v8v true p.1.w.hub.ones, v8v true p.1.w.hub.twos, v8v true p.1.w.hub.outs, s0s true p.1.w.sink, .ref 3 (γ2 3)])), (4, ((γ 4), .box 243 [u9u true bs, pI ((p.1.p : Nat) : Int)]))]) (fun p => smOk p.1 (c + 870 + 2 * p.2) ∧ p.2 ≤ 10) (fun p => 10 - p.2) (r3r [0, 3, 4] rfl) HE.nil (j, 0) ⟨hj.mono (by omega), Nat.zero_le _⟩ [0, _, _, _] x6x x4x rfl fun p γ2 hi => ?_
  obtain ⟨S1, i⟩ := p
  obtain ⟨h1, h2⟩ := hi
  dsimp only at h1 h2 ⊢
  refine dv 7 fun K K' => ?_
  refine rlM [4] [_] (x1x true bs (S1.p) (4) (by have := h1.2.2; omega) hbs) rfl rfl rfl ?_
  obtain ⟨N6, eN6, hN6⟩ : ∃ N6, pk bs S1.p 4 = N6 ∧ N6 ≤ 4 := ⟨_, rfl, b0v _ _ _⟩
  rw [eN6]
  refine x7x (a := 6) rfl rfl (by omega) (dc 2 (aS ?_ ?_))<;>intro h<;>try simp at h
  ·refine dv 11 ?_
   exact ⟨(pSm S1 (S1.p + 1)), (a2w h1 (by omega) (by have := h1.2.2; omega)), [0, _, _, _], x6x, x6x, x4x, x4x, rfl⟩
  refine dv 5 ?_
  refine a4e (n := S1.w.radio.length) rfl p8p rfl rfl (List.length_map _) ?_
  refine dv 1 ?_
  refine x7x (b := 1) rfl rfl (by omega) (dc 2 (aS ?_ ?_))<;>intro h<;>try simp at h
  ·refine dv 1 ?_
   exact ⟨(pSm S1 (S1.p + 1)), (a2w h1 (by omega) (by have := h1.2.2; omega)), [0, _, _, _], x6x, x6x, x4x, x4x, rfl⟩
  refine dv 3 fun K K' => ?_
  refine a6j fun B X0 w0 => ?_
  refine txR 4 rfl rfl (dv 2 ?_)
  refine x7x (b := 1) rfl rfl (by omega) (rlB a1k a2c ?_)
  refine txM [0, 1, 2, 3, 4] [_, _, _, _, _] (y8y bs hbs (pSm S1 (S1.p + 1)) (c + 870 + 2 * i + 1) (a2w h1 (by omega) (by have := h1.2.2; omega)) 4 0 0 ((z + 1 : Nat) : Int) false (by omega)) rfl rfl rfl rfl fun J hJ => ?_
  obtain ⟨j, jb⟩ := J
  have hj : smOk j (c + 870 + 2 * i + 1 + 1) := hJ
  refine z4z rfl (dv 2 ?_)
  refine x7x (b := 1) rfl rfl (by omega) (dv 1 ?_)
  exact ⟨(j, i + 1), ⟨⟨hj.mono (by show _ ≤ c + 870 + 2 * (i + 1); omega), by show i + 1 ≤ 10; omega⟩, (by show 10 - (i + 1) < 10 - i; omega)⟩, [0, _, _, _], x6x, x6x, x4x, x4x, rfl⟩
 ·try dsimp only [b1n, b1o]
  refine r8r fun B X0 w0 => ?_
  refine txR 3 rfl rfl (dv 2 ?_)
  refine rlB a1k a2c ?_
  refine txM [0, 1, 2, 3, 4] [_, _, _, _, _] (y8y bs hbs T (c + 892) hi 6 x.to 0 0 false (by omega)) rfl rfl rfl rfl fun J hJ => ?_
  obtain ⟨j, jb⟩ := J
  have hj : smOk j (c + 892 + 1) := hJ
  refine z4z rfl (r8r fun B X0 w0 => ?_)
  refine txR 3 rfl rfl (dv 2 ?_)
  refine rlB a1k a2c ?_
  refine txM [0, 1, 2, 3, 4] [_, _, _, _, _] (y8y bs hbs j (c + 892 + 1) hj 7 x.to 0 0 false (by omega)) rfl rfl rfl rfl fun J hJ => ?_
  obtain ⟨j, jb⟩ := J
  have hj : smOk j (c + 892 + 1 + 1) := hJ
  refine z4z rfl (r8r fun B X0 w0 => ?_)
  refine txR 1 rfl rfl (dv 1 ?_)
  refine txM [0, 1, 2, 3, 4] [_, _, _, _, _] (a2x bs hbs j (c + 892 + 1 + 1) hj 4 (by omega) (by omega)) rfl rfl rfl rfl fun u hu => ?_
  refine z4z rfl (r8r fun B X0 w0 => ?_)
  refine txR 1 rfl rfl (dv 1 ?_)
  refine txM [0, 1, 2, 3, 4] [_, _, _, _, _] (a2x bs hbs u (c + 892 + 1 + 1 + (2 + 4)) hu 4 (by omega) (by omega)) rfl rfl rfl rfl fun v hv => ?_
  refine z4z rfl (a6j fun B X0 w0 => ?_)
  refine txR 1 rfl rfl (dv 1 ?_)
  refine txM [0, 1, 2, 3, 4] [_, _, _, _, _] (w0w bs hbs v (c + 892 + 1 + 1 + (2 + 4) + (2 + 4)) hv 30 0 (by omega)) rfl rfl rfl rfl fun r hr => ?_
  refine z4z rfl ?_
  exact ⟨.inl rfl, r, hr.mono (by omega), [γ 0, _, _, _, γ 4], rfl, rfl, x4x⟩
end
section
theorem b7h (bs : List Nat) (hbs : ∀ b ∈ bs, b < 256) (S : Sm) (c : Nat) (hS : smOk S c) (odd : Nat) (hc : c + 1040 ≤ 1000000) : MethE Tryz.prog 238 5 [.ptr 0 0 0, .pv (.int .i64 (odd : Int))] [(0, (0, .box 171 [.ptr 4 0 0, pI S.w.time, a4o true S.w.apps, .ref 1 0, .ref 2 0, pI S.w.hub.round, v8v true S.w.hub.ones, v8v true S.w.hub.twos, v8v true S.w.hub.outs, s0s true S.w.sink, .ref 3 0])), (1, (0, .row 65 13 ((S.w.nodes).map (u0u true)))), (2, (0, .row 79 11 ((S.w.radio).map (u7u true)))), (3, (0, .row 263 5 ((S.list).map a2z))), (4, (0, .box 243 [u9u true bs, .pv (.int .i64 ((S.p : Nat) : Int))]))] (ι := Sm) (fun S' => smOk S' (c + 1040)) (fun S' => [0, 4]) (fun S' => .tup []) (fun S' => [(0, (0, .box 171 [.ptr 4 0 0, pI S'.w.time, a4o true S'.w.apps, .ref 1 0, .ref 2 0, pI S'.w.hub.round, v8v true S'.w.hub.ones, v8v true S'.w.hub.twos, v8v true S'.w.hub.outs, s0s true S'.w.sink, .ref 3 0])), (1, (0, .row 65 13 ((S'.w.nodes).map (u0u true)))), (2, (0, .row 79 11 ((S'.w.radio).map (u7u true)))), (3, (0, .row 263 5 ((S'.list).map a2z))), (4, (0, .box 243 [u9u true bs, .pv (.int .i64 ((S'.p : Nat) : Int))]))]) := by
 refine mE (ι := Sm) Tryz.f238 (fun S' => []) 5 0 fun γ => ?_
 refine dv 5 ?_
 refine rlM [4] [_] (x1x true bs (S.p) (3) (by have := hS.2.2; omega) hbs) rfl rfl rfl ?_
 refine dv 1 ?_
 obtain ⟨Pr, ePr, hPr⟩ : ∃ Pr, pk bs S.p 3 = Pr ∧ Pr ≤ 3 := ⟨_, rfl, b0v _ _ _⟩
 rw [ePr]
 refine dv 5 ?_
 refine rlM [4] [_] (x1x true bs (S.p + 1) (20) (by have := hS.2.2; omega) hbs) rfl rfl rfl ?_
 obtain ⟨X, eX, hX⟩ : ∃ X, pk bs (S.p + 1) 20 = X ∧ X ≤ 20 := ⟨_, rfl, b0v _ _ _⟩
 rw [eX]
 have hp2 : S.p + 1 + 1 ≤ c + 2 := by have := hS.2.2; omega
 have hS2 : smOk (pSm S (S.p + 1 + 1)) (c + 2) := a2w hS (by omega) (by have := hS.2.2; omega)
 refine dv 1 ?_
 refine p9p (ι := Bool) (fun b γ1 => [(27, .pv (.bool (b)))]) (fun b γ1 => []) (fun b => True) (r3r [0, 1, 4, 14] rfl) (a1c [0, 1, 2, 3, 4] rfl) ?_ fun b γ1 hi => ?_
 ·refine dc 3 (aI ?_ ?_)<;>intro h<;>try simp at h
  ·refine dv 1 ?_
   exact ⟨_, trivial, [], x6x, x6x, x4x, x4x, rfl⟩
  refine dc 3 (aI ?_ ?_)<;>intro h<;>try simp at h
  ·refine dv 1 ?_
   exact ⟨_, trivial, [], x6x, x6x, x4x, x4x, rfl⟩
  refine dc 3 (aI ?_ ?_)<;>intro h<;>try simp at h
  ·refine dv 1 ?_
   exact ⟨_, trivial, [], x6x, x6x, x4x, x4x, rfl⟩
  refine dc 3 (aI ?_ ?_)<;>intro h<;>try simp at h
  ·refine dv 1 ?_
   exact ⟨_, trivial, [], x6x, x6x, x4x, x4x, rfl⟩
  refine dv 3 ?_
  exact ⟨_, trivial, [], x6x, x6x, x4x, x4x, rfl⟩
 ·try dsimp only [b1n, b1o]
  refine dc 0 (aI ?_ ?_)<;>intro h<;>try simp at h
  ·refine a6j fun B X0 w0 => ?_
   refine txR 1 rfl rfl (dv 1 ?_)
   refine txM [0, 1, 2, 3, 4] [_, _, _, _, _] (a2x bs hbs (pSm S (S.p + 1 + 1)) (c + 2) hS2 8 (by omega) (by omega)) rfl rfl rfl rfl fun r hr => ?_
   refine z4z rfl ?_
   exact ⟨.inl rfl, r, hr.mono (by omega), [γ 0, _, _, _, γ 4], rfl, rfl, x4x⟩
  refine p9p (ι := Bool) (fun b γ2 => [(35, .pv (.bool (b)))]) (fun b γ2 => []) (fun b => True) (r3r [0, 1, 4, 14] rfl) (a1c [0, 1, 2, 3, 4] rfl) ?_ fun b γ2 hi => ?_
  ·refine dc 3 (aI ?_ ?_)<;>intro h<;>try simp at h
   ·refine dv 1 ?_
    exact ⟨_, trivial, [], x6x, x6x, x4x, x4x, rfl⟩
   refine dc 3 (aI ?_ ?_)<;>intro h<;>try simp at h
   ·refine dv 1 ?_
    exact ⟨_, trivial, [], x6x, x6x, x4x, x4x, rfl⟩
   refine dv 3 ?_
   exact ⟨_, trivial, [], x6x, x6x, x4x, x4x, rfl⟩
  ·try dsimp only [b1n, b1o]
   refine dc 0 (aI ?_ ?_)<;>intro h<;>try simp at h
   ·refine r8r fun B X0 w0 => ?_
    refine txR 3 rfl rfl (dv 2 ?_)
    refine rlB a1k a2c ?_
    refine txM [0, 1, 2, 3, 4] [_, _, _, _, _] (y8y bs hbs (pSm S (S.p + 1 + 1)) (c + 2) hS2 2 Pr 0 0 false (by omega)) rfl rfl rfl rfl fun J hJ => ?_
    obtain ⟨j, jb⟩ := J
    have hj : smOk j (c + 2 + 1) := hJ
    refine z4z rfl (a6j fun B X0 w0 => ?_)
    refine txR 7 rfl rfl (dv 5 ?_)
    refine rlM [4] [_] (x1x true bs (j.p) (6) (by have := hj.2.2; omega) hbs) rfl rfl rfl ?_
    obtain ⟨N, eN, hN⟩ : ∃ N, pk bs j.p 6 = N ∧ N ≤ 6 := ⟨_, rfl, b0v _ _ _⟩
    rw [eN]
    refine dv 1 ?_
    refine txM [0, 1, 2, 3, 4] [_, _, _, _, _] (w0w bs hbs (pSm j (j.p + 1)) (c + 4) (a2w hj (by omega) (by have := hj.2.2; omega)) N odd (by omega)) rfl rfl rfl rfl fun r hr => ?_
    refine z4z rfl ?_
    exact ⟨.inl rfl, r, hr.mono (by omega), [γ 0, _, _, _, γ 4], rfl, rfl, x4x⟩
   refine p9p (ι := Bool) (fun b γ3 => [(51, .pv (.bool (b)))]) (fun b γ3 => []) (fun b => True) (r3r [0, 1, 4, 14] rfl) (a1c [0, 1, 2, 3, 4] rfl) ?_ fun b γ3 hi => ?_
   ·refine dc 3 (aI ?_ ?_)<;>intro h<;>try simp at h
    ·refine dv 1 ?_
     exact ⟨_, trivial, [], x6x, x6x, x4x, x4x, rfl⟩
    refine dv 3 ?_
    exact ⟨_, trivial, [], x6x, x6x, x4x, x4x, rfl⟩
   ·try dsimp only [b1n, b1o]
    refine dc 0 (aI ?_ ?_)<;>intro h<;>try simp at h
    ·refine a6j fun B X0 w0 => ?_
     refine txR 8 rfl rfl (dv 5 ?_)
     refine rlM [4] [_] (x1x true bs (S.p + 1 + 1) (20) (by have := hp2; omega) hbs) rfl rfl rfl ?_
     obtain ⟨N, eN, hN⟩ : ∃ N, pk bs (S.p + 1 + 1) 20 = N ∧ N ≤ 20 := ⟨_, rfl, b0v _ _ _⟩
     rw [eN]
     refine x7x (a := 1) rfl rfl (by omega) (dv 1 ?_)
     refine txM [0, 1, 2, 3, 4] [_, _, _, _, _] (w0w bs hbs (pSm S (S.p + 1 + 1 + 1)) (c + 3) (a2w hS (by omega) (by omega)) (1 + N) odd (by omega)) rfl rfl rfl rfl fun r hr => ?_
     refine z4z rfl ?_
     exact ⟨.inl rfl, r, hr.mono (by omega), [γ 0, _, _, _, γ 4], rfl, rfl, x4x⟩
    refine p9p (ι := Bool) (fun b γ4 => [(63, .pv (.bool (b)))]) (fun b γ4 => []) (fun b => True) (r3r [0, 1, 4, 14] rfl) (a1c [0, 1, 2, 3, 4] rfl) ?_ fun b γ4 hi => ?_
    ·refine dc 3 (aI ?_ ?_)<;>intro h<;>try simp at h
     ·refine dv 1 ?_
      exact ⟨_, trivial, [], x6x, x6x, x4x, x4x, rfl⟩
     refine dv 3 ?_
     exact ⟨_, trivial, [], x6x, x6x, x4x, x4x, rfl⟩
    ·try dsimp only [b1n, b1o]
     refine dc 0 (aI ?_ ?_)<;>intro h<;>try simp at h
     ·refine r8r fun B X0 w0 => ?_
      refine txR 2 rfl rfl (dv 1 ?_)
      refine rlB a1k a2c ?_
      refine txM [0, 1, 2, 3, 4] [_, _, _, _, _] (y8y bs hbs (pSm S (S.p + 1 + 1)) (c + 2) hS2 3 0 0 0 false (by omega)) rfl rfl rfl rfl fun J hJ => ?_
      obtain ⟨j, jb⟩ := J
      have hj : smOk j (c + 2 + 1) := hJ
      refine z4z rfl (a6j fun B X0 w0 => ?_)
      refine txR 7 rfl rfl (dv 5 ?_)
      refine rlM [4] [_] (x1x true bs (j.p) (20) (by have := hj.2.2; omega) hbs) rfl rfl rfl ?_
      obtain ⟨N, eN, hN⟩ : ∃ N, pk bs j.p 20 = N ∧ N ≤ 20 := ⟨_, rfl, b0v _ _ _⟩
      rw [eN]
      refine dv 1 ?_
      refine txM [0, 1, 2, 3, 4] [_, _, _, _, _] (w0w bs hbs (pSm j (j.p + 1)) (c + 4) (a2w hj (by omega) (by have := hj.2.2; omega)) N odd (by omega)) rfl rfl rfl rfl fun r hr => ?_
      refine z4z rfl ?_
      exact ⟨.inl rfl, r, hr.mono (by omega), [γ 0, _, _, _, γ 4], rfl, rfl, x4x⟩
     refine dc 3 (aI ?_ ?_)<;>intro h<;>try simp at h
     ·refine a6j fun B X0 w0 => ?_
      refine txR 8 rfl rfl (dv 5 ?_)
      refine rlM [4] [_] (x1x true bs (S.p + 1 + 1) (2) (by have := hp2; omega) hbs) rfl rfl rfl ?_
      obtain ⟨N, eN, hN⟩ : ∃ N, pk bs (S.p + 1 + 1) 2 = N ∧ N ≤ 2 := ⟨_, rfl, b0v _ _ _⟩
      rw [eN]
      refine x7x (a := 1) rfl rfl (by omega) (dv 1 ?_)
      refine txM [0, 1, 2, 3, 4] [_, _, _, _, _] (a1u bs hbs (pSm S (S.p + 1 + 1 + 1)) (c + 3) (a2w hS (by omega) (by omega)) (1 + N) odd (by omega)) rfl rfl rfl rfl fun r hr => ?_
      refine z4z rfl ?_
      exact ⟨.inl rfl, r, hr.mono (by omega), [γ 0, _, _, _, γ 4], rfl, rfl, x4x⟩
     refine p9p (ι := Bool) (fun b γ5 => [(88, .pv (.bool (b)))]) (fun b γ5 => []) (fun b => True) (r3r [0, 1, 4, 14] rfl) (a1c [0, 1, 2, 3, 4] rfl) ?_ fun b γ5 hi => ?_
     ·refine dc 3 (aI ?_ ?_)<;>intro h<;>try simp at h
      ·refine dv 1 ?_
       exact ⟨_, trivial, [], x6x, x6x, x4x, x4x, rfl⟩
      refine dv 3 ?_
      exact ⟨_, trivial, [], x6x, x6x, x4x, x4x, rfl⟩
     ·try dsimp only [b1n, b1o]
      refine dc 0 (aI ?_ ?_)<;>intro h<;>try simp at h
      ·refine a6j fun B X0 w0 => ?_
       refine txR 2 rfl rfl (dv 2 ?_)
       refine txM [0, 1, 2, 3, 4] [_, _, _, _, _] (a7z bs hbs (pSm S (S.p + 1 + 1)) (c + 2) hS2 odd (by omega)) rfl rfl rfl rfl fun r hr => ?_
       refine z4z rfl ?_
       exact ⟨.inl rfl, r, hr.mono (by omega), [γ 0, _, _, _, γ 4], rfl, rfl, x4x⟩
      refine dc 3 (aI ?_ ?_)<;>intro h<;>try simp at h
      ·refine a6j fun B X0 w0 => ?_
       refine txR 3 rfl rfl (dv 2 ?_)
       refine rlB a1k a2c ?_
       refine txM [0, 1, 2, 3, 4] [_, _, _, _, _] (y8y bs hbs (pSm S (S.p + 1 + 1)) (c + 2) hS2 6 Pr 0 0 false (by omega)) rfl rfl rfl rfl fun J hJ => ?_
       obtain ⟨j, jb⟩ := J
       have hj : smOk j (c + 2 + 1) := hJ
       refine z4z rfl ?_
       exact ⟨.inl rfl, j, hj.mono (by omega), [γ 0, _, _, _, γ 4], rfl, rfl, x4x⟩
      refine dc 3 (aI ?_ ?_)<;>intro h<;>try simp at h
      ·refine a6j fun B X0 w0 => ?_
       refine txR 3 rfl rfl (dv 2 ?_)
       refine rlB a1k a2c ?_
       refine txM [0, 1, 2, 3, 4] [_, _, _, _, _] (y8y bs hbs (pSm S (S.p + 1 + 1)) (c + 2) hS2 7 Pr 0 0 false (by omega)) rfl rfl rfl rfl fun J hJ => ?_
       obtain ⟨j, jb⟩ := J
       have hj : smOk j (c + 2 + 1) := hJ
       refine z4z rfl ?_
       exact ⟨.inl rfl, j, hj.mono (by omega), [γ 0, _, _, _, γ 4], rfl, rfl, x4x⟩
      refine dc 3 (aI ?_ ?_)<;>intro h<;>try simp at h
      ·refine a6j fun B X0 w0 => ?_
       refine txR 2 rfl rfl (dv 1 ?_)
       refine rlB a1k a2c ?_
       refine txM [0, 1, 2, 3, 4] [_, _, _, _, _] (y8y bs hbs (pSm S (S.p + 1 + 1)) (c + 2) hS2 8 0 0 0 false (by omega)) rfl rfl rfl rfl fun J hJ => ?_
       obtain ⟨j, jb⟩ := J
       have hj : smOk j (c + 2 + 1) := hJ
       refine z4z rfl ?_
       exact ⟨.inl rfl, j, hj.mono (by omega), [γ 0, _, _, _, γ 4], rfl, rfl, x4x⟩
      refine dc 3 (aI ?_ ?_)<;>intro h<;>try simp at h
      ·refine dv 5 ?_
       refine rlM [4] [_] (x1x true bs (S.p + 1 + 1) (2) (by have := hp2; omega) hbs) rfl rfl rfl ?_
       refine dc 1 (aI ?_ ?_)<;>intro h<;>try simp at h
       ·refine a6j fun B X0 w0 => ?_
        refine txR 1 rfl rfl (dv 1 ?_)
        refine txM [0, 1, 2, 3, 4] [_, _, _, _, _] (b7g bs hbs (pSm S (S.p + 1 + 1 + 1)) (c + 3) (a2w hS (by omega) (by omega))  (by omega)) rfl rfl rfl rfl fun r hr => ?_
        refine z4z rfl ?_
        exact ⟨.inl rfl, r, hr.mono (by omega), [γ 0, _, _, _, γ 4], rfl, rfl, x4x⟩
       refine a6j fun B X0 w0 => ?_
       refine txR 1 rfl rfl (dv 1 ?_)
       refine txM [0, 1, 2, 3, 4] [_, _, _, _, _] (b8o bs hbs (pSm S (S.p + 1 + 1 + 1)) (c + 3) (a2w hS (by omega) (by omega))  (by omega)) rfl rfl rfl rfl fun r hr => ?_
       refine z4z rfl ?_
       exact ⟨.inl rfl, r, hr.mono (by omega), [γ 0, _, _, _, γ 4], rfl, rfl, x4x⟩
      refine r8r fun B X0 w0 => ?_
      refine txR 1 rfl rfl (dv 1 ?_)
      refine txM [0, 1, 2, 3, 4] [_, _, _, _, _] (a1u bs hbs (pSm S (S.p + 1 + 1)) (c + 2) hS2 3 0 (by omega)) rfl rfl rfl rfl fun a ha => ?_
      refine z4z rfl (r8r fun B X0 w0 => ?_)
      refine txR 2 rfl rfl (dv 1 ?_)
      refine rlB a1k a2c ?_
      refine txM [0, 1, 2, 3, 4] [_, _, _, _, _] (y8y bs hbs a (c + 2 + 195 * 3) ha 3 0 0 0 false (by omega)) rfl rfl rfl rfl fun J hJ => ?_
      obtain ⟨j, jb⟩ := J
      have hj : smOk j (c + 2 + 195 * 3 + 1) := hJ
      refine z4z rfl (r8r fun B X0 w0 => ?_)
      refine txR 1 rfl rfl (dv 1 ?_)
      refine txM [0, 1, 2, 3, 4] [_, _, _, _, _] (w0w bs hbs j (c + 2 + 195 * 3 + 1) hj 30 0 (by omega)) rfl rfl rfl rfl fun b hb => ?_
      refine z4z rfl (r8r fun B X0 w0 => ?_)
      refine txR 1 rfl rfl (dv 1 ?_)
      refine txM [0, 1, 2, 3, 4] [_, _, _, _, _] (a1u bs hbs b (c + 2 + 195 * 3 + 1 + 4 * 30) hb 1 0 (by omega)) rfl rfl rfl rfl fun d hd => ?_
      refine z4z rfl (a6j fun B X0 w0 => ?_)
      refine txR 2 rfl rfl (dv 1 ?_)
      refine rlB a1k a2c ?_
      refine txM [0, 1, 2, 3, 4] [_, _, _, _, _] (y8y bs hbs d (c + 2 + 195 * 3 + 1 + 4 * 30 + 195 * 1) hd 8 0 0 0 false (by omega)) rfl rfl rfl rfl fun J hJ => ?_
      obtain ⟨j, jb⟩ := J
      have hj : smOk j (c + 2 + 195 * 3 + 1 + 4 * 30 + 195 * 1 + 1) := hJ
      refine z4z rfl ?_
      exact ⟨.inl rfl, j, hj.mono (by omega), [γ 0, _, _, _, γ 4], rfl, rfl, x4x⟩
end
section
theorem d0i (bs : List Nat) (hbs : ∀ b ∈ bs, b < 256) (p0 : Nat) (hp : p0 + 5 ≤ 1000000) : MethE Tryz.prog 287 1 [.ptr 0 0 0] [(0, (0, .box 243 [u9u true bs, .pv (.int .i64 ((p0 : Nat) : Int))]))] (ι := Op_ × Nat) (fun S' => b0o S'.1 ∧ S'.2 ≤ p0 + 5) (fun S' => [0]) (fun S' => .agg (b2j S'.1)) (fun S' => [(0, (0, .box 243 [u9u true bs, .pv (.int .i64 ((S'.2 : Nat) : Int))]))]) := by
 refine mE (ι := Op_ × Nat) Tryz.f287 (fun S' => [.agg (b2j S'.1)]) 1 1 fun γ => ?_
 refine dv 1 ?_
 refine x2x (id := 1) a0w b6d rfl (dv 3 fun K K' => ?_)
 refine rlM [0] [_] (x1x true bs (p0) (10) (by have := hp; omega) hbs) rfl rfl rfl ?_
 refine dc 4 (aI ?_ ?_)<;>intro h<;>try simp at h
 ·refine dv 2 ?_
  refine rlM [0] [_] (x1x true bs (p0 + 1) (2) (by have := hp; omega) hbs) rfl rfl rfl ?_
  refine dv 1 ?_
  refine rlM [0] [_] (x1x true bs (p0 + 1 + 1) (20) (by have := hp; omega) hbs) rfl rfl rfl ?_
  refine rlB a0w b6d ?_
  refine dv 2 ?_
  exact ⟨(⟨1, (pk bs (p0 + 1) 2 : Int), (pk bs (p0 + 1 + 1) 20 : Int), 0, 0⟩, p0 + 1 + 1 + 1), ⟨(by have h0 := a3e bs (p0 + 1) 2 (by omega); have h1 := a3e bs (p0 + 1 + 1) 20 (by omega); unfold b0o a2y b3z; dsimp only; omega), (by show p0 + 1 + 1 + 1 ≤ p0 + 5; omega)⟩, [γ 0], rfl, rfl, x4x⟩
 refine dc 3 (aI ?_ ?_)<;>intro h<;>try simp at h
 ·refine dv 2 ?_
  refine rlM [0] [_] (x1x true bs (p0 + 1) (2) (by have := hp; omega) hbs) rfl rfl rfl ?_
  refine dv 1 ?_
  refine rlM [0] [_] (x1x true bs (p0 + 1 + 1) (2) (by have := hp; omega) hbs) rfl rfl rfl ?_
  refine rlB a0w b6d ?_
  refine dv 2 ?_
  exact ⟨(⟨2, (pk bs (p0 + 1) 2 : Int), (pk bs (p0 + 1 + 1) 2 : Int), 0, 0⟩, p0 + 1 + 1 + 1), ⟨(by have h0 := a3e bs (p0 + 1) 2 (by omega); have h1 := a3e bs (p0 + 1 + 1) 2 (by omega); unfold b0o a2y b3z; dsimp only; omega), (by show p0 + 1 + 1 + 1 ≤ p0 + 5; omega)⟩, [γ 0], rfl, rfl, x4x⟩
 refine dc 3 (aI ?_ ?_)<;>intro h<;>try simp at h
 ·refine dv 2 ?_
  refine rlM [0] [_] (x1x true bs (p0 + 1) (2) (by have := hp; omega) hbs) rfl rfl rfl ?_
  refine dv 1 ?_
  refine rlM [0] [_] (x1x true bs (p0 + 1 + 1) (9) (by have := hp; omega) hbs) rfl rfl rfl ?_
  have q9 := a3e bs (p0 + 1 + 1) 9 (by omega)
  refine x7x (a := 1) rfl rfl (by omega) (rlB a0w b6d ?_)
  refine dv 2 ?_
  exact ⟨(⟨3, (pk bs (p0 + 1) 2 : Int), ((1 + pk bs (p0 + 1 + 1) 9 : Nat) : Int), 0, 0⟩, p0 + 1 + 1 + 1), ⟨(by have h0 := a3e bs (p0 + 1) 2 (by omega); have h1 := a3e bs (p0 + 1 + 1) 9 (by omega); unfold b0o a2y b3z; dsimp only; omega), (by show p0 + 1 + 1 + 1 ≤ p0 + 5; omega)⟩, [γ 0], rfl, rfl, x4x⟩
 refine dc 3 (aI ?_ ?_)<;>intro h<;>try simp at h
 ·refine dv 2 ?_
  refine rlM [0] [_] (x1x true bs (p0 + 1) (2) (by have := hp; omega) hbs) rfl rfl rfl ?_
  refine rlB a0w b6d ?_
  refine dv 2 ?_
  exact ⟨(⟨4, (pk bs (p0 + 1) 2 : Int), 0, 0, 0⟩, p0 + 1 + 1), ⟨(by have h0 := a3e bs (p0 + 1) 2 (by omega); unfold b0o a2y b3z; dsimp only; omega), (by show p0 + 1 + 1 ≤ p0 + 5; omega)⟩, [γ 0], rfl, rfl, x4x⟩
 refine dc 3 (aI ?_ ?_)<;>intro h<;>try simp at h
 ·refine dv 2 ?_
  refine rlM [0] [_] (x1x true bs (p0 + 1) (2) (by have := hp; omega) hbs) rfl rfl rfl ?_
  refine dv 1 ?_
  refine rlM [0] [_] (x1x true bs (p0 + 1 + 1) (60) (by have := hp; omega) hbs) rfl rfl rfl ?_
  refine dv 1 ?_
  refine rlM [0] [_] (x1x true bs (p0 + 1 + 1 + 1) (2) (by have := hp; omega) hbs) rfl rfl rfl ?_
  have q9 := a3e bs (p0 + 1 + 1 + 1) 2 (by omega)
  refine x7x (a := 1) rfl rfl (by omega) (rlB a0w b6d ?_)
  refine dv 2 ?_
  exact ⟨(⟨5, (pk bs (p0 + 1) 2 : Int), (pk bs (p0 + 1 + 1) 60 : Int), ((1 + pk bs (p0 + 1 + 1 + 1) 2 : Nat) : Int), 0⟩, p0 + 1 + 1 + 1 + 1), ⟨(by have h0 := a3e bs (p0 + 1) 2 (by omega); have h1 := a3e bs (p0 + 1 + 1) 60 (by omega); have h2 := a3e bs (p0 + 1 + 1 + 1) 2 (by omega); unfold b0o a2y b3z; dsimp only; omega), (by show p0 + 1 + 1 + 1 + 1 ≤ p0 + 5; omega)⟩, [γ 0], rfl, rfl, x4x⟩
 refine p9p (ι := Bool) (fun b γ1 => [(42, .pv (.bool (b)))]) (fun b γ1 => []) (fun b => True) (r3r [0, 2] rfl) (a1c [0, 1] rfl) ?_ fun b γ1 hi => ?_
 ·refine dc 3 (aI ?_ ?_)<;>intro h<;>try simp at h
  ·refine dv 1 ?_
   exact ⟨_, trivial, [], x6x, x6x, x4x, x4x, rfl⟩
  refine dc 3 (aI ?_ ?_)<;>intro h<;>try simp at h
  ·refine dv 1 ?_
   exact ⟨_, trivial, [], x6x, x6x, x4x, x4x, rfl⟩
  refine dv 3 ?_
  exact ⟨_, trivial, [], x6x, x6x, x4x, x4x, rfl⟩
 ·try dsimp only [b1n, b1o]
  refine dc 0 (aS ?_ ?_)<;>intro h<;>try simp at h
  ·refine dv 3 ?_
   refine rlM [0] [_] (x1x true bs (p0 + 1) (2) (by have := hp; omega) hbs) rfl rfl rfl ?_
   refine rlB a0w b6d ?_
   refine dv 2 ?_
   exact ⟨(⟨7, (pk bs (p0 + 1) 2 : Int), 0, 0, 0⟩, p0 + 1 + 1), ⟨(by have h0 := a3e bs (p0 + 1) 2 (by omega); unfold b0o a2y b3z; dsimp only; omega), (by show p0 + 1 + 1 ≤ p0 + 5; omega)⟩, [γ 0], rfl, rfl, x4x⟩
  refine dv 2 ?_
  refine rlM [0] [_] (x1x true bs (p0 + 1) (4) (by have := hp; omega) hbs) rfl rfl rfl ?_
  refine dv 1 ?_
  refine rlM [0] [_] (x1x true bs (p0 + 1 + 1) (3) (by have := hp; omega) hbs) rfl rfl rfl ?_
  refine dv 1 ?_
  refine rlM [0] [_] (x1x true bs (p0 + 1 + 1 + 1) (7) (by have := hp; omega) hbs) rfl rfl rfl ?_
  have q9 := a3e bs (p0 + 1 + 1 + 1) 7 (by omega)
  refine x7x (a := 1) rfl rfl (by omega) (dv 1 ?_)
  refine rlM [0] [_] (x1x true bs (p0 + 1 + 1 + 1 + 1) (2) (by have := hp; omega) hbs) rfl rfl rfl ?_
  refine rlB a0w b6d ?_
  refine dv 2 ?_
  exact ⟨(⟨6, (pk bs (p0 + 1) 4 : Int), (pk bs (p0 + 1 + 1) 3 : Int), ((1 + pk bs (p0 + 1 + 1 + 1) 7 : Nat) : Int), (pk bs (p0 + 1 + 1 + 1 + 1) 2 : Int)⟩, p0 + 1 + 1 + 1 + 1 + 1), ⟨(by have h0 := a3e bs (p0 + 1) 4 (by omega); have h1 := a3e bs (p0 + 1 + 1) 3 (by omega); have h2 := a3e bs (p0 + 1 + 1 + 1) 7 (by omega); have h3 := a3e bs (p0 + 1 + 1 + 1 + 1) 2 (by omega); unfold b0o a2y b3z; dsimp only; omega), (by show p0 + 1 + 1 + 1 + 1 + 1 ≤ p0 + 5; omega)⟩, [γ 0], rfl, rfl, x4x⟩
end
section
theorem c4b (bs : List Nat) (hbs : ∀ b ∈ bs, b < 256) (p0 : Nat) (hp : p0 + 500 ≤ 1000000) : MethE Tryz.prog 237 1 [.ptr 0 0 0] [(0, (0, .box 243 [u9u true bs, .pv (.int .i64 ((p0 : Nat) : Int))]))] (ι := List Ap × Nat) (fun S' => a5z S'.1 ∧ S'.2 ≤ p0 + 500) (fun S' => [0]) (fun S' => a4o true S'.1) (fun S' => [(0, (0, .box 243 [u9u true bs, .pv (.int .i64 ((S'.2 : Nat) : Int))]))]) := by
 refine mE (ι := List Ap × Nat) Tryz.f237 (fun S' => [a4o true S'.1]) 1 16 fun γ => ?_
 refine dv 3 ?_
 refine x9x (id := 1) c5l rfl a4u rfl (dv 5 fun K K' => ?_)
 refine x5x (ι := List Ap × Nat) (fun p γ1 => [(3, .ref 1 (γ1 1)), (4, pI (p.1.length : Int))]) (fun p γ1 => [(1, ((γ1 1), .row 121 1 ((p.1).map (b6v true)))), (15, ((γ1 15), .dead)), (16, ((γ1 16), .dead)), (0, ((γ 0), .box 243 [u9u true bs, pI ((p.2 : Nat) : Int)])), (2, ((γ1 2), .dead)), (3, ((γ1 3), .dead)), (4, ((γ1 4), .dead)), (5, ((γ1 5), .dead)), (6, ((γ1 6), .dead)), (7, ((γ1 7), .dead)), (8, ((γ1 8), .dead)), (9, ((γ1 9), .dead)), (10, ((γ1 10), .dead)), (11, ((γ1 11), .dead)), (12, ((γ1 12), .dead)), (13, ((γ1 13), .dead)), (14, ((γ1 14), .dead))]) (fun p => p.1.length ≤ 4 ∧ (∀ a ∈ p.1, e0o a) ∧ p.2 ≤ p0 + 120 * p.1.length) (fun p => 4 - p.1.length) (x8x 0 rfl Cov.nil) HE.nil ([], p0) ⟨Nat.zero_le _, fun a h => (by cases h), Nat.le_refl _⟩ [0, _, _, _, _, _, _, _, _, _, _, _, _, _, _, _, _] x6x (HE.row rfl (by rfl) (HE.kill rfl (HE.kill rfl (HE.box rfl rfl (HE.kill rfl (HE.kill rfl (HE.kill rfl (HE.kill rfl (HE.kill rfl (HE.kill rfl (HE.kill rfl (HE.kill rfl (HE.kill rfl (HE.kill rfl (HE.kill rfl (HE.kill rfl (HE.kill rfl HE.nil))))))))))))))))) rfl fun p γ1 hi => ?_
 obtain ⟨l, q⟩ := p
 obtain ⟨h1, h2, h3⟩ := hi
 dsimp only at h1 h2 h3 ⊢
 refine dc 4 (fun K K' => aS ?_ ?_)<;>intro o<;>try simp at o
 ·have h4 : l.length = 4 := by omega
  have hT : a5z l := ⟨h4, h2⟩
  refine dv 1 ?_
  refine r1r (f := b6v true) 3 rfl rfl (fun _ => rfl) ?_
  refine dv 4 ?_
  exact ⟨(l, q), ⟨hT, by show q ≤ p0 + 500; omega⟩, [γ 0], rfl, rfl, x4x⟩
 have h1l : l.length < 4 := by omega
 refine dv 4 fun K K' => ?_
 refine rlB a4u b3s ?_
 refine x2x (id := 2) a4u b3s rfl (dv 5 fun K K' => ?_)
 refine a1b 2 0 15 232 2 rfl rfl rfl rfl rfl ?_
 refine x5x (ι := List Ru × Nat) (fun p γ2 => [(6, pI (p.1.length : Int))]) (fun p γ2 => [(15, ((γ2 15), .row 232 2 ((p.1).map (c6x true)))), (16, ((γ2 16), .dead)), (0, ((γ 0), .box 243 [u9u true bs, pI ((p.2 : Nat) : Int)])), (2, ((γ1 2 + 1), .box 121 [.ref 15 (γ2 15)])), (3, ((γ2 3), .dead)), (4, ((γ2 4), .dead)), (5, ((γ2 5), .dead)), (6, ((γ2 6), .dead)), (7, ((γ2 7), .dead)), (8, ((γ2 8), .dead)), (9, ((γ2 9), .dead)), (10, ((γ2 10), .dead)), (11, ((γ2 11), .dead)), (12, ((γ2 12), .dead))]) (fun p => p.1.length ≤ 3 ∧ f3c p.1 ∧ p.2 ≤ q + 40 * p.1.length) (fun p => 3 - p.1.length) (r3r [0, 3, 4, 5] rfl) (a1c [1, 13, 14] rfl) ([], q) ⟨Nat.zero_le _, fun i r h => (by simp at h), Nat.le_refl _⟩ [0, 0, 0, _, _, _, _, _, _, _, _, _, _, 0, 0, _, _] x6x (HE.row rfl (by rfl) (HE.kill rfl (HE.box rfl rfl (HE.box rfl rfl (HE.kill rfl (HE.kill rfl (HE.kill rfl (HE.kill rfl (HE.kill rfl (HE.kill rfl (HE.kill rfl (HE.kill rfl (HE.kill rfl (HE.kill rfl HE.nil)))))))))))))) rfl fun p γ2 hi => ?_
 obtain ⟨rs, q1⟩ := p
 obtain ⟨k1, k2, k3⟩ := hi
 dsimp only at k1 k2 k3 ⊢
 refine dc 4 (fun K K' => aS ?_ ?_)<;>intro o<;>try simp at o
 ·refine dv 1 ?_
  refine v3v (b := e0p true rs) 2 0 rfl rfl rfl (.ref rfl (Le.ow_map _ (fun _ => rfl) (fun _ => rfl)) .nil) rfl rfl rfl rfl ?_
  refine dv 3 ?_
  refine y5y (id := 13) c5l rfl a4u rfl rfl rfl rfl rfl rfl ?_
  refine y6y (zs := ((l ++ [(⟨rs⟩ : Ap)]).map (b6v true))) rfl rfl c5l rfl a4u rfl rfl rfl rfl (by rfl) (z8z (b6v true) l ⟨rs⟩) (by (simp only [a0f, r7r, s3s, s6s, a0v, a3d, T121]; omega)) ?_
  refine dv 3 ?_
  refine x7x (b := 1) rfl rfl (by omega) (dv 1 ?_)
  exact ⟨(l ++ [⟨rs⟩], q1), ⟨(f2r h2 (f2p k1 k2) h1l h3 k3 k1), (by show 4 - (l ++ [_]).length < 4 - l.length; rw [List.length_append]; show 4 - (l.length + 1) < _; omega)⟩, [0, _, _, _, _, _, _, _, _, _, _, _, _, _, _, _, _], (x8x 3 rfl (Cov.cons' (t := 4) rfl ((by rw [List.length_append]; rfl)) Cov.nil)), x6x, (HE.row rfl (by rfl) (HE.kill rfl (HE.kill rfl (HE.box rfl rfl (HE.kill rfl (HE.kill rfl (HE.kill rfl (HE.kill rfl (HE.kill rfl (HE.kill rfl (HE.kill rfl (HE.kill rfl (HE.kill rfl (HE.kill rfl (HE.kill rfl (HE.kill rfl (HE.kill rfl HE.nil))))))))))))))))), x4x, rfl⟩
 have k1l : rs.length < 3 := by omega
 refine dv 5 fun K K' => ?_
 refine rlB b8s d2u ?_
 refine x2x (id := 3) b8s d2u rfl (dv 4 fun K K' => ?_)
 refine rlM [0] [_] (x1x true bs (q1) (5) (by have := k3; omega) hbs) rfl rfl rfl ?_
 obtain ⟨N, eN, hN⟩ : ∃ N, pk bs q1 5 = N ∧ N ≤ 5 := ⟨_, rfl, b0v _ _ _⟩
 rw [eN]
 refine x7x (a := 2) rfl rfl (by omega) (dv 2 ?_)
 refine a1b 3 1 16 297 5 rfl rfl rfl rfl rfl ?_
 refine x5x (ι := List Op_ × Nat × Nat) (fun p γ3 => [(8, pI (p.2.2 : Int))]) (fun p γ3 => [(16, ((γ3 16), .row 297 5 ((p.1).map b2j))), (0, ((γ 0), .box 243 [u9u true bs, pI ((p.2.1 : Nat) : Int)])), (3, ((γ2 3 + 1), .box 232 [pI (rs.length : Int), .ref 16 (γ3 16)])), (4, ((γ3 4), .dead)), (5, ((γ3 5), .dead)), (6, ((γ3 6), .dead)), (7, ((γ3 7), .dead)), (8, ((γ3 8), .dead)), (9, ((γ3 9), .dead)), (10, ((γ3 10), .dead))]) (fun p => c7p ⟨(rs.length : Int), p.1⟩ ∧ p.2.1 + 5 * p.2.2 ≤ q1 + 1 + 5 * (2 + N)) (fun p => p.2.2) (r3r [0, 3, 4, 5, 6, 7] rfl) (a1c [1, 2, 11, 12, 13, 14, 15] rfl) ([], q1 + 1, 2 + N) ⟨ru0, by show q1 + 1 + 5 * (2 + N) ≤ _; omega⟩ [0, 0, 0, 0, _, _, _, _, _, _, _, 0, 0, 0, 0, 0, _] x6x (HE.row rfl (by rfl) (HE.box rfl rfl (HE.box rfl rfl (HE.kill rfl (HE.kill rfl (HE.kill rfl (HE.kill rfl (HE.kill rfl (HE.kill rfl (HE.kill rfl HE.nil)))))))))) rfl fun p γ3 hi => ?_
 obtain ⟨ops, q2, n⟩ := p
 obtain ⟨l1, l2⟩ := hi
 dsimp only at l1 l2 ⊢
 refine dc 4 (fun K K' => aS ?_ ?_)<;>intro o<;>try simp at o
 ·refine dv 1 ?_
  refine v3v (b := e6l true ops) 3 1 rfl rfl rfl (.ref rfl (Le.ow_map _ (fun _ => rfl) (fun _ => rfl)) .nil) rfl rfl rfl rfl ?_
  refine dv 4 ?_
  refine y5y (id := 11) d2r rfl b8s rfl rfl rfl rfl rfl rfl ?_
  refine y6y (zs := ((rs ++ [(⟨(rs.length : Int), ops⟩ : Ru)]).map (c6x true))) rfl rfl d2r rfl b8s rfl rfl rfl rfl (by rfl) (z8z (c6x true) rs (⟨(rs.length : Int), ops⟩ : Ru)) (by (simp only [a0f, r7r, s3s, s6s, a0v, a3d, T232]; omega)) ?_
  refine dv 4 ?_
  refine x7x (b := 1) rfl rfl (by omega) (dv 1 ?_)
  exact ⟨(rs ++ [(⟨(rs.length : Int), ops⟩ : Ru)], q2), ⟨(f2q k2 l1 k1l k3 (by omega)), (by show 3 - (rs ++ [_]).length < 3 - rs.length; rw [List.length_append]; show 3 - (rs.length + 1) < _; omega)⟩, [0, 0, 0, _, _, _, _, _, _, _, _, _, _, 0, 0, _, _], (Cov.cons' (t := 6) rfl ((by rw [List.length_append]; rfl)) Cov.nil), x6x, (HE.row rfl (by rfl) (HE.kill rfl (HE.box rfl rfl (HE.box rfl rfl (HE.kill rfl (HE.kill rfl (HE.kill rfl (HE.kill rfl (HE.kill rfl (HE.kill rfl (HE.kill rfl (HE.kill rfl (HE.kill rfl (HE.kill rfl HE.nil)))))))))))))), x4x, rfl⟩
 obtain ⟨n', rfl⟩ : ∃ n', n = n' + 1 := ⟨n - 1, by omega⟩
 refine dv 1 ?_
 refine p9p (ι := List Op_ × Nat) (fun os γ4 => []) (fun os γ4 => [(16, ((γ4 16), .row 297 5 ((os.1).map b2j))), (0, ((γ 0), .box 243 [u9u true bs, pI ((os.2 : Nat) : Int)])), (3, ((γ2 3 + 1), .box 232 [pI (rs.length : Int), .ref 16 (γ4 16)])), (4, ((γ4 4), .dead)), (5, ((γ4 5), .dead)), (6, ((γ4 6), .dead)), (7, ((γ4 7), .dead)), (8, ((γ4 8), .dead)), (9, ((γ4 9), .dead)), (10, ((γ4 10), .dead))]) (fun os => c7p ⟨(rs.length : Int), os.1⟩ ∧ os.2 ≤ q2 + 5) (r3r [0, 3, 4, 5, 6, 7, 8] rfl) (a1c [1, 2, 11, 12, 13, 14, 15] rfl) ?_ fun os γ4 hi => ?_
 ·refine dv 1 ?_
  refine r8r fun B X0 w0 => ?_
  refine txR 1 rfl rfl (dv 1 ?_)
  refine txM [0] [_] (d0i bs hbs q2 (by omega)) rfl rfl rfl rfl fun j hj => ?_
  obtain ⟨hj1, hj2⟩ := hj
  have hol : ops.length ≤ 8 := l1.2.1
  refine txR 2 rfl rfl (x2x (id := 4) a0w b6d rfl (dv 1 ?_))
  refine z4z rfl (dv 2 ?_)
  refine x9x (id := 5) b6c rfl a0w rfl (dv 2 ?_)
  refine y6y (zs := (ops.map b2j)) rfl rfl b6c rfl a0w rfl rfl rfl rfl (z9z (fun _ => rfl) _) rfl (by (simp only [a0f, r7r, s3s, s6s, a0v, a3d, T297]; omega)) ?_
  refine dv 1 ?_
  refine y5y (id := 7) b6c rfl a0w rfl rfl rfl rfl rfl rfl ?_
  refine y6y (zs := ((ops ++ [j.1]).map b2j)) rfl rfl b6c rfl a0w rfl rfl rfl rfl (by rfl) (z8z b2j ops j.1) (by (simp only [a0f, r7r, s3s, s6s, a0v, a3d, T297]; omega)) ?_
  refine rlB b8s d2u ?_
  refine b7s rfl rfl rfl (.agg rfl (.cl rfl (.ref rfl (Le.ow_map _ nf (fun _ => rfl)) .nil)) .nil) (b2t false (⟨(rs.length : Int), ops ++ [j.1]⟩ : Ru) (by show (ops ++ [j.1]).length ≤ _; rw [List.length_append]; show ops.length + 1 ≤ _; have : ops.length ≤ 8 := hol; omega)) (.pv _) ?_
  refine dc 0 (aS ?_ ?_)<;>intro hc12<;>try simp at hc12
  ·refine dv 1 ?_
   exact ⟨(ops, j.2), ⟨l1, hj2⟩, [0, 0, 0, 0, _, _, _, _, _, _, _, 0, 0, 0, 0, 0, _], x6x, x6x, x4x, x4x, rfl⟩
  have hru : c7p (⟨(rs.length : Int), ops ++ [j.1]⟩ : Ru) := a0r.1 (by simpa using hc12)
  refine dv 4 ?_
  refine y5y (id := 9) b6c rfl a0w rfl rfl rfl rfl rfl rfl ?_
  refine y6y (zs := ((ops ++ [j.1]).map b2j)) rfl rfl b6c rfl a0w rfl rfl rfl rfl (by rfl) (z8z b2j ops j.1) (by (simp only [a0f, r7r, s3s, s6s, a0v, a3d, T297]; omega)) ?_
  refine dv 2 ?_
  exact ⟨(ops ++ [j.1], j.2), ⟨hru, hj2⟩, [0, 0, 0, 0, _, _, _, _, _, _, _, 0, 0, 0, 0, 0, _], x6x, x6x, x4x, x4x, rfl⟩
 ·try dsimp only [b1n, b1o]
  refine dv 2 ?_
  refine r0r (b := 1) rfl rfl (by omega) (by omega) (dv 1 ?_)
  exact ⟨(os.1, os.2, n'), ⟨⟨hi.1, by have := hi.2; show os.2 + 5 * n' ≤ _; omega⟩, (by show n' < n' + 1; omega)⟩, [0, 0, 0, 0, _, _, _, _, _, _, _, 0, 0, 0, 0, 0, _], x6x, x6x, x4x, x4x, rfl⟩
end
section
theorem c4d (c : Bool) (l : List Ap) (hA : a5z l) : a0p Tryz.prog 88 [a4o c l] (a4o true l) := by
 refine pX Tryz.f88 [a4o true l] 9 ?_
 have hl4 := hA.1
 refine dv 3 ?_
 refine x9x (id := 0) c5l rfl a4u rfl (dv 5 fun K K' => ?_)
 refine x5x (ι := Nat) (fun i γ1 => [(3, .ref 0 (γ1 0)), (4, pI (i : Int))]) (fun i γ1 => [(0, ((γ1 0), .row 121 1 ((l.take i).map (b6v true)))), (8, ((γ1 8), .dead)), (1, ((γ1 1), .dead)), (2, ((γ1 2), .dead)), (3, ((γ1 3), .dead)), (4, ((γ1 4), .dead)), (5, ((γ1 5), .dead)), (6, ((γ1 6), .dead)), (7, ((γ1 7), .dead))]) (fun i => i ≤ l.length) (fun i => l.length - i) (x8x 0 rfl Cov.nil) HE.nil 0 (by omega) [_, _, _, _, _, _, _, _, _] x6x (HE.row rfl (by rw [List.take_zero]; rfl) (HE.kill rfl (HE.kill rfl (HE.kill rfl (HE.kill rfl (HE.kill rfl (HE.kill rfl (HE.kill rfl (HE.kill rfl HE.nil))))))))) rfl fun i γ1 hi => ?_
 refine dc 6 (fun K K' => aS ?_ ?_)<;>intro h<;>try simp at h
 ·obtain rfl : i = l.length := by omega
  refine dv 5 ?_
  refine a2t rfl rfl (fun _ => rfl) ?_
  rw [List.take_length]
 obtain ⟨a, ha⟩ := gE l i
 have hap := hA.2 a (List.mem_of_getElem? ha)
 have har := hap.1
 refine dv 4 fun K K' => ?_
 refine rlB a4u b3s ?_
 refine x2x (id := 1) a4u b3s rfl (dv 5 fun K K' => ?_)
 refine a1b 1 0 8 232 2 rfl rfl rfl rfl rfl ?_
 refine x5x (ι := Nat) (fun k γ2 => [(6, pI (k : Int))]) (fun k γ2 => [(8, ((γ2 8), .row 232 2 ((a.rules.take k).map (c6x true)))), (1, ((γ1 1 + 1), .box 121 [.ref 8 (γ2 8)])), (2, ((γ2 2), .dead)), (3, ((γ2 3), .dead)), (4, ((γ2 4), .dead)), (5, ((γ2 5), .dead))]) (fun k => k ≤ a.rules.length) (fun k => a.rules.length - k) (r3r [0, 3, 4, 5] rfl) (a1c [0, 6, 7] rfl) 0 (by omega) [0, 0, _, _, _, _, 0, 0, _] x6x (HE.row rfl (by rw [List.take_zero]; rfl) (HE.box rfl rfl (HE.kill rfl (HE.kill rfl (HE.kill rfl (HE.kill rfl HE.nil)))))) rfl fun k γ2 hi => ?_
 refine dc 10 (fun K K' => aS ?_ ?_)<;>intro h<;>try simp at h
 ·obtain rfl : k = a.rules.length := by omega
  rw [List.take_length]
  refine dv 1 ?_
  refine v3v (b := e0p true a.rules) 1 0 rfl rfl rfl (.ref rfl (Le.ow_map _ (fun _ => rfl) (fun _ => rfl)) .nil) rfl rfl rfl rfl ?_
  refine dv 3 ?_
  refine y5y (id := 6) c5l rfl a4u rfl rfl rfl rfl rfl rfl ?_
  refine y6y (zs := (l.take i ++ [a]).map (b6v true)) rfl rfl c5l rfl a4u rfl rfl rfl rfl (by rfl) (z8z _ _ _) (by (simp only [a0f, r7r, s3s, s6s, a0v, T121]; omega)) ?_
  refine dv 3 ?_
  refine u6u rfl rfl rfl (dv 1 ?_)
  exact ⟨i + 1, ⟨by omega, by omega⟩, [_, _, _, _, _, _, _, _, _], (x8x 3 rfl (Cov.cons' (t := 4) rfl (by rw [y1y (by omega) (by omega)]; rfl) Cov.nil)), x6x, (HE.row rfl (by rw [z7z ha]) (HE.kill rfl (HE.kill rfl (HE.kill rfl (HE.kill rfl (HE.kill rfl (HE.kill rfl (HE.kill rfl (HE.kill rfl HE.nil))))))))), x4x, rfl⟩
 obtain ⟨r, hr⟩ := gE a.rules k
 have hro := (hap.2 k r hr).2.1.2.1
 refine dv 15 fun K K' => ?_
 refine x9x (id := 2) b6c rfl a0w rfl (dv 9 ?_)
 refine a1i v7v (zs := r.ops.map b2j) rfl rfl b6c rfl a0w rfl rfl rfl (z9z (fun _ => rfl) _) rfl (by (simp only [a0f, r7r, s3s, s6s, a0v, T297]; omega)) (Le.ow_map _ (fun _ => rfl) (fun _ => rfl)) ?_
 refine rlB b8s d2u ?_
 refine y5y (id := 4) d2r rfl b8s rfl rfl rfl rfl rfl rfl ?_
 refine y6y (zs := (a.rules.take k ++ [r]).map (c6x true)) rfl rfl d2r rfl b8s rfl rfl rfl rfl (by rfl) (z8z _ _ _) (by (simp only [a0f, r7r, s3s, s6s, a0v, T232]; omega)) ?_
 refine dv 4 ?_
 refine u6u rfl rfl rfl (dv 1 ?_)
 exact ⟨k + 1, ⟨by omega, by omega⟩, [0, 0, _, _, _, _, 0, 0, _], (Cov.cons' (t := 6) rfl (by rw [y1y (by omega) (by omega)]; rfl) Cov.nil), x6x, (HE.row rfl (by rw [z7z hr]) (HE.box rfl rfl (HE.kill rfl (HE.kill rfl (HE.kill rfl (HE.kill rfl HE.nil)))))), x4x, rfl⟩
end
section
theorem b7i (l : List Ap) (fA : a5z l) : Meth Tryz.prog 16 1 [] [a4o true l] [(0, (0, .dead))] (.agg [pI 0, a4o true l, .ref 0 0, .pv (.slice none 0 0), pI 0, .pv (.slice none 0 0), .pv (.slice none 0 0), .pv (.slice none 0 0), .pv (.slice none 0 0)]) [(0, (0, .row 65 13 ((a8v 3).map (u0u true))))] := by
 refine mX Tryz.f16 [.agg [pI 0, a4o true l, .ref 0 0, .pv (.slice none 0 0), pI 0, .pv (.slice none 0 0), .pv (.slice none 0 0), .pv (.slice none 0 0), .pv (.slice none 0 0)]] 1 4 fun γ => ?_
 have hb : ∀ a ∈ l, ∀ r ∈ a.rules, r.ops.length ≤ 1048576 := fun a ha r hr => by obtain ⟨i, hi⟩ := List.getElem?_of_mem hr; have := ((fA.2 a ha).2 i r hi).2.1.2.1; omega
 refine dv 1 ?_
 refine x2x (id := 1) b4t b7p rfl (dv 3 fun K K' => ?_)
 refine x0x rfl rfl rfl (a8n true l hb) (dc 1 (aI ?_ ?_))<;>intro hc2<;>try simp at hc2
 ·exact absurd fA (a0x (by simpa using hc2))
 refine dv 3 ?_
 refine x0x rfl rfl rfl (c4d true l fA) (rlB b4t b7p ?_)
 refine x2x (id := 2) b4t b7p rfl (dv 5 fun K K' => ?_)
 refine a1b 2 2 0 65 13 rfl rfl rfl rfl rfl ?_
 refine x5x (ι := Nat) (fun i γ1 => [(4, pI (i : Int))]) (fun i γ1 => [(0, ((γ1 0), .row 65 13 ((a8v i).map (u0u true)))), (2, ((0 + 1), .box 31 [pI 0, a4o true l, .ref 0 (γ1 0), .pv (.slice none 0 0), pI 0, .pv (.slice none 0 0), .pv (.slice none 0 0), .pv (.slice none 0 0), .pv (.slice none 0 0)])), (3, ((γ1 3), .dead)), (4, ((γ1 4), .dead))]) (fun i => i ≤ 3) (fun i => 3 - i) (r3r [2, 3] rfl) (w9w 1 rfl HE.nil) 0 (by omega) [_, 0, 0, _, _] x6x (HE.row rfl (by rfl) (HE.box rfl rfl (HE.kill rfl (HE.kill rfl HE.nil)))) rfl fun i γ1 hi => ?_
 refine dc 4 (fun K K' => aS ?_ ?_)<;>intro h<;>try simp at h
 ·obtain rfl : i = 3 := by omega
  refine dv 5 ?_
  exact ⟨[_], rfl, rfl, x4x⟩
 refine dv 7 fun K K' => ?_
 refine x0x rfl rfl rfl (b9d (i : Int)) ?_
 refine y5y (id := 3) a5f rfl u1u rfl rfl rfl rfl rfl rfl ?_
 refine y6y (zs := (a8v i ++ [a1n (i : Int)]).map (u0u true)) rfl rfl a5f rfl u1u rfl rfl rfl rfl (by rfl) (z8z _ _ _) (by (simp only [a0f, r7r, s3s, s6s, a0v, a8v, a3d, T65]; omega)) ?_
 refine dv 4 ?_
 refine u6u rfl rfl rfl (dv 1 ?_)
 exact ⟨i + 1, ⟨by omega, by omega⟩, [_, 0, 0, _, _], (Cov.cons' (t := 4) rfl (by rw [y1y (by omega) (by omega)]; rfl) Cov.nil), x6x, (HE.row rfl (by rw [c9p]) (HE.box rfl rfl (HE.kill rfl (HE.kill rfl HE.nil)))), x4x, rfl⟩
end
section
theorem b4j (bs : List Nat) (hbs : ∀ b ∈ bs, b < 256) (p0 most : Nat) (hp : p0 + 502 + 1040 * most ≤ 1000000) : MethE Tryz.prog 133 5 [.ptr 4 0 0, .pv (.int .i64 (most : Int))] [(0, (0, .dead)), (1, (0, .dead)), (2, (0, .dead)), (3, (0, .dead)), (4, (0, .box 243 [u9u true bs, .pv (.int .i64 ((p0 : Nat) : Int))]))] (ι := Sm) (fun S' => smOk S' (p0 + 502 + 1040 * most)) (fun S' => [4]) (fun S' => .ptr 0 0 0) (fun S' => [(0, (0, .box 171 [.ptr 4 0 0, pI S'.w.time, a4o true S'.w.apps, .ref 1 0, .ref 2 0, pI S'.w.hub.round, v8v true S'.w.hub.ones, v8v true S'.w.hub.twos, v8v true S'.w.hub.outs, s0s true S'.w.sink, .ref 3 0])), (1, (0, .row 65 13 ((S'.w.nodes).map (u0u true)))), (2, (0, .row 79 11 ((S'.w.radio).map (u7u true)))), (3, (0, .row 263 5 ((S'.list).map a2z))), (4, (0, .box 243 [u9u true bs, .pv (.int .i64 ((S'.p : Nat) : Int))]))]) := by
 refine mE (ι := Sm) Tryz.f133 (fun S' => [.ptr 0 0 0]) 5 1 fun γ => ?_
 refine dv 2 ?_
 refine r8r fun B X0 w0 => ?_
 refine txR 2 rfl rfl (dv 2 ?_)
 refine txM [4] [_] (c4b bs hbs p0 (by omega)) rfl rfl rfl rfl fun A hA => ?_
 obtain ⟨hA1, hA2⟩ := hA
 refine txR 4 rfl rfl ?_
 refine rlM [1] [_] (b7i A.1 hA1) rfl rfl rfl ?_
 refine rlB f0v f0y ?_
 refine y2y (id := 0) rfl rfl rfl (dv 1 ?_)
 refine z4z rfl (a1b 0 4 2 79 11 rfl rfl rfl rfl rfl (a1b 0 10 3 263 5 rfl rfl rfl rfl rfl ?_))
 refine e5v 0 rfl (.same (.same (.same (.same (.same (.same (.le (b := v8v true ([] : List Wo)) rfl .nil rfl (.le (b := v8v true ([] : List Wo)) rfl .nil rfl (.le (b := v8v true ([] : List Wo)) rfl .nil rfl (.le (b := s0s true ([] : List Ou)) rfl .nil rfl (LeCs.refl _))))))))))) ?_
 refine dv 1 ?_
 refine q5q (id := 5) a0d rfl q9q rfl rfl rfl rfl (.val rfl rfl (.val rfl rfl (.val rfl rfl (.val rfl rfl (.val rfl rfl .nil))))) rfl (s2s rfl) (s2s rfl) (s2s rfl) rfl rfl ?_
 refine dv 1 ?_
 refine rlM [4] [_] (x1x true bs (A.2) (5) (by have := hA2; omega) hbs) rfl rfl rfl ?_
 obtain ⟨z, ez, hz⟩ : ∃ z, pk bs A.2 5 = z ∧ z < 5 := ⟨_, rfl, a3e _ _ _ (by omega)⟩
 rw [ez]
 obtain ⟨odd, hodd⟩ : ∃ x, [0, 0, 3, 6, 12][z]? = some x := ⟨_, List.getElem?_eq_getElem hz⟩
 refine z0z (f := fun x : Nat => [pI (x : Int)]) (l := [0, 0, 3, 6, 12]) (j := z) rfl rfl a0d rfl q9q rfl rfl hz ?_
 refine a4w (f := fun x : Nat => [pI (x : Int)]) (l := [0, 0, 3, 6, 12]) rfl q9q rfl hodd rfl ?_
 refine dv 5 fun K K' => ?_
 refine rlM [4] [_] (x1x true bs (A.2 + 1) (most) (by have := hA2; omega) hbs) rfl rfl rfl ?_
 refine dv 1 ?_
 obtain ⟨N, eN, hN⟩ : ∃ N, pk bs (A.2 + 1) most = N ∧ N ≤ most := ⟨_, rfl, b0v _ _ _⟩
 rw [eN]
 refine dv 1 ?_
 refine x5x (ι := Sm × Nat) (fun p γ1 => [(7, pI (p.2 : Int))]) (fun p γ1 => [(1, ((γ1 1), .row 65 13 ((p.1.w.nodes).map (u0u true)))), (2, ((γ1 2), .row 79 11 ((p.1.w.radio).map (u7u true)))), (3, ((γ1 3), .row 263 5 ((p.1.list).map a2z))), (0, ((γ 0 + 1), .box 171 [.ptr 4 (γ 4) 0, pI p.1.w.time, a4o true p.1.w.apps, .ref 1 (γ1 1), .ref 2 (γ1 2), pI p.1.w.hub.round, v8v true p.1.w.hub.ones, v8v true p.1.w.hub.twos, v8v true p.1.w.hub.outs, s0s true p.1.w.sink, .ref 3 (γ1 3)])), (4, ((γ 4), .box 243 [u9u true bs, pI ((p.1.p : Nat) : Int)]))]) (fun p => smOk p.1 (p0 + 502 + 1040 * (N - p.2)) ∧ p.2 ≤ N) (fun p => p.2) (r3r [5, 6] rfl) (w9w 5 rfl HE.nil) ((⟨⟨0, A.1, a8v 3, [], hb0, []⟩, [], A.2 + 1 + 1⟩ : Sm), N) ⟨e5h hA1 (by show A.2 + 1 + 1 ≤ p0 + 502 + 1040 * (N - N); omega), Nat.le_refl _⟩ [0, _, _, _] x6x x4x rfl fun p γ1 hi => ?_
 obtain ⟨S1, i⟩ := p
 obtain ⟨h1, h2⟩ := hi
 dsimp only at h1 h2 ⊢
 refine dc 4 (fun K K' => aS ?_ ?_)<;>intro h<;>try simp at h
 ·refine dv 5 ?_
  exact ⟨S1, h1.mono (by omega), [_, _, _, _, γ 4], rfl, rfl, x4x⟩
 obtain ⟨i', rfl⟩ : ∃ i', i = i' + 1 := ⟨i - 1, by omega⟩
 refine dv 3 fun K K' => ?_
 refine a6j fun B X0 w0 => ?_
 refine txR 2 rfl rfl (dv 2 ?_)
 refine txM [0, 1, 2, 3, 4] [_, _, _, _, _] (b7h bs hbs S1 (p0 + 502 + 1040 * (N - (i' + 1))) h1 odd (by omega)) rfl rfl rfl rfl fun j hj => ?_
 refine z4z rfl (dv 2 ?_)
 refine r0r (b := 1) rfl rfl (by omega) (by omega) (dv 1 ?_)
 exact ⟨(j, i'), ⟨⟨hj.mono (by show _ ≤ p0 + 502 + 1040 * (N - i'); omega), by show i' ≤ N; omega⟩, (by show i' < i' + 1; omega)⟩, [0, _, _, _], x6x, x6x, x4x, x4x, rfl⟩
end
section
theorem c4e (bs : List Nat) (hbs : ∀ b ∈ bs, b < 256) (p0 : Nat) (hp : p0 + 502 + 1040 * 14 ≤ 1000000) : MethE Tryz.prog 225 1 [.ptr 0 0 0] [(0, (0, .box 243 [u9u true bs, .pv (.int .i64 ((p0 : Nat) : Int))]))] (ι := Sm × Nd) (fun S' => smOk S'.1 (p0 + 503 + 1040 * 14) ∧ S'.2 ∈ S'.1.w.nodes) (fun S' => [0]) (fun S' => .tup [.agg (d5w true S'.1.w), .agg (u0u true S'.2)]) (fun S' => [(0, (0, .box 243 [u9u true bs, .pv (.int .i64 ((S'.1.p : Nat) : Int))]))]) := by
 refine mE (ι := Sm × Nd) Tryz.f225 (fun S' => [.agg (d5w true S'.1.w), .agg (u0u true S'.2)]) 1 7 fun γ => ?_
 refine dv 1 ?_
 refine x2x (id := 1) b4t b7p rfl (x2x (id := 2) u1u q2q rfl (r8r fun B X0 w0 => ?_))
 refine txR 1 rfl rfl (dv 1 ?_)
 refine txM [4, 5, 6, 7, 0] [_, _, _, _, _] (b4j bs hbs p0 14 hp) rfl rfl rfl rfl fun S hS => ?_
 refine txR 5 rfl rfl (dv 3 ?_)
 refine x2x (id := 3) b4t b7p rfl (dv 1 ?_)
 refine z4z rfl (dv 5 ?_)
 refine rlM [0] [_] (x1x true bs (S.p) (3) (by have := hS.2.2; omega) hbs) rfl rfl rfl ?_
 obtain ⟨z, ez, hz⟩ : ∃ z, pk bs S.p 3 = z ∧ z < 3 := ⟨_, rfl, a3e _ _ _ (by omega)⟩
 rw [ez]
 obtain ⟨n, hnd, hnI⟩ := a9b hS.1 (i := z) (by omega)
 refine z0z (j := z) rfl rfl a5f rfl u1u rfl rfl (z1z hnd) ?_
 refine r4r rfl u1u rfl (by assumption) rfl rfl ?_
 refine dv 2 ?_
 refine v3v (b := f0g true S.w.nodes) 1 2 rfl rfl rfl (.ref rfl (Le.ow_map _ (fun _ => rfl) (fun _ => rfl)) .nil) rfl rfl rfl rfl ?_
 refine v3v (b := v8v true S.w.radio) 1 3 rfl rfl rfl (.ref rfl (Le.ow_map _ (fun _ => rfl) (fun _ => rfl)) .nil) rfl rfl rfl rfl ?_
 refine dv 1 ?_
 exact ⟨(pSm S (S.p + 1), n), ⟨a2w hS (by omega) (by have := hS.2.2; omega), List.mem_of_getElem? hnd⟩, [γ 0], rfl, rfl, x4x⟩
end
section
theorem a8b (bs : List Nat) (hbs : ∀ b ∈ bs, b < 256) (p0 : Nat) (hp : p0 + 10 ≤ 100000000) : MethE Tryz.prog 216 1 [.ptr 0 0 0] [(0, (0, .box 243 [u9u true bs, .pv (.int .i64 ((p0 : Nat) : Int))]))] (ι := Ev × Nat) (fun S' => S'.2 ≤ p0 + 10) (fun S' => [0]) (fun S' => .agg (z2z S'.1)) (fun S' => [(0, (0, .box 243 [u9u true bs, .pv (.int .i64 ((S'.2 : Nat) : Int))]))]) := by
 refine mE (ι := Ev × Nat) Tryz.f216 (fun S' => [.agg (z2z S'.1)]) 1 5 fun γ => ?_
 refine dv 1 ?_
 refine x2x (id := 1) z3z a8c rfl (dv 2 ?_)
 refine rlM [0] [_] (x1x true bs (p0) (41) (by have := hp; omega) hbs) rfl rfl rfl ?_
 refine dv 1 ?_
 refine rlM [0] [_] (x1x true bs (p0 + 1) (4) (by have := hp; omega) hbs) rfl rfl rfl ?_
 refine dv 1 ?_
 refine rlM [0] [_] (x1x true bs (p0 + 1 + 1) (5) (by have := hp; omega) hbs) rfl rfl rfl ?_
 have h5 := a3e bs (p0 + 1 + 1) 5 (by omega)
 refine s8s (.int .i64 ((pk bs (p0 + 1 + 1) 5 : Int) - 1)) rfl rfl rfl (a9n rfl (by omega) (by omega) (by omega)) ?_
 refine dv 1 ?_
 refine rlM [0] [_] (x1x true bs (p0 + 1 + 1 + 1) (13) (by have := hp; omega) hbs) rfl rfl rfl ?_
 refine dv 1 ?_
 refine rlM [0] [_] (x1x true bs (p0 + 1 + 1 + 1 + 1) (3) (by have := hp; omega) hbs) rfl rfl rfl ?_
 refine dv 1 ?_
 refine rlM [0] [_] (x1x true bs (p0 + 1 + 1 + 1 + 1 + 1) (3) (by have := hp; omega) hbs) rfl rfl rfl ?_
 refine dv 1 ?_
 refine rlM [0] [_] (x1x true bs (p0 + 1 + 1 + 1 + 1 + 1 + 1) (40) (by have := hp; omega) hbs) rfl rfl rfl ?_
 refine rlB z3z a8c ?_
 refine x2x (id := 2) z3z a8c rfl (dv 1 ?_)
 refine p9p (ι := Ev × Nat) (fun s γ1 => []) (fun s γ1 => [(0, ((γ 0), .box 243 [u9u true bs, pI ((s.2 : Nat) : Int)])), (2, ((0 + 1), .box 56 (z2z s.1))), (3, ((γ1 3), .dead)), (4, ((γ1 4), .dead)), (5, ((γ1 5), .dead))]) (fun s => s.2 ≤ p0 + 10) (r3r [2, 3] rfl) (w9w 1 rfl HE.nil) ?_ fun s γ1 hi => ?_
 ·refine dv 2 ?_
  refine rlM [0] [_] (x1x true bs (p0 + 1 + 1 + 1 + 1 + 1 + 1 + 1) (20) (by have := hp; omega) hbs) rfl rfl rfl ?_
  refine dc 4 (aI ?_ ?_)<;>intro h<;>try simp at h
  ·refine dv 1 ?_
   refine q5q (id := 3) a0d rfl q9q rfl rfl rfl rfl (.val rfl rfl (.val rfl rfl (.val rfl rfl .nil))) rfl (s2s rfl) (s2s rfl) (s2s rfl) rfl rfl ?_
   refine dv 1 ?_
   refine rlM [0] [_] (x1x true bs (p0 + 1 + 1 + 1 + 1 + 1 + 1 + 1 + 1) (3) (by have := hp; omega) hbs) rfl rfl rfl ?_
   obtain ⟨z, ez, hz⟩ : ∃ z, pk bs (p0 + 1 + 1 + 1 + 1 + 1 + 1 + 1 + 1) 3 = z ∧ z < 3 := ⟨_, rfl, a3e _ _ _ (by omega)⟩
   rw [ez]
   obtain ⟨v, hv⟩ : ∃ x, ([-1, 40, 41] : List Int)[z]? = some x := ⟨_, List.getElem?_eq_getElem hz⟩
   refine z0z (f := fun x : Int => [pI x]) (l := [-1, 40, 41]) (j := z) rfl rfl a0d rfl q9q rfl rfl hz ?_
   refine a4w (f := fun x : Int => [pI x]) (l := [-1, 40, 41]) rfl q9q rfl hv rfl ?_
   refine dv 2 ?_
   exact ⟨({ (⟨(pk bs (p0) 41 : Int), (pk bs (p0 + 1) 4 : Int), (pk bs (p0 + 1 + 1) 5 : Int) - 1, (pk bs (p0 + 1 + 1 + 1) 13 : Int), (pk bs (p0 + 1 + 1 + 1 + 1) 3 : Int), (pk bs (p0 + 1 + 1 + 1 + 1 + 1) 3 : Int), (pk bs (p0 + 1 + 1 + 1 + 1 + 1 + 1) 40 : Int)⟩ : Ev) with time := v }, p0 + 1 + 1 + 1 + 1 + 1 + 1 + 1 + 1 + 1), (by show p0 + 1 + 1 + 1 + 1 + 1 + 1 + 1 + 1 + 1 ≤ _; omega), [0, 0, 0, _, _, _], x6x, x6x, x4x, x4x, rfl⟩
  refine dc 3 (aI ?_ ?_)<;>intro h<;>try simp at h
  ·refine dv 1 ?_
   refine q5q (id := 4) a0d rfl q9q rfl rfl rfl rfl (.val rfl rfl (.val rfl rfl .nil)) rfl (s2s rfl) (s2s rfl) (s2s rfl) rfl rfl ?_
   refine dv 1 ?_
   refine rlM [0] [_] (x1x true bs (p0 + 1 + 1 + 1 + 1 + 1 + 1 + 1 + 1) (2) (by have := hp; omega) hbs) rfl rfl rfl ?_
   obtain ⟨z, ez, hz⟩ : ∃ z, pk bs (p0 + 1 + 1 + 1 + 1 + 1 + 1 + 1 + 1) 2 = z ∧ z < 2 := ⟨_, rfl, a3e _ _ _ (by omega)⟩
   rw [ez]
   obtain ⟨v, hv⟩ : ∃ x, ([-1, 4] : List Int)[z]? = some x := ⟨_, List.getElem?_eq_getElem hz⟩
   refine z0z (f := fun x : Int => [pI x]) (l := [-1, 4]) (j := z) rfl rfl a0d rfl q9q rfl rfl hz ?_
   refine a4w (f := fun x : Int => [pI x]) (l := [-1, 4]) rfl q9q rfl hv rfl ?_
   refine dv 2 ?_
   exact ⟨({ (⟨(pk bs (p0) 41 : Int), (pk bs (p0 + 1) 4 : Int), (pk bs (p0 + 1 + 1) 5 : Int) - 1, (pk bs (p0 + 1 + 1 + 1) 13 : Int), (pk bs (p0 + 1 + 1 + 1 + 1) 3 : Int), (pk bs (p0 + 1 + 1 + 1 + 1 + 1) 3 : Int), (pk bs (p0 + 1 + 1 + 1 + 1 + 1 + 1) 40 : Int)⟩ : Ev) with to := v }, p0 + 1 + 1 + 1 + 1 + 1 + 1 + 1 + 1 + 1), (by show p0 + 1 + 1 + 1 + 1 + 1 + 1 + 1 + 1 + 1 ≤ _; omega), [0, 0, 0, _, _, _], x6x, x6x, x4x, x4x, rfl⟩
  refine dc 3 (aS ?_ ?_)<;>intro h<;>try simp at h
  ·refine dv 1 ?_
   exact ⟨((⟨(pk bs (p0) 41 : Int), (pk bs (p0 + 1) 4 : Int), (pk bs (p0 + 1 + 1) 5 : Int) - 1, (pk bs (p0 + 1 + 1 + 1) 13 : Int), (pk bs (p0 + 1 + 1 + 1 + 1) 3 : Int), (pk bs (p0 + 1 + 1 + 1 + 1 + 1) 3 : Int), (pk bs (p0 + 1 + 1 + 1 + 1 + 1 + 1) 40 : Int)⟩ : Ev), p0 + 1 + 1 + 1 + 1 + 1 + 1 + 1 + 1), (by show p0 + 1 + 1 + 1 + 1 + 1 + 1 + 1 + 1 ≤ _; omega), [0, 0, 0, _, _, _], x6x, x6x, x4x, x4x, rfl⟩
  refine dv 1 ?_
  refine q5q (id := 5) a0d rfl q9q rfl rfl rfl rfl (.val rfl rfl (.val rfl rfl (.val rfl rfl .nil))) rfl (s2s rfl) (s2s rfl) (s2s rfl) rfl rfl ?_
  refine dv 1 ?_
  refine rlM [0] [_] (x1x true bs (p0 + 1 + 1 + 1 + 1 + 1 + 1 + 1 + 1) (3) (by have := hp; omega) hbs) rfl rfl rfl ?_
  obtain ⟨z, ez, hz⟩ : ∃ z, pk bs (p0 + 1 + 1 + 1 + 1 + 1 + 1 + 1 + 1) 3 = z ∧ z < 3 := ⟨_, rfl, a3e _ _ _ (by omega)⟩
  rw [ez]
  obtain ⟨v, hv⟩ : ∃ x, ([-1, 999, 1000] : List Int)[z]? = some x := ⟨_, List.getElem?_eq_getElem hz⟩
  refine z0z (f := fun x : Int => [pI x]) (l := [-1, 999, 1000]) (j := z) rfl rfl a0d rfl q9q rfl rfl hz ?_
  refine a4w (f := fun x : Int => [pI x]) (l := [-1, 999, 1000]) rfl q9q rfl hv rfl ?_
  refine dv 2 ?_
  exact ⟨({ (⟨(pk bs (p0) 41 : Int), (pk bs (p0 + 1) 4 : Int), (pk bs (p0 + 1 + 1) 5 : Int) - 1, (pk bs (p0 + 1 + 1 + 1) 13 : Int), (pk bs (p0 + 1 + 1 + 1 + 1) 3 : Int), (pk bs (p0 + 1 + 1 + 1 + 1 + 1) 3 : Int), (pk bs (p0 + 1 + 1 + 1 + 1 + 1 + 1) 40 : Int)⟩ : Ev) with arg := v }, p0 + 1 + 1 + 1 + 1 + 1 + 1 + 1 + 1 + 1), (by show p0 + 1 + 1 + 1 + 1 + 1 + 1 + 1 + 1 + 1 ≤ _; omega), [0, 0, 0, _, _, _], x6x, x6x, x4x, x4x, rfl⟩
 ·try dsimp only [b1n, b1o]
  refine dv 4 ?_
  exact ⟨s, hi, [γ 0], rfl, rfl, x4x⟩
theorem c7n (bs : List Nat) (hbs : ∀ b ∈ bs, b < 256) (p0 : Nat) (hp : p0 + 10 ≤ 100000000) : MethE Tryz.prog 226 1 [.ptr 0 0 0] [(0, (0, .box 243 [u9u true bs, .pv (.int .i64 ((p0 : Nat) : Int))]))] (ι := Ou × Nat) (fun S' => S'.2 ≤ p0 + 5) (fun S' => [0]) (fun S' => .agg (r9r S'.1)) (fun S' => [(0, (0, .box 243 [u9u true bs, .pv (.int .i64 ((S'.2 : Nat) : Int))]))]) := by
 refine mE (ι := Ou × Nat) Tryz.f226 (fun S' => [.agg (r9r S'.1)]) 1 1 fun γ => ?_
 refine dv 1 ?_
 refine x2x (id := 1) w6w c4n rfl (dv 2 ?_)
 refine rlM [0] [_] (x1x true bs (p0) (6) (by have := hp; omega) hbs) rfl rfl rfl ?_
 refine dv 1 ?_
 refine rlM [0] [_] (x1x true bs (p0 + 1) (4) (by have := hp; omega) hbs) rfl rfl rfl ?_
 refine dv 1 ?_
 refine rlM [0] [_] (x1x true bs (p0 + 1 + 1) (3) (by have := hp; omega) hbs) rfl rfl rfl ?_
 refine dv 1 ?_
 refine rlM [0] [_] (x1x true bs (p0 + 1 + 1 + 1) (2) (by have := hp; omega) hbs) rfl rfl rfl ?_
 refine dv 1 ?_
 refine rlM [0] [_] (x1x true bs (p0 + 1 + 1 + 1 + 1) (4) (by have := hp; omega) hbs) rfl rfl rfl ?_
 refine rlB w6w c4n ?_
 refine dv 2 ?_
 exact ⟨((⟨(pk bs (p0) 6 : Int), (pk bs (p0 + 1) 4 : Int), (pk bs (p0 + 1 + 1) 3 : Int), (pk bs (p0 + 1 + 1 + 1) 2 : Int), (pk bs (p0 + 1 + 1 + 1 + 1) 4 : Int)⟩ : Ou), p0 + 1 + 1 + 1 + 1 + 1), (by show p0 + 1 + 1 + 1 + 1 + 1 ≤ _; omega), [γ 0], rfl, rfl, x4x⟩
theorem b9m (bs : List Nat) (hbs : ∀ b ∈ bs, b < 256) (p0 m : Nat) (hm : m ≤ 1000) (hp : p0 + 1 + 13 * m ≤ 100000000) : MethE Tryz.prog 227 1 [.ptr 0 0 0, .pv (.int .i64 (m : Int))] [(0, (0, .box 243 [u9u true bs, .pv (.int .i64 ((p0 : Nat) : Int))]))] (ι := List Ev × Nat) (fun S' => S'.1.length ≤ m ∧ S'.2 ≤ p0 + 1 + 13 * m) (fun S' => [0]) (fun S' => a0g true S'.1) (fun S' => [(0, (0, .box 243 [u9u true bs, .pv (.int .i64 ((S'.2 : Nat) : Int))]))]) := by
 refine mE (ι := List Ev × Nat) Tryz.f227 (fun S' => [a0g true S'.1]) 1 4 fun γ => ?_
 refine dv 3 ?_
 refine x9x (id := 1) v2v rfl z3z rfl (dv 5 fun K K' => ?_)
 refine rlM [0] [_] (x1x true bs (p0) (m) (by have := hp; omega) hbs) rfl rfl rfl ?_
 refine dv 1 ?_
 obtain ⟨N, eN, hN⟩ : ∃ N, pk bs p0 m = N ∧ N ≤ m := ⟨_, rfl, b0v _ _ _⟩
 rw [eN]
 refine dv 1 ?_
 refine x5x (ι := List Ev × Nat × Nat) (fun p γ1 => [(5, .ref 1 (γ1 1)), (6, pI (p.2.2 : Int))]) (fun p γ1 => [(1, ((γ1 1), .row 56 7 ((p.1).map z2z))), (0, ((γ 0), .box 243 [u9u true bs, pI ((p.2.1 : Nat) : Int)])), (2, ((γ1 2), .dead)), (3, ((γ1 3), .dead)), (4, ((γ1 4), .dead))]) (fun p => p.1.length + p.2.2 ≤ N ∧ p.2.1 + 13 * p.2.2 ≤ p0 + 1 + 13 * N) (fun p => p.2.2) (x8x 0 rfl Cov.nil) HE.nil ([], p0 + 1, N) ⟨Nat.le_of_eq (Nat.zero_add _), Nat.le_refl _⟩ [0, _, _, _, _] x6x (HE.row rfl (by rfl) (HE.box rfl rfl (HE.kill rfl (HE.kill rfl (HE.kill rfl HE.nil))))) rfl fun p γ1 hi => ?_
 obtain ⟨l, q, n⟩ := p
 obtain ⟨h1, h2⟩ := hi
 dsimp only at h1 h2 ⊢
 refine dc 4 (fun K K' => aS ?_ ?_)<;>intro h<;>try simp at h
 ·refine dv 1 ?_
  refine r1r (f := z2z) 5 rfl rfl (fun _ => rfl) ?_
  refine dv 4 ?_
  exact ⟨(l, q), ⟨by show l.length ≤ m; omega, by show q ≤ p0 + 1 + 13 * m; omega⟩, [γ 0], rfl, rfl, x4x⟩
 obtain ⟨n', rfl⟩ : ∃ n', n = n' + 1 := ⟨n - 1, by omega⟩
 refine dv 3 fun K K' => ?_
 refine r8r fun B X0 w0 => ?_
 refine txR 1 rfl rfl (dv 1 ?_)
 refine txM [0] [_] (a8b bs hbs q (by omega)) rfl rfl rfl rfl fun e he => ?_
 refine txR 2 rfl rfl (x2x (id := 2) z3z a8c rfl (dv 1 ?_))
 refine z4z rfl ?_
 refine p9p (ι := Ev × Nat) (fun s γ2 => []) (fun s γ2 => [(0, ((γ 0), .box 243 [u9u true bs, pI ((s.2 : Nat) : Int)])), (2, ((γ1 2 + 1), .box 56 (z2z s.1)))]) (fun s => s.2 ≤ q + 13) (r3r [0, 5, 6, 7] rfl) (a1c [1, 3, 4] rfl) ?_ fun s γ2 hi => ?_
 ·refine dv 2 ?_
  refine a4e (n := l.length) rfl v2v rfl rfl (List.length_map _) ?_
  refine dc 2 (aS ?_ ?_)<;>intro h<;>try simp at h
  ·refine dv 5 ?_
   exact ⟨(e.1, e.2), (by show e.2 ≤ _; omega), [], x6x, x6x, x4x, x4x, rfl⟩
  refine dv 1 ?_
  refine rlM [0] [_] (x1x true bs (e.2) (4) (by have := he; omega) hbs) rfl rfl rfl ?_
  refine dc 2 (aS ?_ ?_)<;>intro h<;>try simp at h
  ·refine dv 1 ?_
   exact ⟨(e.1, e.2 + 1), (by show e.2 + 1 ≤ _; omega), [], x6x, x6x, x4x, x4x, rfl⟩
  refine dv 4 ?_
  refine a4e (n := l.length) rfl v2v rfl rfl (List.length_map _) ?_
  refine rlM [0] [_] (x1x true bs (e.2 + 1) (l.length) (by have := he; omega) hbs) rfl rfl rfl ?_
  obtain ⟨z, ez, hz⟩ : ∃ z, pk bs (e.2 + 1) l.length = z ∧ z < l.length := ⟨_, rfl, a3e _ _ _ (by omega)⟩
  rw [ez]
  obtain ⟨v, hv⟩ : ∃ v, l[z]? = some v := ⟨_, List.getElem?_eq_getElem hz⟩
  refine z0z (j := z) rfl rfl v2v rfl z3z rfl rfl hz ?_
  refine r4r rfl z3z rfl (by assumption) rfl rfl ?_
  refine dv 3 ?_
  refine rlM [0] [_] (x1x true bs (e.2 + 1 + 1) (3) (by have := he; omega) hbs) rfl rfl rfl ?_
  refine dv 2 ?_
  exact ⟨({ v with n := (pk bs (e.2 + 1 + 1) 3 : Int) }, e.2 + 1 + 1 + 1), (by show e.2 + 1 + 1 + 1 ≤ _; omega), [], x6x, x6x, x4x, x4x, rfl⟩
 ·try dsimp only [b1n, b1o]
  refine dv 3 ?_
  refine y5y (id := 3) v2v rfl z3z rfl rfl rfl rfl rfl rfl ?_
  refine y6y (zs := (l ++ [s.1]).map z2z) rfl rfl v2v rfl z3z rfl rfl rfl rfl (by rfl) (z8z z2z l s.1) (by (simp only [a0f, r7r, s3s, s6s, a0v, a3d, T56]; omega)) ?_
  refine dv 3 ?_
  refine r0r (b := 1) rfl rfl (by omega) (by omega) (dv 1 ?_)
  exact ⟨(l ++ [s.1], s.2, n'), ⟨⟨by show (l ++ [s.1]).length + n' ≤ N; rw [List.length_append]; show l.length + 1 + n' ≤ N; omega, by show s.2 + 13 * n' ≤ _; omega⟩, (by show n' < n' + 1; omega)⟩, [0, _, _, _, _], x6x, x6x, (HE.row rfl (by rfl) (HE.box rfl rfl (HE.kill rfl (HE.kill rfl (HE.kill rfl HE.nil))))), x4x, rfl⟩
end
section
theorem b8p (c : Bool) (n : Nd) (hl : n.lanes.length ≤ 1000000) (hk : n.kept.length ≤ 1000000) (ho : n.outs.length ≤ 1000000) (hd : ∀ l ∈ n.lanes, lb l) : Meth Tryz.prog 155 5 [] [.agg (u0u c n)] [(0, (0, .dead)), (1, (0, .dead)), (2, (0, .dead)), (3, (0, .dead)), (4, (0, .dead))] (.agg [pI n.id, .pv (.bool n.up), pI n.inc, pI n.g, .ref 0 0, .ref 3 0, .ref 4 0, pI n.led, pI 0, .ref 1 0, .ref 2 0, pI 0, pI 41]) [(0, (0, .row 44 5 ((n.lanes.map p6p).map (r2r true)))), (1, (0, .row 190 3 ([vi0, vi0, vi0].map (a3x true)))), (2, (0, .row 3 1 ([0, 0, 0].map a6f))), (3, (0, .row 56 7 ((n.kept).map z2z))), (4, (0, .row 141 5 ((n.outs).map r9r)))] := by
 refine mX Tryz.f155 [.agg [pI n.id, .pv (.bool n.up), pI n.inc, pI n.g, .ref 0 0, .ref 3 0, .ref 4 0, pI n.led, pI 0, .ref 1 0, .ref 2 0, pI 0, pI 41]] 5 11 fun γ => ?_
 refine dv 1 ?_
 refine y2y (id := 5) rfl rfl rfl (x2x (id := 6) u1u q2q rfl (dv 9 ?_))
 refine x9x (id := 3) v2v rfl z3z rfl (dv 2 ?_)
 refine p2p (zs := (n.kept).map z2z) rfl rfl v2v rfl z3z rfl rfl rfl (z9z (fun _ => rfl) _) rfl (by (simp only [a0f, r7r, s3s, s6s, a0v, a3d, b2n, T56]; omega)) ?_
 refine x9x (id := 4) a0l rfl w6w rfl (dv 2 ?_)
 refine p2p (zs := (n.outs).map r9r) rfl rfl a0l rfl w6w rfl rfl rfl (z9z (fun _ => rfl) _) rfl (by (simp only [a0f, r7r, s3s, s6s, a0v, a3d, b2n, T141]; omega)) ?_
 refine dv 2 ?_
 refine rlB u1u q2q ?_
 refine x2x (id := 9) u1u q2q rfl (dv 5 fun K K' => ?_)
 refine a1b 9 4 0 44 5 rfl rfl rfl rfl rfl ?_
 refine x5x (ι := Nat) (fun i γ1 => [(4, pI (i : Int))]) (fun i γ1 => [(0, ((γ1 0), .row 44 5 (((n.lanes.take i).map p6p).map (r2r true)))), (9, ((0 + 1), .box 65 [pI n.id, .pv (.bool n.up), pI n.inc, pI n.g, .ref 0 (γ1 0), .ref 3 (γ 3 + 1 + 1), .ref 4 (γ 4 + 1 + 1), pI n.led, pI 0, .pv (.slice none 0 0), .pv (.slice none 0 0), pI 0, pI 41])), (10, ((γ1 10), .dead)), (11, ((γ1 11), .dead))]) (fun i => i ≤ n.lanes.length) (fun i => n.lanes.length - i) (r3r [1, 2, 3] rfl) (a1c [1, 2, 3, 4, 5, 6, 7, 8, 12, 13, 14, 15] rfl) 0 (by omega) [_, 0, 0, 0, 0, 0, 0, 0, 0, 0, _, _] x6x (HE.row rfl (by rw [List.take_zero]; rfl) (HE.box rfl rfl (HE.kill rfl (HE.kill rfl HE.nil)))) rfl fun i γ1 hi => ?_
 refine dc 7 (fun K K' => aI ?_ ?_)<;>intro o<;>try simp at o
 ·obtain ⟨a, ha⟩ := gE n.lanes i
  have had := hd a (List.mem_of_getElem? ha)
  refine dv 11 fun K K' => ?_
  refine x0x rfl rfl rfl (a2r c a 0 0 had.1 (by omega) (by omega) had.2) ?_
  refine y5y (id := 10) a8q rfl a0u rfl rfl rfl rfl rfl rfl ?_
  refine y6y (zs := ((n.lanes.take i).map p6p ++ [p6p a]).map (r2r true)) rfl rfl a8q rfl a0u rfl rfl rfl rfl (by rfl) (z8z _ _ _) (by (simp only [a0f, r7r, s3s, s6s, a0v, a3d, b2n, T44]; omega)) ?_
  refine dv 4 ?_
  refine u6u rfl rfl rfl (dv 1 ?_)
  exact ⟨i + 1, ⟨by omega, by omega⟩, [_, 0, 0, 0, 0, 0, 0, 0, 0, 0, _, _], (Cov.cons' (t := 4) rfl (by rw [y1y (by omega) (by omega)]; rfl) Cov.nil), x6x, (HE.row rfl (by simp only [z7z ha, List.map_append, List.map_cons, List.map_nil]) (HE.box rfl rfl (HE.kill rfl (HE.kill rfl HE.nil)))), x4x, rfl⟩
 obtain rfl : i = n.lanes.length := by omega
 refine dv 5 fun K K' => ?_
 refine a1b 9 9 1 190 3 rfl rfl rfl rfl rfl (a1b 9 10 2 3 1 rfl rfl rfl rfl rfl ?_)
 refine x5x (ι := Nat) (fun i γ2 => [(5, pI (i : Int))]) (fun i γ2 => [(1, ((γ2 1), .row 190 3 ((List.range i).map fun _ => b0z))), (2, ((γ2 2), .row 3 1 ((List.range i).map fun _ => a6f 0))), (9, ((0 + 1), .box 65 [pI n.id, .pv (.bool n.up), pI n.inc, pI n.g, .ref 0 (γ1 0), .ref 3 (γ 3 + 1 + 1), .ref 4 (γ 4 + 1 + 1), pI n.led, pI 0, .ref 1 (γ2 1), .ref 2 (γ2 2), pI 0, pI 41])), (12, ((γ2 12), .dead)), (13, ((γ2 13), .dead)), (14, ((γ2 14), .dead)), (15, ((γ2 15), .dead))]) (fun i => i ≤ 3) (fun i => 3 - i) (r3r [2, 3] rfl) (a1c [0, 3, 4, 5, 6, 7, 8, 10, 11] rfl) 0 (by omega) [0, _, _, 0, 0, 0, 0, 0, 0, 0, 0, 0, _, _, _, _] x6x x4x rfl fun i γ2 hi => ?_
 refine dc 4 (fun K K' => aS ?_ ?_)<;>intro o<;>try simp at o
 ·obtain rfl : i = 3 := by omega
  rw [List.take_length]
  refine dv 4 ?_
  refine c8p (f := fun _ => b0z) (f' := fun _ => a3x true vi0) (l := List.range 3) 1 rfl (fun _ => .same (.same (.le rfl .nil rfl .nil))) ?_
  refine dv 1 ?_
  exact ⟨[_, _, _, _, _], rfl, rfl, x4x⟩
 refine dv 6 fun K K' => ?_
 refine rlB a0c a9l ?_
 refine y5y (id := 12) b1g rfl a0c rfl rfl rfl rfl rfl rfl ?_
 refine y6y (zs := (List.range i).map (fun _ => b0z) ++ [b0z]) rfl rfl b1g rfl a0c rfl rfl rfl rfl (by rfl) rfl (by (simp only [a0f, r7r, s3s, s6s, a0v, a3d, b2n, T190]; omega)) ?_
 refine dv 5 ?_
 refine a9m (id := 14) a0d rfl q9q rfl rfl rfl rfl rfl ?_
 refine y6y (zs := (List.range i).map (fun _ => a6f 0) ++ [a6f 0]) rfl rfl a0d rfl q9q rfl rfl rfl rfl (by rfl) rfl (by (simp only [a0f, r7r, s3s, s6s, a0v, a3d, b2n, T3]; omega)) ?_
 refine dv 4 ?_
 refine u6u rfl rfl rfl (dv 1 ?_)
 exact ⟨i + 1, ⟨by omega, by omega⟩, [0, _, _, 0, 0, 0, 0, 0, 0, 0, 0, 0, _, _, _, _], (Cov.cons' (t := 5) rfl (by rw [y1y (by omega) (by omega)]; rfl) Cov.nil), x6x, (HE.row rfl (by rw [List.range_succ, List.map_append]; rfl) (HE.row rfl (by rw [List.range_succ, List.map_append]; rfl) (HE.box rfl rfl (HE.kill rfl (HE.kill rfl (HE.kill rfl (HE.kill rfl HE.nil))))))), x4x, rfl⟩
theorem b9n (c : Bool) (n : Nd) (h : nb n) : Meth Tryz.prog 161 5 [] [.agg (u0u c n)] [(0, (0, .dead)), (1, (0, .dead)), (2, (0, .dead)), (3, (0, .dead)), (4, (0, .dead))] (.agg [pI n.id, .pv (.bool n.up), pI n.inc, pI n.g, .ref 0 0, .ref 3 0, .ref 4 0, pI n.led, pI n.version, .ref 1 0, .ref 2 0, pI n.round, pI n.low]) [(0, (0, .row 44 5 ((n.lanes).map a4j))), (1, (0, .row 190 3 ((n.views).map (a3x true)))), (2, (0, .row 3 1 (n.known.map a6f))), (3, (0, .row 56 7 ((n.kept).map z2z))), (4, (0, .row 141 5 ((n.outs).map r9r)))] := by
 refine mX Tryz.f161 [.agg [pI n.id, .pv (.bool n.up), pI n.inc, pI n.g, .ref 0 0, .ref 3 0, .ref 4 0, pI n.led, pI n.version, .ref 1 0, .ref 2 0, pI n.round, pI n.low]] 5 11 fun γ => ?_
 obtain ⟨b1, b2, b3, b4, b5, b6, b7⟩ := h
 refine dv 1 ?_
 refine y2y (id := 5) rfl rfl rfl (x2x (id := 6) u1u q2q rfl (dv 2 ?_))
 refine rlM [0, 13, 14, 3, 4] [_, _, _, _, _] (b8p c n b1 b2 b3 b4) rfl rfl rfl ?_
 refine x2x (id := 7) u1u q2q rfl (dv 5 fun K K' => ?_)
 refine x5x (ι := Nat) (fun i γ1 => [(4, pI (i : Int))]) (fun i γ1 => [(15, ((γ1 15), .dead)), (0, ((γ 0 + 1), .row 44 5 ((n.lanes.take i).map a4j ++ ((n.lanes.drop i).map p6p).map (r2r true))))]) (fun i => i ≤ n.lanes.length) (fun i => n.lanes.length - i) (r3r [1, 2, 3] rfl) (a1c [1, 2, 3, 4, 5, 6, 7, 8, 9, 10, 11, 12, 13, 14] rfl) 0 (by omega) [0, 0, 0, 0, 0, 0, 0, 0, 0, 0, 0, 0, 0, 0, 0, _] x6x (HE.kill rfl (HE.row rfl (by rw [List.take_zero, List.drop_zero]; rfl) HE.nil)) rfl fun i γ1 hi => ?_
 refine dc 7 (fun K K' => aI ?_ ?_)<;>intro o<;>try simp at o
 ·obtain ⟨p, hp⟩ := gE n.lanes i
  have hpl := b4 p (List.mem_of_getElem? hp)
  have hAl : ((n.lanes.take i).map a4j).length = i := by rw [List.length_map, List.length_take]; omega
  rw [p3p hp, List.map_cons, List.map_cons]
  refine dv 19 fun K K' => ?_
  refine rlM [15] [_] (b1d c p 0 p.done.length hpl.1 (by omega) hpl.1 hpl.2) rfl rfl rfl ?_
  refine c0t rfl rfl a8q rfl a0u rfl rfl hAl (c4r hAl rfl rfl a0u rfl rfl rfl rfl (.val rfl rfl (.val rfl rfl (.val rfl rfl (.val rfl rfl (.ref rfl (q7q fun _ => rfl) .nil rfl rfl))))) rfl ?_)
  refine dv 2 ?_
  refine u6u rfl rfl rfl (dv 1 ?_)
  exact ⟨i + 1, ⟨by omega, by omega⟩, [0, 0, 0, 0, 0, 0, 0, 0, 0, 0, 0, 0, 0, 0, 0, _], (Cov.cons' (t := 4) rfl (by rw [y1y (by omega) (by omega)]; rfl) Cov.nil), x6x, (HE.kill rfl (HE.row rfl (by rw [b5d]; simp only [z7z hp, List.map_append, List.append_assoc]; rfl) HE.nil)), x4x, rfl⟩
 obtain rfl : i = n.lanes.length := by omega
 rw [List.take_length, List.drop_length, List.map_nil, List.map_nil, List.append_nil]
 refine dv 17 ?_
 refine x9x (id := 1) b1g rfl a0c rfl (dv 6 fun K K' => ?_)
 refine x5x (ι := Nat) (fun j γ2 => [(5, pI (j : Int))]) (fun j γ2 => [(1, ((γ2 1), .row 190 3 ((n.views.take j).map (a3x true)))), (7, ((0 + 1), .box 65 [pI n.id, .pv (.bool n.up), pI n.inc, pI n.g, .ref 0 (γ 0 + 1), .ref 3 (γ 3 + 1), .ref 4 (γ 4 + 1), pI n.led, pI n.version, .ref 1 (γ2 1), .ref 14 (0 + 1), pI n.round, pI n.low])), (8, ((γ2 8), .dead)), (9, ((γ2 9), .dead)), (10, ((γ2 10), .dead)), (11, ((γ2 11), .dead))]) (fun j => j ≤ n.views.length) (fun j => n.views.length - j) (r3r [1, 2, 3] rfl) (a1c [0, 2, 3, 4, 5, 6, 12, 13, 14, 15] rfl) 0 (by omega) [0, _, 0, 0, 0, 0, 0, 0, _, _, _, _] x6x (HE.row rfl (by rw [List.take_zero]; rfl) (HE.box rfl rfl (HE.kill rfl (HE.kill rfl (HE.kill rfl (HE.kill rfl HE.nil)))))) rfl fun j γ2 hi => ?_
 refine dc 7 (fun K K' => aS ?_ ?_)<;>intro o<;>try simp at o
 ·obtain rfl : j = n.views.length := by omega
  rw [List.take_length]
  refine dv 2 ?_
  refine x9x (id := 2) a0d rfl q9q rfl (dv 2 ?_)
  refine p2p (zs := n.known.map a6f) rfl rfl a0d rfl q9q rfl rfl rfl (z9z (fun _ => rfl) _) rfl (by (simp only [a0f, r7r, s3s, s6s, a0v, a3d, b2n, T3]; omega)) ?_
  refine dv 6 ?_
  exact ⟨[_, _, _, _, _], rfl, rfl, x4x⟩
 obtain ⟨v, hv⟩ := gE n.views j
 have hve := b6 v (List.mem_of_getElem? hv)
 refine dv 18 fun K K' => ?_
 refine x9x (id := 8) v2v rfl z3z rfl (dv 6 ?_)
 refine a1i v7v (zs := (v.events).map z2z) rfl rfl v2v rfl z3z rfl rfl rfl (z9z (fun _ => rfl) _) rfl (by (simp only [a0f, r7r, s3s, s6s, a0v, a3d, b2n, T56]; omega)) (Le.ow_map _ (fun _ => rfl) (fun _ => rfl)) ?_
 refine rlB a0c a9l ?_
 refine y5y (id := 10) b1g rfl a0c rfl rfl rfl rfl rfl rfl ?_
 refine y6y (zs := (n.views.take j ++ [v]).map (a3x true)) rfl rfl b1g rfl a0c rfl rfl rfl rfl (by rfl) (z8z _ _ _) (by (simp only [a0f, r7r, s3s, s6s, a0v, a3d, b2n, T190]; omega)) ?_
 refine dv 4 ?_
 refine u6u rfl rfl rfl (dv 1 ?_)
 exact ⟨j + 1, ⟨by omega, by omega⟩, [0, _, 0, 0, 0, 0, 0, 0, _, _, _, _], (Cov.cons' (t := 5) rfl (by rw [y1y (by omega) (by omega)]; rfl) Cov.nil), x6x, (HE.row rfl (by rw [z7z hv]) (HE.box rfl rfl (HE.kill rfl (HE.kill rfl (HE.kill rfl (HE.kill rfl HE.nil)))))), x4x, rfl⟩
end
section
theorem b8q (bs : List Nat) (hbs : ∀ b ∈ bs, b < 256) (p0 : Nat) (hp : p0 + 502 + 1040 * 14 ≤ 1000000) : MethE Tryz.prog 122 1 [.ptr 0 0 0] [(0, (0, .box 243 [u9u true bs, .pv (.int .i64 ((p0 : Nat) : Int))]))] (ι := Tw × Nd × Nat) (fun S' => b8j S'.1 ∧ c3b S'.2.1 ∧ S'.2.2 ≤ p0 + 15200) (fun S' => [0]) (fun S' => .tup [.agg (d5w true S'.1), .agg (u0u true S'.2.1)]) (fun S' => [(0, (0, .box 243 [u9u true bs, .pv (.int .i64 ((S'.2.2 : Nat) : Int))]))]) := by
 refine mE (ι := Tw × Nd × Nat) Tryz.f122 (fun S' => [.agg (d5w true S'.1), .agg (u0u true S'.2.1)]) 1 20 fun γ => ?_
 refine dv 1 ?_
 refine x2x (id := 1) b4t b7p rfl (x2x (id := 2) u1u q2q rfl (r8r fun B X0 w0 => ?_))
 refine txR 1 rfl rfl (dv 1 ?_)
 refine txM [0] [_] (c4e bs hbs p0 hp) rfl rfl rfl rfl fun j hj => ?_
 obtain ⟨hj1, hj2⟩ := hj
 have hq : j.1.p ≤ p0 + 503 + 1040 * 14 := hj1.2.2
 have hI := hj1.1.2.2.1 j.2 hj2
 have fS := hI.1.1
 have fb := b8c fS
 have fB := v6v fS
 obtain ⟨g1, g2, g3, g4, g5, g6⟩ := fB
 refine txR 7 rfl rfl (dv 3 ?_)
 refine x2x (id := 3) b4t b7p rfl (x2x (id := 4) u1u q2q rfl (dv 2 ?_))
 refine z4z rfl (dv 2 ?_)
 refine rlM [15, 16, 17, 18, 19] [_, _, _, _, _] (b9n true j.2 fb) rfl rfl rfl ?_
 refine dv 1 ?_
 refine p9p (ι := Nd × Nat × List (List AV)) (fun s γ1 => []) (fun s γ1 => [(15, ((γ1 15), .row 44 5 (s.2.2))), (16, ((γ1 16), .row 190 3 ((s.1.views).map (a3x true)))), (17, ((γ1 17), .row 3 1 ((s.1.known).map a6f))), (18, ((γ1 18), .row 56 7 ((s.1.kept).map z2z))), (19, ((γ1 19), .row 141 5 ((s.1.outs).map r9r))), (20, ((γ1 20), .dead)), (0, ((γ 0), .box 243 [u9u true bs, pI ((s.2.1 : Nat) : Int)])), (4, ((0 + 1), .box 65 [pI s.1.id, .pv (.bool s.1.up), pI s.1.inc, pI s.1.g, .ref 15 (γ1 15), .ref 18 (γ1 18), .ref 19 (γ1 19), pI s.1.led, pI s.1.version, .ref 16 (γ1 16), .ref 17 (γ1 17), pI s.1.round, pI s.1.low])), (5, ((γ1 5), .dead)), (6, ((γ1 6), .dead)), (7, ((γ1 7), .dead)), (8, ((γ1 8), .dead)), (9, ((γ1 9), .dead)), (10, ((γ1 10), .dead)), (11, ((γ1 11), .dead)), (12, ((γ1 12), .dead)), (13, ((γ1 13), .dead)), (14, ((γ1 14), .dead))]) (fun s => c3b s.1 ∧ s.2.1 ≤ p0 + 15200 ∧ Le true (.row .ow 44 5 s.2.2) (b8y true s.1.lanes)) (r3r [2, 3, 4, 5] rfl) (a1c [1, 2, 3] rfl) ?_ fun s γ1 hi => ?_
 ·refine dv 2 ?_
  refine rlM [0] [_] (x1x true bs (j.1.p) (24) (by have := hq; omega) hbs) rfl rfl rfl ?_
  refine dc 4 (aI ?_ ?_)<;>intro u<;>try simp at u
  ·refine dv 2 ?_
   refine rlM [0] [_] (x1x true bs (j.1.p + 1) (5) (by have := hq; omega) hbs) rfl rfl rfl ?_
   have h5 := a3e bs (j.1.p + 1) 5 (by omega)
   refine s8s (.int .i64 ((pk bs (j.1.p + 1) 5 : Int) - 1)) rfl rfl rfl (a9n rfl (by omega) (by omega) (by omega)) ?_
   refine dv 2 ?_
   exact ⟨({ j.2 with id := (pk bs (j.1.p + 1) 5 : Int) - 1 }, j.1.p + 1 + 1, j.2.lanes.map a4j), (by exact ⟨hI.2, by show j.1.p + 1 + 1 ≤ p0 + 15200; omega, (a5q _)⟩), [0, 0, 0, 0, 0, _, _, _, _, _, _, _, _, _, _, _, _, _, _, _, _], x6x, x6x, x4x, x4x, rfl⟩
  refine dc 3 (aI ?_ ?_)<;>intro u<;>try simp at u
  ·refine dv 1 ?_
   refine x0x rfl rfl rfl (z6z ..) (x0x rfl rfl rfl (z6z ..) (s8s (.int .i64 10000) rfl rfl rfl rfl ?_))
   refine q5q (id := 5) a0d rfl q9q rfl rfl rfl rfl (.val rfl rfl (.val rfl rfl (.val rfl rfl .nil))) rfl (s2s rfl) (s2s rfl) (s2s rfl) rfl rfl ?_
   refine dv 1 ?_
   refine rlM [0] [_] (x1x true bs (j.1.p + 1) (3) (by have := hq; omega) hbs) rfl rfl rfl ?_
   obtain ⟨z, ez, hz⟩ : ∃ z, pk bs (j.1.p + 1) 3 = z ∧ z < 3 := ⟨_, rfl, a3e _ _ _ (by omega)⟩
   rw [ez]
   obtain ⟨v, hv⟩ : ∃ x, ([0, 9999, 10000] : List Int)[z]? = some x := ⟨_, List.getElem?_eq_getElem hz⟩
   refine z0z (f := fun x : Int => [pI x]) (l := [0, 9999, 10000]) (j := z) rfl rfl a0d rfl q9q rfl rfl hz ?_
   refine a4w (f := fun x : Int => [pI x]) (l := [0, 9999, 10000]) rfl q9q rfl hv rfl ?_
   refine dv 2 ?_
   exact ⟨({ j.2 with inc := v }, j.1.p + 1 + 1, j.2.lanes.map a4j), (by exact ⟨hI.2, by show j.1.p + 1 + 1 ≤ p0 + 15200; omega, (a5q _)⟩), [0, 0, 0, 0, 0, _, _, _, _, _, _, _, _, _, _, _, _, _, _, _, _], x6x, x6x, x4x, x4x, rfl⟩
  refine dc 3 (aI ?_ ?_)<;>intro u<;>try simp at u
  ·refine dv 1 ?_
   refine q5q (id := 6) a0d rfl q9q rfl rfl rfl rfl (.val rfl rfl (.val rfl rfl (.val rfl rfl (.val rfl rfl .nil)))) rfl (s2s rfl) (s2s rfl) (s2s rfl) rfl rfl ?_
   refine dv 1 ?_
   refine rlM [0] [_] (x1x true bs (j.1.p + 1) (4) (by have := hq; omega) hbs) rfl rfl rfl ?_
   obtain ⟨z, ez, hz⟩ : ∃ z, pk bs (j.1.p + 1) 4 = z ∧ z < 4 := ⟨_, rfl, a3e _ _ _ (by omega)⟩
   rw [ez]
   obtain ⟨v, hv⟩ : ∃ x, ([-1, 41, 42, 3] : List Int)[z]? = some x := ⟨_, List.getElem?_eq_getElem hz⟩
   refine z0z (f := fun x : Int => [pI x]) (l := [-1, 41, 42, 3]) (j := z) rfl rfl a0d rfl q9q rfl rfl hz ?_
   refine a4w (f := fun x : Int => [pI x]) (l := [-1, 41, 42, 3]) rfl q9q rfl hv rfl ?_
   refine dv 2 ?_
   exact ⟨({ j.2 with g := v }, j.1.p + 1 + 1, j.2.lanes.map a4j), (by exact ⟨hI.2, by show j.1.p + 1 + 1 ≤ p0 + 15200; omega, (a5q _)⟩), [0, 0, 0, 0, 0, _, _, _, _, _, _, _, _, _, _, _, _, _, _, _, _], x6x, x6x, x4x, x4x, rfl⟩
  refine dc 3 (aI ?_ ?_)<;>intro u<;>try simp at u
  ·refine d3x 3 (b3x v7v 0 3 rfl rfl ?_)
   refine dv 3 ?_
   refine b5i c0m (by rfl) [0] [_] (a8b bs hbs (j.1.p + 1) (by omega)) rfl rfl rfl rfl (by decide) rfl rfl f0k (fun _ => (by (simp only [pI, a2d, a2f, b8w, gl, nx, a6q, Nat.beq]; rfl))) (fun _ => (by (simp only [pI, a2d, a2f, b8w, gl, nx, a6q, Nat.beq]; rfl))) (⟨0, 0, 0, 0, 0, 0, 0⟩, j.1.p + 1) (by show j.1.p + 1 ≤ _; omega) fun e he => ?_
   refine b3y v7v 4 4 rfl rfl ?_
   refine y5y (id := 7) v2v rfl z3z rfl rfl rfl rfl rfl rfl ?_
   refine y6y (zs := (j.2.kept ++ [e.1]).map z2z) rfl rfl v2v rfl z3z rfl rfl rfl rfl (by rfl) (z8z z2z j.2.kept e.1) (by (simp only [a0f, r7r, s3s, s6s, a0v, a3d, T56]; omega)) ?_
   refine dv 2 ?_
   refine c2d (by kernel_rfl) ?_
   exact ⟨({ j.2 with kept := j.2.kept ++ [e.1] }, e.2, j.2.lanes.map a4j), (by exact ⟨hI.2, by show e.2 ≤ p0 + 15200; omega, (a5q _)⟩), [0, 0, 0, 0, 0, _, _, _, _, _, _, _, _, _, _, _, _, _, _, _, _], x6x, x6x, x4x, x4x, rfl⟩
  refine dc 3 (aI ?_ ?_)<;>intro u<;>try simp at u
  ·refine d3x 3 (b3x v7v 0 3 rfl rfl ?_)
   refine dv 3 ?_
   refine b5i c0m (by rfl) [0] [_] (c7n bs hbs (j.1.p + 1) (by omega)) rfl rfl rfl rfl (by decide) rfl rfl f0k (fun _ => (by (simp only [pI, a2d, a2f, b8w, gl, nx, a6q, Nat.beq]; rfl))) (fun _ => (by (simp only [pI, a2d, a2f, b8w, gl, nx, a6q, Nat.beq]; rfl))) (⟨0, 0, 0, 0, 0⟩, j.1.p + 1) (by show j.1.p + 1 ≤ _; omega) fun o ho => ?_
   refine b3y v7v 4 4 rfl rfl ?_
   refine y5y (id := 9) a0l rfl w6w rfl rfl rfl rfl rfl rfl ?_
   refine y6y (zs := (j.2.outs ++ [o.1]).map r9r) rfl rfl a0l rfl w6w rfl rfl rfl rfl (by rfl) (z8z r9r j.2.outs o.1) (by (simp only [a0f, r7r, s3s, s6s, a0v, a3d, T141]; omega)) ?_
   refine dv 2 ?_
   refine c2d (by kernel_rfl) ?_
   exact ⟨({ j.2 with outs := j.2.outs ++ [o.1] }, o.2, j.2.lanes.map a4j), (by exact ⟨hI.2, by show o.2 ≤ p0 + 15200; omega, (a5q _)⟩), [0, 0, 0, 0, 0, _, _, _, _, _, _, _, _, _, _, _, _, _, _, _, _], x6x, x6x, x4x, x4x, rfl⟩
  refine dc 3 (aI ?_ ?_)<;>intro u<;>try simp at u
  ·refine dv 1 ?_
   refine x0x rfl rfl rfl (z6z ..) (x0x rfl rfl rfl (z6z ..) (s8s (.int .i64 10000) rfl rfl rfl rfl ?_))
   refine q5q (id := 11) a0d rfl q9q rfl rfl rfl rfl (.val rfl rfl (.val rfl rfl (.val rfl rfl .nil))) rfl (s2s rfl) (s2s rfl) (s2s rfl) rfl rfl ?_
   refine dv 1 ?_
   refine rlM [0] [_] (x1x true bs (j.1.p + 1) (3) (by have := hq; omega) hbs) rfl rfl rfl ?_
   obtain ⟨z, ez, hz⟩ : ∃ z, pk bs (j.1.p + 1) 3 = z ∧ z < 3 := ⟨_, rfl, a3e _ _ _ (by omega)⟩
   rw [ez]
   obtain ⟨v, hv⟩ : ∃ x, ([-1, 9999, 10000] : List Int)[z]? = some x := ⟨_, List.getElem?_eq_getElem hz⟩
   refine z0z (f := fun x : Int => [pI x]) (l := [-1, 9999, 10000]) (j := z) rfl rfl a0d rfl q9q rfl rfl hz ?_
   refine a4w (f := fun x : Int => [pI x]) (l := [-1, 9999, 10000]) rfl q9q rfl hv rfl ?_
   refine dv 2 ?_
   exact ⟨({ j.2 with version := v }, j.1.p + 1 + 1, j.2.lanes.map a4j), (by exact ⟨hI.2, by show j.1.p + 1 + 1 ≤ p0 + 15200; omega, (a5q _)⟩), [0, 0, 0, 0, 0, _, _, _, _, _, _, _, _, _, _, _, _, _, _, _, _], x6x, x6x, x4x, x4x, rfl⟩
  refine dc 3 (aI ?_ ?_)<;>intro u<;>try simp at u
  ·refine d3x 5 (b3x v7v 0 5 rfl rfl ?_)
   refine dv 3 ?_
   refine rlM [0] [_] (x1x true bs (j.1.p + 1) (3) (by have := hq; omega) hbs) rfl rfl rfl ?_
   refine dv 1 ?_
   refine b5i c0m (by rfl) [0] [_] (b9m bs hbs (j.1.p + 1 + 1) 3 (by omega) (by omega)) rfl rfl rfl rfl (by decide) rfl rfl f0k (fun _ => (by (simp only [pI, a2d, a2f, b8w, gl, nx, a6q, Nat.beq]; rfl))) (fun _ => (by (simp only [pI, a2d, a2f, b8w, gl, nx, a6q, Nat.beq]; rfl))) ([], j.1.p + 1 + 1) ⟨Nat.zero_le _, by show j.1.p + 1 + 1 ≤ _; omega⟩ fun l hl => ?_
   refine b3y v7v 6 3 rfl rfl ?_
   have h3v : j.2.views.length = 3 := fS.2.2.2.2.2.1
   obtain ⟨z, ez, hz⟩ : ∃ z, pk bs (j.1.p + 1) 3 = z ∧ z < 3 := ⟨_, rfl, a3e _ _ _ (by omega)⟩
   rw [ez]
   obtain ⟨v, hv⟩ := gE j.2.views z
   refine z0z (j := z) rfl rfl b1g rfl a0c rfl rfl (z1z hv) ?_
   refine dv 1 ?_
   refine b3c { v with events := l.1 } rfl rfl v2v rfl rfl rfl hv rfl (by decide) (.val rfl rfl .nil) rfl rfl ?_
   refine c2d (by kernel_rfl) ?_
   exact ⟨({ j.2 with views := j.2.views.set z { v with events := l.1 } }, l.2, j.2.lanes.map a4j), (by exact ⟨hI.2, by show l.2 ≤ p0 + 15200; omega, (a5q _)⟩), [0, 0, 0, 0, 0, _, _, _, _, _, _, _, _, _, _, _, _, _, _, _, _], x6x, x6x, x4x, x4x, rfl⟩
  refine dc 3 (aI ?_ ?_)<;>intro u<;>try simp at u
  ·obtain ⟨l0, rest, hl⟩ : ∃ l0 rest, j.2.lanes = l0 :: rest := by have h := e1q fS; match hm : j.2.lanes with | [] => (rw [hm] at h; cases h) | a :: r => exact ⟨a, r, rfl⟩
   have hld := (fb.2.2.2.1 l0 (by rw [hl]; exact List.mem_cons_self ..)).1
   rw [hl]
   refine d8a (A := []) (B := rest.map a4j) (cs := a4j l0) (j := 0) 15 4 20 rfl rfl rfl rfl rfl rfl ?_
   refine d3x 8 (b3x v7v 0 8 rfl rfl ?_)
   refine dv 4 ?_
   refine c0t (A := []) (j := 0) rfl rfl a8q rfl a0u rfl rfl rfl ?_
   refine dv 1 ?_
   refine e2z (A := []) rfl rfl a9i rfl rfl ?_
   refine dv 1 ?_
   refine b5i c0m (by rfl) [0] [_] (a8b bs hbs (j.1.p + 1) (by omega)) rfl rfl rfl rfl (by decide) rfl rfl f0k (fun _ => (by (simp only [pI, a2d, a2f, b8w, gl, nx, a6q, Nat.beq]; rfl))) (fun _ => (by (simp only [pI, a2d, a2f, b8w, gl, nx, a6q, Nat.beq]; rfl))) (⟨0, 0, 0, 0, 0, 0, 0⟩, j.1.p + 1) (by show j.1.p + 1 ≤ _; omega) fun e he => ?_
   refine b3y v7v 9 6 rfl rfl ?_
   refine rlB a5g c3h ?_
   refine y5y (id := 12) a9i rfl a5g rfl rfl rfl rfl rfl rfl ?_
   refine y6y (zs := l0.done.map (a1w true) ++ [d6b e.1]) rfl rfl a9i rfl a5g rfl rfl rfl rfl rfl rfl (by (simp only [a0f, r7r, s3s, s6s, a0v, a3d, T58]; omega)) ?_
   refine c0t (A := []) (j := 0) rfl rfl a8q rfl a0u rfl rfl rfl ?_
   refine dv 1 ?_
   refine a5x rfl rfl a9i rfl rfl rfl (Nat.succ_pos _) (s2s rfl) (.ref rfl (e4y _ _) .nil rfl rfl) rfl ?_
   refine c2d (by kernel_rfl) ?_
   exact ⟨({ j.2 with lanes := ⟨l0.proc, l0.base, l0.done ++ [d6c e.1]⟩ :: rest }, e.2, e1p l0 e.1 :: rest.map a4j), (by exact ⟨e1r hI.2 hl e.1, by show e.2 ≤ p0 + 15200; omega, e4x _ _ _⟩), [0, 0, 0, 0, 0, _, _, _, _, _, _, _, _, _, _, _, _, _, _, _, _], x6x, x6x, x4x, x4x, rfl⟩
  refine dc 3 (aI ?_ ?_)<;>intro u<;>try simp at u
  ·refine dv 1 ?_
   refine x0x rfl rfl rfl (z6z ..) (x0x rfl rfl rfl (z6z ..) (s8s (.int .i64 10000) rfl rfl rfl rfl ?_))
   refine q5q (id := 14) a0d rfl q9q rfl rfl rfl rfl (.val rfl rfl (.val rfl rfl (.val rfl rfl .nil))) rfl (s2s rfl) (s2s rfl) (s2s rfl) rfl rfl ?_
   refine dv 1 ?_
   refine rlM [0] [_] (x1x true bs (j.1.p + 1) (3) (by have := hq; omega) hbs) rfl rfl rfl ?_
   obtain ⟨z, ez, hz⟩ : ∃ z, pk bs (j.1.p + 1) 3 = z ∧ z < 3 := ⟨_, rfl, a3e _ _ _ (by omega)⟩
   rw [ez]
   obtain ⟨v, hv⟩ : ∃ x, ([-1, 9999, 10000] : List Int)[z]? = some x := ⟨_, List.getElem?_eq_getElem hz⟩
   refine z0z (f := fun x : Int => [pI x]) (l := [-1, 9999, 10000]) (j := z) rfl rfl a0d rfl q9q rfl rfl hz ?_
   refine a4w (f := fun x : Int => [pI x]) (l := [-1, 9999, 10000]) rfl q9q rfl hv rfl ?_
   refine dv 2 ?_
   exact ⟨({ j.2 with round := v }, j.1.p + 1 + 1, j.2.lanes.map a4j), (by exact ⟨hI.2, by show j.1.p + 1 + 1 ≤ p0 + 15200; omega, (a5q _)⟩), [0, 0, 0, 0, 0, _, _, _, _, _, _, _, _, _, _, _, _, _, _, _, _], x6x, x6x, x4x, x4x, rfl⟩
  refine dc 3 (aS ?_ ?_)<;>intro u<;>try simp at u
  ·refine dv 1 ?_
   exact ⟨(j.2, j.1.p + 1, j.2.lanes.map a4j), (by exact ⟨hI.2, by show j.1.p + 1 ≤ p0 + 15200; omega, (a5q _)⟩), [0, 0, 0, 0, 0, _, _, _, _, _, _, _, _, _, _, _, _, _, _, _, _], x6x, x6x, x4x, x4x, rfl⟩
  refine dv 6 ?_
  exact ⟨({ j.2 with up := !j.2.up }, j.1.p + 1, j.2.lanes.map a4j), (by exact ⟨hI.2, by show j.1.p + 1 ≤ p0 + 15200; omega, (a5q _)⟩), [0, 0, 0, 0, 0, _, _, _, _, _, _, _, _, _, _, _, _, _, _, _, _], x6x, x6x, x4x, x4x, rfl⟩
 ·try dsimp only [b1n, b1o]
  refine v3v (b := b8y true s.1.lanes) 4 4 rfl rfl rfl (.ref rfl hi.2.2 .nil) rfl rfl rfl rfl ?_
  refine v3v (b := c3a true s.1.views) 4 9 rfl rfl rfl (.ref rfl (Le.ow_map _ (fun _ => rfl) (fun _ => rfl)) .nil) rfl rfl rfl rfl ?_
  refine v3v (b := a5k true s.1.known) 4 10 rfl rfl rfl (.ref rfl (Le.ow_map _ (fun _ => rfl) (fun _ => rfl)) .nil) rfl rfl rfl rfl ?_
  refine v3v (b := a0g true s.1.kept) 4 5 rfl rfl rfl (.ref rfl (Le.ow_map _ (fun _ => rfl) (fun _ => rfl)) .nil) rfl rfl rfl rfl ?_
  refine v3v (b := s0s true s.1.outs) 4 6 rfl rfl rfl (.ref rfl (Le.ow_map _ (fun _ => rfl) (fun _ => rfl)) .nil) rfl rfl rfl rfl ?_
  refine dv 6 ?_
  exact ⟨(j.1.w, s.1, s.2.1), ⟨hj1.1, hi.1, hi.2.1⟩, [γ 0], rfl, rfl, x4x⟩
end
section
theorem b3q (bs : List Nat) (hbs : ∀ b ∈ bs, b < 256)  : MethE Tryz.prog 39 0 [u9u true bs] [] (ι := Nd × Int) (fun S' => c3b S'.1) (fun S' => []) (fun S' => .tup [.agg (u0u true S'.1), .pv (.int .i64 S'.2)]) (fun S' => []) := by
 refine mE (ι := Nd × Int) Tryz.f39 (fun S' => [.agg (u0u true S'.1), .pv (.int .i64 S'.2)]) 0 9 fun γ => ?_
 refine dv 1 ?_
 refine x2x (id := 0) u1u q2q rfl (dv 3 ?_)
 refine rlM [4] [_] (c7m true bs) rfl rfl rfl ?_
 refine dv 4 fun K K' => ?_
 refine rlM [4] [_] (x1x true (bs.take 2000) (0) (4) (by omega) (fun b hb => hbs b (List.mem_of_mem_take hb))) rfl rfl rfl ?_
 refine dc 1 (aI ?_ ?_)<;>intro h<;>try simp at h
 ·refine r8r fun B X0 w0 => ?_
  refine txR 1 rfl rfl (dv 1 ?_)
  refine txM [4] [_] (b8q (bs.take 2000) (fun b hb => hbs b (List.mem_of_mem_take hb)) (0 + 1) (by omega)) rfl rfl rfl rfl fun j hj => ?_
  refine txR 7 rfl rfl (dv 3 ?_)
  refine x2x (id := 1) b4t b7p rfl (x2x (id := 2) u1u q2q rfl (dv 2 ?_))
  refine z4z rfl (dv 3 ?_)
  refine rlM [4] [_] (x1x true (bs.take 2000) (j.2.2) (5) (by have := hj.2.2; omega) (fun b hb => hbs b (List.mem_of_mem_take hb))) rfl rfl rfl ?_
  have h5 := a3e (bs.take 2000) j.2.2 5 (by omega)
  refine s8s (.int .i64 ((pk (bs.take 2000) j.2.2 5 : Int) - 1)) rfl rfl rfl (a9n rfl (by omega) (by omega) (by omega)) ?_
  refine dv 3 ?_
  exact ⟨(j.2.1, (pk (bs.take 2000) j.2.2 5 : Int) - 1), hj.2.1, [], rfl, rfl, x4x⟩
 refine dv 1 ?_
 refine r8r fun B X0 w0 => ?_
 refine txR 1 rfl rfl (dv 1 ?_)
 refine txM [5, 6, 7, 8, 4] [_, _, _, _, _] (b4j (bs.take 2000) (fun b hb => hbs b (List.mem_of_mem_take hb)) (0 + 1) 4 (by omega)) rfl rfl rfl rfl fun S hS => ?_
 refine txR 1 rfl rfl (dv 1 ?_)
 refine z4z rfl (dv 4 fun K K' => ?_)
 refine x5x (ι := Sm × Nat) (fun p γ1 => [(8, pI (p.2 : Int))]) (fun p γ1 => [(6, ((γ1 6), .row 65 13 ((p.1.w.nodes).map (u0u true)))), (7, ((γ1 7), .row 79 11 ((p.1.w.radio).map (u7u true)))), (8, ((γ1 8), .row 263 5 ((p.1.list).map a2z))), (5, ((0 + 1), .box 171 [.ptr 4 (0 + 1) 0, pI p.1.w.time, a4o true p.1.w.apps, .ref 6 (γ1 6), .ref 7 (γ1 7), pI p.1.w.hub.round, v8v true p.1.w.hub.ones, v8v true p.1.w.hub.twos, v8v true p.1.w.hub.outs, s0s true p.1.w.sink, .ref 8 (γ1 8)])), (4, ((0 + 1), .box 243 [u9u true (bs.take 2000), pI ((p.1.p : Nat) : Int)]))]) (fun p => smOk p.1 (4663 + 14 * p.2) ∧ p.2 ≤ 3) (fun p => 3 - p.2) (r3r [2, 4, 7] rfl) (a1c [0, 1, 2, 3] rfl) (S, 0) ⟨hS.mono (by omega), Nat.zero_le _⟩ [0, 0, 0, 0, 0, 0, _, _, _] x6x x4x rfl fun p γ1 hi => ?_
 obtain ⟨S1, i⟩ := p
 obtain ⟨h1, h2⟩ := hi
 dsimp only at h1 h2 ⊢
 refine dc 4 (fun K K' => aI ?_ ?_)<;>intro h<;>try simp at h
 ·refine dv 3 fun K K' => ?_
  refine a6j fun B X0 w0 => ?_
  refine txR 1 rfl rfl (dv 1 ?_)
  refine txM [5, 6, 7, 8, 4] [_, _, _, _, _] (a2x (bs.take 2000) (fun b hb => hbs b (List.mem_of_mem_take hb)) S1 (4663 + 14 * i) h1 12 (by omega) (by omega)) rfl rfl rfl rfl fun T hT => ?_
  refine z4z rfl (dv 2 ?_)
  refine x7x (b := 1) rfl rfl (by omega) (dv 1 ?_)
  exact ⟨(T, i + 1), ⟨⟨hT.mono (by show _ ≤ 4663 + 14 * (i + 1); omega), by show i + 1 ≤ 3; omega⟩, (by show 3 - (i + 1) < 3 - i; omega)⟩, [0, 0, 0, 0, 0, 0, _, _, _], x6x, x6x, x4x, x4x, rfl⟩
 refine dv 3 ?_
 refine rlM [4] [_] (x1x true (bs.take 2000) (S1.p) (3) (by have := h1.2.2; omega) (fun b hb => hbs b (List.mem_of_mem_take hb))) rfl rfl rfl ?_
 refine dv 1 ?_
 obtain ⟨a, ea, ha⟩ : ∃ a, pk (bs.take 2000) S1.p 3 = a ∧ a < 3 := ⟨_, rfl, a3e _ _ _ (by omega)⟩
 rw [ea]
 have hT := h1
 refine dv 4 fun K K' => ?_
 refine x5x (ι := Nat × Nat × Nat) (fun q γ2 => [(9, pI (q.2.1 : Int)), (10, pI (q.1 : Int))]) (fun q γ2 => [(3, ((γ2 3), .dead)), (4, ((0 + 1), .box 243 [u9u true (bs.take 2000), pI ((q.2.2 : Nat) : Int)]))]) (fun q => q.1 ≤ 3 ∧ q.2.1 < 3 ∧ q.2.2 ≤ 4706 + 3 * q.1) (fun q => 3 - q.1) (r3r [2, 4, 7] rfl) (a1c [0, 1, 2, 5, 6, 7, 8] rfl) (0, a, S1.p + 1) ⟨Nat.zero_le _, by show a < 3; omega, by show S1.p + 1 ≤ 4706 + 3 * 0; have := h1.2.2; omega⟩ [0, 0, 0, _] x6x x4x rfl fun q γ2 hi => ?_
 obtain ⟨k, a, p⟩ := q
 obtain ⟨q1, q2, q3⟩ := hi
 dsimp only at q1 q2 q3 ⊢
 refine dc 4 (fun K K' => aS ?_ ?_)<;>intro h<;>try simp at h
 ·refine dv 8 ?_
  obtain ⟨n, hnd, hnI⟩ := a9b hT.1 (i := a) (by omega)
  have fS := hnI.1.1
  have fB := v6v fS
  refine z0z (j := a) rfl rfl a5f rfl u1u rfl rfl (z1z hnd) ?_
  refine r4r rfl u1u rfl (by assumption) rfl rfl ?_
  refine dv 1 ?_
  refine x7x (b := 1) rfl rfl (by omega) (s8s (.int .i64 (((a + 1) % 3 : Nat) : Int)) rfl rfl rfl rfl ?_)
  refine dv 3 ?_
  exact ⟨(n, (((a + 1) % 3 : Nat) : Int)), hnI.2, [], rfl, rfl, x4x⟩
 refine dv 10 fun K K' => ?_
 obtain ⟨n, hnd, hnI⟩ := a9b hT.1 (i := a) (by omega)
 have fS := hnI.1.1
 have fB := v6v fS
 refine z0z (j := a) rfl rfl a5f rfl u1u rfl rfl (z1z hnd) ?_
 refine r4r rfl u1u rfl (by assumption) rfl rfl ?_
 refine x2x (id := 3) u1u q2q rfl (dv 5 fun K K' => ?_)
 refine x5x (ι := Nat × Nat) (fun u γ3 => [(12, pI (u.1 : Int))]) (fun u γ3 => [(4, ((0 + 1), .box 243 [u9u true (bs.take 2000), pI ((u.2 : Nat) : Int)]))]) (fun u => u.1 ≤ 3 ∧ u.2 ≤ p + u.1) (fun u => 3 - u.1) (r3r [2, 4, 7, 9, 10, 11] rfl) (a1c [0, 1, 2, 3, 5, 6, 7, 8] rfl) (0, p) ⟨Nat.zero_le _, Nat.le_refl _⟩ [] x6x x4x rfl fun u γ3 hi => ?_
 obtain ⟨t, p2⟩ := u
 obtain ⟨u1, u2⟩ := hi
 dsimp only at u1 u2 ⊢
 refine dc 4 (fun K K' => aS ?_ ?_)<;>intro h<;>try simp at h
 ·refine dv 3 ?_
  refine x7x (b := 1) rfl rfl (by omega) (s8s (.int .i64 (((a + 1) % 3 : Nat) : Int)) rfl rfl rfl rfl ?_)
  refine dv 3 ?_
  refine x7x (b := 1) rfl rfl (by omega) (dv 1 ?_)
  exact ⟨(k + 1, (a + 1) % 3, p2), ⟨⟨by show k + 1 ≤ 3; omega, by show (a + 1) % 3 < 3; omega, by show p2 ≤ 4706 + 3 * (k + 1); omega⟩, (by show 3 - (k + 1) < 3 - k; omega)⟩, [0, 0, 0, _], x6x, x6x, x4x, x4x, rfl⟩
 refine dv 1 ?_
 refine p9p (ι := Nat) (fun p3 γ4 => []) (fun p3 γ4 => [(4, ((0 + 1), .box 243 [u9u true (bs.take 2000), pI ((p3 : Nat) : Int)]))]) (fun p3 => p3 ≤ p2 + 1) (r3r [2, 4, 7, 9, 10, 11, 12] rfl) (a1c [0, 1, 2, 3, 5, 6, 7, 8] rfl) ?_ fun p3 γ4 hi => ?_
 ·refine dc 6 (aS ?_ ?_)<;>intro h<;>try simp at h
  ·refine dv 12 ?_
   exact ⟨p2, (by omega), [], x6x, x6x, x4x, x4x, rfl⟩
  refine dv 2 ?_
  refine x0x rfl rfl rfl (a3j true n t (by omega) fS.2.2.2.2.2.2.1 (by have := a5j fS; omega) (by omega)) ?_
  refine dc 4 (aS ?_ ?_)<;>intro h<;>try simp at h
  ·refine dv 5 ?_
   exact ⟨p2, (by omega), [], x6x, x6x, x4x, x4x, rfl⟩
  refine dv 1 ?_
  refine rlM [4] [_] (x1x true (bs.take 2000) (p2) (3) (by omega) (fun b hb => hbs b (List.mem_of_mem_take hb))) rfl rfl rfl ?_
  refine dc 2 (aS ?_ ?_)<;>intro h<;>try simp at h
  ·refine dv 1 ?_
   exact ⟨p2 + 1, (by omega), [], x6x, x6x, x4x, x4x, rfl⟩
  refine dv 6 ?_
  exact ⟨(n, (t : Int)), hnI.2, [], rfl, rfl, x4x⟩
 ·try dsimp only [b1n, b1o]
  refine dv 2 ?_
  refine x7x (b := 1) rfl rfl (by omega) (dv 1 ?_)
  exact ⟨(t + 1, p3), ⟨⟨by show t + 1 ≤ 3; omega, by show p3 ≤ p + (t + 1); omega⟩, (by show 3 - (t + 1) < 3 - t; omega)⟩, [], x6x, x6x, x4x, x4x, rfl⟩
end
section
theorem b7j (bs : List Nat) (hbs : ∀ b ∈ bs, b < 256)  : a0p Tryz.prog 6 [u9u true bs] (.pv (.bool (true))) := by
 refine pX Tryz.f6 [.pv (.bool (true))] 2 ?_
 refine dc 7 (fun K K' => aI ?_ ?_)<;>intro h<;>try simp at h
 ·refine dv 3 ?_
  refine x3x rfl ?_ rfl
  rfl
 refine dv 1 ?_
 refine r8r fun B X0 w0 => ?_
 refine txR 1 rfl rfl (dv 1 ?_)
 refine txM [] [] (b3q bs hbs) rfl rfl rfl rfl fun j hj => ?_
 obtain ⟨n, t⟩ := j
 dsimp only at hj ⊢
 refine txR 6 rfl rfl (dv 3 ?_)
 refine x2x (id := 0) u1u q2q rfl (dv 2 ?_)
 refine z4z rfl (dv 3 ?_)
 refine x0x rfl rfl rfl (b9j true n t) (dv 4 ?_)
 refine rlM [1] [_] (b7e true n t) rfl rfl rfl ?_
 refine dv 2 fun K K' => ?_
 refine r1r (f := z2z) 6 rfl rfl (fun _ => rfl) ?_
 refine dv 3 ?_
 refine x0x rfl rfl rfl (c2x true true (a6d n t) (a6d n t)) ?_
 refine dv 1 ?_
 refine a0z rfl (fun hc4 => ?_) (fun hc4 => ?_)
 ·(simp at hc4; done)
 try simp at hc4
 refine dv 5 fun K K' => ?_
 refine w1w 6 rfl fun hlen => ?_
 refine x5x (ι := Nat) (fun i γ1 => [(7, pI (i : Int))]) (fun i γ1 => []) (fun i => i ≤ (a6d n t).length) (fun i => (a6d n t).length - i) (r3r [3, 4, 6] rfl) (a1c [0, 1] rfl) 0 (by omega) [] x6x x4x rfl fun i γ1 hi => ?_
 refine dc 6 (fun K K' => aS ?_ ?_)<;>intro h<;>try simp at h
 ·refine dc 6 (aS ?_ ?_)<;>intro hg16<;>try simp at hg16
  ·refine dv 10 ?_
   refine x3x rfl ?_ rfl
   rfl
  have hT : a7w n t := e1x (by simpa using hg16)
  have hkb := d8z hT.1
  refine dv 1 ?_
  refine x0x rfl rfl rfl (b7d true n) (dv 1 ?_)
  refine f0d rfl rfl (fun hg17 => ?_) (fun hg17 => ?_)
  rotate_left
  ·(simp [← hkb] at hg17; done)
  try simp at hg17
  refine dv 8 ?_
  refine x3x rfl ?_ rfl
  exact congrArg (fun b : Bool => [AV.pv (.bool b)]) (by simpa using hT.2.2)
 obtain ⟨e, he⟩ := gE (a6d n t) i
 obtain ⟨k, v, hk, hv, e1, e2⟩ := e1u he
 refine dv 9 fun K K' => ?_
 refine x0x rfl rfl rfl (b0t e.to) (dc 3 (aS ?_ ?_))<;>intro h<;>try simp at h
 ·refine dv 28 ?_
  refine a0z rfl (fun hc15 => ?_) (fun hc15 => ?_)
  ·repeat clear K' K
   (simp_all; done)
  (simp at hc15; done)
 refine dv 8 ?_
 refine b0h rfl (congrArg (fun z : Int => some (AV.pv (.int .i64 z))) hk) a0d rfl q9q rfl hv ?_
 refine dc 4 (aS ?_ ?_)<;>intro h<;>try simp at h
 ·refine dv 15 ?_
  refine a0z rfl (fun hc14 => ?_) (fun hc14 => ?_)
  ·repeat clear K' K
   (simp_all; omega)
  (simp at hc14; done)
 refine dc 3 (aS ?_ ?_)<;>intro h<;>try simp at h
 ·refine dv 12 ?_
  refine a0z rfl (fun hc13 => ?_) (fun hc13 => ?_)
  ·(simp at hc13; done)
  try simp at hc13
  refine dv 3 ?_
  refine x7x (b := 1) rfl rfl (by omega) (dv 1 ?_)
  exact ⟨i + 1, ⟨by omega, by omega⟩, [], x6x, x6x, x4x, x4x, rfl⟩
 obtain ⟨a, ha⟩ := gE (a6d n t) (i - 1)
 have hlt := e1w (by omega) ha he
 refine dv 2 ?_
 refine s8s (.int .i64 ((i - 1 : Nat) : Int)) rfl rfl rfl (a9n rfl (by omega) (by omega) (by omega)) ?_
 refine dv 6 ?_
 refine x0x rfl rfl rfl (a6l a e) (dv 3 ?_)
 refine a0z rfl (fun hc12 => ?_) (fun hc12 => ?_)
 ·repeat clear K' K
  (simp_all; done)
 try simp at hc12
 refine dv 3 ?_
 refine x7x (b := 1) rfl rfl (by omega) (dv 1 ?_)
 exact ⟨i + 1, ⟨by omega, by omega⟩, [], x6x, x6x, x4x, x4x, rfl⟩
end
section
def X0 (w : World) : Cx := ⟨fun b => b < w.heap.size, fun b => b < w.heap.size, fun _ _ => none, fun _ _ => none⟩
theorem e5i (w : World) : SRh (X0 w) ⟨w, fun _ => False, fun b => b < w.heap.size, fun b => b < w.heap.size⟩ (fun _ => none) w := by
 refine ⟨fun _ => [], ?_, ?_, ?_, ?_, ?_, ?_, ?_, ?_, ?_, rfl, rfl, rfl, Nat.le_refl _, fun _ _ _ => rfl⟩
 ·intro id g e h; cases h
 ·intro id ge b h; cases h
 ·intro id id' ge ge' b h; cases h
 ·intro b hb; exact ⟨hb, fun id ge h => by cases h⟩
 ·intro b hb; exact hb
 ·intro b hb; exact .inl hb
 ·intro b hb; exact .inl hb
 ·intro id ge b h; cases h
 ·intro id g h; exact ⟨rfl, rfl⟩
theorem d2e (hC : a0p P f avs (.pv u)) (w : World) (vs : List Value) (hl : vs.length = avs.length) (hr : ∀ (i : Nat) (a : AV) (v : Value), avs[i]? = some a → vs[i]? = some v → VR (X0 w) w a v) :
  Calls P f vs.toArray w fun e w' => e = .returned u ∧ Below w.heap.size w w' :=
 (hC.2 (X0 w) _ (fun _ => none) w vs (e5i w) hl hr (fun id ge h => by cases h)).mono fun e w' ⟨v, he, X', hX, hS, hk, hv⟩ => by
  rw [hv.pv_inv] at he
  obtain ⟨F, hS⟩ := hS
  exact ⟨he, hS.os, hS.tape, hS.output, hS.size, fun k hk => hS.keep k hk (fun h => h)⟩
def f0c (k : IntKind) (w : World) (a : Option Addr) (len cap : Nat) (zs : List Int) : Prop :=
 (a = none ∧ len = 0 ∧ cap = 0 ∧ zs = []) ∨
 ∃ x, a = some x ∧ len ≤ cap ∧ cap ≤ maxLen ∧ zs.length = cap ∧ (∀ i, i < zs.length → w.cell? (x.add i) = some (.int k (zs.getD i 0))) ∧ ∀ n ∈ zs, (Lit.int k n).wf = true
theorem e2b (h : f0c .u8 w a len cap zs) : ∃ bs : List Nat, (∀ b ∈ bs, b < 256) ∧ VR (X0 w) w (u9u true bs) (.slice a len cap) := by
 rcases h with ⟨rfl, rfl, rfl, rfl⟩ | ⟨x, rfl, hl, hm, hz, hc, hw⟩
 ·exact ⟨[], (fun b hb => by cases hb), .cl (.row none 0 (fun _ _ => undef) (Nat.le_refl _) (Nat.zero_le _) (fun j x hx => by simp at hx) (fun j i x y hx => by simp at hx) (fun h => by simp at h) (fun ad j i x y hA => by cases hA) (fun j i x y hx => by simp at hx))⟩
 ·have hb : ∀ n ∈ zs, 0 ≤ n ∧ n < 256 := fun n hn => by
   have := hw n hn
   simp only [Lit.wf, Bool.and_eq_true, decide_eq_true_eq, IntKind.min, IntKind.max] at this
   simp [IntKind.signed, IntKind.bits] at this
   omega
  refine ⟨(zs.take len).map Int.toNat, fun b hb' => ?_, ?_⟩
  ·obtain ⟨n, hn, rfl⟩ := List.mem_map.1 hb'
   have := hb n (List.mem_of_mem_take hn)
   omega
  ·have hlen : ((zs.take len).map Int.toNat).length = len := by rw [List.length_map, List.length_take]; omega
   have hg : ∀ (j : Nat) (y : List AV), (((zs.take len).map Int.toNat).map f2z)[j]? = some y → j < len ∧ ∃ n, zs[j]? = some n ∧ y = [.pv (.int .u8 n)] := fun j y hy => by
    rw [List.getElem?_map, List.getElem?_map, List.getElem?_take] at hy
    split at hy
    ·rename_i hj
     cases hn : zs[j]? with
     | none => rw [hn] at hy; cases hy
     | some n =>
      rw [hn] at hy
      refine ⟨hj, n, rfl, ?_⟩
      have h0 := hb n (List.mem_of_getElem? hn)
      simp only [Option.map_some, Option.some.injEq] at hy
      rw [← hy, f2z, Int.toNat_of_nonneg h0.1]
    ·cases hy
   have key := CR.row (ok1 := (X0 w).ok1) (ok2 := (X0 w).ok2) (w := w) (m := true) (ty := 5) (sz := 1) (xs := ((zs.take len).map Int.toNat).map f2z) (some x) cap (fun j _ => .int .u8 (zs.getD j 0))
    (by rw [List.length_map, hlen]; exact hl) hm (fun j y hy => by obtain ⟨_, n, _, rfl⟩ := hg j y hy; rfl)
    (fun j i y z hy hz' => by
     obtain ⟨_, n, _, rfl⟩ := hg j y hy
     cases i with
     | zero => simp at hz'; subst hz'; rfl
     | succ i => simp at hz')
    (fun hp => ⟨x, rfl, by
     rw [List.length_map, hlen] at hp
     have := hc 0 (by omega)
     have h2 := World.block_lt_of_cell? w _ this
     show x.block < w.heap.size
     simpa [Addr.add] using h2⟩)
    (fun ad j i y z hA hy hz' => by
     cases hA
     obtain ⟨hj, n, hn, rfl⟩ := hg j y hy
     cases i with
     | zero =>
      have := hc j (by omega)
      simpa using this
     | succ i => simp at hz')
    (fun j i y z hy hz' => by
     obtain ⟨hj, n, hn, rfl⟩ := hg j y hy
     cases i with
     | zero =>
      simp at hz'; subst hz'
      rw [List.getD_eq_getElem?_getD, hn]
      exact .pv _
     | succ i => simp at hz')
   rw [List.length_map, hlen] at key
   exact .cl key
end
end Go.Proofs.YtlgknoapdbpojaaGreat.Am
